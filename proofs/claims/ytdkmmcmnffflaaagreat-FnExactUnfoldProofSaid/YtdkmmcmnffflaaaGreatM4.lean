/- Texts of the proof, part M4. -/
import Derived.Lib.ReflectliteSwap
import Derived.Sort.AssemblyPlain
import Derived.Test.YtdkmmcmnffflaaaGreatM3
namespace Go.Vx
open Go.Proofs Classical
open Go.Sort
section
variable {μ h0 : Mem} {r : Nat} {ty : TypeId} {rest : List Value} {d : Array Int}
set_option maxHeartbeats 8000000 in
theorem partialInsertionSort_spec {n a b : Nat} {cap : Nat} (hd : d.size = n) (ha : a < b) (hb : b ≤ n) (hn : n ≤ 1000000000000) :
  SpecH Tryz.prog 279 [.slice (some ⟨r, 0, none⟩) n cap, .int .i64 a, .int .i64 b] μ (RowI h0 r ty rest d) fun v μ' h' => v = .bool (partialInsertionSort ltInt d a b).2 ∧ μ' = μ ∧ h' = RowI h0 r ty rest (partialInsertionSort ltInt d a b).1 := by
 refine SpecH.mk [] Tryz.func279 (by kernel_rfl) ?_
 rw [partialInsertionSort]
 generalize hR : partialIns ltInt a b 5 (a + 1) d = R
 refine nEq (x := ((a + 1 : Nat) : Int)) (by rw [wrap64 (by omega) (by omega)]; omega) ?_
 refine lIn (fun p : Nat × Nat × Array Int => p.1 ≤ 5 ∧ a < p.2.1 ∧ p.2.1 ≤ b ∧ p.2.2.size = n ∧ partialIns ltInt a b p.1 p.2.1 p.2.2 = R)
  (fun (t, i, d) => ⟨[(0, .val (.slice (some ⟨r, 0, none⟩) n cap)), (1, .val (.int .i64 a)), (2, .val (.int .i64 b)), (7, .val (.int .i64 i)), (8, .val (.int .i64 (5 - (t : Int))))], [], 0, μ, RowI h0 r ty rest d⟩) (fun p => p.1)
  (5, a + 1, d) ⟨by dsimp only; omega, by dsimp only; omega, by dsimp only; omega, hd, hR⟩ (fun (_, _, _) => ⟨rfl, rfl⟩) ⟨⟨rfl, rfl, rfl, rfl, rfl, trivial⟩, trivial, rfl, rfl⟩ ?_
 clear hR
 rintro ⟨t, i, d1⟩ ⟨ht, hai, hib, hs, hR⟩
 dsimp only at ht hai hib hs hR
 refine ifd (fun h5 => ?_) (fun h5 => ?_)
 rotate_left
 ·obtain rfl : t = 0 := by omega
  rw [partialIns] at hR
  subst hR
  exact rPl ⟨rfl, rfl, rfl⟩
 obtain ⟨t, rfl⟩ : ∃ k, t = k + 1 := ⟨t - 1, by omega⟩
 rw [partialIns_succ] at hR
 generalize hS : scanSorted ltInt d1 b i = S at *
 refine lIn (fun i' : Nat => i ≤ i' ∧ i' ≤ b ∧ scanSorted ltInt d1 b i' = S) (fun i' => ⟨[(0, .val (.slice (some ⟨r, 0, none⟩) n cap)), (1, .val (.int .i64 a)), (2, .val (.int .i64 b)), (7, .val (.int .i64 i')), (8, .val (.int .i64 (5 - ((t + 1 : Nat) : Int))))], [], 0, μ, RowI h0 r ty rest d1⟩) (fun i' => b - i')
  i ⟨by omega, by omega, hS⟩ (fun _ => ⟨rfl, rfl⟩) ⟨⟨rfl, rfl, rfl, rfl, rfl, trivial⟩, trivial, rfl, rfl⟩ ?_
 clear hS
 rintro i' ⟨h1, h2, hS⟩
 rw [scanSorted] at hS
 refine ifd (fun hlt => ?_) (fun hlt => ?_)
 rotate_left
 ·rw [if_neg (by simp; omega)] at hS
  obtain rfl := hS
  rw [if_pos (by omega)] at hR
  subst hR
  refine ifd (fun _ => ?_) (fun h => absurd (by omega) h)
  exact rPl ⟨rfl, rfl, rfl⟩
 refine idxI (i') (by omega) (by omega) ?_
 refine rdI (by omega) ?_
 refine nEq (x := ((i' - 1 : Nat) : Int)) (by rw [wrap64 (by omega) (by omega)]; omega) ?_
 refine idxI (i' - 1) (by omega) (by omega) ?_
 refine rdI (by omega) ?_
 refine cGv (Less_spec _ _) ?_
 refine iIn (fun hl => ?_) (fun hl => ?_)
 ·rw [if_pos (by simp only [Bool.and_eq_true, decide_eq_true_eq]; exact ⟨by omega, hl⟩)] at hS
  refine nEq (x := ((i' + 1 : Nat) : Int)) (by rw [wrap64 (by omega) (by omega)]; omega) ?_
  exact ⟨i' + 1, ⟨by omega, by omega, hS⟩, by omega, ⟨⟨rfl, rfl, rfl, rfl, rfl, trivial⟩, trivial, rfl, rfl⟩⟩
 rw [if_neg (by simp only [Bool.and_eq_true, hl]; simp)] at hS
 obtain rfl := hS
 refine ifd (fun h => absurd h (by omega)) (fun _ => ?_)
 rw [if_neg (by omega)] at hR
 refine nEq (x := ((b - a : Nat) : Int)) (by rw [wrap64 (by omega) (by omega)]; omega) ?_
 refine ifd (fun h50 => ?_) (fun h50 => ?_)
 ·rw [if_pos (by omega)] at hR
  subst hR
  exact rPl ⟨rfl, rfl, rfl⟩
 rw [if_neg (by omega)] at hR
 refine nEq (x := ((i' - 1 : Nat) : Int)) (by rw [wrap64 (by omega) (by omega)]; omega) ?_
 refine nEq (x := ((i' - 1 : Nat) : Int)) (by rw [wrap64 (by omega) (by omega)]; omega) ?_
 refine idxI (i' - 1) (by omega) (by omega) ?_
 refine rdI (by omega) ?_
 refine idxI (i') (by omega) (by omega) ?_
 refine rdI (by omega) ?_
 refine idxI (i') (by omega) (by omega) ?_
 refine wrI (by omega) ?_
 refine idxI (i' - 1) (by omega) (by omega) ?_
 refine wrI (by simp; omega) ?_
 have hsw : swp d1 i' (i' - 1) = (d1.setIfInBounds i' d1[i' - 1]!).setIfInBounds (i' - 1) d1[i']! := rfl
 have hs2 : (swp d1 i' (i' - 1)).size = n := by rw [Go.Sort.swp_size]; exact hs
 rw [hsw] at hR hs2
 generalize (d1.setIfInBounds i' d1[i' - 1]!).setIfInBounds (i' - 1) d1[i']! = d2 at *
 clear hsw
 refine nEq (x := ((i' - a : Nat) : Int)) (by rw [wrap64 (by omega) (by omega)]; omega) ?_
 unfold fixDown at hR
 refine ifd (fun hd2 => ?_) (fun hd2 => ?_)
 ·rw [if_pos (by omega)] at hR
  refine nEq (x := ((i' - 1 : Nat) : Int)) (by rw [wrap64 (by omega) (by omega)]; omega) ?_
  generalize hD : shiftDown ltInt (i' - 1) d2 = D2 at *
  refine lIn (fun p : Nat × Array Int => p.1 ≤ i' - 1 ∧ p.2.size = n ∧ shiftDown ltInt p.1 p.2 = D2) (fun (j, d) => ⟨[(0, .val (.slice (some ⟨r, 0, none⟩) n cap)), (1, .val (.int .i64 a)), (2, .val (.int .i64 b)), (7, .val (.int .i64 i')), (8, .val (.int .i64 (5 - ((t + 1 : Nat) : Int)))), (9, .val (.int .i64 j))], [], 0, μ, RowI h0 r ty rest d⟩) (fun p => p.1)
   (i' - 1, d2) ⟨by dsimp only; omega, hs2, hD⟩ (fun (_, _) => ⟨rfl, rfl⟩) ⟨⟨rfl, rfl, rfl, rfl, rfl, rfl, trivial⟩, trivial, rfl, rfl⟩ ?_
  clear hD
  rintro ⟨j, d3⟩ ⟨hj, hs3, hD⟩
  dsimp only at hj hs3 hD
  refine ifd (fun hj1 => ?_) (fun hj1 => ?_)
  ·obtain ⟨k, rfl⟩ : ∃ k, j = k + 1 := ⟨j - 1, by omega⟩
   rw [shiftDown] at hD
   refine idxI (k + 1) (by omega) (by omega) ?_
   refine rdI (by omega) ?_
   refine nEq (x := ((k : Nat) : Int)) (by rw [wrap64 (by omega) (by omega)]; omega) ?_
   refine idxI (k) (by omega) (by omega) ?_
   refine rdI (by omega) ?_
   refine cGv (Less_spec _ _) ?_
   refine iIn (fun hl2 => ?_) (fun hl2 => ?_)
   ·rw [if_pos hl2] at hD
    obtain rfl := hD
    refine nEq (x := ((b - i' : Nat) : Int)) (by rw [wrap64 (by omega) (by omega)]; omega) ?_
    unfold fixUp at hR
    refine ifd (fun hu2 => ?_) (fun hu2 => ?_)
    ·rw [if_pos (by omega)] at hR
     refine nEq (x := ((i' + 1 : Nat) : Int)) (by rw [wrap64 (by omega) (by omega)]; omega) ?_
     generalize hE : shiftUp ltInt b (i' + 1) d3 = D4 at *
     refine lIn (fun p : Nat × Array Int => i' + 1 ≤ p.1 ∧ p.1 ≤ b + 1 ∧ p.2.size = n ∧ shiftUp ltInt b p.1 p.2 = D4) (fun (j, d) => ⟨[(0, .val (.slice (some ⟨r, 0, none⟩) n cap)), (1, .val (.int .i64 a)), (2, .val (.int .i64 b)), (7, .val (.int .i64 i')), (8, .val (.int .i64 (5 - ((t + 1 : Nat) : Int)))), (10, .val (.int .i64 j))], [], 0, μ, RowI h0 r ty rest d⟩) (fun p => b - p.1)
      (i' + 1, d3) ⟨by dsimp only; omega, by dsimp only; omega, hs3, hE⟩ (fun (_, _) => ⟨rfl, rfl⟩) ⟨⟨rfl, rfl, rfl, rfl, rfl, rfl, trivial⟩, trivial, rfl, rfl⟩ ?_
     clear hE
     rintro ⟨j2, d5⟩ ⟨hj2, hjb2, hs5, hE⟩
     dsimp only at hj2 hjb2 hs5 hE
     rw [shiftUp] at hE
     refine ifd (fun hj1 => ?_) (fun hj1 => ?_)
     ·rw [if_pos (by omega)] at hE
      refine idxI (j2) (by omega) (by omega) ?_
      refine rdI (by omega) ?_
      refine nEq (x := ((j2 - 1 : Nat) : Int)) (by rw [wrap64 (by omega) (by omega)]; omega) ?_
      refine idxI (j2 - 1) (by omega) (by omega) ?_
      refine rdI (by omega) ?_
      refine cGv (Less_spec _ _) ?_
      refine iIn (fun hl3 => ?_) (fun hl3 => ?_)
      ·rw [if_pos hl3] at hE
       obtain rfl := hE
       refine nEq (x := 5 - (t : Int)) (by rw [wrap64 (by omega) (by omega)]; omega) ?_
       exact ⟨(t, i', d5), ⟨by dsimp only; omega, by dsimp only; omega, by dsimp only; omega, hs5, hR⟩, by dsimp only; omega, ⟨⟨rfl, rfl, rfl, rfl, rfl, trivial⟩, trivial, rfl, rfl⟩⟩
      ·rw [if_neg (by simp only [hl3]; simp)] at hE
       refine nEq (x := ((j2 - 1 : Nat) : Int)) (by rw [wrap64 (by omega) (by omega)]; omega) ?_
       refine nEq (x := ((j2 - 1 : Nat) : Int)) (by rw [wrap64 (by omega) (by omega)]; omega) ?_
       refine idxI (j2 - 1) (by omega) (by omega) ?_
       refine rdI (by omega) ?_
       refine idxI (j2) (by omega) (by omega) ?_
       refine rdI (by omega) ?_
       refine idxI (j2) (by omega) (by omega) ?_
       refine wrI (by omega) ?_
       refine idxI (j2 - 1) (by omega) (by omega) ?_
       refine wrI (by simp; omega) ?_
       refine nEq (x := ((j2 + 1 : Nat) : Int)) (by rw [wrap64 (by omega) (by omega)]; omega) ?_
       exact ⟨(j2 + 1, swp d5 j2 (j2 - 1)), ⟨by dsimp only; omega, by dsimp only; omega, by dsimp only; rw [Go.Sort.swp_size]; exact hs5, hE⟩, by dsimp only; omega, ⟨⟨rfl, rfl, rfl, rfl, rfl, rfl, trivial⟩, trivial, rfl, rfl⟩⟩
     ·rw [if_neg (by omega)] at hE
      obtain rfl := hE
      refine nEq (x := 5 - (t : Int)) (by rw [wrap64 (by omega) (by omega)]; omega) ?_
      exact ⟨(t, i', d5), ⟨by dsimp only; omega, by dsimp only; omega, by dsimp only; omega, hs5, hR⟩, by dsimp only; omega, ⟨⟨rfl, rfl, rfl, rfl, rfl, trivial⟩, trivial, rfl, rfl⟩⟩
    ·rw [if_neg (by omega)] at hR
     refine nEq (x := 5 - (t : Int)) (by rw [wrap64 (by omega) (by omega)]; omega) ?_
     exact ⟨(t, i', d3), ⟨by dsimp only; omega, by dsimp only; omega, by dsimp only; omega, hs3, hR⟩, by dsimp only; omega, ⟨⟨rfl, rfl, rfl, rfl, rfl, trivial⟩, trivial, rfl, rfl⟩⟩
   ·rw [if_neg (by simp only [hl2]; simp)] at hD
    refine nEq (x := ((k : Nat) : Int)) (by rw [wrap64 (by omega) (by omega)]; omega) ?_
    refine nEq (x := ((k : Nat) : Int)) (by rw [wrap64 (by omega) (by omega)]; omega) ?_
    refine idxI (k) (by omega) (by omega) ?_
    refine rdI (by omega) ?_
    refine idxI (k + 1) (by omega) (by omega) ?_
    refine rdI (by omega) ?_
    refine idxI (k + 1) (by omega) (by omega) ?_
    refine wrI (by omega) ?_
    refine idxI (k) (by omega) (by omega) ?_
    refine wrI (by simp; omega) ?_
    refine nEq (x := ((k : Nat) : Int)) (by rw [wrap64 (by omega) (by omega)]; omega) ?_
    exact ⟨(k, swp d3 (k + 1) k), ⟨by dsimp only; omega, by dsimp only; rw [Go.Sort.swp_size]; exact hs3, hD⟩, by dsimp only; omega, ⟨⟨rfl, rfl, rfl, rfl, rfl, rfl, trivial⟩, trivial, rfl, rfl⟩⟩
  ·obtain rfl : j = 0 := by omega
   have hD : d3 = D2 := hD
   obtain rfl := hD
   refine nEq (x := ((b - i' : Nat) : Int)) (by rw [wrap64 (by omega) (by omega)]; omega) ?_
   unfold fixUp at hR
   refine ifd (fun hu2 => ?_) (fun hu2 => ?_)
   ·rw [if_pos (by omega)] at hR
    refine nEq (x := ((i' + 1 : Nat) : Int)) (by rw [wrap64 (by omega) (by omega)]; omega) ?_
    generalize hE : shiftUp ltInt b (i' + 1) d3 = D4 at *
    refine lIn (fun p : Nat × Array Int => i' + 1 ≤ p.1 ∧ p.1 ≤ b + 1 ∧ p.2.size = n ∧ shiftUp ltInt b p.1 p.2 = D4) (fun (j, d) => ⟨[(0, .val (.slice (some ⟨r, 0, none⟩) n cap)), (1, .val (.int .i64 a)), (2, .val (.int .i64 b)), (7, .val (.int .i64 i')), (8, .val (.int .i64 (5 - ((t + 1 : Nat) : Int)))), (10, .val (.int .i64 j))], [], 0, μ, RowI h0 r ty rest d⟩) (fun p => b - p.1)
     (i' + 1, d3) ⟨by dsimp only; omega, by dsimp only; omega, hs3, hE⟩ (fun (_, _) => ⟨rfl, rfl⟩) ⟨⟨rfl, rfl, rfl, rfl, rfl, rfl, trivial⟩, trivial, rfl, rfl⟩ ?_
    clear hE
    rintro ⟨j2, d5⟩ ⟨hj2, hjb2, hs5, hE⟩
    dsimp only at hj2 hjb2 hs5 hE
    rw [shiftUp] at hE
    refine ifd (fun hj1 => ?_) (fun hj1 => ?_)
    ·rw [if_pos (by omega)] at hE
     refine idxI (j2) (by omega) (by omega) ?_
     refine rdI (by omega) ?_
     refine nEq (x := ((j2 - 1 : Nat) : Int)) (by rw [wrap64 (by omega) (by omega)]; omega) ?_
     refine idxI (j2 - 1) (by omega) (by omega) ?_
     refine rdI (by omega) ?_
     refine cGv (Less_spec _ _) ?_
     refine iIn (fun hl3 => ?_) (fun hl3 => ?_)
     ·rw [if_pos hl3] at hE
      obtain rfl := hE
      refine nEq (x := 5 - (t : Int)) (by rw [wrap64 (by omega) (by omega)]; omega) ?_
      exact ⟨(t, i', d5), ⟨by dsimp only; omega, by dsimp only; omega, by dsimp only; omega, hs5, hR⟩, by dsimp only; omega, ⟨⟨rfl, rfl, rfl, rfl, rfl, trivial⟩, trivial, rfl, rfl⟩⟩
     ·rw [if_neg (by simp only [hl3]; simp)] at hE
      refine nEq (x := ((j2 - 1 : Nat) : Int)) (by rw [wrap64 (by omega) (by omega)]; omega) ?_
      refine nEq (x := ((j2 - 1 : Nat) : Int)) (by rw [wrap64 (by omega) (by omega)]; omega) ?_
      refine idxI (j2 - 1) (by omega) (by omega) ?_
      refine rdI (by omega) ?_
      refine idxI (j2) (by omega) (by omega) ?_
      refine rdI (by omega) ?_
      refine idxI (j2) (by omega) (by omega) ?_
      refine wrI (by omega) ?_
      refine idxI (j2 - 1) (by omega) (by omega) ?_
      refine wrI (by simp; omega) ?_
      refine nEq (x := ((j2 + 1 : Nat) : Int)) (by rw [wrap64 (by omega) (by omega)]; omega) ?_
      exact ⟨(j2 + 1, swp d5 j2 (j2 - 1)), ⟨by dsimp only; omega, by dsimp only; omega, by dsimp only; rw [Go.Sort.swp_size]; exact hs5, hE⟩, by dsimp only; omega, ⟨⟨rfl, rfl, rfl, rfl, rfl, rfl, trivial⟩, trivial, rfl, rfl⟩⟩
    ·rw [if_neg (by omega)] at hE
     obtain rfl := hE
     refine nEq (x := 5 - (t : Int)) (by rw [wrap64 (by omega) (by omega)]; omega) ?_
     exact ⟨(t, i', d5), ⟨by dsimp only; omega, by dsimp only; omega, by dsimp only; omega, hs5, hR⟩, by dsimp only; omega, ⟨⟨rfl, rfl, rfl, rfl, rfl, trivial⟩, trivial, rfl, rfl⟩⟩
   ·rw [if_neg (by omega)] at hR
    refine nEq (x := 5 - (t : Int)) (by rw [wrap64 (by omega) (by omega)]; omega) ?_
    exact ⟨(t, i', d3), ⟨by dsimp only; omega, by dsimp only; omega, by dsimp only; omega, hs3, hR⟩, by dsimp only; omega, ⟨⟨rfl, rfl, rfl, rfl, rfl, trivial⟩, trivial, rfl, rfl⟩⟩
 ·rw [if_neg (by omega)] at hR
  refine nEq (x := ((b - i' : Nat) : Int)) (by rw [wrap64 (by omega) (by omega)]; omega) ?_
  unfold fixUp at hR
  refine ifd (fun hu2 => ?_) (fun hu2 => ?_)
  ·rw [if_pos (by omega)] at hR
   refine nEq (x := ((i' + 1 : Nat) : Int)) (by rw [wrap64 (by omega) (by omega)]; omega) ?_
   generalize hE : shiftUp ltInt b (i' + 1) d2 = D4 at *
   refine lIn (fun p : Nat × Array Int => i' + 1 ≤ p.1 ∧ p.1 ≤ b + 1 ∧ p.2.size = n ∧ shiftUp ltInt b p.1 p.2 = D4) (fun (j, d) => ⟨[(0, .val (.slice (some ⟨r, 0, none⟩) n cap)), (1, .val (.int .i64 a)), (2, .val (.int .i64 b)), (7, .val (.int .i64 i')), (8, .val (.int .i64 (5 - ((t + 1 : Nat) : Int)))), (10, .val (.int .i64 j))], [], 0, μ, RowI h0 r ty rest d⟩) (fun p => b - p.1)
    (i' + 1, d2) ⟨by dsimp only; omega, by dsimp only; omega, hs2, hE⟩ (fun (_, _) => ⟨rfl, rfl⟩) ⟨⟨rfl, rfl, rfl, rfl, rfl, rfl, trivial⟩, trivial, rfl, rfl⟩ ?_
   clear hE
   rintro ⟨j2, d5⟩ ⟨hj2, hjb2, hs5, hE⟩
   dsimp only at hj2 hjb2 hs5 hE
   rw [shiftUp] at hE
   refine ifd (fun hj1 => ?_) (fun hj1 => ?_)
   ·rw [if_pos (by omega)] at hE
    refine idxI (j2) (by omega) (by omega) ?_
    refine rdI (by omega) ?_
    refine nEq (x := ((j2 - 1 : Nat) : Int)) (by rw [wrap64 (by omega) (by omega)]; omega) ?_
    refine idxI (j2 - 1) (by omega) (by omega) ?_
    refine rdI (by omega) ?_
    refine cGv (Less_spec _ _) ?_
    refine iIn (fun hl3 => ?_) (fun hl3 => ?_)
    ·rw [if_pos hl3] at hE
     obtain rfl := hE
     refine nEq (x := 5 - (t : Int)) (by rw [wrap64 (by omega) (by omega)]; omega) ?_
     exact ⟨(t, i', d5), ⟨by dsimp only; omega, by dsimp only; omega, by dsimp only; omega, hs5, hR⟩, by dsimp only; omega, ⟨⟨rfl, rfl, rfl, rfl, rfl, trivial⟩, trivial, rfl, rfl⟩⟩
    ·rw [if_neg (by simp only [hl3]; simp)] at hE
     refine nEq (x := ((j2 - 1 : Nat) : Int)) (by rw [wrap64 (by omega) (by omega)]; omega) ?_
     refine nEq (x := ((j2 - 1 : Nat) : Int)) (by rw [wrap64 (by omega) (by omega)]; omega) ?_
     refine idxI (j2 - 1) (by omega) (by omega) ?_
     refine rdI (by omega) ?_
     refine idxI (j2) (by omega) (by omega) ?_
     refine rdI (by omega) ?_
     refine idxI (j2) (by omega) (by omega) ?_
     refine wrI (by omega) ?_
     refine idxI (j2 - 1) (by omega) (by omega) ?_
     refine wrI (by simp; omega) ?_
     refine nEq (x := ((j2 + 1 : Nat) : Int)) (by rw [wrap64 (by omega) (by omega)]; omega) ?_
     exact ⟨(j2 + 1, swp d5 j2 (j2 - 1)), ⟨by dsimp only; omega, by dsimp only; omega, by dsimp only; rw [Go.Sort.swp_size]; exact hs5, hE⟩, by dsimp only; omega, ⟨⟨rfl, rfl, rfl, rfl, rfl, rfl, trivial⟩, trivial, rfl, rfl⟩⟩
   ·rw [if_neg (by omega)] at hE
    obtain rfl := hE
    refine nEq (x := 5 - (t : Int)) (by rw [wrap64 (by omega) (by omega)]; omega) ?_
    exact ⟨(t, i', d5), ⟨by dsimp only; omega, by dsimp only; omega, by dsimp only; omega, hs5, hR⟩, by dsimp only; omega, ⟨⟨rfl, rfl, rfl, rfl, rfl, trivial⟩, trivial, rfl, rfl⟩⟩
  ·rw [if_neg (by omega)] at hR
   refine nEq (x := 5 - (t : Int)) (by rw [wrap64 (by omega) (by omega)]; omega) ?_
   exact ⟨(t, i', d2), ⟨by dsimp only; omega, by dsimp only; omega, by dsimp only; omega, hs2, hR⟩, by dsimp only; omega, ⟨⟨rfl, rfl, rfl, rfl, rfl, trivial⟩, trivial, rfl, rfl⟩⟩
end
end Go.Vx
namespace Go.Vx
open Go.Proofs Classical
open Go.Sort
section
variable {h0 : Mem} {r : Nat} {ty : TypeId} {rest : List Value}
set_option maxHeartbeats 16000000 in
theorem pdqsort_spec {n cap : Nat} (hr : h0 r = none) (hn : n ≤ 1000000000000) : ∀ (m : Nat) (a b limit : Nat) (d : Array Int) (μ : Mem), b - a < m → a ≤ b → b ≤ n → d.size = n → limit ≤ 64 → Below ltInt a b d →
  SpecH Tryz.prog 260 [.slice (some ⟨r, 0, none⟩) n cap, .int .i64 a, .int .i64 b, .int .i64 limit] μ (RowI h0 r ty rest d) fun v _μ' h' => v = .tuple #[] ∧ ∃ d', PermIn a b d d' ∧ SortedIn ltInt a b d' ∧ h' = RowI h0 r ty rest d' := by
 intro m
 induction m with
 | zero => intro a b limit d μ h; omega
 | succ m ih =>
 intro a0 b0 limit0 d0 μ hm hab0 hb0 hd0 hl0 hB0
 refine SpecH.mk [] Tryz.func260 (by kernel_rfl) ?_
 refine lIn (fun p : Nat × Nat × Nat × Bool × Bool × Array Int × Mem => p.1 ≤ p.2.1 ∧ p.2.1 ≤ n ∧ p.2.1 - p.1 ≤ b0 - a0 ∧ p.2.2.1 ≤ 64 ∧ p.2.2.2.2.2.1.size = n ∧ Below ltInt p.1 p.2.1 p.2.2.2.2.2.1 ∧ μ.Le p.2.2.2.2.2.2 ∧ ∀ R, PermIn p.1 p.2.1 p.2.2.2.2.2.1 R → SortedIn ltInt p.1 p.2.1 R → PermIn a0 b0 d0 R ∧ SortedIn ltInt a0 b0 R)
  (fun (a, b, limit, wb, wp, d, μ') => ⟨[(0, .val (.slice (some ⟨r, 0, none⟩) n cap)), (1, .val (.int .i64 a)), (2, .val (.int .i64 b)), (3, .val (.int .i64 limit)), (8, .val (.bool wb)), (9, .val (.bool wp))], [], 0, μ', RowI h0 r ty rest d⟩) (fun p => p.2.1 - p.1)
  (a0, b0, limit0, true, true, d0, μ) ⟨hab0, hb0, Nat.le_refl _, hl0, hd0, hB0, Mem.Le.refl _, fun R h1 h2 => ⟨h1, h2⟩⟩ (fun (_, _, _, _, _, _, _) => ⟨rfl, rfl⟩) ⟨⟨rfl, rfl, rfl, rfl, rfl, rfl, trivial⟩, trivial, rfl, rfl⟩ ?_
 rintro ⟨a, b, limit, wb, wp, d, μ1⟩ ⟨hab, hb, hlen, hlim, hs, hB, hle, hfin⟩
 dsimp only at hab hb hlen hlim hs hB hle hfin
 refine nEq (x := ((b - a : Nat) : Int)) (by rw [wrap64 (by omega) (by omega)]; omega) ?_
 refine ifd (fun h12 => ?_) (fun h12 => ?_)
 ·refine cOw (insertionSort_spec hs hab hb hn) fun v μ' h' hle' hap hR => ?_
  obtain ⟨rfl, e1, rfl⟩ := hR
  have q := insertionSort_holds (lt := ltInt) swo_ltInt d a b hab (by omega)
  exact rPl ⟨rfl, _, (hfin _ q.1 q.2).1, (hfin _ q.1 q.2).2, rfl⟩
 refine ifd (fun hl => ?_) (fun hl => ?_)
 ·refine cOw (heapSort_spec hs (by omega) hb hn) fun v μ' h' hle' hap hR => ?_
  obtain ⟨rfl, e1, rfl⟩ := hR
  have q := heapSort_holds (lt := ltInt) swo_ltInt d a b hab (by omega)
  exact rPl ⟨rfl, _, (hfin _ q.1 q.2).1, (hfin _ q.1 q.2).2, rfl⟩
 cases wb with
 | false =>
  refine iIn (fun _ => ?_) (fun h => nomatch h)
  refine cOw (breakPatterns_spec hr hs (by omega) hb hn) fun v μ2 h' hle' hap hR => ?_
  obtain ⟨rfl, d1, p1, rfl⟩ := hR
  replace hB := hB.perm (by omega) p1
  replace hfin := fun R h1 h2 => hfin R (permIn_trans _ _ _ _ _ p1 h1) h2
  have hs1 : d1.size = n := p1.1.trans hs
  replace hle := hle.trans hle'
  clear hs p1 hle'
  refine nEq (x := ((limit - 1 : Nat) : Int)) (by rw [wrap64 (by omega) (by omega)]; omega) ?_
  refine cOw (choosePivot_spec hr hs1 (by omega) hb hn) fun v μ3 h' hle' hap hR => ?_
  obtain ⟨p, k, hp1, hp2, hk, rfl, rfl⟩ := hR
  replace hle := hle.trans hle'
  clear hle' hap
  refine ifd (fun hk2 => ?_) (fun hk2 => ?_)
  ·refine cOw (reverseRange_spec hs1 (by omega) hab hb hn) fun v μ4 h' hle' hap hR => ?_
   obtain ⟨rfl, e1, rfl⟩ := hR
   obtain rfl := e1.symm
   clear hle' hap
   have p2 := reverseRange_holds d1 a b hab (by omega)
   generalize reverseRange d1 a b = d2 at *
   replace hB := hB.perm (by omega) p2
   replace hfin := fun R h1 h2 => hfin R (permIn_trans _ _ _ _ _ p2 h1) h2
   have hs2 : d2.size = n := p2.1.trans hs1
   clear p2
   refine nEq (x := ((b - 1 : Nat) : Int)) (by rw [wrap64 (by omega) (by omega)]; omega) ?_
   refine nEq (x := ((p - a : Nat) : Int)) (by rw [wrap64 (by omega) (by omega)]; omega) ?_
   refine nEq (x := (((b - 1) - (p - a) : Nat) : Int)) (by rw [wrap64 (by omega) (by omega)]; omega) ?_
   refine iIn (fun h => nomatch h) (fun _ => ?_)
   refine ifd (fun ha0 => ?_) (fun ha0 => ?_)
   ·refine nEq (x := ((a - 1 : Nat) : Int)) (by rw [wrap64 (by omega) (by omega)]; omega) ?_
    refine idxI (a - 1) (by omega) (by omega) ?_
    refine rdI (by omega) ?_
    refine idxI ((b - 1) - (p - a)) (by omega) (by omega) ?_
    refine rdI (by omega) ?_
    refine cGv (Less_spec _ _) ?_
    refine iIn (fun hnl => ?_) (fun hnl => ?_)
    ·refine cOw (partitionEqual_spec (pivot := (b - 1) - (p - a)) hs2 (by omega) (by omega) hb hn) fun v μ6 h' hle' hap hR => ?_
     obtain ⟨rfl, e1, rfl⟩ := hR
     obtain rfl := e1.symm
     obtain ⟨mid, d4, hx⟩ : ∃ mid d4, partitionEqual ltInt d2 a b ((b - 1) - (p - a)) = (mid, d4) := ⟨_, _, rfl⟩
     rw [hx]
     have q := round_eq swo_ltInt (partitionEqual_holds ltInt) (by omega) (by omega) (by omega) (by omega) hB (by simpa using hnl) hx
     have qa := q.1
     exact ⟨(mid, b, limit - 1, false, wp, d4, _), ⟨q.2.1, hb, by dsimp only; omega, by dsimp only; omega, q.2.2.1.trans hs2, q.2.2.2.1, hle, fun R h1 h2 => hfin R (q.2.2.2.2 R h1 h2).1 (q.2.2.2.2 R h1 h2).2⟩, by dsimp only; omega, ⟨⟨rfl, rfl, rfl, rfl, rfl, rfl, trivial⟩, trivial, rfl, rfl⟩⟩
    ·refine cOw (partition_spec (pivot := (b - 1) - (p - a)) hs2 (by omega) (by omega) hb hn) fun v μ6 h' hle' hap hR => ?_
     obtain ⟨⟨ap, rfl⟩, e1, rfl⟩ := hR
     obtain rfl := e1.symm
     obtain ⟨mid, ap', d4, hx⟩ : ∃ mid ap' d4, partition ltInt d2 a b ((b - 1) - (p - a)) = (mid, ap', d4) := ⟨_, _, _, rfl⟩
     rw [hx]
     have w_ := round_part swo_ltInt (partition_holds ltInt) (by omega) (by omega) (by omega) hB hx
     obtain ⟨q1, q2, q3, q4, q5, q6, q7⟩ := w_
     refine nEq (x := ((mid - a : Nat) : Int)) (by rw [wrap64 (by omega) (by omega)]; omega) ?_
     refine nEq (x := ((b - mid : Nat) : Int)) (by rw [wrap64 (by omega) (by omega)]; omega) ?_
     refine need_intro (by decide) ?_
     refine nEq (x := (((b - a) / 8 : Nat) : Int)) (by rw [Int.tdiv_eq_ediv_of_nonneg (by omega), wrap64 (by omega) (by omega)]; omega) ?_
     refine ifd (fun hlt => ?_) (fun hlt => ?_)
     ·refine cOw (ih a mid (limit - 1) d4 _ (by omega) (by omega) (by omega) (q3.trans hs2) (by omega) q4) fun v μ7 h' hle7 hap hR => ?_
      obtain ⟨rfl, L, g1, g2, rfl⟩ := hR
      have w_ := q6 L g1 g2
      obtain ⟨g3, g4⟩ := w_
      refine nEq (x := ((mid + 1 : Nat) : Int)) (by rw [wrap64 (by omega) (by omega)]; omega) ?_
      exact ⟨(mid + 1, b, limit - 1, _, ap, L, μ7), ⟨by dsimp only; omega, hb, by dsimp only; omega, by dsimp only; omega, g1.1.trans (q3.trans hs2), g3, hle.trans hle7, fun R h1 h2 => hfin R (g4 R h1 h2).1 (g4 R h1 h2).2⟩, by dsimp only; omega, ⟨⟨rfl, rfl, rfl, rfl, rfl, rfl, trivial⟩, trivial, rfl, rfl⟩⟩
     ·refine nEq (x := ((mid + 1 : Nat) : Int)) (by rw [wrap64 (by omega) (by omega)]; omega) ?_
      refine cOw (ih (mid + 1) b (limit - 1) d4 _ (by omega) (by omega) (by omega) (q3.trans hs2) (by omega) q5) fun v μ7 h' hle7 hap hR => ?_
      obtain ⟨rfl, L, g1, g2, rfl⟩ := hR
      have w_ := q7 L g1 g2
      obtain ⟨g3, g4⟩ := w_
      exact ⟨(a, mid, limit - 1, _, ap, L, μ7), ⟨by dsimp only; omega, by dsimp only; omega, by dsimp only; omega, by dsimp only; omega, g1.1.trans (q3.trans hs2), g3, hle.trans hle7, fun R h1 h2 => hfin R (g4 R h1 h2).1 (g4 R h1 h2).2⟩, by dsimp only; omega, ⟨⟨rfl, rfl, rfl, rfl, rfl, rfl, trivial⟩, trivial, rfl, rfl⟩⟩
   ·refine cOw (partition_spec (pivot := (b - 1) - (p - a)) hs2 (by omega) (by omega) hb hn) fun v μ6 h' hle' hap hR => ?_
    obtain ⟨⟨ap, rfl⟩, e1, rfl⟩ := hR
    obtain rfl := e1.symm
    obtain ⟨mid, ap', d4, hx⟩ : ∃ mid ap' d4, partition ltInt d2 a b ((b - 1) - (p - a)) = (mid, ap', d4) := ⟨_, _, _, rfl⟩
    rw [hx]
    have w_ := round_part swo_ltInt (partition_holds ltInt) (by omega) (by omega) (by omega) hB hx
    obtain ⟨q1, q2, q3, q4, q5, q6, q7⟩ := w_
    refine nEq (x := ((mid - a : Nat) : Int)) (by rw [wrap64 (by omega) (by omega)]; omega) ?_
    refine nEq (x := ((b - mid : Nat) : Int)) (by rw [wrap64 (by omega) (by omega)]; omega) ?_
    refine need_intro (by decide) ?_
    refine nEq (x := (((b - a) / 8 : Nat) : Int)) (by rw [Int.tdiv_eq_ediv_of_nonneg (by omega), wrap64 (by omega) (by omega)]; omega) ?_
    refine ifd (fun hlt => ?_) (fun hlt => ?_)
    ·refine cOw (ih a mid (limit - 1) d4 _ (by omega) (by omega) (by omega) (q3.trans hs2) (by omega) q4) fun v μ7 h' hle7 hap hR => ?_
     obtain ⟨rfl, L, g1, g2, rfl⟩ := hR
     have w_ := q6 L g1 g2
     obtain ⟨g3, g4⟩ := w_
     refine nEq (x := ((mid + 1 : Nat) : Int)) (by rw [wrap64 (by omega) (by omega)]; omega) ?_
     exact ⟨(mid + 1, b, limit - 1, _, ap, L, μ7), ⟨by dsimp only; omega, hb, by dsimp only; omega, by dsimp only; omega, g1.1.trans (q3.trans hs2), g3, hle.trans hle7, fun R h1 h2 => hfin R (g4 R h1 h2).1 (g4 R h1 h2).2⟩, by dsimp only; omega, ⟨⟨rfl, rfl, rfl, rfl, rfl, rfl, trivial⟩, trivial, rfl, rfl⟩⟩
    ·refine nEq (x := ((mid + 1 : Nat) : Int)) (by rw [wrap64 (by omega) (by omega)]; omega) ?_
     refine cOw (ih (mid + 1) b (limit - 1) d4 _ (by omega) (by omega) (by omega) (q3.trans hs2) (by omega) q5) fun v μ7 h' hle7 hap hR => ?_
     obtain ⟨rfl, L, g1, g2, rfl⟩ := hR
     have w_ := q7 L g1 g2
     obtain ⟨g3, g4⟩ := w_
     exact ⟨(a, mid, limit - 1, _, ap, L, μ7), ⟨by dsimp only; omega, by dsimp only; omega, by dsimp only; omega, by dsimp only; omega, g1.1.trans (q3.trans hs2), g3, hle.trans hle7, fun R h1 h2 => hfin R (g4 R h1 h2).1 (g4 R h1 h2).2⟩, by dsimp only; omega, ⟨⟨rfl, rfl, rfl, rfl, rfl, rfl, trivial⟩, trivial, rfl, rfl⟩⟩
  ·refine iIn (fun h => nomatch h) (fun _ => ?_)
   refine ifd (fun ha0 => ?_) (fun ha0 => ?_)
   ·refine nEq (x := ((a - 1 : Nat) : Int)) (by rw [wrap64 (by omega) (by omega)]; omega) ?_
    refine idxI (a - 1) (by omega) (by omega) ?_
    refine rdI (by omega) ?_
    refine idxI (p) (by omega) (by omega) ?_
    refine rdI (by omega) ?_
    refine cGv (Less_spec _ _) ?_
    refine iIn (fun hnl => ?_) (fun hnl => ?_)
    ·refine cOw (partitionEqual_spec (pivot := p) hs1 (by omega) (by omega) hb hn) fun v μ6 h' hle' hap hR => ?_
     obtain ⟨rfl, e1, rfl⟩ := hR
     obtain rfl := e1.symm
     obtain ⟨mid, d4, hx⟩ : ∃ mid d4, partitionEqual ltInt d1 a b (p) = (mid, d4) := ⟨_, _, rfl⟩
     rw [hx]
     have q := round_eq swo_ltInt (partitionEqual_holds ltInt) (by omega) (by omega) (by omega) (by omega) hB (by simpa using hnl) hx
     have qa := q.1
     exact ⟨(mid, b, limit - 1, false, wp, d4, _), ⟨q.2.1, hb, by dsimp only; omega, by dsimp only; omega, q.2.2.1.trans hs1, q.2.2.2.1, hle, fun R h1 h2 => hfin R (q.2.2.2.2 R h1 h2).1 (q.2.2.2.2 R h1 h2).2⟩, by dsimp only; omega, ⟨⟨rfl, rfl, rfl, rfl, rfl, rfl, trivial⟩, trivial, rfl, rfl⟩⟩
    ·refine cOw (partition_spec (pivot := p) hs1 (by omega) (by omega) hb hn) fun v μ6 h' hle' hap hR => ?_
     obtain ⟨⟨ap, rfl⟩, e1, rfl⟩ := hR
     obtain rfl := e1.symm
     obtain ⟨mid, ap', d4, hx⟩ : ∃ mid ap' d4, partition ltInt d1 a b (p) = (mid, ap', d4) := ⟨_, _, _, rfl⟩
     rw [hx]
     have w_ := round_part swo_ltInt (partition_holds ltInt) (by omega) (by omega) (by omega) hB hx
     obtain ⟨q1, q2, q3, q4, q5, q6, q7⟩ := w_
     refine nEq (x := ((mid - a : Nat) : Int)) (by rw [wrap64 (by omega) (by omega)]; omega) ?_
     refine nEq (x := ((b - mid : Nat) : Int)) (by rw [wrap64 (by omega) (by omega)]; omega) ?_
     refine need_intro (by decide) ?_
     refine nEq (x := (((b - a) / 8 : Nat) : Int)) (by rw [Int.tdiv_eq_ediv_of_nonneg (by omega), wrap64 (by omega) (by omega)]; omega) ?_
     refine ifd (fun hlt => ?_) (fun hlt => ?_)
     ·refine cOw (ih a mid (limit - 1) d4 _ (by omega) (by omega) (by omega) (q3.trans hs1) (by omega) q4) fun v μ7 h' hle7 hap hR => ?_
      obtain ⟨rfl, L, g1, g2, rfl⟩ := hR
      have w_ := q6 L g1 g2
      obtain ⟨g3, g4⟩ := w_
      refine nEq (x := ((mid + 1 : Nat) : Int)) (by rw [wrap64 (by omega) (by omega)]; omega) ?_
      exact ⟨(mid + 1, b, limit - 1, _, ap, L, μ7), ⟨by dsimp only; omega, hb, by dsimp only; omega, by dsimp only; omega, g1.1.trans (q3.trans hs1), g3, hle.trans hle7, fun R h1 h2 => hfin R (g4 R h1 h2).1 (g4 R h1 h2).2⟩, by dsimp only; omega, ⟨⟨rfl, rfl, rfl, rfl, rfl, rfl, trivial⟩, trivial, rfl, rfl⟩⟩
     ·refine nEq (x := ((mid + 1 : Nat) : Int)) (by rw [wrap64 (by omega) (by omega)]; omega) ?_
      refine cOw (ih (mid + 1) b (limit - 1) d4 _ (by omega) (by omega) (by omega) (q3.trans hs1) (by omega) q5) fun v μ7 h' hle7 hap hR => ?_
      obtain ⟨rfl, L, g1, g2, rfl⟩ := hR
      have w_ := q7 L g1 g2
      obtain ⟨g3, g4⟩ := w_
      exact ⟨(a, mid, limit - 1, _, ap, L, μ7), ⟨by dsimp only; omega, by dsimp only; omega, by dsimp only; omega, by dsimp only; omega, g1.1.trans (q3.trans hs1), g3, hle.trans hle7, fun R h1 h2 => hfin R (g4 R h1 h2).1 (g4 R h1 h2).2⟩, by dsimp only; omega, ⟨⟨rfl, rfl, rfl, rfl, rfl, rfl, trivial⟩, trivial, rfl, rfl⟩⟩
   ·refine cOw (partition_spec (pivot := p) hs1 (by omega) (by omega) hb hn) fun v μ6 h' hle' hap hR => ?_
    obtain ⟨⟨ap, rfl⟩, e1, rfl⟩ := hR
    obtain rfl := e1.symm
    obtain ⟨mid, ap', d4, hx⟩ : ∃ mid ap' d4, partition ltInt d1 a b (p) = (mid, ap', d4) := ⟨_, _, _, rfl⟩
    rw [hx]
    have w_ := round_part swo_ltInt (partition_holds ltInt) (by omega) (by omega) (by omega) hB hx
    obtain ⟨q1, q2, q3, q4, q5, q6, q7⟩ := w_
    refine nEq (x := ((mid - a : Nat) : Int)) (by rw [wrap64 (by omega) (by omega)]; omega) ?_
    refine nEq (x := ((b - mid : Nat) : Int)) (by rw [wrap64 (by omega) (by omega)]; omega) ?_
    refine need_intro (by decide) ?_
    refine nEq (x := (((b - a) / 8 : Nat) : Int)) (by rw [Int.tdiv_eq_ediv_of_nonneg (by omega), wrap64 (by omega) (by omega)]; omega) ?_
    refine ifd (fun hlt => ?_) (fun hlt => ?_)
    ·refine cOw (ih a mid (limit - 1) d4 _ (by omega) (by omega) (by omega) (q3.trans hs1) (by omega) q4) fun v μ7 h' hle7 hap hR => ?_
     obtain ⟨rfl, L, g1, g2, rfl⟩ := hR
     have w_ := q6 L g1 g2
     obtain ⟨g3, g4⟩ := w_
     refine nEq (x := ((mid + 1 : Nat) : Int)) (by rw [wrap64 (by omega) (by omega)]; omega) ?_
     exact ⟨(mid + 1, b, limit - 1, _, ap, L, μ7), ⟨by dsimp only; omega, hb, by dsimp only; omega, by dsimp only; omega, g1.1.trans (q3.trans hs1), g3, hle.trans hle7, fun R h1 h2 => hfin R (g4 R h1 h2).1 (g4 R h1 h2).2⟩, by dsimp only; omega, ⟨⟨rfl, rfl, rfl, rfl, rfl, rfl, trivial⟩, trivial, rfl, rfl⟩⟩
    ·refine nEq (x := ((mid + 1 : Nat) : Int)) (by rw [wrap64 (by omega) (by omega)]; omega) ?_
     refine cOw (ih (mid + 1) b (limit - 1) d4 _ (by omega) (by omega) (by omega) (q3.trans hs1) (by omega) q5) fun v μ7 h' hle7 hap hR => ?_
     obtain ⟨rfl, L, g1, g2, rfl⟩ := hR
     have w_ := q7 L g1 g2
     obtain ⟨g3, g4⟩ := w_
     exact ⟨(a, mid, limit - 1, _, ap, L, μ7), ⟨by dsimp only; omega, by dsimp only; omega, by dsimp only; omega, by dsimp only; omega, g1.1.trans (q3.trans hs1), g3, hle.trans hle7, fun R h1 h2 => hfin R (g4 R h1 h2).1 (g4 R h1 h2).2⟩, by dsimp only; omega, ⟨⟨rfl, rfl, rfl, rfl, rfl, rfl, trivial⟩, trivial, rfl, rfl⟩⟩
 | true =>
  refine iIn (fun h => nomatch h) (fun _ => ?_)
  have hs1 := hs
  refine cOw (choosePivot_spec hr hs1 (by omega) hb hn) fun v μ3 h' hle' hap hR => ?_
  obtain ⟨p, k, hp1, hp2, hk, rfl, rfl⟩ := hR
  replace hle := hle.trans hle'
  clear hle' hap
  refine ifd (fun hk2 => ?_) (fun hk2 => ?_)
  ·refine cOw (reverseRange_spec hs1 (by omega) hab hb hn) fun v μ4 h' hle' hap hR => ?_
   obtain ⟨rfl, e1, rfl⟩ := hR
   obtain rfl := e1.symm
   clear hle' hap
   have p2 := reverseRange_holds d a b hab (by omega)
   generalize reverseRange d a b = d2 at *
   replace hB := hB.perm (by omega) p2
   replace hfin := fun R h1 h2 => hfin R (permIn_trans _ _ _ _ _ p2 h1) h2
   have hs2 : d2.size = n := p2.1.trans hs1
   clear p2
   refine nEq (x := ((b - 1 : Nat) : Int)) (by rw [wrap64 (by omega) (by omega)]; omega) ?_
   refine nEq (x := ((p - a : Nat) : Int)) (by rw [wrap64 (by omega) (by omega)]; omega) ?_
   refine nEq (x := (((b - 1) - (p - a) : Nat) : Int)) (by rw [wrap64 (by omega) (by omega)]; omega) ?_
   refine iIn (fun _ => ?_) (fun h => nomatch h)
   refine iIn (fun hwp => ?_) (fun hwp => ?_)
   ·refine ifd (fun _ => ?_) (fun h => absurd rfl h)
    refine cOw (partialInsertionSort_spec hs2 (by omega) hb hn) fun v μ5 h' hle' hap hR => ?_
    obtain ⟨rfl, e1, rfl⟩ := hR
    obtain rfl := e1.symm
    clear hle' hap
    have q := partialInsertionSort_holds (lt := ltInt) swo_ltInt d2 a b (by omega) (by omega) hB
    refine iIn (fun hok => ?_) (fun hok => ?_)
    ·exact rPl ⟨rfl, _, (hfin _ q.1 (q.2 hok)).1, (hfin _ q.1 (q.2 hok)).2, rfl⟩
    ·have q1 := q.1
     clear q hok
     generalize (partialInsertionSort ltInt d2 a b).1 = d3 at *
     replace hB := hB.perm (by omega) q1
     replace hfin := fun R h1 h2 => hfin R (permIn_trans _ _ _ _ _ q1 h1) h2
     have hs3 : d3.size = n := q1.1.trans hs2
     clear q1
     refine ifd (fun ha0 => ?_) (fun ha0 => ?_)
     ·refine nEq (x := ((a - 1 : Nat) : Int)) (by rw [wrap64 (by omega) (by omega)]; omega) ?_
      refine idxI (a - 1) (by omega) (by omega) ?_
      refine rdI (by omega) ?_
      refine idxI ((b - 1) - (p - a)) (by omega) (by omega) ?_
      refine rdI (by omega) ?_
      refine cGv (Less_spec _ _) ?_
      refine iIn (fun hnl => ?_) (fun hnl => ?_)
      ·refine cOw (partitionEqual_spec (pivot := (b - 1) - (p - a)) hs3 (by omega) (by omega) hb hn) fun v μ6 h' hle' hap hR => ?_
       obtain ⟨rfl, e1, rfl⟩ := hR
       obtain rfl := e1.symm
       obtain ⟨mid, d4, hx⟩ : ∃ mid d4, partitionEqual ltInt d3 a b ((b - 1) - (p - a)) = (mid, d4) := ⟨_, _, rfl⟩
       rw [hx]
       have q := round_eq swo_ltInt (partitionEqual_holds ltInt) (by omega) (by omega) (by omega) (by omega) hB (by simpa using hnl) hx
       have qa := q.1
       exact ⟨(mid, b, limit, true, wp, d4, _), ⟨q.2.1, hb, by dsimp only; omega, by dsimp only; omega, q.2.2.1.trans hs3, q.2.2.2.1, hle, fun R h1 h2 => hfin R (q.2.2.2.2 R h1 h2).1 (q.2.2.2.2 R h1 h2).2⟩, by dsimp only; omega, ⟨⟨rfl, rfl, rfl, rfl, rfl, rfl, trivial⟩, trivial, rfl, rfl⟩⟩
      ·refine cOw (partition_spec (pivot := (b - 1) - (p - a)) hs3 (by omega) (by omega) hb hn) fun v μ6 h' hle' hap hR => ?_
       obtain ⟨⟨ap, rfl⟩, e1, rfl⟩ := hR
       obtain rfl := e1.symm
       obtain ⟨mid, ap', d4, hx⟩ : ∃ mid ap' d4, partition ltInt d3 a b ((b - 1) - (p - a)) = (mid, ap', d4) := ⟨_, _, _, rfl⟩
       rw [hx]
       have w_ := round_part swo_ltInt (partition_holds ltInt) (by omega) (by omega) (by omega) hB hx
       obtain ⟨q1, q2, q3, q4, q5, q6, q7⟩ := w_
       refine nEq (x := ((mid - a : Nat) : Int)) (by rw [wrap64 (by omega) (by omega)]; omega) ?_
       refine nEq (x := ((b - mid : Nat) : Int)) (by rw [wrap64 (by omega) (by omega)]; omega) ?_
       refine need_intro (by decide) ?_
       refine nEq (x := (((b - a) / 8 : Nat) : Int)) (by rw [Int.tdiv_eq_ediv_of_nonneg (by omega), wrap64 (by omega) (by omega)]; omega) ?_
       refine ifd (fun hlt => ?_) (fun hlt => ?_)
       ·refine cOw (ih a mid (limit) d4 _ (by omega) (by omega) (by omega) (q3.trans hs3) (by omega) q4) fun v μ7 h' hle7 hap hR => ?_
        obtain ⟨rfl, L, g1, g2, rfl⟩ := hR
        have w_ := q6 L g1 g2
        obtain ⟨g3, g4⟩ := w_
        refine nEq (x := ((mid + 1 : Nat) : Int)) (by rw [wrap64 (by omega) (by omega)]; omega) ?_
        exact ⟨(mid + 1, b, limit, _, ap, L, μ7), ⟨by dsimp only; omega, hb, by dsimp only; omega, by dsimp only; omega, g1.1.trans (q3.trans hs3), g3, hle.trans hle7, fun R h1 h2 => hfin R (g4 R h1 h2).1 (g4 R h1 h2).2⟩, by dsimp only; omega, ⟨⟨rfl, rfl, rfl, rfl, rfl, rfl, trivial⟩, trivial, rfl, rfl⟩⟩
       ·refine nEq (x := ((mid + 1 : Nat) : Int)) (by rw [wrap64 (by omega) (by omega)]; omega) ?_
        refine cOw (ih (mid + 1) b (limit) d4 _ (by omega) (by omega) (by omega) (q3.trans hs3) (by omega) q5) fun v μ7 h' hle7 hap hR => ?_
        obtain ⟨rfl, L, g1, g2, rfl⟩ := hR
        have w_ := q7 L g1 g2
        obtain ⟨g3, g4⟩ := w_
        exact ⟨(a, mid, limit, _, ap, L, μ7), ⟨by dsimp only; omega, by dsimp only; omega, by dsimp only; omega, by dsimp only; omega, g1.1.trans (q3.trans hs3), g3, hle.trans hle7, fun R h1 h2 => hfin R (g4 R h1 h2).1 (g4 R h1 h2).2⟩, by dsimp only; omega, ⟨⟨rfl, rfl, rfl, rfl, rfl, rfl, trivial⟩, trivial, rfl, rfl⟩⟩
     ·refine cOw (partition_spec (pivot := (b - 1) - (p - a)) hs3 (by omega) (by omega) hb hn) fun v μ6 h' hle' hap hR => ?_
      obtain ⟨⟨ap, rfl⟩, e1, rfl⟩ := hR
      obtain rfl := e1.symm
      obtain ⟨mid, ap', d4, hx⟩ : ∃ mid ap' d4, partition ltInt d3 a b ((b - 1) - (p - a)) = (mid, ap', d4) := ⟨_, _, _, rfl⟩
      rw [hx]
      have w_ := round_part swo_ltInt (partition_holds ltInt) (by omega) (by omega) (by omega) hB hx
      obtain ⟨q1, q2, q3, q4, q5, q6, q7⟩ := w_
      refine nEq (x := ((mid - a : Nat) : Int)) (by rw [wrap64 (by omega) (by omega)]; omega) ?_
      refine nEq (x := ((b - mid : Nat) : Int)) (by rw [wrap64 (by omega) (by omega)]; omega) ?_
      refine need_intro (by decide) ?_
      refine nEq (x := (((b - a) / 8 : Nat) : Int)) (by rw [Int.tdiv_eq_ediv_of_nonneg (by omega), wrap64 (by omega) (by omega)]; omega) ?_
      refine ifd (fun hlt => ?_) (fun hlt => ?_)
      ·refine cOw (ih a mid (limit) d4 _ (by omega) (by omega) (by omega) (q3.trans hs3) (by omega) q4) fun v μ7 h' hle7 hap hR => ?_
       obtain ⟨rfl, L, g1, g2, rfl⟩ := hR
       have w_ := q6 L g1 g2
       obtain ⟨g3, g4⟩ := w_
       refine nEq (x := ((mid + 1 : Nat) : Int)) (by rw [wrap64 (by omega) (by omega)]; omega) ?_
       exact ⟨(mid + 1, b, limit, _, ap, L, μ7), ⟨by dsimp only; omega, hb, by dsimp only; omega, by dsimp only; omega, g1.1.trans (q3.trans hs3), g3, hle.trans hle7, fun R h1 h2 => hfin R (g4 R h1 h2).1 (g4 R h1 h2).2⟩, by dsimp only; omega, ⟨⟨rfl, rfl, rfl, rfl, rfl, rfl, trivial⟩, trivial, rfl, rfl⟩⟩
      ·refine nEq (x := ((mid + 1 : Nat) : Int)) (by rw [wrap64 (by omega) (by omega)]; omega) ?_
       refine cOw (ih (mid + 1) b (limit) d4 _ (by omega) (by omega) (by omega) (q3.trans hs3) (by omega) q5) fun v μ7 h' hle7 hap hR => ?_
       obtain ⟨rfl, L, g1, g2, rfl⟩ := hR
       have w_ := q7 L g1 g2
       obtain ⟨g3, g4⟩ := w_
       exact ⟨(a, mid, limit, _, ap, L, μ7), ⟨by dsimp only; omega, by dsimp only; omega, by dsimp only; omega, by dsimp only; omega, g1.1.trans (q3.trans hs3), g3, hle.trans hle7, fun R h1 h2 => hfin R (g4 R h1 h2).1 (g4 R h1 h2).2⟩, by dsimp only; omega, ⟨⟨rfl, rfl, rfl, rfl, rfl, rfl, trivial⟩, trivial, rfl, rfl⟩⟩
   ·refine ifd (fun ha0 => ?_) (fun ha0 => ?_)
    ·refine nEq (x := ((a - 1 : Nat) : Int)) (by rw [wrap64 (by omega) (by omega)]; omega) ?_
     refine idxI (a - 1) (by omega) (by omega) ?_
     refine rdI (by omega) ?_
     refine idxI ((b - 1) - (p - a)) (by omega) (by omega) ?_
     refine rdI (by omega) ?_
     refine cGv (Less_spec _ _) ?_
     refine iIn (fun hnl => ?_) (fun hnl => ?_)
     ·refine cOw (partitionEqual_spec (pivot := (b - 1) - (p - a)) hs2 (by omega) (by omega) hb hn) fun v μ6 h' hle' hap hR => ?_
      obtain ⟨rfl, e1, rfl⟩ := hR
      obtain rfl := e1.symm
      obtain ⟨mid, d4, hx⟩ : ∃ mid d4, partitionEqual ltInt d2 a b ((b - 1) - (p - a)) = (mid, d4) := ⟨_, _, rfl⟩
      rw [hx]
      have q := round_eq swo_ltInt (partitionEqual_holds ltInt) (by omega) (by omega) (by omega) (by omega) hB (by simpa using hnl) hx
      have qa := q.1
      exact ⟨(mid, b, limit, true, wp, d4, _), ⟨q.2.1, hb, by dsimp only; omega, by dsimp only; omega, q.2.2.1.trans hs2, q.2.2.2.1, hle, fun R h1 h2 => hfin R (q.2.2.2.2 R h1 h2).1 (q.2.2.2.2 R h1 h2).2⟩, by dsimp only; omega, ⟨⟨rfl, rfl, rfl, rfl, rfl, rfl, trivial⟩, trivial, rfl, rfl⟩⟩
     ·refine cOw (partition_spec (pivot := (b - 1) - (p - a)) hs2 (by omega) (by omega) hb hn) fun v μ6 h' hle' hap hR => ?_
      obtain ⟨⟨ap, rfl⟩, e1, rfl⟩ := hR
      obtain rfl := e1.symm
      obtain ⟨mid, ap', d4, hx⟩ : ∃ mid ap' d4, partition ltInt d2 a b ((b - 1) - (p - a)) = (mid, ap', d4) := ⟨_, _, _, rfl⟩
      rw [hx]
      have w_ := round_part swo_ltInt (partition_holds ltInt) (by omega) (by omega) (by omega) hB hx
      obtain ⟨q1, q2, q3, q4, q5, q6, q7⟩ := w_
      refine nEq (x := ((mid - a : Nat) : Int)) (by rw [wrap64 (by omega) (by omega)]; omega) ?_
      refine nEq (x := ((b - mid : Nat) : Int)) (by rw [wrap64 (by omega) (by omega)]; omega) ?_
      refine need_intro (by decide) ?_
      refine nEq (x := (((b - a) / 8 : Nat) : Int)) (by rw [Int.tdiv_eq_ediv_of_nonneg (by omega), wrap64 (by omega) (by omega)]; omega) ?_
      refine ifd (fun hlt => ?_) (fun hlt => ?_)
      ·refine cOw (ih a mid (limit) d4 _ (by omega) (by omega) (by omega) (q3.trans hs2) (by omega) q4) fun v μ7 h' hle7 hap hR => ?_
       obtain ⟨rfl, L, g1, g2, rfl⟩ := hR
       have w_ := q6 L g1 g2
       obtain ⟨g3, g4⟩ := w_
       refine nEq (x := ((mid + 1 : Nat) : Int)) (by rw [wrap64 (by omega) (by omega)]; omega) ?_
       exact ⟨(mid + 1, b, limit, _, ap, L, μ7), ⟨by dsimp only; omega, hb, by dsimp only; omega, by dsimp only; omega, g1.1.trans (q3.trans hs2), g3, hle.trans hle7, fun R h1 h2 => hfin R (g4 R h1 h2).1 (g4 R h1 h2).2⟩, by dsimp only; omega, ⟨⟨rfl, rfl, rfl, rfl, rfl, rfl, trivial⟩, trivial, rfl, rfl⟩⟩
      ·refine nEq (x := ((mid + 1 : Nat) : Int)) (by rw [wrap64 (by omega) (by omega)]; omega) ?_
       refine cOw (ih (mid + 1) b (limit) d4 _ (by omega) (by omega) (by omega) (q3.trans hs2) (by omega) q5) fun v μ7 h' hle7 hap hR => ?_
       obtain ⟨rfl, L, g1, g2, rfl⟩ := hR
       have w_ := q7 L g1 g2
       obtain ⟨g3, g4⟩ := w_
       exact ⟨(a, mid, limit, _, ap, L, μ7), ⟨by dsimp only; omega, by dsimp only; omega, by dsimp only; omega, by dsimp only; omega, g1.1.trans (q3.trans hs2), g3, hle.trans hle7, fun R h1 h2 => hfin R (g4 R h1 h2).1 (g4 R h1 h2).2⟩, by dsimp only; omega, ⟨⟨rfl, rfl, rfl, rfl, rfl, rfl, trivial⟩, trivial, rfl, rfl⟩⟩
    ·refine cOw (partition_spec (pivot := (b - 1) - (p - a)) hs2 (by omega) (by omega) hb hn) fun v μ6 h' hle' hap hR => ?_
     obtain ⟨⟨ap, rfl⟩, e1, rfl⟩ := hR
     obtain rfl := e1.symm
     obtain ⟨mid, ap', d4, hx⟩ : ∃ mid ap' d4, partition ltInt d2 a b ((b - 1) - (p - a)) = (mid, ap', d4) := ⟨_, _, _, rfl⟩
     rw [hx]
     have w_ := round_part swo_ltInt (partition_holds ltInt) (by omega) (by omega) (by omega) hB hx
     obtain ⟨q1, q2, q3, q4, q5, q6, q7⟩ := w_
     refine nEq (x := ((mid - a : Nat) : Int)) (by rw [wrap64 (by omega) (by omega)]; omega) ?_
     refine nEq (x := ((b - mid : Nat) : Int)) (by rw [wrap64 (by omega) (by omega)]; omega) ?_
     refine need_intro (by decide) ?_
     refine nEq (x := (((b - a) / 8 : Nat) : Int)) (by rw [Int.tdiv_eq_ediv_of_nonneg (by omega), wrap64 (by omega) (by omega)]; omega) ?_
     refine ifd (fun hlt => ?_) (fun hlt => ?_)
     ·refine cOw (ih a mid (limit) d4 _ (by omega) (by omega) (by omega) (q3.trans hs2) (by omega) q4) fun v μ7 h' hle7 hap hR => ?_
      obtain ⟨rfl, L, g1, g2, rfl⟩ := hR
      have w_ := q6 L g1 g2
      obtain ⟨g3, g4⟩ := w_
      refine nEq (x := ((mid + 1 : Nat) : Int)) (by rw [wrap64 (by omega) (by omega)]; omega) ?_
      exact ⟨(mid + 1, b, limit, _, ap, L, μ7), ⟨by dsimp only; omega, hb, by dsimp only; omega, by dsimp only; omega, g1.1.trans (q3.trans hs2), g3, hle.trans hle7, fun R h1 h2 => hfin R (g4 R h1 h2).1 (g4 R h1 h2).2⟩, by dsimp only; omega, ⟨⟨rfl, rfl, rfl, rfl, rfl, rfl, trivial⟩, trivial, rfl, rfl⟩⟩
     ·refine nEq (x := ((mid + 1 : Nat) : Int)) (by rw [wrap64 (by omega) (by omega)]; omega) ?_
      refine cOw (ih (mid + 1) b (limit) d4 _ (by omega) (by omega) (by omega) (q3.trans hs2) (by omega) q5) fun v μ7 h' hle7 hap hR => ?_
      obtain ⟨rfl, L, g1, g2, rfl⟩ := hR
      have w_ := q7 L g1 g2
      obtain ⟨g3, g4⟩ := w_
      exact ⟨(a, mid, limit, _, ap, L, μ7), ⟨by dsimp only; omega, by dsimp only; omega, by dsimp only; omega, by dsimp only; omega, g1.1.trans (q3.trans hs2), g3, hle.trans hle7, fun R h1 h2 => hfin R (g4 R h1 h2).1 (g4 R h1 h2).2⟩, by dsimp only; omega, ⟨⟨rfl, rfl, rfl, rfl, rfl, rfl, trivial⟩, trivial, rfl, rfl⟩⟩
  ·refine iIn (fun _ => ?_) (fun h => nomatch h)
   refine iIn (fun hwp => ?_) (fun hwp => ?_)
   ·refine ifd (fun hk1 => ?_) (fun hk1 => ?_)
    ·refine cOw (partialInsertionSort_spec hs1 (by omega) hb hn) fun v μ5 h' hle' hap hR => ?_
     obtain ⟨rfl, e1, rfl⟩ := hR
     obtain rfl := e1.symm
     clear hle' hap
     have q := partialInsertionSort_holds (lt := ltInt) swo_ltInt d a b (by omega) (by omega) hB
     refine iIn (fun hok => ?_) (fun hok => ?_)
     ·exact rPl ⟨rfl, _, (hfin _ q.1 (q.2 hok)).1, (hfin _ q.1 (q.2 hok)).2, rfl⟩
     ·have q1 := q.1
      clear q hok
      generalize (partialInsertionSort ltInt d a b).1 = d3 at *
      replace hB := hB.perm (by omega) q1
      replace hfin := fun R h1 h2 => hfin R (permIn_trans _ _ _ _ _ q1 h1) h2
      have hs3 : d3.size = n := q1.1.trans hs1
      clear q1
      refine ifd (fun ha0 => ?_) (fun ha0 => ?_)
      ·refine nEq (x := ((a - 1 : Nat) : Int)) (by rw [wrap64 (by omega) (by omega)]; omega) ?_
       refine idxI (a - 1) (by omega) (by omega) ?_
       refine rdI (by omega) ?_
       refine idxI (p) (by omega) (by omega) ?_
       refine rdI (by omega) ?_
       refine cGv (Less_spec _ _) ?_
       refine iIn (fun hnl => ?_) (fun hnl => ?_)
       ·refine cOw (partitionEqual_spec (pivot := p) hs3 (by omega) (by omega) hb hn) fun v μ6 h' hle' hap hR => ?_
        obtain ⟨rfl, e1, rfl⟩ := hR
        obtain rfl := e1.symm
        obtain ⟨mid, d4, hx⟩ : ∃ mid d4, partitionEqual ltInt d3 a b (p) = (mid, d4) := ⟨_, _, rfl⟩
        rw [hx]
        have q := round_eq swo_ltInt (partitionEqual_holds ltInt) (by omega) (by omega) (by omega) (by omega) hB (by simpa using hnl) hx
        have qa := q.1
        exact ⟨(mid, b, limit, true, wp, d4, _), ⟨q.2.1, hb, by dsimp only; omega, by dsimp only; omega, q.2.2.1.trans hs3, q.2.2.2.1, hle, fun R h1 h2 => hfin R (q.2.2.2.2 R h1 h2).1 (q.2.2.2.2 R h1 h2).2⟩, by dsimp only; omega, ⟨⟨rfl, rfl, rfl, rfl, rfl, rfl, trivial⟩, trivial, rfl, rfl⟩⟩
       ·refine cOw (partition_spec (pivot := p) hs3 (by omega) (by omega) hb hn) fun v μ6 h' hle' hap hR => ?_
        obtain ⟨⟨ap, rfl⟩, e1, rfl⟩ := hR
        obtain rfl := e1.symm
        obtain ⟨mid, ap', d4, hx⟩ : ∃ mid ap' d4, partition ltInt d3 a b (p) = (mid, ap', d4) := ⟨_, _, _, rfl⟩
        rw [hx]
        have w_ := round_part swo_ltInt (partition_holds ltInt) (by omega) (by omega) (by omega) hB hx
        obtain ⟨q1, q2, q3, q4, q5, q6, q7⟩ := w_
        refine nEq (x := ((mid - a : Nat) : Int)) (by rw [wrap64 (by omega) (by omega)]; omega) ?_
        refine nEq (x := ((b - mid : Nat) : Int)) (by rw [wrap64 (by omega) (by omega)]; omega) ?_
        refine need_intro (by decide) ?_
        refine nEq (x := (((b - a) / 8 : Nat) : Int)) (by rw [Int.tdiv_eq_ediv_of_nonneg (by omega), wrap64 (by omega) (by omega)]; omega) ?_
        refine ifd (fun hlt => ?_) (fun hlt => ?_)
        ·refine cOw (ih a mid (limit) d4 _ (by omega) (by omega) (by omega) (q3.trans hs3) (by omega) q4) fun v μ7 h' hle7 hap hR => ?_
         obtain ⟨rfl, L, g1, g2, rfl⟩ := hR
         have w_ := q6 L g1 g2
         obtain ⟨g3, g4⟩ := w_
         refine nEq (x := ((mid + 1 : Nat) : Int)) (by rw [wrap64 (by omega) (by omega)]; omega) ?_
         exact ⟨(mid + 1, b, limit, _, ap, L, μ7), ⟨by dsimp only; omega, hb, by dsimp only; omega, by dsimp only; omega, g1.1.trans (q3.trans hs3), g3, hle.trans hle7, fun R h1 h2 => hfin R (g4 R h1 h2).1 (g4 R h1 h2).2⟩, by dsimp only; omega, ⟨⟨rfl, rfl, rfl, rfl, rfl, rfl, trivial⟩, trivial, rfl, rfl⟩⟩
        ·refine nEq (x := ((mid + 1 : Nat) : Int)) (by rw [wrap64 (by omega) (by omega)]; omega) ?_
         refine cOw (ih (mid + 1) b (limit) d4 _ (by omega) (by omega) (by omega) (q3.trans hs3) (by omega) q5) fun v μ7 h' hle7 hap hR => ?_
         obtain ⟨rfl, L, g1, g2, rfl⟩ := hR
         have w_ := q7 L g1 g2
         obtain ⟨g3, g4⟩ := w_
         exact ⟨(a, mid, limit, _, ap, L, μ7), ⟨by dsimp only; omega, by dsimp only; omega, by dsimp only; omega, by dsimp only; omega, g1.1.trans (q3.trans hs3), g3, hle.trans hle7, fun R h1 h2 => hfin R (g4 R h1 h2).1 (g4 R h1 h2).2⟩, by dsimp only; omega, ⟨⟨rfl, rfl, rfl, rfl, rfl, rfl, trivial⟩, trivial, rfl, rfl⟩⟩
      ·refine cOw (partition_spec (pivot := p) hs3 (by omega) (by omega) hb hn) fun v μ6 h' hle' hap hR => ?_
       obtain ⟨⟨ap, rfl⟩, e1, rfl⟩ := hR
       obtain rfl := e1.symm
       obtain ⟨mid, ap', d4, hx⟩ : ∃ mid ap' d4, partition ltInt d3 a b (p) = (mid, ap', d4) := ⟨_, _, _, rfl⟩
       rw [hx]
       have w_ := round_part swo_ltInt (partition_holds ltInt) (by omega) (by omega) (by omega) hB hx
       obtain ⟨q1, q2, q3, q4, q5, q6, q7⟩ := w_
       refine nEq (x := ((mid - a : Nat) : Int)) (by rw [wrap64 (by omega) (by omega)]; omega) ?_
       refine nEq (x := ((b - mid : Nat) : Int)) (by rw [wrap64 (by omega) (by omega)]; omega) ?_
       refine need_intro (by decide) ?_
       refine nEq (x := (((b - a) / 8 : Nat) : Int)) (by rw [Int.tdiv_eq_ediv_of_nonneg (by omega), wrap64 (by omega) (by omega)]; omega) ?_
       refine ifd (fun hlt => ?_) (fun hlt => ?_)
       ·refine cOw (ih a mid (limit) d4 _ (by omega) (by omega) (by omega) (q3.trans hs3) (by omega) q4) fun v μ7 h' hle7 hap hR => ?_
        obtain ⟨rfl, L, g1, g2, rfl⟩ := hR
        have w_ := q6 L g1 g2
        obtain ⟨g3, g4⟩ := w_
        refine nEq (x := ((mid + 1 : Nat) : Int)) (by rw [wrap64 (by omega) (by omega)]; omega) ?_
        exact ⟨(mid + 1, b, limit, _, ap, L, μ7), ⟨by dsimp only; omega, hb, by dsimp only; omega, by dsimp only; omega, g1.1.trans (q3.trans hs3), g3, hle.trans hle7, fun R h1 h2 => hfin R (g4 R h1 h2).1 (g4 R h1 h2).2⟩, by dsimp only; omega, ⟨⟨rfl, rfl, rfl, rfl, rfl, rfl, trivial⟩, trivial, rfl, rfl⟩⟩
       ·refine nEq (x := ((mid + 1 : Nat) : Int)) (by rw [wrap64 (by omega) (by omega)]; omega) ?_
        refine cOw (ih (mid + 1) b (limit) d4 _ (by omega) (by omega) (by omega) (q3.trans hs3) (by omega) q5) fun v μ7 h' hle7 hap hR => ?_
        obtain ⟨rfl, L, g1, g2, rfl⟩ := hR
        have w_ := q7 L g1 g2
        obtain ⟨g3, g4⟩ := w_
        exact ⟨(a, mid, limit, _, ap, L, μ7), ⟨by dsimp only; omega, by dsimp only; omega, by dsimp only; omega, by dsimp only; omega, g1.1.trans (q3.trans hs3), g3, hle.trans hle7, fun R h1 h2 => hfin R (g4 R h1 h2).1 (g4 R h1 h2).2⟩, by dsimp only; omega, ⟨⟨rfl, rfl, rfl, rfl, rfl, rfl, trivial⟩, trivial, rfl, rfl⟩⟩
    ·refine ifd (fun ha0 => ?_) (fun ha0 => ?_)
     ·refine nEq (x := ((a - 1 : Nat) : Int)) (by rw [wrap64 (by omega) (by omega)]; omega) ?_
      refine idxI (a - 1) (by omega) (by omega) ?_
      refine rdI (by omega) ?_
      refine idxI (p) (by omega) (by omega) ?_
      refine rdI (by omega) ?_
      refine cGv (Less_spec _ _) ?_
      refine iIn (fun hnl => ?_) (fun hnl => ?_)
      ·refine cOw (partitionEqual_spec (pivot := p) hs1 (by omega) (by omega) hb hn) fun v μ6 h' hle' hap hR => ?_
       obtain ⟨rfl, e1, rfl⟩ := hR
       obtain rfl := e1.symm
       obtain ⟨mid, d4, hx⟩ : ∃ mid d4, partitionEqual ltInt d a b (p) = (mid, d4) := ⟨_, _, rfl⟩
       rw [hx]
       have q := round_eq swo_ltInt (partitionEqual_holds ltInt) (by omega) (by omega) (by omega) (by omega) hB (by simpa using hnl) hx
       have qa := q.1
       exact ⟨(mid, b, limit, true, wp, d4, _), ⟨q.2.1, hb, by dsimp only; omega, by dsimp only; omega, q.2.2.1.trans hs1, q.2.2.2.1, hle, fun R h1 h2 => hfin R (q.2.2.2.2 R h1 h2).1 (q.2.2.2.2 R h1 h2).2⟩, by dsimp only; omega, ⟨⟨rfl, rfl, rfl, rfl, rfl, rfl, trivial⟩, trivial, rfl, rfl⟩⟩
      ·refine cOw (partition_spec (pivot := p) hs1 (by omega) (by omega) hb hn) fun v μ6 h' hle' hap hR => ?_
       obtain ⟨⟨ap, rfl⟩, e1, rfl⟩ := hR
       obtain rfl := e1.symm
       obtain ⟨mid, ap', d4, hx⟩ : ∃ mid ap' d4, partition ltInt d a b (p) = (mid, ap', d4) := ⟨_, _, _, rfl⟩
       rw [hx]
       have w_ := round_part swo_ltInt (partition_holds ltInt) (by omega) (by omega) (by omega) hB hx
       obtain ⟨q1, q2, q3, q4, q5, q6, q7⟩ := w_
       refine nEq (x := ((mid - a : Nat) : Int)) (by rw [wrap64 (by omega) (by omega)]; omega) ?_
       refine nEq (x := ((b - mid : Nat) : Int)) (by rw [wrap64 (by omega) (by omega)]; omega) ?_
       refine need_intro (by decide) ?_
       refine nEq (x := (((b - a) / 8 : Nat) : Int)) (by rw [Int.tdiv_eq_ediv_of_nonneg (by omega), wrap64 (by omega) (by omega)]; omega) ?_
       refine ifd (fun hlt => ?_) (fun hlt => ?_)
       ·refine cOw (ih a mid (limit) d4 _ (by omega) (by omega) (by omega) (q3.trans hs1) (by omega) q4) fun v μ7 h' hle7 hap hR => ?_
        obtain ⟨rfl, L, g1, g2, rfl⟩ := hR
        have w_ := q6 L g1 g2
        obtain ⟨g3, g4⟩ := w_
        refine nEq (x := ((mid + 1 : Nat) : Int)) (by rw [wrap64 (by omega) (by omega)]; omega) ?_
        exact ⟨(mid + 1, b, limit, _, ap, L, μ7), ⟨by dsimp only; omega, hb, by dsimp only; omega, by dsimp only; omega, g1.1.trans (q3.trans hs1), g3, hle.trans hle7, fun R h1 h2 => hfin R (g4 R h1 h2).1 (g4 R h1 h2).2⟩, by dsimp only; omega, ⟨⟨rfl, rfl, rfl, rfl, rfl, rfl, trivial⟩, trivial, rfl, rfl⟩⟩
       ·refine nEq (x := ((mid + 1 : Nat) : Int)) (by rw [wrap64 (by omega) (by omega)]; omega) ?_
        refine cOw (ih (mid + 1) b (limit) d4 _ (by omega) (by omega) (by omega) (q3.trans hs1) (by omega) q5) fun v μ7 h' hle7 hap hR => ?_
        obtain ⟨rfl, L, g1, g2, rfl⟩ := hR
        have w_ := q7 L g1 g2
        obtain ⟨g3, g4⟩ := w_
        exact ⟨(a, mid, limit, _, ap, L, μ7), ⟨by dsimp only; omega, by dsimp only; omega, by dsimp only; omega, by dsimp only; omega, g1.1.trans (q3.trans hs1), g3, hle.trans hle7, fun R h1 h2 => hfin R (g4 R h1 h2).1 (g4 R h1 h2).2⟩, by dsimp only; omega, ⟨⟨rfl, rfl, rfl, rfl, rfl, rfl, trivial⟩, trivial, rfl, rfl⟩⟩
     ·refine cOw (partition_spec (pivot := p) hs1 (by omega) (by omega) hb hn) fun v μ6 h' hle' hap hR => ?_
      obtain ⟨⟨ap, rfl⟩, e1, rfl⟩ := hR
      obtain rfl := e1.symm
      obtain ⟨mid, ap', d4, hx⟩ : ∃ mid ap' d4, partition ltInt d a b (p) = (mid, ap', d4) := ⟨_, _, _, rfl⟩
      rw [hx]
      have w_ := round_part swo_ltInt (partition_holds ltInt) (by omega) (by omega) (by omega) hB hx
      obtain ⟨q1, q2, q3, q4, q5, q6, q7⟩ := w_
      refine nEq (x := ((mid - a : Nat) : Int)) (by rw [wrap64 (by omega) (by omega)]; omega) ?_
      refine nEq (x := ((b - mid : Nat) : Int)) (by rw [wrap64 (by omega) (by omega)]; omega) ?_
      refine need_intro (by decide) ?_
      refine nEq (x := (((b - a) / 8 : Nat) : Int)) (by rw [Int.tdiv_eq_ediv_of_nonneg (by omega), wrap64 (by omega) (by omega)]; omega) ?_
      refine ifd (fun hlt => ?_) (fun hlt => ?_)
      ·refine cOw (ih a mid (limit) d4 _ (by omega) (by omega) (by omega) (q3.trans hs1) (by omega) q4) fun v μ7 h' hle7 hap hR => ?_
       obtain ⟨rfl, L, g1, g2, rfl⟩ := hR
       have w_ := q6 L g1 g2
       obtain ⟨g3, g4⟩ := w_
       refine nEq (x := ((mid + 1 : Nat) : Int)) (by rw [wrap64 (by omega) (by omega)]; omega) ?_
       exact ⟨(mid + 1, b, limit, _, ap, L, μ7), ⟨by dsimp only; omega, hb, by dsimp only; omega, by dsimp only; omega, g1.1.trans (q3.trans hs1), g3, hle.trans hle7, fun R h1 h2 => hfin R (g4 R h1 h2).1 (g4 R h1 h2).2⟩, by dsimp only; omega, ⟨⟨rfl, rfl, rfl, rfl, rfl, rfl, trivial⟩, trivial, rfl, rfl⟩⟩
      ·refine nEq (x := ((mid + 1 : Nat) : Int)) (by rw [wrap64 (by omega) (by omega)]; omega) ?_
       refine cOw (ih (mid + 1) b (limit) d4 _ (by omega) (by omega) (by omega) (q3.trans hs1) (by omega) q5) fun v μ7 h' hle7 hap hR => ?_
       obtain ⟨rfl, L, g1, g2, rfl⟩ := hR
       have w_ := q7 L g1 g2
       obtain ⟨g3, g4⟩ := w_
       exact ⟨(a, mid, limit, _, ap, L, μ7), ⟨by dsimp only; omega, by dsimp only; omega, by dsimp only; omega, by dsimp only; omega, g1.1.trans (q3.trans hs1), g3, hle.trans hle7, fun R h1 h2 => hfin R (g4 R h1 h2).1 (g4 R h1 h2).2⟩, by dsimp only; omega, ⟨⟨rfl, rfl, rfl, rfl, rfl, rfl, trivial⟩, trivial, rfl, rfl⟩⟩
   ·refine ifd (fun ha0 => ?_) (fun ha0 => ?_)
    ·refine nEq (x := ((a - 1 : Nat) : Int)) (by rw [wrap64 (by omega) (by omega)]; omega) ?_
     refine idxI (a - 1) (by omega) (by omega) ?_
     refine rdI (by omega) ?_
     refine idxI (p) (by omega) (by omega) ?_
     refine rdI (by omega) ?_
     refine cGv (Less_spec _ _) ?_
     refine iIn (fun hnl => ?_) (fun hnl => ?_)
     ·refine cOw (partitionEqual_spec (pivot := p) hs1 (by omega) (by omega) hb hn) fun v μ6 h' hle' hap hR => ?_
      obtain ⟨rfl, e1, rfl⟩ := hR
      obtain rfl := e1.symm
      obtain ⟨mid, d4, hx⟩ : ∃ mid d4, partitionEqual ltInt d a b (p) = (mid, d4) := ⟨_, _, rfl⟩
      rw [hx]
      have q := round_eq swo_ltInt (partitionEqual_holds ltInt) (by omega) (by omega) (by omega) (by omega) hB (by simpa using hnl) hx
      have qa := q.1
      exact ⟨(mid, b, limit, true, wp, d4, _), ⟨q.2.1, hb, by dsimp only; omega, by dsimp only; omega, q.2.2.1.trans hs1, q.2.2.2.1, hle, fun R h1 h2 => hfin R (q.2.2.2.2 R h1 h2).1 (q.2.2.2.2 R h1 h2).2⟩, by dsimp only; omega, ⟨⟨rfl, rfl, rfl, rfl, rfl, rfl, trivial⟩, trivial, rfl, rfl⟩⟩
     ·refine cOw (partition_spec (pivot := p) hs1 (by omega) (by omega) hb hn) fun v μ6 h' hle' hap hR => ?_
      obtain ⟨⟨ap, rfl⟩, e1, rfl⟩ := hR
      obtain rfl := e1.symm
      obtain ⟨mid, ap', d4, hx⟩ : ∃ mid ap' d4, partition ltInt d a b (p) = (mid, ap', d4) := ⟨_, _, _, rfl⟩
      rw [hx]
      have w_ := round_part swo_ltInt (partition_holds ltInt) (by omega) (by omega) (by omega) hB hx
      obtain ⟨q1, q2, q3, q4, q5, q6, q7⟩ := w_
      refine nEq (x := ((mid - a : Nat) : Int)) (by rw [wrap64 (by omega) (by omega)]; omega) ?_
      refine nEq (x := ((b - mid : Nat) : Int)) (by rw [wrap64 (by omega) (by omega)]; omega) ?_
      refine need_intro (by decide) ?_
      refine nEq (x := (((b - a) / 8 : Nat) : Int)) (by rw [Int.tdiv_eq_ediv_of_nonneg (by omega), wrap64 (by omega) (by omega)]; omega) ?_
      refine ifd (fun hlt => ?_) (fun hlt => ?_)
      ·refine cOw (ih a mid (limit) d4 _ (by omega) (by omega) (by omega) (q3.trans hs1) (by omega) q4) fun v μ7 h' hle7 hap hR => ?_
       obtain ⟨rfl, L, g1, g2, rfl⟩ := hR
       have w_ := q6 L g1 g2
       obtain ⟨g3, g4⟩ := w_
       refine nEq (x := ((mid + 1 : Nat) : Int)) (by rw [wrap64 (by omega) (by omega)]; omega) ?_
       exact ⟨(mid + 1, b, limit, _, ap, L, μ7), ⟨by dsimp only; omega, hb, by dsimp only; omega, by dsimp only; omega, g1.1.trans (q3.trans hs1), g3, hle.trans hle7, fun R h1 h2 => hfin R (g4 R h1 h2).1 (g4 R h1 h2).2⟩, by dsimp only; omega, ⟨⟨rfl, rfl, rfl, rfl, rfl, rfl, trivial⟩, trivial, rfl, rfl⟩⟩
      ·refine nEq (x := ((mid + 1 : Nat) : Int)) (by rw [wrap64 (by omega) (by omega)]; omega) ?_
       refine cOw (ih (mid + 1) b (limit) d4 _ (by omega) (by omega) (by omega) (q3.trans hs1) (by omega) q5) fun v μ7 h' hle7 hap hR => ?_
       obtain ⟨rfl, L, g1, g2, rfl⟩ := hR
       have w_ := q7 L g1 g2
       obtain ⟨g3, g4⟩ := w_
       exact ⟨(a, mid, limit, _, ap, L, μ7), ⟨by dsimp only; omega, by dsimp only; omega, by dsimp only; omega, by dsimp only; omega, g1.1.trans (q3.trans hs1), g3, hle.trans hle7, fun R h1 h2 => hfin R (g4 R h1 h2).1 (g4 R h1 h2).2⟩, by dsimp only; omega, ⟨⟨rfl, rfl, rfl, rfl, rfl, rfl, trivial⟩, trivial, rfl, rfl⟩⟩
    ·refine cOw (partition_spec (pivot := p) hs1 (by omega) (by omega) hb hn) fun v μ6 h' hle' hap hR => ?_
     obtain ⟨⟨ap, rfl⟩, e1, rfl⟩ := hR
     obtain rfl := e1.symm
     obtain ⟨mid, ap', d4, hx⟩ : ∃ mid ap' d4, partition ltInt d a b (p) = (mid, ap', d4) := ⟨_, _, _, rfl⟩
     rw [hx]
     have w_ := round_part swo_ltInt (partition_holds ltInt) (by omega) (by omega) (by omega) hB hx
     obtain ⟨q1, q2, q3, q4, q5, q6, q7⟩ := w_
     refine nEq (x := ((mid - a : Nat) : Int)) (by rw [wrap64 (by omega) (by omega)]; omega) ?_
     refine nEq (x := ((b - mid : Nat) : Int)) (by rw [wrap64 (by omega) (by omega)]; omega) ?_
     refine need_intro (by decide) ?_
     refine nEq (x := (((b - a) / 8 : Nat) : Int)) (by rw [Int.tdiv_eq_ediv_of_nonneg (by omega), wrap64 (by omega) (by omega)]; omega) ?_
     refine ifd (fun hlt => ?_) (fun hlt => ?_)
     ·refine cOw (ih a mid (limit) d4 _ (by omega) (by omega) (by omega) (q3.trans hs1) (by omega) q4) fun v μ7 h' hle7 hap hR => ?_
      obtain ⟨rfl, L, g1, g2, rfl⟩ := hR
      have w_ := q6 L g1 g2
      obtain ⟨g3, g4⟩ := w_
      refine nEq (x := ((mid + 1 : Nat) : Int)) (by rw [wrap64 (by omega) (by omega)]; omega) ?_
      exact ⟨(mid + 1, b, limit, _, ap, L, μ7), ⟨by dsimp only; omega, hb, by dsimp only; omega, by dsimp only; omega, g1.1.trans (q3.trans hs1), g3, hle.trans hle7, fun R h1 h2 => hfin R (g4 R h1 h2).1 (g4 R h1 h2).2⟩, by dsimp only; omega, ⟨⟨rfl, rfl, rfl, rfl, rfl, rfl, trivial⟩, trivial, rfl, rfl⟩⟩
     ·refine nEq (x := ((mid + 1 : Nat) : Int)) (by rw [wrap64 (by omega) (by omega)]; omega) ?_
      refine cOw (ih (mid + 1) b (limit) d4 _ (by omega) (by omega) (by omega) (q3.trans hs1) (by omega) q5) fun v μ7 h' hle7 hap hR => ?_
      obtain ⟨rfl, L, g1, g2, rfl⟩ := hR
      have w_ := q7 L g1 g2
      obtain ⟨g3, g4⟩ := w_
      exact ⟨(a, mid, limit, _, ap, L, μ7), ⟨by dsimp only; omega, by dsimp only; omega, by dsimp only; omega, by dsimp only; omega, g1.1.trans (q3.trans hs1), g3, hle.trans hle7, fun R h1 h2 => hfin R (g4 R h1 h2).1 (g4 R h1 h2).2⟩, by dsimp only; omega, ⟨⟨rfl, rfl, rfl, rfl, rfl, rfl, trivial⟩, trivial, rfl, rfl⟩⟩
end
end Go.Vx
namespace Go.Vx
open Go.Proofs Classical
open Go.Sort
section
variable {h0 μ : Mem} {r : Nat} {ty : TypeId} {rest : List Value}
theorem Sort_spec {n cap : Nat} {d : Array Int} (hr : h0 r = none) (hd : d.size = n) (hn : n ≤ 1000000000000) :
  SpecH Tryz.prog 252 [.slice (some ⟨r, 0, none⟩) n cap] μ (RowI h0 r ty rest d) fun v _μ' h' => v = .tuple #[] ∧ h' = RowI h0 r ty rest (d.toList.mergeSort fun x y => decide (x ≤ y)).toArray := by
 refine SpecH.mk [] Tryz.func252 (by kernel_rfl) ?_
 refine nEq (x := (n : Int)) (by
  show (n : Int) % 18446744073709551616 = _
  omega) ?_
 refine cGv (Len_spec (by omega)) ?_
 have hL : bitsLen n ≤ 40 := (bitsLen_le_iff n 40).2 (by omega)
 refine cOw (pdqsort_spec hr hn (n + 1) 0 n (bitsLen n) d μ (by omega) (by omega) (Nat.le_refl _) hd (by omega) (.inl rfl)) fun v μ' h' hle hap hR => ?_
 obtain ⟨rfl, d', p1, p2, rfl⟩ := hR
 have e := sorted_unique_holds (lt := ltInt) swo_ltInt (fun x y h1 h2 => by
  simp only [ltInt, decide_eq_false_iff_not] at h1 h2
  omega) d d' (by rw [hd]; exact p1) (by rw [hd]; exact p2)
 have e2 : (fun x y => !ltInt y x) = fun x y : Int => decide (x ≤ y) := by
  funext x y
  simp only [ltInt]
  by_cases h : x ≤ y
  ·rw [decide_eq_true h, decide_eq_false (by omega)]; rfl
  ·rw [decide_eq_false h, decide_eq_true (by omega)]; rfl
 rw [e2] at e
 refine rPl ⟨rfl, ?_⟩
 rw [← e]
theorem Ints_spec {n cap : Nat} {d : Array Int} (hr : h0 r = none) (hd : d.size = n) (hn : n ≤ 1000000000000) :
  SpecH Tryz.prog 238 [.slice (some ⟨r, 0, none⟩) n cap] μ (RowI h0 r ty rest d) fun v _μ' h' => v = .tuple #[] ∧ h' = RowI h0 r ty rest (d.toList.mergeSort fun x y => decide (x ≤ y)).toArray := by
 refine SpecH.mk [] Tryz.func238 (by kernel_rfl) ?_
 refine cOw (Sort_spec hr hd hn) fun v μ' h' hle hap hR => ?_
 obtain ⟨rfl, rfl⟩ := hR
 exact rPl ⟨rfl, rfl⟩
end
end Go.Vx
namespace Go.Vx
open Go.Proofs Classical
open Go.Sort
theorem keys_ints {l : List (Value × Value)} (h : MapOk IntKey l) : ∃ ks : List Int, l.map Prod.fst = ints ks ∧ ks.Nodup := by
 have h1 : ∀ (l : List (Value × Value)), (∀ p ∈ l, IntKey p.1) → ∃ ks : List Int, l.map Prod.fst = ints ks := fun l => by
  induction l with
  | nil => intro _; exact ⟨[], rfl⟩
  | cons p l ih =>
   intro h
   have w_ := ih fun q hq => h q (by simp [hq])
   obtain ⟨ks, hks⟩ := w_
   have w_ := h p (by simp)
   obtain ⟨n, hn⟩ := w_
   exact ⟨n :: ks, by rw [List.map_cons, hks, hn]; rfl⟩
 have w_ := h1 l h.keys
 obtain ⟨ks, hks⟩ := w_
 refine ⟨ks, hks, ?_⟩
 have hn := h.nodup
 rw [hks, ints] at hn
 exact List.Pairwise.of_map (S := fun a b => a ≠ b) _ (fun a b hab e => hab (by rw [e])) hn
theorem mget_keys {l : List (Value × Value)} {ks : List Int} (h : l.map Prod.fst = ints ks) (n : Int) : (mget l (.int .i64 n)).isSome ↔ n ∈ ks := by
 have e : n ∈ ks ↔ Value.int .i64 n ∈ l.map Prod.fst := by
  rw [h, ints, List.mem_map]
  exact ⟨fun k => ⟨n, k, rfl⟩, fun ⟨m, k, e⟩ => by cases e; exact k⟩
 rw [e]
 clear e h
 induction l with
 | nil => simp [mget]
 | cons p l ih =>
  obtain ⟨a, v⟩ := p
  rw [mget]
  by_cases h : a = .int .i64 n
  ·rw [if_pos h]; simp [h]
  ·rw [if_neg h]
   refine ih.trans ?_
   simp only [List.map_cons, List.mem_cons]
   exact ⟨.inr, fun k => k.elim (fun e => absurd e.symm h) id⟩
theorem nodup_len {N : Nat} {l : List Nat} (h : l.Nodup) (hb : ∀ j ∈ l, j < N) : l.length ≤ N := by
 have h1 : (l.map fun j : Nat => (j : Int)).Nodup := List.Pairwise.map (S := fun a b => a ≠ b) _ (fun a b hab e => hab (by omega)) h
 have := nodup_range (N := N) h1 fun n hn => by
  have w_ := List.mem_map.1 hn
  obtain ⟨j, hj, rfl⟩ := w_
  have := hb j hj; omega
 rwa [List.length_map] at this
theorem ints_own : ∀ l : List Int, OwnRows 1 (l.map D.i) (ints l) Mem.nil
 | [] => OwnRows.nil 1
 | n :: l => ⟨by
   have := (ints_own l).own
   exact OwnS.int this, by
   intro x hx
   have w_ := List.mem_map.1 hx
   obtain ⟨m, _, rfl⟩ := w_
   rfl, by simp [ints]⟩
theorem srt_lt (D : List Int) (h : D.Nodup) : (D.mergeSort fun x y => decide (x ≤ y)).Pairwise (· < ·) := by
 have h1 := List.pairwise_mergeSort (le := fun x y : Int => decide (x ≤ y)) (fun a b c h1 h2 => by simp at *; omega) (fun a b => by simp; omega) D
 have h2 : (D.mergeSort fun x y => decide (x ≤ y)).Nodup := ((List.mergeSort_perm D _).nodup_iff).2 h
 rw [List.nodup_iff_pairwise_ne] at h2
 exact List.Pairwise.imp (fun ⟨a, b⟩ => by simp at a; omega) (h1.and h2)
theorem getD_at {ks : List Int} {j : Nat} (h : j < ks.length) : ks[j]? = some (ks.getD j 0) := by
 rw [List.getD_eq_getElem?_getD, List.getElem?_eq_getElem h]; rfl
theorem picked {ks : List Int} (hnd : ks.Nodup) {seen : List Nat} (hsn : seen.Nodup) (hsl : ∀ j ∈ seen, j < ks.length) : (seen.map fun j => ks.getD j 0).Nodup := by
 rw [List.nodup_iff_pairwise_ne, List.pairwise_map]
 rw [List.nodup_iff_pairwise_ne] at hsn
 refine hsn.imp_of_mem fun {a b} ha hb hab e => hab ?_
 have h1 := idx_at hnd (getD_at (hsl a ha))
 have h2 := idx_at hnd (getD_at (hsl b hb))
 rw [e] at h1
 omega
theorem picked_mem {ks : List Int} {seen : List Nat} (hsl : ∀ j ∈ seen, j < ks.length) (hall : ∀ j, j < ks.length → j ∈ seen) (n : Int) : n ∈ (seen.map fun j => ks.getD j 0) ↔ n ∈ ks := by
 rw [List.mem_map]
 constructor
 ·rintro ⟨j, hj, rfl⟩
  exact List.mem_of_getElem? (getD_at (hsl j hj))
 ·intro h
  have w_ := List.mem_iff_getElem?.1 h
  obtain ⟨j, hj⟩ := w_
  have hjl := (List.getElem?_eq_some_iff.1 hj).1
  refine ⟨j, hall j hjl, ?_⟩
  rw [getD_at hjl] at hj
  exact Option.some.inj hj
section
variable {μ h : Mem}
theorem sortedInts_spec {m : Nat} {l : List (Value × Value)} (hm : h m = some (mapO l)) (hk : MapOk IntKey l) (hn : l.length ≤ 1000000) :
  SpecH Tryz.prog 217 [.map (some m)] μ h fun v μ' h' => h' = h ∧ ∃ xs : List Int, (∀ n, n ∈ xs ↔ (mget l (.int .i64 n)).isSome) ∧ xs.Pairwise (· < ·) ∧ Fresh μ μ' (.sl 1 (xs.map D.i)) v := by
 have w_ := keys_ints hk
 obtain ⟨ks, hks, hnd⟩ := w_
 have hkl : ks.length = l.length := by
  have := congrArg List.length hks
  simpa [ints] using this.symm
 refine SpecH.mk [] Tryz.func217 (by kernel_rfl) ?_
 intro r5
 refine mlen_intro l hm ?_
 intro ri hmi hoi
 have hne : m ≠ ri := ne_of_none hm hoi
 refine lIn (fun p : List Nat × Option Nat × Nat × List Value => p.2.1 ≠ none ∧ p.1.Nodup ∧ (∀ j ∈ p.1, j < l.length) ∧ p.2.2.2 = ints (p.1.map fun j => ks.getD j 0))
  (fun (seen, b, c, ys) => ⟨[(3, .row 0 b ys.length c), (7, .val (.pointer (some ⟨ri, 0, none⟩)))], [(0, some (.row b c 3 1 ys))], 1, μ, h.set ri (iterO m l.length seen l.length)⟩) (fun p => l.length - p.1.length)
  ([], some r5, 0, []) ⟨by simp, by simp, by simp, rfl⟩ (fun (_, _, _, _) => ⟨rfl, rfl⟩) ⟨⟨rfl, rfl, trivial⟩, ⟨rfl, trivial⟩, rfl, rfl⟩ ?_
 rintro ⟨seen, b, c, ys⟩ ⟨hb, hsn, hsl, hys⟩
 dsimp only at hb hsn hsl hys
 have hslen := nodup_len hsn hsl
 refine next_intro m seen l.length l (Mem.set_at _ _ _) ((Mem.set_ne hne).trans hm) (Nat.le_refl _) (fun hall => ?_) (fun j k v hj hns => ?_)
 rotate_left
 ·have hjl := (List.getElem?_eq_some_iff.1 hj).1
  have hkj : k = .int .i64 (ks.getD j 0) := by
   have h1 : (l.map Prod.fst)[j]? = some k := by simp [hj]
   rw [hks, ints, List.getElem?_map] at h1
   have h2 : j < ks.length := by omega
   rw [List.getElem?_eq_getElem h2] at h1
   simp only [Option.map_some, Option.some.injEq] at h1
   rw [← h1, List.getD_eq_getElem?_getD, List.getElem?_eq_getElem h2]; rfl
  subst hkj
  rw [Mem.set_set]
  refine iIn (fun _ => ?_) (fun h => nomatch h)
  refine ent_intro m l.length seen j l _ v (Mem.set_at _ _ _) ((Mem.set_ne hne).trans hm) hj ?_
  intro r6
  have hyl : ys.length = seen.length := by rw [hys]; simp [ints]
  refine gIn ?_ ?_ fun b' c' hb' => ?_
  ·show (ys.length + 1) * 8 ≤ _; omega
  ·exact Nat.le_trans (m := 100000000) (show ys.length + 1 ≤ _ by omega) (by decide)
  have hsl2 : ∀ i ∈ seen ++ [j], i < l.length := fun i hi => by
   rcases List.mem_append.1 hi with hi | hi
   ·exact hsl i hi
   ·rw [List.mem_singleton] at hi; subst hi; exact hjl
  have hsn2 : (seen ++ [j]).Nodup := by
   rw [List.nodup_append]
   refine ⟨hsn, by simp, fun a ha b hb e => ?_⟩
   rw [List.mem_singleton] at hb
   subst hb; subst e; exact hns ha
  have hs3 := nodup_len hsn2 hsl2
  rw [List.length_append, List.length_singleton] at hs3
  exact ⟨(seen ++ [j], b', c', ys ++ [.int .i64 (ks.getD j 0)]), ⟨by
   dsimp only
   intro e
   have := hb' e
   simp at this, hsn2, hsl2, by dsimp only; rw [List.map_append, ints, List.map_append, hys]; rfl⟩, by dsimp only; rw [List.length_append, List.length_singleton]; omega, ⟨⟨rfl, rfl, trivial⟩, ⟨rfl, trivial⟩, rfl, rfl⟩⟩
 ·refine iIn (fun h => nomatch h) (fun _ => ?_)
  have hp := picked hnd hsn (by rw [hkl]; exact hsl)
  have hpm := picked_mem (by rw [hkl]; exact hsl) (by rw [hkl]; exact hall) (ks := ks) (seen := seen)
  have hDs : (seen.map (fun j => ks.getD j 0)).length = seen.length := by simp
  generalize seen.map (fun j => ks.getD j 0) = D at *
  subst hys
  have w_ := Option.ne_none_iff_exists'.1 hb
  obtain ⟨b0, rfl⟩ := w_
  have hDl : (ints D).length = D.length := by simp [ints]
  refine call_gen [] [0] (fun h => nomatch h) ?_
  intro h' hmem hgiven
  obtain ⟨hb0, hlen, hcap, hone, cs, rfl, hcs, htake⟩ := hgiven
  replace hb0 : (Mem.set h ri (iterO m l.length seen l.length)) b0 = none := hb0
  replace hmem : μ b0 = none := hmem b0 rfl
  obtain ⟨rest, rfl⟩ : ∃ rest, cs = ints D ++ rest := by
   refine ⟨cs.drop ((ints D).length * 1), ?_⟩
   rw [ints_flat] at htake
   conv => lhs; rw [← List.take_append_drop ((ints D).length * 1) cs, htake]
  have hD6 : D.length ≤ 1000000000000 := by omega
  refine own_go (Ints_spec (h0 := h.set ri (iterO m l.length seen l.length)) (r := b0) (ty := 3) (rest := rest) (d := D.toArray) hb0 (by simp [ints]) (by omega)) fun v μ' h'' hle hap hR => ?_
  obtain ⟨rfl, rfl⟩ := hR
  have f1 : (D.toArray.toList.mergeSort fun x y => decide (x ≤ y)).Pairwise (· < ·) := srt_lt D hp
  have f2 : ∀ n, n ∈ (D.toArray.toList.mergeSort fun x y => decide (x ≤ y)) ↔ n ∈ D := fun n => (List.mergeSort_perm D _).mem_iff
  have f3 : (D.toArray.toList.mergeSort fun x y => decide (x ≤ y)).length = D.length := (List.mergeSort_perm D _).length_eq
  generalize (D.toArray.toList.mergeSort fun x y => decide (x ≤ y)) = S at *
  have hbr : b0 ≠ ri := fun e => by subst e; rw [Mem.set_at] at hb0; cases hb0
  have hhb : h b0 = none := by rwa [Mem.set_ne hbr] at hb0
  have hb1 : μ' b0 = none := by
   cases e : μ' b0 with
   | none => rfl
   | some o => have := hap b0 (by simp [e]); rw [RowI, Mem.set_at] at this; cases this
  have hSl : (ints S).length = S.length := by simp [ints]
  refine ret_own ((Mem.nil.set ri (iterO m l.length seen l.length)).set b0 (.cells (List.toArray ([] ++ (S.toArray.toList.map (Value.int .i64) ++ rest))) 3 (0, 0))) h ?_ ⟨rfl, S, fun n => (f2 n).trans ((hpm n).trans (mget_keys hks n).symm), f1, ?_⟩
  ·show Parts (RowI (h.set ri (iterO m l.length seen l.length)) b0 3 rest S.toArray) _ h
   replace hoi : h ri = none := hoi
   intro x
   by_cases h1 : x = b0
   ·subst h1; exact .inl ⟨by rw [RowI, Mem.set_at, Mem.set_at], hhb⟩
   ·by_cases h2 : x = ri
    ·subst h2; exact .inl ⟨by rw [RowI, Mem.set_ne h1, Mem.set_ne h1, Mem.set_at, Mem.set_at], hoi⟩
    ·exact .inr ⟨by rw [RowI, Mem.set_ne h1, Mem.set_ne h2], by rw [Mem.set_ne h1, Mem.set_ne h2]; rfl⟩
  ·have F := Fresh.ofRow (μ := μ) (μ1 := μ) (μ' := μ'.join ((Mem.nil.set ri (iterO m l.length seen l.length)).set b0 (.cells (List.toArray ([] ++ (S.toArray.toList.map (Value.int .i64) ++ rest))) 3 (0, 0)))) (b := some b0) (cap := c) (ints_own S) (fun _ _ h => nomatch h) (fun _ h => absurd rfl h) (Mem.Le.refl _) (hle.trans (Mem.le_join _ _)) (fun r e => by cases e; exact hmem)
    ⟨by omega, fun x hx => by
     have w_ := List.mem_map.1 hx
     obtain ⟨n, _, rfl⟩ := w_
     exact ⟨rfl, by simp [vcells, Value.oneCell']⟩, _, _, by rw [Mem.join_get, hb1, Mem.set_at], by
      simp only [List.length_append, ints, List.length_map] at hcs
      simp [f3]; omega, by rw [ints_flat]; simp [ints]⟩ (Nat.le_trans (m := 1000000) (by omega) (by decide))
   have e : (ints D).length = (ints S).length := by omega
   show Fresh μ _ (.sl 1 (S.map Go.Vx.D.i)) (.slice _ (ints D).length c)
   rw [e]; exact F
end
end Go.Vx
namespace Go.Vx
open Go.Proofs Classical
mutual
def Gl.all : Gl → List Gl
 | .mk k s ts gs => .mk k s ts gs :: Gl.alls gs
def Gl.alls : List Gl → List Gl
 | [] => []
 | g :: r => g.all ++ Gl.alls r
end
theorem Gl.alls_map : ∀ l : List Gl, Gl.alls l = l.flatMap Gl.all
 | [] => rfl
 | g :: r => by simp [Gl.alls, Gl.alls_map r]
theorem Gl.all_eq (g : Gl) : g.all = g :: g.goals.flatMap Gl.all := by
 cases g
 rw [Gl.all, Gl.alls_map]
 rfl
theorem Gl.Sh.all : ∀ (g : Gl), g.Sh → ∀ x ∈ g.all, x.Sh :=
 Gl.ind fun g ih h x hx => by
  rw [Gl.all_eq] at hx
  rcases List.mem_cons.1 hx with rfl | hx
  ·exact h
  ·have w_ := List.mem_flatMap.1 hx
   obtain ⟨y, hy, hx⟩ := w_
   exact ih y hy (h.sub y hy) x hx
noncomputable def Gl.tvars (g : Gl) : List Int := (g.terms.map Tm.toT).flatMap T.vars
noncomputable def Gl.vars (g : Gl) : List Int := g.all.flatMap Gl.tvars
theorem foldl_snoc {α : Type} : ∀ (l s : List α), l.foldl (fun s n => s ++ [n]) s = s ++ l
 | [], s => by simp
 | a :: l, s => by rw [List.foldl_cons, foldl_snoc l]; simp
theorem foldl_app {α β : Type} (f : α → List β) : ∀ (l : List α) (s : List β), l.foldl (fun s x => s ++ f x) s = s ++ l.flatMap f
 | [], s => by simp
 | a :: l, s => by rw [List.foldl_cons, foldl_app f l]; simp
theorem toTs_tm' {xs : List T} : (xs.map T.tm).map Tm.toT = xs := by
 rw [List.map_map]
 exact (List.map_congr_left fun x _ => T.toT_tm x).trans (List.map_id _)
section
variable {μ : Mem}
theorem eachGoal_rel {S : Type} (J : S → Mem → Prop) (step : S → Gl → S) (Q : Gl → Prop) {k : FuncId} {caps : List Value}
  (hc : ∀ s h g v, Q g → RepV μ g.d v → J s h → SpecH Tryz.prog k (v :: caps) μ h fun r μ' h' => r = .tuple #[] ∧ μ' = μ ∧ J (step s g) h') :
  ∀ (g : Gl) {v : Value} (s : S) (h : Mem), RepV μ g.d v → (∀ x ∈ g.all, Q x) → J s h → SpecH Tryz.prog 186 [v, .func (.func k) #[] caps.toArray] μ h fun r μ' h' => r = .tuple #[] ∧ μ' = μ ∧ J (g.all.foldl step s) h' :=
 Gl.ind fun g ih v s h hv hq hj => by
  have w_ := Gl.inv hv
  obtain ⟨p, rfl, hts, hgs⟩ := w_
  have hn := maxLen_le hgs.max
  rw [Gl.all_eq] at hq ⊢
  rw [List.foldl_cons]
  refine SpecH.mk [] Tryz.func186 (by kernel_rfl) ?_
  intro r
  refine cOw (hc s h g _ (hq g (by simp)) hv hj) fun v μ' h' hle hap hR => ?_
  obtain ⟨rfl, e2, hj'⟩ := hR
  obtain rfl := e2.symm
  refine lIn (fun p : Nat × Mem => p.1 ≤ g.goals.length ∧ J (((g.goals.take p.1).flatMap Gl.all).foldl step (step s g)) p.2)
   (fun (i, h) => ⟨[(1, .val (.func (.func k) #[] caps.toArray)), (10, .val (.slice p.2.1 g.goals.length p.2.2)), (11, .val (.int .i64 g.goals.length)), (12, .val (.int .i64 i))], [], 1, μ, h⟩) (fun p => g.goals.length - p.1)
   (0, h') ⟨by simp, by simpa using hj'⟩ (fun (_, _) => ⟨rfl, rfl⟩) ⟨⟨rfl, rfl, rfl, rfl, trivial⟩, trivial, rfl, rfl⟩ ?_
  rintro ⟨i, h1⟩ ⟨hi, hj1⟩
  dsimp only at hi hj1
  refine ifd (fun hlt => ?_) (fun hlt => ?_)
  ·have w_ := aSo (l := g.goals) (i := i) (by omega)
   obtain ⟨t, ht⟩ := w_
   have w_ := Gl.elem hgs ht
   obtain ⟨ad, p3, hel, hr⟩ := w_
   refine eIn hel ?_
   intro r4
   refine cOw (ih t (mAt ht) _ h1 hr (fun x hx => hq x (List.mem_cons_of_mem _ (List.mem_flatMap.2 ⟨t, mAt ht, hx⟩))) hj1) fun v μ' h' hle hap hR => ?_
   obtain ⟨rfl, e2, hj2⟩ := hR
   obtain rfl := e2.symm
   refine num64 (by omega) (by omega) ⟨(i + 1, h'), ⟨by dsimp only; omega, ?_⟩, by dsimp only; omega, ⟨⟨rfl, rfl, rfl, rfl, trivial⟩, trivial, rfl, rfl⟩⟩
   dsimp only
   rw [List.take_add_one, ht, Option.toList_some, List.flatMap_append, List.foldl_append]
   simpa using hj2
  ·obtain rfl : i = g.goals.length := by omega
   rw [List.take_length] at hj1
   exact rPl ⟨rfl, rfl, hj1⟩
def KeysInv (rm : Nat) (s : List Int) (h : Mem) : Prop := ∃ r l, h rm = some (.cells #[.map (some r)] 213 (0, 0)) ∧ h r = some (mapO l) ∧ MapOk IntKey l ∧ ∀ n, (mget l (.int .i64 n)).isSome ↔ n ∈ s
theorem goalVars11_spec {rm : Nat} {s : List Int} {h : Mem} {n : Int} (H : KeysInv rm s h) : SpecH Tryz.prog 221 [.int .i64 n, .pointer (some ⟨rm, 0, none⟩)] μ h fun r μ' h' => r = .tuple #[] ∧ μ' = μ ∧ KeysInv rm (s ++ [n]) h' := by
 obtain ⟨r, l, h1, h2, hk, hg⟩ := H
 have e1 : rm ≠ r := ne_of_obj h1 h2 (by simp [mapO])
 refine SpecH.mk [] Tryz.func221 (by kernel_rfl) ?_
 refine oIn [.map (some r)] rfl (box_at h1) ?_
 refine upd_intro l h2 (hk.weaken (by rintro _ ⟨n, rfl⟩; rfl)) rfl ?_
 refine rPl ⟨rfl, rfl, r, _, ?_, Mem.set_at _ _ _, hk.int _, fun m => ?_⟩
 ·dsimp only; rw [Mem.set_ne e1]; exact h1
 ·rw [mget_int, List.mem_append, List.mem_singleton]
  by_cases e : m = n
  ·simp [e]
  ·rw [if_neg e, hg]; simp [e]
theorem goalVars1_spec {rm : Nat} {s : List Int} {h : Mem} {g : Gl} {v : Value} (hok : ∀ t ∈ g.terms, t.Ok) (hv : RepV μ g.d v) (H : KeysInv rm s h) : SpecH Tryz.prog 220 [v, .pointer (some ⟨rm, 0, none⟩)] μ h fun r μ' h' => r = .tuple #[] ∧ μ' = μ ∧ KeysInv rm (s ++ g.tvars) h' := by
 have w_ := Gl.inv hv
 obtain ⟨p, rfl, hts, hgs⟩ := w_
 have w_ := lift_ok hok
 obtain ⟨xs, hxs, hxo⟩ := w_
 have htv : g.tvars = xs.flatMap T.vars := by
  rw [Gl.tvars, hxs, List.map_map]
  congr 1
  exact (List.map_congr_left fun x _ => T.toT_tm x).trans (List.map_id _)
 rw [htv]
 rw [hxs, List.length_map] at hts ⊢
 have hn := maxLen_le hts.max
 refine SpecH.mk [] Tryz.func220 (by kernel_rfl) ?_
 intro r
 refine lIn (fun p : Nat × Mem => p.1 ≤ xs.length ∧ KeysInv rm (s ++ (xs.take p.1).flatMap T.vars) p.2)
  (fun (i, h) => ⟨[(1, .val (.pointer (some ⟨rm, 0, none⟩))), (6, .val (.slice p.1.1 xs.length p.1.2)), (7, .val (.int .i64 xs.length)), (8, .val (.int .i64 i))], [], 1, μ, h⟩) (fun p => xs.length - p.1)
  (0, h) ⟨by simp, by simpa using H⟩ (fun (_, _) => ⟨rfl, rfl⟩) ⟨⟨rfl, rfl, rfl, rfl, trivial⟩, trivial, rfl, rfl⟩ ?_
 rintro ⟨i, h1⟩ ⟨hi, hj1⟩
 dsimp only at hi hj1
 refine ifd (fun hlt => ?_) (fun hlt => ?_)
 ·have w_ := aSo (l := xs) (i := i) (by omega)
  obtain ⟨x, hx'⟩ := w_
  have w_ := Tm.elem (i := i) (t := x.tm) hts (by simp [hx'])
  obtain ⟨ad, p3, hel, hto⟩ := w_
  refine eIn hel ?_
  intro r4
  refine cOw (eachVar_rel (KeysInv rm) (fun s n => s ++ [n]) (fun _ _ => True) (fun s h n _ hj => goalVars11_spec hj) x _ h1 hto (fun _ _ _ _ => trivial) hj1) fun v μ' h' hle hap hR => ?_
  obtain ⟨rfl, e2, hj2⟩ := hR
  obtain rfl := e2.symm
  rw [foldl_snoc] at hj2
  refine num64 (by omega) (by omega) ⟨(i + 1, h'), ⟨by dsimp only; omega, ?_⟩, by dsimp only; omega, ⟨⟨rfl, rfl, rfl, rfl, trivial⟩, trivial, rfl, rfl⟩⟩
  dsimp only
  rw [List.take_add_one, hx', Option.toList_some, List.flatMap_append]
  simpa using hj2
 ·obtain rfl : i = xs.length := by omega
  rw [List.take_length] at hj1
  exact rPl ⟨rfl, rfl, hj1⟩
theorem Gl.vars_range {g : Gl} (h : g.Sh) : ∀ n ∈ g.vars, 0 ≤ n ∧ n ≤ 100000 := fun n hn => by
 have w_ := List.mem_flatMap.1 hn
 obtain ⟨x, hx, hn⟩ := w_
 have w_ := lift_ok (h.all g x hx).top.tm
 obtain ⟨xs, hxs, hxo⟩ := w_
 rw [Gl.tvars, hxs, toTs_tm'] at hn
 have w_ := List.mem_flatMap.1 hn
 obtain ⟨t, ht, hn⟩ := w_
 exact T.vars_range (hxo t ht).1 n hn
theorem goalVars_spec {g : Gl} {v : Value} (hS : g.Sh) (hv : RepV μ g.d v) : Spec Tryz.prog 185 [v] μ fun v μ' => ∃ xs : List Int, (∀ n, n ∈ xs ↔ n ∈ g.vars) ∧ xs.Pairwise (· < ·) ∧ Fresh μ μ' (.sl 1 (xs.map D.i)) v := by
 have w_ := Gl.invV hv
 obtain ⟨p, rfl⟩ := w_
 refine Spec.mkO [3, 4] Tryz.func185 (by kernel_rfl) ?_
 intro r
 intro rM hmM hoM r3 hm3 ho3
 refine sIn [.map none] 213 (Mem.set_at _ _ _) rfl (Nat.le_refl _) ?_
 dsimp only at hmM hoM hm3 ho3
 have n1 : rM ≠ r3 := fun e => by subst e; simp [Mem.set_get] at ho3
 generalize hh : Mem.set (Mem.set _ r3 _) r3 _ = h0
 have H0 : KeysInv r3 [] h0 := by
  subst hh
  refine ⟨rM, [], ?_, ?_, MapOk.nil, fun n => by simp [mget]⟩
  ·rw [Mem.set_at]; rfl
  ·dsimp only; rw [Mem.set_ne n1, Mem.set_ne n1, Mem.set_at]
 refine cOw (eachGoal_rel (KeysInv r3) (fun s g => s ++ g.tvars) (fun g => ∀ t ∈ g.terms, t.Ok) (fun s h g v hq hv hj => goalVars1_spec hq hv hj) g [] h0 hv (fun x hx => (Gl.Sh.all g hS x hx).top.tm) H0) fun v μ' h' hle hap hR => ?_
 obtain ⟨rfl, e2, hj⟩ := hR
 obtain rfl := e2.symm
 rw [foldl_app] at hj
 obtain ⟨r, l, h1, h2, hk, hg⟩ := hj
 have hlen : l.length ≤ 1000000 := by
  have w_ := keys_ints hk
  obtain ⟨ks, hks, hnd⟩ := w_
  have := nodup_range (N := 100001) hnd fun n hn => by
   have h3 := (hg n).1 ((mget_keys hks n).2 hn)
   have := Gl.vars_range hS n (by simpa [Gl.vars] using h3)
   omega
  have h4 := congrArg List.length hks
  simp only [ints, List.length_map] at h4
  omega
 refine oIn [.map (some r)] rfl (box_at h1) ?_
 refine cOw (sortedInts_spec h2 hk hlen) fun v μ2 h2' hle2 hap2 hR2 => ?_
 obtain ⟨rfl, xs, g1, g2, g3⟩ := hR2
 exact rPl ⟨xs, fun n => (g1 n).trans ((hg n).trans (by simp [Gl.vars])), g2, g3⟩
theorem varsBelow_spec {g : Gl} {v : Value} {n : Int} (hS : g.Sh) (hv : RepV μ g.d v) : Spec Tryz.prog 138 [v, .int .i64 n] μ fun r _ => r = .bool (decide (∀ m ∈ g.vars, m < n)) := by
 have w_ := Gl.invV hv
 obtain ⟨p, rfl⟩ := w_
 refine Spec.mk Tryz.func138 (by kernel_rfl) ?_
 intro r
 refine cPl (goalVars_spec hS hv) fun v1 μ1 hle1 hR => ?_
 obtain ⟨xs, g1, g2, g3⟩ := hR
 have w_ := Rep.sl g3.rep
 obtain ⟨b, c, rfl, hsl⟩ := w_
 rw [List.length_map] at hsl ⊢
 have hn := maxLen_le hsl.max
 refine lIn (fun i : Nat => i ≤ xs.length ∧ ∀ m ∈ xs.take i, m < n) (fun i => ⟨[(1, .val (.int .i64 n)), (8, .val (.slice b xs.length c)), (9, .val (.int .i64 xs.length)), (10, .val (.int .i64 i))], [], 1, μ1, Mem.nil⟩) (fun i => xs.length - i)
  0 ⟨by simp, by simp⟩ (fun _ => ⟨rfl, rfl⟩) ⟨⟨rfl, rfl, rfl, rfl, trivial⟩, trivial, rfl, rfl⟩ ?_
 rintro i ⟨hi, hall⟩
 refine ifd (fun hlt => ?_) (fun hlt => ?_)
 ·have w_ := aSo (l := xs) (i := i) (by omega)
  obtain ⟨x, hx⟩ := w_
  have w_ := Ints.elem hsl hx
  obtain ⟨ad, hel⟩ := w_
  refine eIn hel ?_
  refine ifd (fun hge => rPl (isF fun hh => ?_)) (fun hge => ?_)
  ·have := hh x ((g1 x).1 (mAt hx)); omega
  refine num64 (by omega) (by omega) ⟨i + 1, ⟨by omega, fun y hy => ?_⟩, by omega, ⟨⟨rfl, rfl, rfl, rfl, trivial⟩, trivial, rfl, rfl⟩⟩
  rw [List.take_add_one, hx, Option.toList_some, List.mem_append, List.mem_singleton] at hy
  rcases hy with hy | rfl
  ·exact hall y hy
  ·omega
 ·obtain rfl : i = xs.length := by omega
  rw [List.take_length] at hall
  exact rPl (isT fun m hm => hall m ((g1 m).2 hm))
end
end Go.Vx
namespace Go.Vx
open Go.Proofs Classical
noncomputable def relFrom : List Rl → Nat → ByteArray → Int
 | [], _, _ => -1
 | r :: l, i, s => if r.name = s then i else relFrom l (i + 1) s
noncomputable def relAt (p : Pg) (s : ByteArray) : Int := relFrom p.rels 0 s
theorem relFrom_some {s : ByteArray} : ∀ {l : List Rl} {i : Nat}, 0 ≤ relFrom l i s → ∃ (j : Nat) (r : Rl), relFrom l i s = ((i + j : Nat) : Int) ∧ l[j]? = some r ∧ r.name = s
 | [], i, h => by simp [relFrom] at h
 | r :: l, i, h => by
  rw [relFrom] at h ⊢
  by_cases e : r.name = s
  ·rw [if_pos e]; exact ⟨0, r, by simp, rfl, e⟩
  ·rw [if_neg e] at h ⊢
   have w_ := relFrom_some h
   obtain ⟨j, r', h1, h2, h3⟩ := w_
   exact ⟨j + 1, r', by rw [h1]; congr 1; omega, h2, h3⟩
def CallFits (p : Pg) (g : Gl) : Prop := g.kind = 9 → ∃ (i : Nat) (r : Rl), relAt p g.name = i ∧ p.rels[i]? = some r ∧ r.arity = g.terms.length
section
variable {μ : Mem}
theorem relation_spec {p : Pg} {s : ByteArray} {v : Value} (hv : RepV μ p.d v) : Gives Tryz.prog 93 [v, .string s] μ (.int .i64 (relAt p s)) := by
 have w_ := Pg.inv hv
 obtain ⟨q, rfl, hsl⟩ := w_
 have hn := maxLen_le hsl.max
 refine Spec.mk Tryz.func93 (by kernel_rfl) ?_
 intro r
 refine lIn (fun i : Nat => i ≤ p.rels.length ∧ relFrom (p.rels.drop i) i s = relAt p s) (fun i => ⟨[(1, .val (.string s)), (8, .val (.slice q.1 p.rels.length q.2)), (9, .val (.int .i64 p.rels.length)), (10, .val (.int .i64 i))], [], 1, μ, Mem.nil⟩) (fun i => p.rels.length - i)
  0 ⟨by omega, rfl⟩ (fun _ => ⟨rfl, rfl⟩) ⟨⟨rfl, rfl, rfl, rfl, trivial⟩, trivial, rfl, rfl⟩ ?_
 rintro i ⟨hi, hJ⟩
 refine ifd (fun hlt => ?_) (fun hlt => ?_)
 ·have w_ := aSo (l := p.rels) (i := i) (by omega)
  obtain ⟨x, hx⟩ := w_
  have w_ := Rl.elem hsl hx
  obtain ⟨ad, q2, hel, hr⟩ := w_
  rw [drop_at hx, relFrom] at hJ
  refine eIn hel ?_
  intro r2
  refine ifd (fun e => ?_) (fun e => ?_)
  ·rw [if_pos e] at hJ
   exact rGv (by rw [← hJ]) rfl
  ·rw [if_neg e] at hJ
   exact num64 (by omega) (by omega) ⟨i + 1, ⟨by omega, hJ⟩, by omega, ⟨⟨rfl, rfl, rfl, rfl, trivial⟩, trivial, rfl, rfl⟩⟩
 ·obtain rfl : i = p.rels.length := by omega
  rw [List.drop_length] at hJ
  exact rGv (by rw [← hJ]; rfl) rfl
theorem l14Find_spec {p : Pg} {s : ByteArray} {v : Value} (hv : RepV μ p.d v) : Gives Tryz.prog 82 [v, .string s] μ (.int .i64 (relAt p s)) := by
 have w_ := Pg.inv hv
 obtain ⟨q, rfl, hsl⟩ := w_
 have hn := maxLen_le hsl.max
 refine Spec.mk Tryz.func82 (by kernel_rfl) ?_
 intro r
 refine lIn (fun i : Nat => i ≤ p.rels.length ∧ relFrom (p.rels.drop i) i s = relAt p s) (fun i => ⟨[(1, .val (.string s)), (8, .val (.slice q.1 p.rels.length q.2)), (9, .val (.int .i64 p.rels.length)), (10, .val (.int .i64 i))], [], 1, μ, Mem.nil⟩) (fun i => p.rels.length - i)
  0 ⟨by omega, rfl⟩ (fun _ => ⟨rfl, rfl⟩) ⟨⟨rfl, rfl, rfl, rfl, trivial⟩, trivial, rfl, rfl⟩ ?_
 rintro i ⟨hi, hJ⟩
 refine ifd (fun hlt => ?_) (fun hlt => ?_)
 ·have w_ := aSo (l := p.rels) (i := i) (by omega)
  obtain ⟨x, hx⟩ := w_
  have w_ := Rl.elem hsl hx
  obtain ⟨ad, q2, hel, hr⟩ := w_
  rw [drop_at hx, relFrom] at hJ
  refine eIn hel ?_
  intro r2
  refine ifd (fun e => ?_) (fun e => ?_)
  ·rw [if_pos e] at hJ
   exact rGv (by rw [← hJ]) rfl
  ·rw [if_neg e] at hJ
   exact num64 (by omega) (by omega) ⟨i + 1, ⟨by omega, hJ⟩, by omega, ⟨⟨rfl, rfl, rfl, rfl, trivial⟩, trivial, rfl, rfl⟩⟩
 ·obtain rfl : i = p.rels.length := by omega
  rw [List.drop_length] at hJ
  exact rGv (by rw [← hJ]; rfl) rfl
theorem relAt_some {p : Pg} {s : ByteArray} (h : 0 ≤ relAt p s) : ∃ (j : Nat) (r : Rl), relAt p s = (j : Int) ∧ p.rels[j]? = some r := by
 have w_ := relFrom_some h
 obtain ⟨j, r, h1, h2, h3⟩ := w_
 exact ⟨j, r, by rw [relAt, h1]; simp, h2⟩
theorem callFits_iff {p : Pg} {g : Gl} (h9 : g.kind = 9) {j : Nat} {r : Rl} (e : relAt p g.name = (j : Int)) (hr : p.rels[j]? = some r) : CallFits p g ↔ r.arity = g.terms.length := by
 constructor
 ·intro h
  have w_ := h h9
  obtain ⟨i, r', h1, h2, h3⟩ := w_
  rw [e] at h1
  obtain rfl : j = i := by omega
  rw [hr] at h2; cases h2
  exact h3
 ·intro h _
  exact ⟨j, r, e, hr, h⟩
theorem callFits_neg {p : Pg} {g : Gl} (h9 : g.kind = 9) (h : ¬ 0 ≤ relAt p g.name) : ¬ CallFits p g := fun k => by
 have w_ := k h9
 obtain ⟨i, r', h1, _, _⟩ := w_
 omega
inductive FitAll (p : Pg) : Gl → Prop
 | mk {g : Gl} (top : CallFits p g) (sub : ∀ x ∈ g.goals, FitAll p x) : FitAll p g
theorem FitAll.top {p : Pg} {g : Gl} (h : FitAll p g) : CallFits p g := by cases h; assumption
theorem FitAll.sub {p : Pg} {g : Gl} (h : FitAll p g) : ∀ x ∈ g.goals, FitAll p x := by cases h; assumption
theorem l14Calls_spec {p : Pg} {vp : Value} (hp : RepV μ p.d vp) : ∀ (g : Gl) {v : Value}, g.Sh → RepV μ g.d v → Gives Tryz.prog 181 [vp, v] μ (.bool (decide (FitAll p g))) := by
 have w_ := Pg.inv hp
 obtain ⟨q, rfl, hrl⟩ := w_
 refine Gl.ind fun g ih v hS hv => ?_
 have w_ := Gl.inv hv
 obtain ⟨q2, rfl, hts, hgs⟩ := w_
 have hn := maxLen_le hgs.max
 refine Spec.mk Tryz.func181 (by kernel_rfl) ?_
 intro r1 r2
 refine ifd (fun h9 => ?_) (fun h9 => ?_)
 ·have hg0 : g.goals = [] := List.eq_nil_of_length_eq_zero (hS.top.gl0 (.inr h9))
  have hiff : FitAll p g ↔ CallFits p g := ⟨fun h => h.top, fun h => .mk h (by rw [hg0]; simp)⟩
  refine cGv (l14Find_spec hp) ?_
  refine ifd (fun h0 => ?_) (fun h0 => rGv (isF fun h => callFits_neg h9 h0 h.top) rfl)
  have w_ := relAt_some h0
  obtain ⟨j, rl, e, hr⟩ := w_
  have w_ := Rl.elem hrl hr
  obtain ⟨ad, q3, hel, hrr⟩ := w_
  rw [e]
  refine eIn hel ?_
  exact rGv (isI ((callFits_iff h9 e hr).symm.trans hiff.symm)) rfl
 ·refine lIn (fun i : Nat => i ≤ g.goals.length ∧ ∀ x ∈ g.goals.take i, FitAll p x) (fun i => ⟨[(2, .loc 0 r1 0), (30, .val (.slice q2.2.1 g.goals.length q2.2.2)), (31, .val (.int .i64 g.goals.length)), (32, .val (.int .i64 i))], [(0, some (.cells r1 [.val (.slice q.1 p.rels.length q.2)] 45))], 2, μ, Mem.nil⟩) (fun i => g.goals.length - i)
   0 ⟨by omega, by simp⟩ (fun _ => ⟨rfl, rfl⟩) ⟨⟨rfl, rfl, rfl, rfl, trivial⟩, ⟨rfl, trivial⟩, rfl, rfl⟩ ?_
  rintro i ⟨hi, hall⟩
  refine ifd (fun hlt => ?_) (fun hlt => ?_)
  ·have w_ := aSo (l := g.goals) (i := i) (by omega)
   obtain ⟨t, ht⟩ := w_
   have w_ := Gl.elem hgs ht
   obtain ⟨ad, q3, hel, hr⟩ := w_
   refine eIn hel ?_
   intro r3
   refine cGv (ih t (mAt ht) (hS.sub t (mAt ht)) hr) ?_
   refine ifnd (fun h => rGv (isF fun S => h (S.sub t (mAt ht))) rfl) (fun h => ?_)
   refine num64 (by omega) (by omega) ⟨i + 1, ⟨by omega, fun x hx => ?_⟩, by omega, ⟨⟨rfl, rfl, rfl, rfl, trivial⟩, ⟨rfl, trivial⟩, rfl, rfl⟩⟩
   rw [List.take_add_one, ht, Option.toList_some, List.mem_append, List.mem_singleton] at hx
   rcases hx with hx | rfl
   ·exact hall x hx
   ·exact h
  ·obtain rfl : i = g.goals.length := by omega
   rw [List.take_length] at hall
   exact rGv (isT (.mk (fun h => absurd h h9) hall)) rfl
end
end Go.Vx
namespace Go.Vx
open Go.Proofs Classical
theorem FitAll.all {p : Pg} : ∀ {g : Gl}, FitAll p g → ∀ x ∈ g.all, CallFits p x := fun {g} => by
 refine Gl.ind (q := fun g => FitAll p g → ∀ x ∈ g.all, CallFits p x) (fun g ih h x hx => ?_) g
 rw [Gl.all_eq] at hx
 rcases List.mem_cons.1 hx with rfl | hx
 ·exact h.top
 ·have w_ := List.mem_flatMap.1 hx
  obtain ⟨y, hy, hx⟩ := w_
  exact ih y hy (h.sub y hy) x hx
theorem FitAll.of {p : Pg} : ∀ {g : Gl}, (∀ x ∈ g.all, CallFits p x) → FitAll p g := fun {g} => by
 refine Gl.ind (q := fun g => (∀ x ∈ g.all, CallFits p x) → FitAll p g) (fun g ih h => ?_) g
 rw [Gl.all_eq] at h
 exact .mk (h g (by simp)) fun y hy => ih y hy fun x hx => h x (List.mem_cons_of_mem _ (List.mem_flatMap.2 ⟨y, hy, hx⟩))
theorem foldl_and {α : Type} (f : α → Prop) : ∀ (l : List α) (b : Bool), l.foldl (fun b x => b && decide (f x)) b = (b && decide (∀ x ∈ l, f x))
 | [], b => by simp
 | a :: l, b => by
  rw [List.foldl_cons, foldl_and f l, Bool.and_assoc]
  congr 1
  by_cases h : f a
  ·simp [h]
  ·simp [h]
section
variable {μ : Mem}
theorem callsFit1_spec {p : Pg} {q : Pg.P} {rp rf : Nat} {b : Bool} {h : Mem} {g : Gl} {v : Value} (hp : RepV μ p.d (.agg #[.slice q.1 p.rels.length q.2])) (hrl : Sl μ 7 q.1 p.rels.length (p.rels.map Rl.d)) (hat : μ rp = some (.cells #[.slice q.1 p.rels.length q.2] 45 (0, 0)))
  (hv : RepV μ g.d v) (hf : h rf = some (.cells #[.bool b] 4 (0, 0))) :
  SpecH Tryz.prog 187 [v, .pointer (some ⟨rp, 0, none⟩), .pointer (some ⟨rf, 0, none⟩)] μ h fun r μ' h' => r = .tuple #[] ∧ μ' = μ ∧ h' rf = some (.cells #[.bool (b && decide (CallFits p g))] 4 (0, 0)) := by
 have w_ := Gl.inv hv
 obtain ⟨q2, rfl, hts, hgs⟩ := w_
 refine SpecH.mk [] Tryz.func187 (by kernel_rfl) ?_
 intro r
 refine ifd (fun h9 => ?_) (fun h9 => ?_)
 rotate_left
 ·have : CallFits p g := fun k => absurd k h9
  exact rPl ⟨rfl, rfl, by rw [decide_eq_true this, Bool.and_true]; exact hf⟩
 refine ext_intro [.slice q.1 p.rels.length q.2] rfl (box_at hat) ?_
 refine cGv (relation_spec hp) ?_
 refine ifd (fun h0 => ?_) (fun h0 => ?_)
 ·have : ¬ CallFits p g := callFits_neg h9 (by omega)
  refine sIn [.bool b] 4 hf rfl (Nat.le_refl _) ?_
  exact rPl ⟨rfl, rfl, by rw [decide_eq_false this, Bool.and_false]; exact Mem.set_at _ _ _⟩
 ·have w_ := relAt_some (Int.not_lt.1 h0)
  obtain ⟨j, rl, e, hr⟩ := w_
  have w_ := Rl.elem hrl hr
  obtain ⟨ad, q3, hel, hrr⟩ := w_
  have hiff := callFits_iff h9 e hr
  refine ext_intro [.slice q.1 p.rels.length q.2] rfl (fun j v hj => by show μ.cell (((⟨rp, 0, none⟩ : Addr).add 0).add j) = some v; rw [add_add, Nat.zero_add]; exact box_at hat j v hj) ?_
  rw [e]
  refine eIn hel ?_
  refine ifnd (fun hne => ?_) (fun heq => ?_)
  ·have : ¬ CallFits p g := fun k => hne (hiff.1 k)
   refine sIn [.bool b] 4 hf rfl (Nat.le_refl _) ?_
   exact rPl ⟨rfl, rfl, by rw [decide_eq_false this, Bool.and_false]; exact Mem.set_at _ _ _⟩
  ·have : CallFits p g := hiff.2 heq
   exact rPl ⟨rfl, rfl, by rw [decide_eq_true this, Bool.and_true]; exact hf⟩
theorem callsFit_spec {p : Pg} {vp v : Value} {g : Gl} (hp : RepV μ p.d vp) (hv : RepV μ g.d v) : Spec Tryz.prog 139 [vp, v] μ fun r _ => r = .bool (decide (FitAll p g)) := by
 have w_ := Pg.inv hp
 obtain ⟨q, rfl, hrl⟩ := w_
 have w_ := Gl.invV hv
 obtain ⟨q2, rfl⟩ := w_
 refine Spec.mkO [5] Tryz.func139 (by kernel_rfl) ?_
 intro r1 r2
 intro rf hmf hof
 refine sIn [.bool false] 4 (Mem.set_at _ _ _) rfl (Nat.le_refl _) ?_
 generalize hh : Mem.set (Mem.set _ rf _) rf _ = h0
 have hf0 : h0 rf = some (.cells #[.bool true] 4 (0, 0)) := by subst hh; rw [Mem.set_at]; rfl
 refine call_gen [0] [] (fun _ => rfl) ?_
 intro μ1 hle1 hno1 hat1
 refine own_go (eachGoal_rel (fun b h => h rf = some (.cells #[.bool b] 4 (0, 0))) (fun b x => b && decide (CallFits p x)) (fun _ => True) (fun b h x w _ hw hj => callsFit1_spec (hp.mono hle1) (hrl.mono hle1) hat1 hw hj) g true h0 (hv.mono hle1) (fun _ _ => trivial) hf0) fun v μ2 h' hle hap hR => ?_
 obtain ⟨rfl, e2, hj⟩ := hR
 obtain rfl := e2.symm
 rw [foldl_and, Bool.true_and] at hj
 refine oIn [.bool _] rfl (box_at hj) ?_
 exact rPl (isI ⟨fun h => FitAll.of h, fun h => h.all⟩)
end
end Go.Vx
namespace Go.Vx
open Go.Proofs Classical
structure RelOk (p : Pg) (i : Nat) (r : Rl) : Prop where
 at_ : relAt p r.name = i
 name : IsRel r.name
 ar0 : 0 ≤ r.arity
 ar4 : r.arity ≤ 4
 lo0 : 0 ≤ r.locals
 lo8 : r.locals ≤ 8
 body : r.body.Sh
 size : r.body.cnt ≤ 60
 vars : ∀ n ∈ r.body.vars, n < r.arity + r.locals
 calls : FitAll p r.body
def Pg.Ok (p : Pg) : Prop := p.rels.length ≤ 8 ∧ ∀ (i : Nat) (r : Rl), p.rels[i]? = some r → RelOk p i r
section
variable {μ : Mem}
theorem impl_ProgramOk_spec {p : Pg} {v : Value} (hp : RepV μ p.d v) : Spec Tryz.prog 77 [v] μ fun r _ => r = .bool (decide p.Ok) := by
 have w_ := Pg.inv hp
 obtain ⟨q, rfl, hrl⟩ := w_
 refine Spec.mk Tryz.func77 (by kernel_rfl) ?_
 intro r1
 refine ifd (fun h8 => rPl (isF fun h => by have := h.1; omega)) (fun h8 => ?_)
 refine lIn (fun x : Nat × Mem => x.1 ≤ p.rels.length ∧ μ.Le x.2 ∧ ∀ (j : Nat) (r : Rl), j < x.1 → p.rels[j]? = some r → RelOk p j r)
  (fun (i, μ') => ⟨[(1, .loc 0 r1 0), (10, .val (.slice q.1 p.rels.length q.2)), (11, .val (.int .i64 p.rels.length)), (12, .val (.int .i64 i))], [(0, some (.cells r1 [.val (.slice q.1 p.rels.length q.2)] 45))], 1, μ', Mem.nil⟩) (fun x => p.rels.length - x.1)
  (0, μ) ⟨by simp, Mem.Le.refl _, fun j r hj => by simp at hj⟩ (fun (_, _) => ⟨rfl, rfl⟩) ⟨⟨rfl, rfl, rfl, rfl, trivial⟩, ⟨rfl, trivial⟩, rfl, rfl⟩ ?_
 rintro ⟨i, μ'⟩ ⟨hi, hle, hall⟩
 dsimp only at hi hle hall
 refine ifd (fun hlt => ?_) (fun hlt => ?_)
 ·have w_ := aSo (l := p.rels) (i := i) (by omega)
  obtain ⟨x, hx⟩ := w_
  have w_ := Rl.elemA (hrl.mono hle) hx
  obtain ⟨ad, q2, hel, hr, hb⟩ := w_
  have hb : RepV μ' x.body.d (.agg (x.body.cs q2).toArray) := hb
  have bad : ¬ RelOk p i x → Value.bool false = .bool (decide p.Ok) := fun h => isF fun k => h (k.2 i x hx)
  refine eIn hel ?_
  intro r2
  refine cGv (impl_IsRelName_spec _ _) ?_
  refine ifnd (fun h => rPl (bad fun k => h k.name)) (fun g1 => ?_)
  refine cGv (relation_spec (hp.mono hle)) ?_
  refine ifnd (fun h => rPl (bad fun k => h k.at_)) (fun g2 => ?_)
  refine ifd (fun h => rPl (bad fun k => by have := k.ar0; omega)) (fun g3 => ?_)
  refine ifd (fun h => rPl (bad fun k => by have := k.ar4; omega)) (fun g4 => ?_)
  refine ifd (fun h => rPl (bad fun k => by have := k.lo0; omega)) (fun g5 => ?_)
  refine ifd (fun h => rPl (bad fun k => by have := k.lo8; omega)) (fun g6 => ?_)
  refine cGv (goalNodes_spec x.body hb (by decide) (by decide)) ?_
  refine ifd (fun h => rPl (bad fun k => Gl.nodes_lt h ⟨k.body, by have := k.size; omega⟩)) (fun h => ?_)
  have w_ := Gl.nodes_ge h
  obtain ⟨g7, g8, _⟩ := w_
  refine num64 (by omega) (by omega) ?_
  refine cPl (varsBelow_spec g7 hb) fun v1 μ1 hle1 hR => ?_
  obtain rfl := hR
  refine ifnd (fun h => rPl (bad fun k => h k.vars)) (fun g9 => ?_)
  refine cPl (callsFit_spec ((hp.mono hle).mono hle1) (hb.mono hle1)) fun v2 μ2 hle2 hR => ?_
  obtain rfl := hR
  refine ifnd (fun h => rPl (bad fun k => h k.calls)) (fun g10 => ?_)
  have hok : RelOk p i x := ⟨g2, g1, by omega, by omega, by omega, by omega, g7, by omega, g9, g10⟩
  refine num64 (by omega) (by omega) ⟨(i + 1, μ2), ⟨by dsimp only; omega, (hle.trans hle1).trans hle2, fun j r hj hr => ?_⟩, by dsimp only; omega, ⟨⟨rfl, rfl, rfl, rfl, trivial⟩, ⟨rfl, trivial⟩, rfl, rfl⟩⟩
  rcases Nat.lt_or_ge j i with h6 | h6
  ·exact hall j r h6 hr
  ·obtain rfl : j = i := by omega
   rw [hx] at hr; cases hr; exact hok
 ·obtain rfl : i = p.rels.length := by omega
  exact rPl (isT ⟨by omega, fun j r hr => hall j r (List.getElem?_eq_some_iff.1 hr).1 hr⟩)
noncomputable def Gl.count (g : Gl) : Int := if g.Ok then g.cnt else 0
theorem spec_GoalSize_spec (g : Gl) {v : Value} (hv : RepV μ g.d v) (hw : g.d.wd) : Gives Tryz.prog 129 [v] μ (.int .i64 g.count) := by
 have w_ := Gl.invV hv
 obtain ⟨p, rfl⟩ := w_
 refine Spec.mk Tryz.func129 (by kernel_rfl) ?_
 intro r
 refine cGv (spec_GoalOk_spec g hv hw) ?_
 refine ifnd (fun h => rGv (by rw [Gl.count, if_neg h]) rfl) (fun h => ?_)
 refine cGv (l13Count_spec g hv (by decide) (by decide)) ?_
 refine rGv ?_ rfl
 congr 1
 have := h.2
 have := g.cnt_pos
 rw [Gl.count, if_pos h, upTo]
 omega
end
end Go.Vx
namespace Go.Vx
open Go.Proofs Classical
theorem ins_sorted {l : List Int} {n : Int} {k : Nat} (hs : l.Pairwise (· < ·)) (h1 : ∀ y ∈ l.take k, y < n) (h2 : ∀ y ∈ l.drop k, n < y) : (insInt l n k).Pairwise (· < ·) := by
 unfold insInt
 rw [List.pairwise_append]
 refine ⟨hs.sublist (List.take_sublist _ _), ?_, ?_⟩
 ·rw [List.singleton_append, List.pairwise_cons]
  exact ⟨h2, hs.sublist (List.drop_sublist _ _)⟩
 ·intro a ha b hb
  rcases List.mem_append.1 hb with hb | hb
  ·rw [List.mem_singleton] at hb; subst hb; exact h1 a ha
  ·have := h1 a ha; have := h2 b hb; omega
theorem srt_get {l : List Int} (hs : l.Pairwise (· < ·)) {i j : Nat} {x y : Int} (h : i < j) (hx : l[i]? = some x) (hy : l[j]? = some y) : x < y := by
 have w_ := List.getElem?_eq_some_iff.1 hx
 obtain ⟨h1, rfl⟩ := w_
 have w_ := List.getElem?_eq_some_iff.1 hy
 obtain ⟨h2, rfl⟩ := w_
 exact List.pairwise_iff_getElem.1 hs i j h1 h2 h
theorem take_lt {l : List Int} (hs : l.Pairwise (· < ·)) {k : Nat} {n : Int} (h : k = 0 ∨ ∃ x, l[k - 1]? = some x ∧ x < n) : ∀ y ∈ l.take k, y < n := fun y hy => by
 have w_ := List.mem_iff_getElem?.1 hy
 obtain ⟨i, hi⟩ := w_
 rw [List.getElem?_take] at hi
 split at hi
 ·rename_i hik
  rcases h with rfl | ⟨x, hx, hxn⟩
  ·omega
  ·rcases Nat.lt_or_ge i (k - 1) with h1 | h1
   ·have := srt_get hs h1 hi hx; omega
   ·obtain rfl : i = k - 1 := by omega
    rw [hx] at hi; cases hi; exact hxn
 ·cases hi
theorem drop_gt {l : List Int} (hs : l.Pairwise (· < ·)) {k : Nat} {n : Int} (h : ∀ (j : Nat) y, k ≤ j → l[j]? = some y → n ≤ y) (hne : ∀ y, l[k]? = some y → y ≠ n) : ∀ y ∈ l.drop k, n < y := fun y hy => by
 have w_ := List.mem_iff_getElem?.1 hy
 obtain ⟨i, hi⟩ := w_
 rw [List.getElem?_drop] at hi
 have h1 := h (k + i) y (by omega) hi
 rcases Nat.eq_zero_or_pos i with rfl | h2
 ·have := hne y (by simpa using hi)
  omega
 ·have hk : k < l.length := by have := (List.getElem?_eq_some_iff.1 hi).1; omega
  have hkk : l[k]? = some l[k] := List.getElem?_eq_getElem hk
  have h3 := h k _ (Nat.le_refl _) hkk
  have := srt_get hs (by omega : k < k + i) hkk hi
  omega
section
variable {μ : Mem}
theorem l02InsertS_spec {l : List Int} {v : Value} {n : Int} (hv : RepV μ (.sl 1 (l.map D.i)) v) (hb : l.length ≤ 1000000000) (hs : l.Pairwise (· < ·)) : Spec Tryz.prog 177 [v, .int .i64 n] μ fun v μ' => ∃ r : List Int, RepV μ' (.sl 1 (r.map D.i)) v ∧ (∀ x, x ∈ r ↔ x = n ∨ x ∈ l) ∧ r.Pairwise (· < ·) := by
 have w_ := Rep.sl hv
 obtain ⟨base, cap, rfl, hsl⟩ := w_
 have hcap := Rep.lens hv
 rw [List.length_map] at hsl hcap hv ⊢
 refine Spec.mk Tryz.func177 (by kernel_rfl) ?_
 refine lIn (fun k : Nat => k ≤ l.length ∧ ∀ (j : Nat) y, k ≤ j → l[j]? = some y → n ≤ y) (fun k => ⟨[(0, .val (.slice base l.length cap)), (1, .val (.int .i64 n)), (5, .val (.int .i64 k))], [], 0, μ, Mem.nil⟩) (fun k => k)
  l.length ⟨Nat.le_refl _, fun j y hj hy => absurd (List.getElem?_eq_some_iff.1 hy).1 (by omega)⟩ (fun i => ⟨rfl, rfl⟩) ⟨⟨rfl, rfl, rfl, trivial⟩, trivial, rfl, rfl⟩ ?_
 rintro k ⟨hk, hge⟩
 refine ifd (fun h1 => ?_) (fun h1 => ?_)
 ·have w_ := aSo (l := l) (i := k - 1) (by omega)
  obtain ⟨x, hx⟩ := w_
  have w_ := Ints.elem hsl hx
  obtain ⟨ad, hel⟩ := w_
  refine nEq (x := ((k - 1 : Nat) : Int)) (by rw [wrap64 (by omega) (by omega)]; omega) ?_
  refine eIn hel ?_
  refine ifd (fun h2 => ?_) (fun h2 => ?_)
  ·refine nEq (x := ((k - 1 : Nat) : Int)) (by rw [wrap64 (by omega) (by omega)]; omega) ⟨k - 1, ⟨by omega, fun j y hj hy => ?_⟩, by omega, ⟨⟨rfl, rfl, rfl, trivial⟩, trivial, rfl, rfl⟩⟩
   rcases Nat.lt_or_ge j k with h3 | h3
   ·obtain rfl : j = k - 1 := by omega
    rw [hx] at hy; cases hy; exact h2
   ·exact hge j y h3 hy
  ·have htk := take_lt hs (k := k) (n := n) (.inr ⟨x, hx, by omega⟩)
   refine ifd (fun h3 => ?_) (fun h3 => ?_)
   ·have w_ := aSo (l := l) (i := k) (by omega)
    obtain ⟨y, hy⟩ := w_
    have w_ := Ints.elem hsl hy
    obtain ⟨ad2, hel2⟩ := w_
    refine eIn hel2 ?_
    refine ifd (fun h4 => rPl ⟨l, hv, fun x => ⟨.inr, fun hx => hx.elim (fun e => by rw [e, ← h4]; exact mAt hy) id⟩, hs⟩) (fun h4 => ?_)
    have hgt := drop_gt hs hge (fun z hz => by rw [hy] at hz; cases hz; exact h4)
    intro r0
    refine cut_intro 0 k rfl rfl (by omega) (by omega) ?_
    refine src_intro _ (Ints.src hsl (a := 0) (b := k) (by omega) hk hcap) ?_
    refine gIn ?_ ?_ fun b1 c1 _ => ?_
    ·show (0 + (ints _).length) * 8 ≤ _; simp [ints]; omega
    ·show 0 + (ints _).length ≤ 9223372036854775807; simp [ints]; omega
    intro r1
    refine gIn ?_ ?_ fun b2 c2 _ => ?_
    ·show (([] ++ ints _).length + 1) * 8 ≤ _; simp [ints]; omega
    ·show ([] ++ ints _).length + 1 ≤ 9223372036854775807; simp [ints]; omega
    refine cut_intro k l.length rfl rfl hk (by omega) ?_
    refine src_intro _ (Ints.src hsl (a := k) (b := l.length) hk (Nat.le_refl _) hcap) ?_
    refine gIn ?_ ?_ fun b3 c3 _ => ?_
    ·show (([] ++ ints _ ++ [_]).length + (ints _).length) * 8 ≤ _; simp [ints]; omega
    ·show ([] ++ ints _ ++ [_]).length + (ints _).length ≤ 9223372036854775807; simp [ints]; omega
    refine rFz [0] fun μ' hle hno hrow => .inl ⟨insInt l n k, ?_, insInt_mem l n k, ins_sorted hs htk hgt⟩
    have e : [] ++ ints ((l.drop 0).take (k - 0)) ++ [.int .i64 n] ++ ints ((l.drop k).take (l.length - k)) = ints (insInt l n k) := by
     simp [ints, insInt]
     rw [List.take_of_length_le (by simp)]
    rw [e] at hrow ⊢
    exact Ints.sl hrow (Nat.le_trans (m := 2000000000) (by simp [insInt]; omega) (by decide))
   ·have hgt := drop_gt hs hge (fun z hz => by have := (List.getElem?_eq_some_iff.1 hz).1; omega)
    intro r0
    refine cut_intro 0 k rfl rfl (by omega) (by omega) ?_
    refine src_intro _ (Ints.src hsl (a := 0) (b := k) (by omega) hk hcap) ?_
    refine gIn ?_ ?_ fun b1 c1 _ => ?_
    ·show (0 + (ints _).length) * 8 ≤ _; simp [ints]; omega
    ·show 0 + (ints _).length ≤ 9223372036854775807; simp [ints]; omega
    intro r1
    refine gIn ?_ ?_ fun b2 c2 _ => ?_
    ·show (([] ++ ints _).length + 1) * 8 ≤ _; simp [ints]; omega
    ·show ([] ++ ints _).length + 1 ≤ 9223372036854775807; simp [ints]; omega
    refine cut_intro k l.length rfl rfl hk (by omega) ?_
    refine src_intro _ (Ints.src hsl (a := k) (b := l.length) hk (Nat.le_refl _) hcap) ?_
    refine gIn ?_ ?_ fun b3 c3 _ => ?_
    ·show (([] ++ ints _ ++ [_]).length + (ints _).length) * 8 ≤ _; simp [ints]; omega
    ·show ([] ++ ints _ ++ [_]).length + (ints _).length ≤ 9223372036854775807; simp [ints]; omega
    refine rFz [0] fun μ' hle hno hrow => .inl ⟨insInt l n k, ?_, insInt_mem l n k, ins_sorted hs htk hgt⟩
    have e : [] ++ ints ((l.drop 0).take (k - 0)) ++ [.int .i64 n] ++ ints ((l.drop k).take (l.length - k)) = ints (insInt l n k) := by
     simp [ints, insInt]
     rw [List.take_of_length_le (by simp)]
    rw [e] at hrow ⊢
    exact Ints.sl hrow (Nat.le_trans (m := 2000000000) (by simp [insInt]; omega) (by decide))
 ·have htk := take_lt hs (k := k) (n := n) (.inl (by omega))
  refine ifd (fun h3 => ?_) (fun h3 => ?_)
  ·have w_ := aSo (l := l) (i := k) (by omega)
   obtain ⟨y, hy⟩ := w_
   have w_ := Ints.elem hsl hy
   obtain ⟨ad2, hel2⟩ := w_
   refine eIn hel2 ?_
   refine ifd (fun h4 => rPl ⟨l, hv, fun x => ⟨.inr, fun hx => hx.elim (fun e => by rw [e, ← h4]; exact mAt hy) id⟩, hs⟩) (fun h4 => ?_)
   have hgt := drop_gt hs hge (fun z hz => by rw [hy] at hz; cases hz; exact h4)
   intro r0
   refine cut_intro 0 k rfl rfl (by omega) (by omega) ?_
   refine src_intro _ (Ints.src hsl (a := 0) (b := k) (by omega) hk hcap) ?_
   refine gIn ?_ ?_ fun b1 c1 _ => ?_
   ·show (0 + (ints _).length) * 8 ≤ _; simp [ints]; omega
   ·show 0 + (ints _).length ≤ 9223372036854775807; simp [ints]; omega
   intro r1
   refine gIn ?_ ?_ fun b2 c2 _ => ?_
   ·show (([] ++ ints _).length + 1) * 8 ≤ _; simp [ints]; omega
   ·show ([] ++ ints _).length + 1 ≤ 9223372036854775807; simp [ints]; omega
   refine cut_intro k l.length rfl rfl hk (by omega) ?_
   refine src_intro _ (Ints.src hsl (a := k) (b := l.length) hk (Nat.le_refl _) hcap) ?_
   refine gIn ?_ ?_ fun b3 c3 _ => ?_
   ·show (([] ++ ints _ ++ [_]).length + (ints _).length) * 8 ≤ _; simp [ints]; omega
   ·show ([] ++ ints _ ++ [_]).length + (ints _).length ≤ 9223372036854775807; simp [ints]; omega
   refine rFz [0] fun μ' hle hno hrow => .inl ⟨insInt l n k, ?_, insInt_mem l n k, ins_sorted hs htk hgt⟩
   have e : [] ++ ints ((l.drop 0).take (k - 0)) ++ [.int .i64 n] ++ ints ((l.drop k).take (l.length - k)) = ints (insInt l n k) := by
    simp [ints, insInt]
    rw [List.take_of_length_le (by simp)]
   rw [e] at hrow ⊢
   exact Ints.sl hrow (Nat.le_trans (m := 2000000000) (by simp [insInt]; omega) (by decide))
  ·have hgt := drop_gt hs hge (fun z hz => by have := (List.getElem?_eq_some_iff.1 hz).1; omega)
   intro r0
   refine cut_intro 0 k rfl rfl (by omega) (by omega) ?_
   refine src_intro _ (Ints.src hsl (a := 0) (b := k) (by omega) hk hcap) ?_
   refine gIn ?_ ?_ fun b1 c1 _ => ?_
   ·show (0 + (ints _).length) * 8 ≤ _; simp [ints]; omega
   ·show 0 + (ints _).length ≤ 9223372036854775807; simp [ints]; omega
   intro r1
   refine gIn ?_ ?_ fun b2 c2 _ => ?_
   ·show (([] ++ ints _).length + 1) * 8 ≤ _; simp [ints]; omega
   ·show ([] ++ ints _).length + 1 ≤ 9223372036854775807; simp [ints]; omega
   refine cut_intro k l.length rfl rfl hk (by omega) ?_
   refine src_intro _ (Ints.src hsl (a := k) (b := l.length) hk (Nat.le_refl _) hcap) ?_
   refine gIn ?_ ?_ fun b3 c3 _ => ?_
   ·show (([] ++ ints _ ++ [_]).length + (ints _).length) * 8 ≤ _; simp [ints]; omega
   ·show ([] ++ ints _ ++ [_]).length + (ints _).length ≤ 9223372036854775807; simp [ints]; omega
   refine rFz [0] fun μ' hle hno hrow => .inl ⟨insInt l n k, ?_, insInt_mem l n k, ins_sorted hs htk hgt⟩
   have e : [] ++ ints ((l.drop 0).take (k - 0)) ++ [.int .i64 n] ++ ints ((l.drop k).take (l.length - k)) = ints (insInt l n k) := by
    simp [ints, insInt]
    rw [List.take_of_length_le (by simp)]
   rw [e] at hrow ⊢
   exact Ints.sl hrow (Nat.le_trans (m := 2000000000) (by simp [insInt]; omega) (by decide))
structure VL (l : List Int) : Prop where
 srt : l.Pairwise (· < ·)
 rng : ∀ x ∈ l, 0 ≤ x ∧ x ≤ 100000
theorem VL.len {l : List Int} (h : VL l) : l.length ≤ 100001 := by
 refine nodup_range (N := 100001) ?_ fun n hn => by have := h.rng n hn; omega
 rw [List.nodup_iff_pairwise_ne]
 exact h.srt.imp fun hab e => by omega
def VarsS (μ' : Mem) (l vs : List Int) (v : Value) : Prop := ∃ r : List Int, RepV μ' (.sl 1 (r.map D.i)) v ∧ (∀ x, x ∈ r ↔ x ∈ vs ∨ x ∈ l) ∧ VL r
theorem l02VarsS_spec : ∀ (x : T) {μ : Mem} {l : List Int} {w v : Value}, x.good → RepV μ x.tm.d w → RepV μ (.sl 1 (l.map D.i)) v → VL l → Spec Tryz.prog 124 [w, v] μ fun v μ' => VarsS μ' l x.vars v :=
 T.ind fun x ih μ l w v hgd hw hv hb => by
  have hrng := T.vars_range hgd
  have w_ := T.inv hw
  obtain ⟨base, cap, rfl, hsl⟩ := w_
  have hn := maxLen_le hsl.max
  refine Spec.mk Tryz.func124 (by kernel_rfl) ?_
  intro r
  refine ifd (fun h => ?_) (fun h => ?_)
  ·have e : x.vars = [x.tm.num] := by cases x <;> simp_all [T.vars, T.tm, Tm.kind, Tm.num]
   refine cPl (l02InsertS_spec hv (by have := hb.len; omega) hb.srt) fun v' μ' hle hR => rPl ?_
   obtain ⟨r, h1, h2, h3⟩ := hR
   refine ⟨r, h1, by simpa [e] using h2, h3, fun y hy => ?_⟩
   rcases (h2 y).1 hy with rfl | hy
   ·exact hrng _ (by rw [e]; simp)
   ·exact hb.rng y hy
  have e := T.vars_args h
  have hgs : ∀ y ∈ x.args, y.good := fun y hy => by
   cases x with
   | pair a b =>
    simp only [T.args, List.mem_cons, List.not_mem_nil, or_false] at hy
    rcases hy with rfl | rfl
    ·exact hgd.1
    ·exact hgd.2
   | _ => simp [T.args] at hy
  refine lIn (fun p : Nat × Value × Mem => p.1 ≤ x.args.length ∧ μ.Le p.2.2 ∧ VarsS p.2.2 l ((x.args.take p.1).flatMap T.vars) p.2.1)
   (fun (i, v, μ') => ⟨[(1, .val v), (15, .val (.slice base x.args.length cap)), (16, .val (.int .i64 x.args.length)), (17, .val (.int .i64 i))], [], 1, μ', Mem.nil⟩) (fun p => x.args.length - p.1)
   (0, v, μ) ⟨by simp, Mem.Le.refl μ, l, hv, by simp, hb⟩ (fun (_, _, _) => ⟨rfl, rfl⟩) ⟨⟨rfl, rfl, rfl, rfl, trivial⟩, trivial, rfl, rfl⟩ ?_
  rintro ⟨i, v, μ'⟩ ⟨hi, hle, r, h1, h2, h3⟩
  dsimp only at hi hle h1 h2 h3
  refine ifd (fun h => ?_) (fun h => ?_)
  ·have w_ := aSo (l := x.args) (i := i) (by omega)
   obtain ⟨t, ht⟩ := w_
   have ht' : (x.args.map T.tm)[i]? = some t.tm := by simp [ht]
   have w_ := Tm.elem (hsl.mono hle) ht'
   obtain ⟨ad, p, hel, hr⟩ := w_
   have hsucc : (x.args.take (i + 1)).flatMap T.vars = (x.args.take i).flatMap T.vars ++ t.vars := by
    rw [List.take_add_one, ht, Option.toList_some, List.flatMap_append]; simp
   refine eIn hel ?_
   intro r2
   refine cPl (ih t (mAt ht) (hgs t (mAt ht)) hr h1 h3) fun v' μ'' hle2 hR => ?_
   obtain ⟨q, g1, g2, g3⟩ := hR
   refine num64 (by omega) (by omega) ⟨(i + 1, v', μ''), ⟨by dsimp only; omega, hle.trans hle2, q, g1, fun y => ?_, g3⟩, by dsimp only; omega, ⟨⟨rfl, rfl, rfl, rfl, trivial⟩, trivial, rfl, rfl⟩⟩
   dsimp only
   rw [g2, h2, hsucc, List.mem_append]
   constructor
   ·rintro (h | h | h) <;> simp [h]
   ·rintro ((h | h) | h) <;> simp [h]
  ·obtain rfl : i = x.args.length := by omega
   rw [List.take_length] at h2
   exact rPl ⟨r, h1, by rw [e]; exact h2, h3⟩
end
end Go.Vx
namespace Go.Vx
open Go.Proofs Classical
theorem Gl.vars_eq (g : Gl) : g.vars = g.tvars ++ g.goals.flatMap Gl.vars := by
 rw [Gl.vars, Gl.all_eq, List.flatMap_cons, List.flatMap_assoc]
 rfl
section
variable {μ : Mem}
theorem l13Vars_spec : ∀ (g : Gl) {μ : Mem} {l : List Int} {w v : Value}, g.Sh → RepV μ g.d w → RepV μ (.sl 1 (l.map D.i)) v → VL l → Spec Tryz.prog 182 [w, v] μ fun v μ' => VarsS μ' l g.vars v :=
 Gl.ind fun g ih μ l w v hS hw hv hb => by
  have w_ := Gl.inv hw
  obtain ⟨p, rfl, hts, hgs⟩ := w_
  have w_ := lift_ok hS.top.tm
  obtain ⟨xs, hxs, hxo⟩ := w_
  have htv : g.tvars = xs.flatMap T.vars := by rw [Gl.tvars, hxs, toTs_tm']
  rw [hxs, List.length_map] at hts ⊢
  have hn := maxLen_le hts.max
  have hn2 := maxLen_le hgs.max
  refine Spec.mk Tryz.func182 (by kernel_rfl) ?_
  intro r1
  refine lIn (fun p : Nat × Value × Mem => p.1 ≤ xs.length ∧ μ.Le p.2.2 ∧ VarsS p.2.2 l ((xs.take p.1).flatMap T.vars) p.2.1)
   (fun (i, v, μ') => ⟨[(1, .val v), (2, .loc 0 r1 0), (10, .val (.slice p.1.1 xs.length p.1.2)), (11, .val (.int .i64 xs.length)), (12, .val (.int .i64 i))], [(0, some (.cells r1 [.val (.int .i64 g.kind), .val (.string g.name), .val (.slice p.1.1 xs.length p.1.2), .val (.slice p.2.1 g.goals.length p.2.2)] 30))], 1, μ', Mem.nil⟩) (fun p => xs.length - p.1)
   (0, v, μ) ⟨by simp, Mem.Le.refl μ, l, hv, by simp, hb⟩ (fun (_, _, _) => ⟨rfl, rfl⟩) ⟨⟨rfl, rfl, rfl, rfl, rfl, trivial⟩, ⟨rfl, trivial⟩, rfl, rfl⟩ ?_
  rintro ⟨i, v, μ'⟩ ⟨hi, hle, r, h1, h2, h3⟩
  dsimp only at hi hle h1 h2 h3
  refine ifd (fun h => ?_) (fun h => ?_)
  ·have w_ := aSo (l := xs) (i := i) (by omega)
   obtain ⟨t, ht⟩ := w_
   have w_ := Tm.elem (i := i) (t := t.tm) (hts.mono hle) (by simp [ht])
   obtain ⟨ad, p3, hel, hr⟩ := w_
   have hsucc : (xs.take (i + 1)).flatMap T.vars = (xs.take i).flatMap T.vars ++ t.vars := by
    rw [List.take_add_one, ht, Option.toList_some, List.flatMap_append]; simp
   refine eIn hel ?_
   intro r2
   refine cPl (l02VarsS_spec t (hxo t (mAt ht)).1 hr h1 h3) fun v' μ'' hle2 hR => ?_
   obtain ⟨q, g1, g2, g3⟩ := hR
   refine num64 (by omega) (by omega) ⟨(i + 1, v', μ''), ⟨by dsimp only; omega, hle.trans hle2, q, g1, fun y => ?_, g3⟩, by dsimp only; omega, ⟨⟨rfl, rfl, rfl, rfl, rfl, trivial⟩, ⟨rfl, trivial⟩, rfl, rfl⟩⟩
   dsimp only
   rw [g2, h2, hsucc, List.mem_append]
   constructor
   ·rintro (h | h | h) <;> simp [h]
   ·rintro ((h | h) | h) <;> simp [h]
  ·obtain rfl : i = xs.length := by omega
   rw [List.take_length] at h2
   have hgs1 := hgs.mono hle
   refine lIn (fun x : Nat × Value × Mem => x.1 ≤ g.goals.length ∧ μ'.Le x.2.2 ∧ VarsS x.2.2 l (g.tvars ++ (g.goals.take x.1).flatMap Gl.vars) x.2.1)
    (fun (i, v, μ'') => ⟨[(1, .val v), (21, .val (.slice p.2.1 g.goals.length p.2.2)), (22, .val (.int .i64 g.goals.length)), (23, .val (.int .i64 i))], [], 1, μ'', Mem.nil⟩) (fun x => g.goals.length - x.1)
    (0, v, μ') ⟨by simp, Mem.Le.refl μ', r, h1, by simpa [htv] using h2, h3⟩ (fun (_, _, _) => ⟨rfl, rfl⟩) ⟨⟨rfl, rfl, rfl, rfl, trivial⟩, trivial, rfl, rfl⟩ ?_
   rintro ⟨i, v2, μ2⟩ ⟨hi, hle2, r2, k1, k2, k3⟩
   dsimp only at hi hle2 k1 k2 k3
   refine ifd (fun h => ?_) (fun h => ?_)
   ·have w_ := aSo (l := g.goals) (i := i) (by omega)
    obtain ⟨t, ht⟩ := w_
    have w_ := Gl.elem (hgs1.mono hle2) ht
    obtain ⟨ad, p3, hel, hr⟩ := w_
    have hsucc : (g.goals.take (i + 1)).flatMap Gl.vars = (g.goals.take i).flatMap Gl.vars ++ t.vars := by
     rw [List.take_add_one, ht, Option.toList_some, List.flatMap_append]; simp
    refine eIn hel ?_
    intro r3
    refine cPl (ih t (mAt ht) (hS.sub t (mAt ht)) hr k1 k3) fun v' μ3 hle3 hR => ?_
    obtain ⟨q, g1, g2, g3⟩ := hR
    refine num64 (by omega) (by omega) ⟨(i + 1, v', μ3), ⟨by dsimp only; omega, hle2.trans hle3, q, g1, fun y => ?_, g3⟩, by dsimp only; omega, ⟨⟨rfl, rfl, rfl, rfl, trivial⟩, trivial, rfl, rfl⟩⟩
    dsimp only
    rw [g2, k2, hsucc, ← List.append_assoc, List.mem_append (s := g.tvars ++ _)]
    constructor
    ·rintro (h | h | h) <;> simp [h]
    ·rintro ((h | h) | h) <;> simp [h]
   ·obtain rfl : i = g.goals.length := by omega
    rw [List.take_length, ← Gl.vars_eq] at k2
    exact rPl ⟨r2, k1, k2, k3⟩
theorem VL.last {l : List Int} (h : VL l) {n x : Int} (hx : l[l.length - 1]? = some x) : (∀ y ∈ l, y < n) ↔ x < n := by
 constructor
 ·intro k; exact k x (List.mem_of_getElem? hx)
 ·intro k y hy
  have w_ := List.mem_iff_getElem?.1 hy
  obtain ⟨i, hi⟩ := w_
  have hil := (List.getElem?_eq_some_iff.1 hi).1
  rcases Nat.lt_or_ge i (l.length - 1) with h1 | h1
  ·have := srt_get h.srt h1 hi hx; omega
  ·obtain rfl : i = l.length - 1 := by omega
   rw [hx] at hi; cases hi; exact k
def Fits (p : Pg) (g : Gl) (n : Int) : Prop := g.Ok ∧ FitAll p g ∧ ∀ m ∈ g.vars, m < n
theorem l14Fits_spec {p : Pg} {g : Gl} {n : Int} {vp v : Value} (hp : RepV μ p.d vp) (hv : RepV μ g.d v) (hw : g.d.wd) : Spec Tryz.prog 128 [vp, v, .int .i64 n] μ fun r _ => r = .bool (decide (Fits p g n)) := by
 have w_ := Pg.inv hp
 obtain ⟨q, rfl, hrl⟩ := w_
 have w_ := Gl.invV hv
 obtain ⟨q2, rfl⟩ := w_
 refine Spec.mk Tryz.func128 (by kernel_rfl) ?_
 intro r1 r2
 refine cGv (spec_GoalOk_spec g hv hw) ?_
 refine ifnd (fun h => rPl (isF fun k => h k.1)) (fun h1 => ?_)
 refine cGv (l14Calls_spec hp g h1.1 hv) ?_
 refine ifnd (fun h => rPl (isF fun k => h k.2.1)) (fun h2 => ?_)
 refine cPl (l13Vars_spec (l := []) (v := .slice none 0 0) g h1.1 hv ⟨none, 0, rfl, ⟨Nat.zero_le _, Nat.zero_le _⟩, by simp, .inl rfl⟩ ⟨List.Pairwise.nil, by simp⟩) fun v1 μ1 hle1 hR => ?_
 obtain ⟨r, g1, g2, g3⟩ := hR
 have w_ := Rep.sl g1
 obtain ⟨b, c, rfl, hsl⟩ := w_
 rw [List.length_map] at hsl ⊢
 have hlen := g3.len
 have hmem : ∀ x, x ∈ r ↔ x ∈ g.vars := fun x => by rw [g2]; simp
 refine ifd (fun h => rPl (isT ⟨h1, h2, fun m hm => ?_⟩)) (fun h => ?_)
 ·have h3 : r = [] := List.eq_nil_of_length_eq_zero (by omega)
  have := (hmem m).2 hm
  rw [h3] at this; simp at this
 ·have w_ := aSo (l := r) (i := r.length - 1) (by omega)
  obtain ⟨x, hx⟩ := w_
  have w_ := Ints.elem hsl hx
  obtain ⟨ad, hel⟩ := w_
  refine nEq (x := ((r.length - 1 : Nat) : Int)) (by rw [wrap64 (by omega) (by omega)]; omega) ?_
  refine eIn hel ?_
  refine rPl (isI ⟨fun k => ⟨h1, h2, fun m hm => ((VL.last g3 hx).2 k) m ((hmem m).2 hm)⟩, fun k => (VL.last g3 hx).1 fun y hy => k.2.2 y ((hmem y).1 hy)⟩)
end
end Go.Vx
namespace Go.Vx
open Go.Proofs Classical
section
variable {μ : Mem}
theorem spec_ProgramOk_spec {p : Pg} {v : Value} (hp : RepV μ p.d v) (hw : p.d.wd) : Spec Tryz.prog 66 [v] μ fun r _ => r = .bool (decide p.Ok) := by
 have w_ := Pg.inv hp
 obtain ⟨q, rfl, hrl⟩ := w_
 have hws : D.wds (p.rels.map Rl.d) := by rw [Pg.d_eq] at hw; exact hw.1
 refine Spec.mk Tryz.func66 (by kernel_rfl) ?_
 intro r1
 refine ifd (fun h8 => rPl (isF fun h => by have := h.1; omega)) (fun h8 => ?_)
 refine lIn (fun x : Nat × Mem => x.1 ≤ p.rels.length ∧ μ.Le x.2 ∧ ∀ (j : Nat) (r : Rl), j < x.1 → p.rels[j]? = some r → RelOk p j r)
  (fun (i, μ') => ⟨[(1, .loc 0 r1 0), (10, .val (.slice q.1 p.rels.length q.2)), (11, .val (.int .i64 p.rels.length)), (12, .val (.int .i64 i))], [(0, some (.cells r1 [.val (.slice q.1 p.rels.length q.2)] 45))], 1, μ', Mem.nil⟩) (fun x => p.rels.length - x.1)
  (0, μ) ⟨by simp, Mem.Le.refl _, fun j r hj => by simp at hj⟩ (fun (_, _) => ⟨rfl, rfl⟩) ⟨⟨rfl, rfl, rfl, rfl, trivial⟩, ⟨rfl, trivial⟩, rfl, rfl⟩ ?_
 rintro ⟨i, μ'⟩ ⟨hi, hle, hall⟩
 dsimp only at hi hle hall
 refine ifd (fun hlt => ?_) (fun hlt => ?_)
 ·have w_ := aSo (l := p.rels) (i := i) (by omega)
  obtain ⟨x, hx⟩ := w_
  have w_ := Rl.elemA (hrl.mono hle) hx
  obtain ⟨ad, q2, hel, hr, hb⟩ := w_
  have hb : RepV μ' x.body.d (.agg (x.body.cs q2).toArray) := hb
  have hxw : x.d.wd := D.wds_mem hws _ (mAt (at_map (f := Rl.d) hx))
  rw [Rl.d_eq] at hxw
  have hnm : x.name.size ≤ maxLen := hxw.1
  have hbw : x.body.d.wd := hxw.2.2.2.1
  have bad : ¬ RelOk p i x → Value.bool false = .bool (decide p.Ok) := fun h => isF fun k => h (k.2 i x hx)
  refine eIn hel ?_
  intro r2
  refine cGv (l14Find_spec (hp.mono hle)) ?_
  refine ifnd (fun h => rPl (bad fun k => h k.at_)) (fun g2 => ?_)
  refine cGv (spec_IsRelName_spec _ hnm _) ?_
  refine ifnd (fun h => rPl (bad fun k => h k.name)) (fun g1 => ?_)
  refine cGv (l01In_spec _ _ _ _) ?_
  refine ifnd (fun h => rPl (bad fun k => h ⟨k.ar0, k.ar4⟩)) (fun g3 => ?_)
  refine cGv (l01In_spec _ _ _ _) ?_
  refine ifnd (fun h => rPl (bad fun k => h ⟨k.lo0, k.lo8⟩)) (fun g4 => ?_)
  refine num64 (by omega) (by omega) ?_
  refine cPl (l14Fits_spec (hp.mono hle) hb hbw) fun v1 μ1 hle1 hR => ?_
  obtain rfl := hR
  refine ifnd (fun h => rPl (bad fun k => h ⟨⟨k.body, by have := k.size; omega⟩, k.calls, k.vars⟩)) (fun g5 => ?_)
  refine cGv (spec_GoalSize_spec x.body (hb.mono hle1) hbw) ?_
  have hc : x.body.count = x.body.cnt := by rw [Gl.count, if_pos g5.1]
  refine ifd (fun h => rPl (bad fun k => by have := k.size; omega)) (fun g6 => ?_)
  have hok : RelOk p i x := ⟨g2, g1, by omega, by omega, by omega, by omega, g5.1.1, by omega, g5.2.2, g5.2.1⟩
  refine num64 (by omega) (by omega) ⟨(i + 1, μ1), ⟨by dsimp only; omega, hle.trans hle1, fun j r hj hr => ?_⟩, by dsimp only; omega, ⟨⟨rfl, rfl, rfl, rfl, trivial⟩, ⟨rfl, trivial⟩, rfl, rfl⟩⟩
  rcases Nat.lt_or_ge j i with h6 | h6
  ·exact hall j r h6 hr
  ·obtain rfl : j = i := by omega
   rw [hx] at hr; cases hr; exact hok
 ·obtain rfl : i = p.rels.length := by omega
  exact rPl (isT ⟨by omega, fun j r hr => hall j r (List.getElem?_eq_some_iff.1 hr).1 hr⟩)
end
end Go.Vx
namespace Go.Vx
open Go.Proofs Classical
section
variable {μ : Mem}
theorem Rep.srcAll {es n cap : Nat} {base : Option Addr} {ds : List D} (h : RepV μ (.sl es ds) (.slice base n cap)) : ∃ vs, Rows μ es ds vs ∧ vs.length = n ∧ SrcAt μ base n es vs := by
 have w_ := Rep.src h
 obtain ⟨vs, hrows, hvl, hcap, hsrc⟩ := w_
 have := hsrc 0 n (Nat.zero_le _) (Nat.le_refl _)
 have e1 : (if cap = 0 then base else base.map (·.add (0 * es))) = base := by
  split
  ·rfl
  ·cases base with
   | none => rfl
   | some a => simp [Addr.add]
 rw [e1, Nat.sub_zero, List.drop_zero, List.take_of_length_le (by omega)] at this
 exact ⟨vs, hrows, hvl, this⟩
end
end Go.Vx
namespace Go.Vx
open Go.Proofs Classical
section
variable {μ : Mem}
theorem apartB {h : Mem} {r r' cap es : Nat} {ty : TypeId} {ys : List Value} (hb : RowO h r cap ty es ys) (hap : Apart μ h) (hor : r' = r ∨ (h r' = none ∧ μ r' = none)) : μ r' = none := by
 rcases hor with rfl | ⟨_, h2⟩
 ·obtain ⟨cs, h1, _⟩ := hb
  cases e : μ r' with
  | none => rfl
  | some o => have := hap r' (by simp [e]); rw [h1] at this; cases this
 ·exact h2
theorem Fresh.bd {μ' : Mem} {n : Int} {x : T} {q : Option Addr × Nat} (h : Fresh μ μ' x.tm.d (.agg (x.tm.cs q).toArray)) (hle : μ.Le μ') : Fresh μ μ' (B.bd ⟨n, x⟩).d (.agg (Value.int .i64 n :: x.tm.cs q).toArray) := by
 have := (FreshS.int (n := n) (FreshS.cons h hle (Mem.Le.refl _) FreshS.nil)).st
 have e : vcells (.agg (x.tm.cs q).toArray) ++ [] = x.tm.cs q := by simp [vcells]
 rw [e] at this
 exact this
set_option maxHeartbeats 4000000 in
theorem RepV.bd {n : Int} {x : T} {q : Option Addr × Nat} (h : RepV μ x.tm.d (.agg (x.tm.cs q).toArray)) : RepV μ (B.bd ⟨n, x⟩).d (.agg (Value.int .i64 n :: x.tm.cs q).toArray) := by
 have hc := RepV.cells h
 have e : vcells (.agg (x.tm.cs q).toArray) = x.tm.cs q := by simp [vcells]
 rw [e] at hc
 exact ⟨_, rfl, RepS.int (RepS.last hc)⟩
end
end Go.Vx
namespace Go.Vx
open Go.Sort
section
variable {α : Type} {lt : α → α → Bool}
end
section
variable {α : Type} [Inhabited α] {lt : α → α → Bool} {d c R : Array α}
structure Sw (a b n : Nat) (d d' : Array α) : Prop where
 size : d'.size = d.size
 fst : ∀ t, t < n → d'[a + t]! = d[b + t]!
 snd : ∀ t, t < n → d'[b + t]! = d[a + t]!
 out : ∀ k, k < a ∨ a + n ≤ k → k < b ∨ b + n ≤ k → d'[k]! = d[k]!
theorem Sw.nil (a b : Nat) (d : Array α) : Sw a b 0 d d := ⟨rfl, fun t h => by omega, fun t h => by omega, fun _ _ _ => rfl⟩
theorem Sw.step {a b n : Nat} (h : Sw a b n d c) (h1 : a + n < b) (h2 : b + n < d.size) : Sw a b (n + 1) d (swp c (a + n) (b + n)) := by
 have g : ∀ k, (swp c (a + n) (b + n))[k]! = if k = b + n then c[a + n]! else if k = a + n then c[b + n]! else c[k]! := fun k => swp_get c (by rw [h.size]; omega) (by rw [h.size]; omega) k
 refine ⟨by rw [Go.Sort.swp_size, h.size], fun t ht => ?_, fun t ht => ?_, fun k hk1 hk2 => ?_⟩
 ·rw [g, if_neg (by omega)]
  by_cases e : t = n
  ·subst e; rw [if_pos rfl, h.out _ (by omega) (by omega)]
  ·rw [if_neg (by omega), h.fst t (by omega)]
 ·rw [g]
  by_cases e : t = n
  ·subst e; rw [if_pos rfl, h.out _ (by omega) (by omega)]
  ·rw [if_neg (by omega), if_neg (by omega), h.snd t (by omega)]
 ·rw [g, if_neg (by omega), if_neg (by omega), h.out k (by omega) (by omega)]
structure Rot (a m b : Nat) (d d' : Array α) : Prop where
 size : d'.size = d.size
 out : ∀ k, k < a ∨ b ≤ k → d'[k]! = d[k]!
 lo : ∀ t, t < b - m → d'[a + t]! = d[m + t]!
 hi : ∀ t, t < m - a → d'[a + (b - m) + t]! = d[a + t]!
theorem Rot.same {m i : Nat} (hi : i ≤ m) (s : Sw (m - i) m i d R) : Rot (m - i) m (m + i) d R where
 size := s.size
 out k hk := s.out k (by omega) (by omega)
 lo t ht := s.fst t (by omega)
 hi t ht := by rw [show m - i + (m + i - m) + t = m + t by omega]; exact s.snd t (by omega)
theorem Rot.ls {m i j : Nat} (hi : i ≤ m) (hj : i < j) (s : Sw (m - i) (m + j - i) i d c) (r : Rot (m - i) m (m + (j - i)) c R) : Rot (m - i) m (m + j) d R where
 size := r.size.trans s.size
 out k hk := by rw [r.out k (by omega), s.out k (by omega) (by omega)]
 lo t ht := by
  by_cases h : t < j - i
  ·rw [r.lo t (by omega), s.out _ (by omega) (by omega)]
  ·obtain ⟨u, rfl⟩ : ∃ u, t = j - i + u := ⟨t - (j - i), by omega⟩
   have := r.hi u (by omega)
   rw [show m - i + (j - i + u) = m - i + (m + (j - i) - m) + u by omega, this, s.fst u (by omega), show m + j - i + u = m + (j - i + u) by omega]
 hi t ht := by
  rw [show m - i + (m + j - m) + t = m + j - i + t by omega, r.out _ (by omega), s.snd t (by omega)]
section
variable {s m e : Nat}
theorem SortedIn.sub {a b a' b' : Nat} (h : SortedIn lt a b d) (h1 : a ≤ a') (h2 : b' ≤ b) : SortedIn lt a' b' d := fun i j hi hij hj => h i j (by omega) hij (by omega)
structure Cut (lt : α → α → Bool) (a s m e b : Nat) (d : Array α) : Prop where
 sa : a ≤ s
 sm : s ≤ m
 me : m ≤ e
 eb : e ≤ b
 lo : ∀ x y, a ≤ x → x < s → e ≤ y → y < b → lt d[y]! d[x]! = false
 hi : ∀ x y, s ≤ x → x < m → m ≤ y → y < e → lt d[x]! d[y]! = false
end
end
end Go.Vx
namespace Go.Vx
open Go.Proofs Classical
structure Ord3 {α : Type} (c : α → α → Int) : Prop where
 zero : ∀ x y, c x y = 0 ↔ x = y
 anti : ∀ x y, c x y < 0 ↔ 0 < c y x
 trans : ∀ x y z, c x y < 0 → c y z < 0 → c x z < 0
def lexI (p q : Int) : Int := if p = 0 then q else p
def cInt (a b : Int) : Int := if a = b then 0 else sgn (decide (a < b))
noncomputable def B.cmp (x y : B) : Int := lexI (cInt x.var y.var) (x.to.cmp y.to)
end Go.Vx
namespace Go.Vx
open Go.Proofs Classical
section
variable {α : Type} {c : α → α → Int}
def Asc3 (c : α → α → Int) (l : List α) : Prop := l.Pairwise fun a b => c a b < 0
theorem Ord3.irrefl (h : Ord3 c) (x : α) : ¬ c x x < 0 := by have := (h.zero x x).2 rfl; omega
theorem Asc3.nodup (h : Ord3 c) {l : List α} (hl : Asc3 c l) : l.Nodup := hl.imp fun {a b} k e => by subst e; exact h.irrefl _ k
theorem Asc3.uniq (h : Ord3 c) {l m : List α} (hl : Asc3 c l) (hm : Asc3 c m) (e : ∀ x, x ∈ l ↔ x ∈ m) : l = m := by
 have hp : l.Perm m := (List.perm_ext_iff_of_nodup (hl.nodup h) (hm.nodup h)).2 e
 refine List.Perm.eq_of_pairwise (le := fun a b => c a b < 0) (fun a b _ _ h1 h2 => ?_) hl hm hp
 have := (h.anti a b).1 h1
 omega
end
end Go.Vx
namespace Go.Vx
open Go.Proofs Classical
open Go.Sort
structure SortBy {α : Type} [Inhabited α] (lf sf : FuncId) (lb sb : List Value) (n : Nat) (lt : α → α → Bool) (μ0 : Mem) (J : Array α → Mem) (V : Array α → Prop) : Prop where
 max : n ≤ 1000000000000
 size : ∀ {d}, V d → d.size = n
 sw : ∀ {d : Array α} {i j : Nat}, V d → i < n → j < n → V (swp d i j)
 dom : ∀ {d d' : Array α} {b : Nat}, V d → V d' → J d b = none → J d' b = none
 less : ∀ {μ : Mem} {d : Array α} {i j : Nat}, μ0.Le μ → V d → i < n → j < n → SpecH Tryz.prog lf (.int .i64 i :: .int .i64 j :: lb) μ (J d) fun v μ' h' => v = .bool (lt d[i]! d[j]!) ∧ μ' = μ ∧ h' = J d
 swap : ∀ {μ : Mem} {d : Array α} {i j : Nat}, μ0.Le μ → V d → i < n → j < n → SpecH Tryz.prog sf (.int .i64 i :: .int .i64 j :: sb) μ (J d) fun v μ' h' => v = .tuple #[] ∧ μ' = μ ∧ h' = J (swp d i j)
section
variable {α : Type} [Inhabited α] {lf sf : FuncId} {lb sb : List Value} {n : Nat} {lt : α → α → Bool} {μ0 : Mem} {J : Array α → Mem} {V : Array α → Prop} {μ : Mem} {d : Array α}
end
end Go.Vx
namespace Go.Vx
open Go.Proofs Classical
open Go.Sort
open Go.Extern Go.Extern.Rtype Go.RowKit Go.Lib
section
variable {P : Program} {f : FuncId} {args : List Value} {μ h0 : Mem}
theorem SpecH.ext {R : Value → Mem → Mem → Prop} (h : ∀ w, Holds μ w → Holds h0 w → Apart μ h0 → ∃ v w' μ' h', (callFunc f args.toArray).run P w = .ok (.value v) w' ∧ R v μ' h' ∧ Step μ h0 w μ' h' w') : SpecH P f args μ h0 R :=
 ⟨trivial, fun w h1 h2 h3 => by
  have w_ := h w h1 h2 h3
  obtain ⟨v, w', μ', h', e, hr, hS⟩ := w_
  exact .inr ⟨v, w', e, v, μ', h', rfl, hr, hS⟩⟩
theorem Step.same {w : World} (h1 : Holds μ w) (h2 : Holds h0 w) (h3 : Apart μ h0) : Step μ h0 w μ h0 w :=
 ⟨Mem.Le.refl _, h1, h2, h3, fun _b h h' => absurd h h', fun _b h => .inr h, Nat.le_refl _, fun _ _ _ => rfl, rfl, rfl, rfl⟩
theorem Step.row {w : World} {r : Nat} {cs cs' : Array Value} {ty : TypeId} (h1 : Holds μ w) (h2 : Holds h0 w) (h3 : Apart μ h0) (hr : h0 r = some (.cells cs ty (0, 0))) : Step μ h0 w μ (h0.set r (.cells cs' ty (0, 0))) (w.setRow r cs') := by
 have hne : ∀ b, μ b ≠ none → b ≠ r := fun b hb e => by
  subst e; rw [h3 b hb] at hr; cases hr
 have hg : w.heap[r]? = some (.cells cs ty (0, 0)) := h2 _ _ hr
 refine ⟨Mem.Le.refl _, fun b o hb => ?_, fun b o hb => ?_, fun b hb => ?_, fun b h h' => absurd h h', fun b h => ?_, by simp, fun b _ hb => setRow_other w r b _ fun e => ?_, rfl, rfl, rfl⟩
 ·rw [setRow_other w r b _ (hne b (by simp [hb]))]; exact h1 b o hb
 ·rw [Mem.set_get] at hb
  split at hb
  ·rename_i e; subst e; cases hb; rw [setRow_heap w b _ _ ty (0, 0) hg]
  ·rename_i e; rw [setRow_other w r b _ e]; exact h2 b o hb
 ·rw [Mem.set_ne (hne b hb)]; exact h3 b hb
 ·by_cases e : b = r
  ·subst e; exact .inr (by rw [hr]; simp)
  ·rw [Mem.set_ne e] at h; exact .inr h
 ·subst e; rw [hr] at hb; cases hb
theorem Step.alloc {w : World} {o : Obj} (h1 : Holds μ w) (h2 : Holds h0 w) (h3 : Apart μ h0) : Step μ h0 w (μ.set w.heap.size o) h0 (w.alloc o) ∧ μ w.heap.size = none := by
 have hlt : ∀ b o, w.heap[b]? = some o → b < w.heap.size := fun b o h => (Array.getElem?_eq_some_iff.1 h).1
 have hm : μ w.heap.size = none := by
  cases e : μ w.heap.size with
  | none => rfl
  | some o => have := hlt _ _ (h1 _ _ e); omega
 have hh : h0 w.heap.size = none := by
  cases e : h0 w.heap.size with
  | none => rfl
  | some o => have := hlt _ _ (h2 _ _ e); omega
 have hk : ∀ b, b < w.heap.size → (w.alloc o).heap[b]? = w.heap[b]? := fun b hb => by
  show (w.heap.push o)[b]? = _
  rw [Array.getElem?_push, if_neg (by omega)]
 refine ⟨⟨fun b x hb => ?_, fun b x hb => ?_, fun b x hb => ?_, fun b hb => ?_, fun b h h' => ?_, fun b h => .inr h, by show w.heap.size ≤ (w.heap.push o).size; simp, fun b hb _ => hk b hb, rfl, rfl, rfl⟩, hm⟩
 ·rw [Mem.set_ne (fun e => by subst e; rw [hm] at hb; cases hb)]; exact hb
 ·rw [Mem.set_get] at hb
  split at hb
  ·rename_i e; subst e; cases hb; show (w.heap.push o)[w.heap.size]? = some o; simp
  ·rw [hk b (hlt _ _ (h1 _ _ hb))]; exact h1 _ _ hb
 ·rw [hk b (hlt _ _ (h2 _ _ hb))]; exact h2 _ _ hb
 ·rw [Mem.set_get] at hb
  split at hb
  ·rename_i e; subst e; exact hh
  ·exact h3 b hb
 ·rw [Mem.set_get] at h'
  split at h'
  ·rename_i e; subst e; exact .inl (Nat.le_refl _)
  ·exact absurd h h'
end
structure SlTy (t e : TypeId) (i ie : TypeInfo) (ke : Nat) : Prop where
 hi : Tryz.prog.info? t = some i
 hd : i.desc = .slice e
 pk : Tryz.prog.packed t = false
 hie : Tryz.prog.info? e = some ie
 hke : ∀ w, (Extern.Rtype.kind e).run Tryz.prog w = .ok ke w
 h9 : swapperK 2 ie ke = 9
section
variable {μ : Mem}
end
end Go.Vx
namespace Go.Vx
open Go.Proofs Classical
open Go.Sort
open Go.Extern Go.Extern.Rtype Go.RowKit Go.Lib
def RowV (h0 : Mem) (r : Nat) (ty : TypeId) (rest : List Value) (d : Array Value) : Mem := h0.set r (.cells (List.toArray (d.toList.flatMap vcells ++ rest)) ty (0, 0))
def Els (es : Nat) (d : Array Value) : Prop := ∀ x ∈ d.toList, (vcells x).length = es ∧ ∀ u ∈ vcells x, u.oneCell' = true
theorem flat_put {es : Nat} : ∀ {l : List Value}, (∀ y ∈ l, (vcells y).length = es) → ∀ {i : Nat}, i < l.length → ∀ {y : Value}, (vcells y).length = es → ∀ rest : List Value,
  (l.flatMap vcells ++ rest).take (i * es) ++ vcells y ++ (l.flatMap vcells ++ rest).drop (i * es + es) = (l.set i y).flatMap vcells ++ rest
 | [], _, i, hi, _, _, _ => by simp at hi
 | z :: r, hl, 0, _, y, hy, rest => by
  have hz := hl z (by simp)
  simp only [Nat.zero_mul, List.take_zero, List.nil_append, Nat.zero_add, List.set_cons_zero, List.flatMap_cons, List.append_assoc]
  rw [← hz, List.drop_left]
 | z :: r, hl, i + 1, hi, y, hy, rest => by
  have hz := hl z (by simp)
  have ih := flat_put (l := r) (fun y h => hl y (List.mem_cons_of_mem _ h)) (i := i) (by simpa using hi) hy rest
  simp only [List.set_cons_succ, List.flatMap_cons, List.append_assoc] at ih ⊢
  have e1 : (i + 1) * es = (vcells z).length + i * es := by rw [hz, Nat.add_mul, Nat.one_mul, Nat.add_comm]
  rw [e1, List.take_length_add_append, Nat.add_assoc, List.drop_length_add_append, List.append_assoc, ih]
theorem arrV_at {d : Array Value} {k : Nat} (h : k < d.size) : d.toList[k]? = some d[k]! := by
 rw [Array.getElem?_toList, getElem!_pos d k h, Array.getElem?_eq_getElem h]
theorem arrV_mem {d : Array Value} {k : Nat} (h : k < d.size) : d[k]! ∈ d.toList := List.mem_of_getElem? (arrV_at h)
theorem Els.perm {es n : Nat} {d d' : Array Value} (hn : d.size = n) (h : Els es d) (p : PermIn 0 n d d') : Els es d' := fun x hx => by
 have w_ := List.mem_iff_getElem?.1 hx
 obtain ⟨i, hi⟩ := w_
 have hi2 : i < d'.size := by have := (List.getElem?_eq_some_iff.1 hi).1; simpa using this
 rw [arrV_at hi2] at hi
 cases hi
 exact permIn_all d d' 0 n (fun x => (vcells x).length = es ∧ ∀ u ∈ vcells x, u.oneCell' = true) (by omega) p (fun j _ hj => h _ (arrV_mem (by omega))) i (by omega) (by rw [p.1] at hi2; omega)
section
variable {P : Program} {μ h0 : Mem} {r : Nat} {ty : TypeId} {rest : List Value} {d : Array Value} {es : Nat}
theorem RowV.cell (hE : Els es d) {i c : Nat} {v : Value} (hi : i < d.size) (hv : (vcells d[i]!)[c]? = some v) : (RowV h0 r ty rest d).cell ⟨r, i * es + c, none⟩ = some v := by
 have h := flat_at (fun y hy => (hE y hy).1) (arrV_at hi) hv
 simp only [Mem.cell, RowV, Mem.set_at, Option.isSome_none]
 have h2 := (List.getElem?_eq_some_iff.1 h).1
 simp only [List.getElem?_toArray]
 rw [List.getElem?_append_left h2, h]
 rfl
theorem load_row {e : TypeId} {ti : TI} (hti : TIok P e ti) (w : World) (a : Addr) (x : Value) (hl : (vcells x).length = ti.size) (h : ∀ j v, (vcells x)[j]? = some v → w.cell? (a.add j) = some v) (h1 : ti.agg = false → ti.size = 1) (h2 : ∀ u ∈ vcells x, u.oneCell' = true) :
  ∃ y, (loadVar e a).run P w = .ok y w ∧ vcells y = vcells x := by
 have hr := run_loadVar_cells hti w a (vcells x) hl h h1
 refine ⟨_, hr, ?_⟩
 cases hg : ti.agg with
 | true => simp [vcells]
 | false =>
  rw [h1 hg] at hl
  match hc : vcells x, hl with
  | [u], _ =>
   have := h2 u (by rw [hc]; simp)
   simp only [Bool.false_eq_true, if_false, List.getD_cons_zero]
   cases u <;> first | rfl | (simp [Value.oneCell'] at this)
theorem swap9_spec {e : TypeId} {ti : TI} (hti : TIok Tryz.prog e ti) (h1 : ti.agg = false → ti.size = 1) (hE : Els ti.size d) {n cap i j : Nat} (hd : d.size = n) (hi : i < n) (hj : j < n) :
  SpecH Tryz.prog 271 [.int .i64 i, .int .i64 j, .slice (some ⟨r, 0, none⟩) n cap, typeHandle Tryz.prog e] μ (RowV h0 r ty rest d) fun v μ' h' => v = .tuple #[] ∧ μ' = μ ∧ h' = RowV h0 r ty rest (swp d i j) := by
 refine SpecH.ext fun w hm hh ha => ?_
 subst hd
 have hX := hE _ (arrV_mem hi)
 have hY := hE _ (arrV_mem hj)
 have hcell : ∀ k, k < d.size → ∀ c v, (vcells d[k]!)[c]? = some v → w.cell? ((⟨r, k * ti.size, none⟩ : Addr).add c) = some v := fun k hk c v hv => by
  rw [Addr.add_lit']; exact hh.cell (RowV.cell hE hk hv)
 have w_ := load_row hti w ⟨r, i * ti.size, none⟩ d[i]! hX.1 (hcell i hi) h1 hX.2
 obtain ⟨X, l1, eX⟩ := w_
 have w_ := load_row hti w ⟨r, j * ti.size, none⟩ d[j]! hY.1 (hcell j hj) h1 hY.2
 obtain ⟨Y, l2, eY⟩ := w_
 have hb : ∀ k, k < d.size → k * ti.size + ti.size ≤ d.size * ti.size := fun k hk => by
  have := Nat.mul_le_mul_right ti.size (show k + 1 ≤ d.size from hk); rwa [Nat.add_mul, Nat.one_mul] at this
 have hlen : (d.toList.flatMap vcells).length = d.size * ti.size := by rw [flat_len _ fun y hy => (hE y hy).1]; simp
 have hg : w.heap[r]? = some (.cells (List.toArray (d.toList.flatMap vcells ++ rest)) ty (0, 0)) := hh _ _ (Mem.set_at _ _ _)
 have s1 := run_storeVar hti w r (i * ti.size) _ ty hg Y (by rw [eY]; exact hY.1) (by have := hb i hi; simp [hlen]; omega) (by rw [eY]; exact hY.2)
 have e1 := flat_put (fun y hy => (hE y hy).1) (l := d.toList) (i := i) (by simpa using hi) (y := d[j]!) hY.1 rest
 rw [eY, hY.1] at s1
 simp only [e1] at s1
 have hE2 : ∀ y ∈ d.toList.set i d[j]!, (vcells y).length = ti.size := fun y hy => by
  rcases List.mem_or_eq_of_mem_set hy with h | h
  ·exact (hE y h).1
  ·subst h; exact hY.1
 have hlen2 : ((d.toList.set i d[j]!).flatMap vcells).length = d.size * ti.size := by rw [flat_len _ hE2]; simp
 have hg2 : (w.setRow r (List.toArray ((d.toList.set i d[j]!).flatMap vcells ++ rest))).heap[r]? = some (.cells (List.toArray ((d.toList.set i d[j]!).flatMap vcells ++ rest)) ty (0, 0)) := setRow_heap w r _ _ ty (0, 0) hg
 have s2 := run_storeVar hti _ r (j * ti.size) _ ty hg2 X (by rw [eX]; exact hX.1) (by have := hb j hj; simp [hlen2]; omega) (by rw [eX]; exact hX.2)
 have e2 := flat_put hE2 (i := j) (by simpa using hj) (y := d[i]!) hX.1 rest
 rw [eX, hX.1] at s2
 simp only [e2] at s2
 have hsw : (d.toList.set i d[j]!).set j d[i]! = (swp d i j).toList := by rw [swp, Array.toList_setIfInBounds, Array.toList_setIfInBounds]
 rw [hsw] at s2
 have hss : ∀ z z', (w.setRow r z).setRow r z' = w.setRow r z' := fun z z' => setRow_setRow w r z z'
 have hS := Step.row (cs' := List.toArray ((swp d i j).toList.flatMap vcells ++ rest)) hm hh ha (Mem.set_at _ _ _)
 refine ⟨.tuple #[], w.setRow r (List.toArray ((swp d i j).toList.flatMap vcells ++ rest)), μ, RowV h0 r ty rest (swp d i j), ?_, ⟨rfl, rfl, rfl⟩, ?_⟩
 rotate_left
 ·rw [RowV, Mem.set_set] at hS; exact hS
 rw [run_callFunc_extern Tryz.func271 (by kernel_rfl) (by kernel_rfl) (by kernel_rfl) (e := Extern.ReflectliteSwapper.swap false) (by kernel_rfl)]
 show (Sem.run _ (ReflectliteSwapper.swap false #[.int .i64 i, .int .i64 j, .slice (some ⟨r, 0, none⟩) d.size cap, typeHandle Tryz.prog e]) w).andThen _ = _
 have i0 : ¬ ((i : Int) < 0) := by omega
 have i1 : ¬ ((i : Int) ≥ d.size) := by omega
 have j0 : ¬ ((j : Int) < 0) := by omega
 have j1 : ¬ ((j : Int) ≥ d.size) := by omega
 rw [rl_swap]
 simp [i0, i1, j0, j1, ofHandle, handleType, typeHandle, ReflectliteSwapper.exchange, hti.run_sizeOf, Addr.add_lit', l1, l2, s1, s2, hss, Result.andThen]
end
section
variable {μ h0 : Mem} {lf sf : FuncId} {lb sb : List Value} {n : Nat}
end
section
variable {α : Type} [Inhabited α] {enc : α → Value} {μ h0 : Mem} {r : Nat} {ty t e : TypeId} {i ie : TypeInfo} {ke : Nat} {ti : TI} {rest : List Value} {d0 : Array α} {n cap : Nat} {lf : FuncId} {lb : List Value} {lt : α → α → Bool}
theorem map_get {d : Array α} {k : Nat} (h : k < d.size) : (d.map enc)[k]! = enc d[k]! := by
 rw [getElem!_pos _ k (by simpa using h), getElem!_pos d k h, Array.getElem_map]
theorem swp_map {d : Array α} {a b : Nat} (ha : a < d.size) (hb : b < d.size) : (swp d a b).map enc = swp (d.map enc) a b := by
 unfold swp
 rw [map_get hb, map_get ha]
 simp
theorem permIn_map {d d' : Array α} (hn : d.size = n) (p : PermIn 0 n d d') : PermIn 0 n (d.map enc) (d'.map enc) := by
 obtain ⟨h1, h2, h3⟩ := p
 refine ⟨by simp [h1], fun k hk => ?_, ?_⟩
 ·have hk2 : n ≤ k := by omega
  rw [getElem!_neg _ k (by simp; omega), getElem!_neg _ k (by simp; omega)]
 ·have e1 : d'.extract 0 n = d' := by rw [← hn, ← h1]; exact Array.extract_size
  have e2 : d.extract 0 n = d := by rw [← hn]; exact Array.extract_size
  have e3 : (d'.map enc).extract 0 n = d'.map enc := by rw [← hn, ← h1, show d'.size = (d'.map enc).size by simp]; exact Array.extract_size
  have e4 : (d.map enc).extract 0 n = d.map enc := by rw [← hn, show d.size = (d.map enc).size by simp]; exact Array.extract_size
  rw [e1, e2] at h3
  rw [e3, e4]
  simpa using h3.map enc
theorem SortBy.row (hti : TIok Tryz.prog e ti) (h1 : ti.agg = false → ti.size = 1) (hE : Els ti.size (d0.map enc)) (hn : d0.size = n) (hmax : n ≤ 1000000000000)
  (less : ∀ {μ' : Mem} {d : Array α} {i j : Nat}, μ.Le μ' → PermIn 0 n d0 d → i < n → j < n → SpecH Tryz.prog lf (.int .i64 i :: .int .i64 j :: lb) μ' (RowV h0 r ty rest (d.map enc)) fun v μ'' h' => v = .bool (lt d[i]! d[j]!) ∧ μ'' = μ' ∧ h' = RowV h0 r ty rest (d.map enc)) :
  SortBy lf 271 lb [.slice (some ⟨r, 0, none⟩) n cap, typeHandle Tryz.prog e] n lt μ (fun d => RowV h0 r ty rest (d.map enc)) (PermIn 0 n d0) where
 max := hmax
 size hV := hV.1.trans hn
 sw hV hi hj := permIn_trans _ _ _ _ _ hV (swp_permIn _ _ _ _ _ (Nat.zero_le _) hi (Nat.zero_le _) hj (by rw [hV.1, hn]; exact Nat.le_refl _))
 dom {d d' b} _ _ hb := by
  simp only [RowV, Mem.set_get] at hb ⊢
  split at hb
  ·cases hb
  ·rename_i e; rw [if_neg e]; exact hb
 less hle hV hi hj := less hle hV hi hj
 swap {μ d i j} hle hV hi hj := by
  have hs : d.size = n := hV.1.trans hn
  have := swap9_spec (μ := μ) (h0 := h0) (r := r) (ty := ty) (rest := rest) (cap := cap) hti h1 (d := d.map enc) (hE.perm (by simp [hn]) (permIn_map hn hV)) (by simpa using hs) hi hj
  rwa [← swp_map (by omega) (by omega)] at this
end
section
variable {μ h0 : Mem} {r : Nat} {ty : TypeId} {rest : List Value} {es : Nat}
end
end Go.Vx
namespace Go.Vx
open Go.Proofs Classical
open Go.Sort
structure Prs {X : Type} (es : Nat) (f : X → D) (ps : List (X × Value)) (g : Mem) : Prop where
 own : OwnRows es (ps.map fun p => f p.1) (ps.map Prod.snd) g
 size : ∀ p ∈ ps, (vcells p.2).length = es ∧ ∀ u ∈ vcells p.2, u.oneCell' = true
section
variable {X : Type} {es : Nat} {f : X → D} {g : Mem}
theorem Prs.uncons {p : X × Value} {ps : List (X × Value)} (h : Prs es f (p :: ps) g) : ∃ g1 g2, Parts g g1 g2 ∧ Own (f p.1) g1 (vcells p.2) ∧ (f p.1).n = es ∧ Prs es f ps g2 := by
 obtain ⟨⟨ho, hs, hl⟩, hz⟩ := h
 simp only [List.map_cons, List.flatMap_cons] at ho
 obtain ⟨c1, c2, g1, g2, e, hp, h1, h2⟩ := ho
 have hn : (f p.1).n = es := hs _ (by simp)
 have hz0 := (hz p (by simp)).1
 have := List.append_inj e (by rw [h1.len, hn, hz0])
 obtain ⟨rfl, rfl⟩ := this
 exact ⟨g1, g2, hp, h1, hn, ⟨h2, fun x hx => hs x (by simp only [List.map_cons]; exact List.mem_cons_of_mem _ hx), by simp⟩, fun q hq => hz q (List.mem_cons_of_mem _ hq)⟩
theorem Prs.cons {p : X × Value} {ps : List (X × Value)} {g1 g2 : Mem} (hp : Parts g g1 g2) (h1 : Own (f p.1) g1 (vcells p.2)) (hn : (f p.1).n = es) (hz : (vcells p.2).length = es ∧ ∀ u ∈ vcells p.2, u.oneCell' = true) (h : Prs es f ps g2) : Prs es f (p :: ps) g := by
 refine ⟨⟨?_, ?_, by simp⟩, ?_⟩
 ·simp only [List.map_cons, List.flatMap_cons]
  exact OwnS.cons hp h1 h.own.own
 ·intro x hx
  simp only [List.map_cons, List.mem_cons] at hx
  rcases hx with rfl | hx
  ·exact hn
  ·exact h.own.size x hx
 ·intro q hq
  rcases List.mem_cons.1 hq with rfl | hq
  ·exact hz
  ·exact h.size q hq
theorem Prs.perm {ps ps' : List (X × Value)} (h : ps.Perm ps') : ∀ {g : Mem}, Prs es f ps g → Prs es f ps' g := by
 induction h with
 | nil => exact fun h => h
 | cons p _ ih =>
  intro g h
  obtain ⟨g1, g2, hp, h1, hn, h2⟩ := h.uncons
  exact Prs.cons hp h1 hn (h.size _ (by simp)) (ih h2)
 | swap p q l =>
  intro g h
  obtain ⟨g1, k, hp, h1, hn, h2⟩ := h.uncons
  obtain ⟨g2, g3, hq, h3, hn2, h4⟩ := h2.uncons
  have w_ := Parts.assoc hp hq.symm
  obtain ⟨m, hm1, hm2⟩ := w_
  exact Prs.cons hm2.symm h3 hn2 (h.size _ (by simp)) (Prs.cons hm1 h1 hn (h.size _ (by simp)) h4)
 | trans _ _ ih1 ih2 => exact fun h => ih2 (ih1 h)
theorem Prs.at : ∀ {ps : List (X × Value)} {g : Mem}, Prs es f ps g → ∀ p ∈ ps, ∃ g' : Mem, g'.Le g ∧ Own (f p.1) g' (vcells p.2)
 | [], _, _, p, hp => by simp at hp
 | q :: ps, g, h, p, hp => by
  obtain ⟨g1, g2, hpp, h1, _, h2⟩ := h.uncons
  rcases List.mem_cons.1 hp with rfl | hp
  ·exact ⟨g1, hpp.left, h1⟩
  ·have w_ := Prs.at h2 p hp
   obtain ⟨g', h3, h4⟩ := w_
   exact ⟨g', h3.trans hpp.right, h4⟩
theorem Prs.zip : ∀ {xs : List X} {ys : List Value} {g : Mem}, OwnRows es (xs.map f) ys g → (∀ y ∈ ys, (vcells y).length = es ∧ ∀ u ∈ vcells y, u.oneCell' = true) → Prs es f (xs.zip ys) g ∧ (xs.zip ys).map Prod.fst = xs ∧ (xs.zip ys).map Prod.snd = ys := fun {xs ys g} h hz => by
 have hl : xs.length = ys.length := by simpa using h.len
 have e1 : (xs.zip ys).map Prod.fst = xs := by rw [List.map_fst_zip (by omega)]
 have e2 : (xs.zip ys).map Prod.snd = ys := by rw [List.map_snd_zip (by omega)]
 refine ⟨⟨?_, fun p hp => hz p.2 ?_⟩, e1, e2⟩
 ·have e3 : (xs.zip ys).map (fun p => f p.1) = xs.map f := by
   conv => rhs; rw [← e1, List.map_map]
   rfl
  rw [e2, e3]; exact h
 ·rw [← e2]; exact List.mem_map.2 ⟨p, hp, rfl⟩
end
section
variable {X : Type} {es : Nat} {f : X → D}
theorem Prs.nil : Prs es f [] Mem.nil := ⟨OwnRows.nil es, fun p hp => by simp at hp⟩
theorem Prs.sub {ps ps' : List (X × Value)} (h : ps'.Sublist ps) : ∀ {g : Mem}, Prs es f ps g → ∃ g' : Mem, g'.Le g ∧ Prs es f ps' g' := by
 induction h with
 | slnil => exact fun {g} h => ⟨g, Mem.Le.refl _, h⟩
 | cons p _ ih =>
  intro g h
  obtain ⟨g1, g2, hp, h1, hn, h2⟩ := h.uncons
  obtain ⟨g', h3, h4⟩ := ih h2
  exact ⟨g', h3.trans hp.right, h4⟩
 | cons_cons p _ ih =>
  intro g h
  obtain ⟨g1, g2, hp, h1, hn, h2⟩ := h.uncons
  obtain ⟨g', h3, h4⟩ := ih h2
  have ha : Apart g1 g' := fun b hb => by
   have := hp.apart b hb
   cases e : g' b with
   | none => rfl
   | some o => rw [h3 b o e] at this; cases this
  exact ⟨g1.join g', join_le hp.left (h3.trans hp.right), Prs.cons (Parts.join ha) h1 hn (h.size _ (by simp)) h4⟩
end
end Go.Vx
namespace Go.Vx
open Go.Proofs Classical
def Gl.Pos (g : Gl) : Prop := ∀ x ∈ g.all, x.kind ≠ 10
def Pg.Pos (p : Pg) : Prop := p.Ok ∧ ∀ r ∈ p.rels, r.body.Pos
section
variable {μ : Mem}
end
end Go.Vx
namespace Go.Vx
open Go.Proofs Classical
def prodC (a l : List (List Gl)) : List (List Gl) := a.flatMap fun x => l.map fun y => x ++ y
mutual
noncomputable def Gl.cl : Gl → Option (List (List Gl))
 | .mk k s ts gs => if k = 0 then some [[]] else if k = 1 then some [] else if k = 8 then Gl.clOr gs [] else if k = 7 then Gl.clAnd gs [[]] else some [[.mk k s ts gs]]
noncomputable def Gl.clOr : List Gl → List (List Gl) → Option (List (List Gl))
 | [], acc => some acc
 | g :: r, acc => (g.cl).bind fun l => if (acc ++ l).length ≤ 64 then Gl.clOr r (acc ++ l) else none
noncomputable def Gl.clAnd : List Gl → List (List Gl) → Option (List (List Gl))
 | [], acc => some acc
 | g :: r, acc => (g.cl).bind fun l => if (prodC acc l).length ≤ 64 then Gl.clAnd r (prodC acc l) else none
end
theorem Gl.cl_eq (g : Gl) : g.cl = if g.kind = 0 then some [[]] else if g.kind = 1 then some [] else if g.kind = 8 then Gl.clOr g.goals [] else if g.kind = 7 then Gl.clAnd g.goals [[]] else some [[g]] := by
 cases g; rw [Gl.cl]; rfl
theorem prodC_len (a l : List (List Gl)) : (prodC a l).length = a.length * l.length := by
 unfold prodC
 induction a with
 | nil => simp
 | cons x a ih => rw [List.flatMap_cons, List.length_append, ih, List.length_map, List.length_cons, Nat.succ_mul]; omega
theorem prodC_mem {a l : List (List Gl)} {z : List Gl} (h : z ∈ prodC a l) : ∃ x ∈ a, ∃ y ∈ l, z = x ++ y := by
 have w_ := List.mem_flatMap.1 h
 obtain ⟨x, hx, h⟩ := w_
 have w_ := List.mem_map.1 h
 obtain ⟨y, hy, rfl⟩ := w_
 exact ⟨x, hx, y, hy, rfl⟩
theorem prodC_step {a l : List (List Gl)} {j : Nat} {x : List Gl} (h : a[j]? = some x) : prodC (a.take (j + 1)) l = prodC (a.take j) l ++ l.map fun y => x ++ y := by
 rw [prodC, List.take_add_one, h, Option.toList_some, List.flatMap_append]
 simp [prodC]
def csD (c : List Gl) : D := .sl 4 (c.map Gl.d)
section
variable {μ : Mem}
abbrev Cls (μ : Mem) (L : List (List Gl)) (v : Value) : Prop := RepV μ (.sl 1 (L.map csD)) v
theorem csD_inv {c : List Gl} {v : Value} (h : RepV μ (csD c) v) : ∃ p : Option Addr × Nat, v = .slice p.1 c.length p.2 := by
 have w_ := Rep.sl (xs := c.map Gl.d) h
 obtain ⟨b, k, rfl, _⟩ := w_
 exact ⟨(b, k), by rw [List.length_map]⟩
theorem cls_elem {L : List (List Gl)} {base : Option Addr} {n : Nat} (h : Sl μ 1 base n (L.map csD)) {i : Nat} {c : List Gl} (hc : L[i]? = some c) :
  ∃ ad, ∃ p : Option Addr × Nat, ElemAt μ base n 1 i ad [.slice p.1 c.length p.2] ∧ RepV μ (csD c) (.slice p.1 c.length p.2) := by
 have w_ := h.get i (csD c) (by simp [hc])
 obtain ⟨ad, cs, h1, h2⟩ := w_
 have h3 : Rep μ (.sl 4 (c.map Gl.d)) cs := h2
 have hl := Rep.len _ _ h3
 match cs, hl with
 | [v], _ =>
  have w_ := csD_inv (c := c) h3
  obtain ⟨p, rfl⟩ := w_
  exact ⟨ad, p, h1, h3⟩
theorem Cls.sl {L : List (List Gl)} {b : Option Addr} {n c : Nat} (h : Cls μ L (.slice b n c)) : Sl μ 1 b L.length (L.map csD) ∧ n = L.length := by
 have w_ := Rep.sl h
 obtain ⟨b', c', e1, hs⟩ := w_
 have w_ := Value.slice.inj e1
 obtain ⟨rfl, e2, _⟩ := w_
 rw [List.length_map] at hs e2
 exact ⟨hs, e2⟩
theorem Cls.inv {L : List (List Gl)} {v : Value} (h : Cls μ L v) : ∃ p : Option Addr × Nat, v = .slice p.1 L.length p.2 := by
 have w_ := Rep.sl h
 obtain ⟨b, k, rfl, _⟩ := w_
 exact ⟨(b, k), by rw [List.length_map]⟩
theorem csD_src {c : List Gl} {p : Option Addr × Nat} (h : RepV μ (csD c) (.slice p.1 c.length p.2)) : ∃ vs, Rows μ 4 (c.map Gl.d) vs ∧ vs.length = c.length ∧ SrcAt μ p.1 c.length 4 vs := Rep.srcAll h
structure ClsOk (μ : Mem) (g : Gl) (v : Value) (L : List (List Gl)) : Prop where
 rep : Cls μ L v
 cl : g.cl = if L.length ≤ 64 then some L else none
 len : ∀ c ∈ L, c.length ≤ g.cnt
 max : L.length ≤ 4096
set_option maxHeartbeats 8000000 in
theorem l16Clauses_spec : ∀ (g : Gl) {μ : Mem} {v : Value}, RepV μ g.d v → g.Sh → g.cnt ≤ 80 → Spec Tryz.prog 142 [v] μ fun v μ' => ∃ L, ClsOk μ' g v L :=
 Gl.ind fun g ih μ v hv hS hcnt => by
  have hv0 := hv
  have w_ := Gl.inv hv
  obtain ⟨p, rfl, hts, hgs⟩ := w_
  have hg8 := hS.top.gl
  have hce := Gl.cnt_eq1 g
  refine Spec.mk Tryz.func142 (by kernel_rfl) ?_
  intro r1 r15
  refine ifd (fun h0 => ?_) (fun h0 => ?_)
  ·intro r20 μ1 hle1 hno1 hat1 r21
   refine rFz [3] fun μ2 hle2 hno2 hat2 => .inl ⟨[[]], ?_, ?_, ?_, ?_⟩
   ·exact Rows.sl hat2 (Rows.one (d := csD []) ((Rows.sl (μ := μ1) (ds := []) hat1 .nil (Nat.zero_le _)).mono hle2) rfl) (show 1 ≤ maxLen by decide)
   ·rw [Gl.cl_eq, if_pos h0]; rfl
   ·simp
   ·simp
  refine ifd (fun h1 => ?_) (fun h1 => ?_)
  ·refine rFz [1] fun μ2 hle2 hno2 hat2 => .inl ⟨[], ?_, ?_, ?_, ?_⟩
   ·exact Rows.sl hat2 .nil (Nat.zero_le _)
   ·rw [Gl.cl_eq, if_neg h0, if_pos h1]; rfl
   ·simp
   ·simp
  refine ifd (fun h8 => ?_) (fun h8 => ?_)
  ·have hcl : g.cl = Gl.clOr g.goals [] := by rw [Gl.cl_eq, if_neg h0, if_neg h1, if_pos h8]
   refine lIn (fun q : Nat × List (List Gl) × Option Nat × Nat × List Value × Mem => q.1 ≤ g.goals.length ∧ μ.Le q.2.2.2.2.2 ∧ Rows q.2.2.2.2.2 1 (q.2.1.map csD) q.2.2.2.2.1 ∧ g.cl = (if q.2.1.length ≤ 64 then Gl.clOr (g.goals.drop q.1) q.2.1 else none) ∧ (∀ c ∈ q.2.1, c.length ≤ Gl.cnts (g.goals.take q.1)) ∧ q.2.1.length ≤ 64 * q.1)
    (fun (i, acc, b, c, ys, μ') => ⟨[(3, .row 1 b ys.length c), (28, .val (.slice p.2.1 g.goals.length p.2.2)), (29, .val (.int .i64 g.goals.length)), (30, .val (.int .i64 i))], [(1, some (.row b c 28 1 ys))], 2, μ', Mem.nil⟩) (fun q => g.goals.length - q.1)
    (0, [], some r15, 0, [], μ) ⟨Nat.zero_le _, Mem.Le.refl _, .nil, by rw [hcl]; rfl, by simp, by simp⟩ (fun (_, _, _, _, _, _) => ⟨rfl, rfl⟩) ⟨⟨rfl, rfl, rfl, rfl, trivial⟩, ⟨rfl, trivial⟩, rfl, rfl⟩ ?_
   rintro ⟨i, acc, b, c, ys, μ'⟩ ⟨hi, hle, hrows, hJ, hlen, hmax⟩
   dsimp only at hi hle hrows hJ hlen hmax
   have hyl := hrows.len
   rw [List.length_map] at hyl
   refine ifd (fun hlt => ?_) (fun hlt => ?_)
   ·have w_ := aSo (l := g.goals) (i := i) (by omega)
    obtain ⟨x, hx⟩ := w_
    have w_ := Gl.elem (hgs.mono hle) hx
    obtain ⟨ad, q, hel, hr⟩ := w_
    have hxc := Gl.cnts_take hx
    have hxl := Gl.cnts_le g.goals (i + 1)
    refine eIn hel ?_
    intro r5
    refine cPl (ih x (mAt hx) hr (hS.sub x (mAt hx)) (by omega)) fun v1 μ1 hle1 hR => ?_
    obtain ⟨L, hL⟩ := hR
    obtain ⟨pv, rfl⟩ := hL.rep.inv
    have w_ := Rep.srcAll hL.rep
    obtain ⟨vs, hvr, hvl, hsrc⟩ := w_
    have hLm := hL.max
    rw [drop_at hx, Gl.clOr, hL.cl] at hJ
    refine src_intro vs hsrc ?_
    refine gIn ?_ ?_ fun b9 c9 _ => ?_
    ·show (ys.length + vs.length) * 24 ≤ _; omega
    ·exact Nat.le_trans (m := 100000000) (show ys.length + vs.length ≤ _ by omega) (by decide)
    refine ifd (fun h64 => ?_) (fun h64 => ?_)
    ·refine rPl ⟨L, hL.rep, ?_, fun c hc => Nat.le_trans (hL.len c hc) (by omega), hLm⟩
     rw [if_neg (show ¬ L.length ≤ 64 by omega)] at hJ ⊢
     rw [hJ]
     split <;> rfl
    ·rw [if_pos (show L.length ≤ 64 by omega), Option.bind_some] at hJ
     refine num64 (by omega) (by omega) ⟨(i + 1, acc ++ L, b9, c9, _, μ1), ⟨by dsimp only; omega, hle.trans hle1, ?_, ?_, ?_, ?_⟩, by dsimp only; omega, ⟨⟨rfl, rfl, rfl, rfl, trivial⟩, ⟨rfl, trivial⟩, rfl, rfl⟩⟩
     ·dsimp only
      rw [List.map_append]
      exact (hrows.mono hle1).append hvr
     ·dsimp only
      rw [hJ]
      by_cases ha : acc.length ≤ 64
      ·rw [if_pos ha]
      ·rw [if_neg ha, if_neg (by rw [List.length_append]; omega)]
     ·dsimp only
      intro c hc
      rcases List.mem_append.1 hc with hc | hc
      ·have := hlen c hc; omega
      ·have := hL.len c hc; omega
     ·dsimp only
      rw [List.length_append]; omega
   ·obtain rfl : i = g.goals.length := by omega
    rw [List.drop_length, Gl.clOr] at hJ
    rw [List.take_length] at hlen
    refine rFz [1] fun μ2 hle2 hno2 hat2 => .inl ⟨acc, ?_, hJ, fun c hc => by have := hlen c hc; omega, by omega⟩
    exact Rows.sl hat2 (hrows.mono hle2) (Nat.le_trans (m := 100000000) (by omega) (by decide))
  refine ifd (fun h7 => ?_) (fun h7 => ?_)
  rotate_left
  ·intro r96 μ1 hle1 hno1 hat1 r97
   refine gIn ?_ ?_ fun b9 c9 _ => ?_
   ·show (0 + 1) * 24 ≤ _; decide
   ·show 0 + 1 ≤ maxLen; decide
   refine rFz [1] fun μ2 hle2 hno2 hat2 => .inl ⟨[[g]], ?_, ?_, ?_, ?_⟩
   ·refine Rows.sl hat2 (Rows.one (d := csD [g]) ((Rows.sl (μ := μ1) (ds := [g.d]) hat1 (Rows.one (hv0.mono hle1) (Gl.d_n g)) (show 1 ≤ maxLen by decide)).mono hle2) rfl) (show 1 ≤ maxLen by decide)
   ·rw [Gl.cl_eq, if_neg h0, if_neg h1, if_neg h8, if_neg h7]; rfl
   ·intro c hc
    rw [List.mem_singleton.1 hc]
    have := g.cnt_pos
    simpa using this
   ·simp
  have hcl : g.cl = Gl.clAnd g.goals [[]] := by rw [Gl.cl_eq, if_neg h0, if_neg h1, if_neg h8, if_pos h7]
  intro r48 μ1 hle1 hno1 hat1 r49
  refine gIn ?_ ?_ fun b9 c9 _ => ?_
  ·show (0 + 1) * 24 ≤ _; decide
  ·show 0 + 1 ≤ maxLen; decide
  refine lFz (fun q : Nat × List (List Gl) × Option Addr × Nat × Mem => q.1 ≤ g.goals.length ∧ μ.Le q.2.2.2.2 ∧ Cls q.2.2.2.2 q.2.1 (.slice q.2.2.1 q.2.1.length q.2.2.2.1) ∧ g.cl = Gl.clAnd (g.goals.drop q.1) q.2.1 ∧ (∀ c ∈ q.2.1, c.length ≤ Gl.cnts (g.goals.take q.1)) ∧ q.2.1.length ≤ 64)
   (fun (i, acc, b, c, μ') => ⟨[(3, .val (.slice b acc.length c)), (52, .val (.slice p.2.1 g.goals.length p.2.2)), (53, .val (.int .i64 g.goals.length)), (54, .val (.int .i64 i))], [], 0, μ', Mem.nil⟩) (fun q => g.goals.length - q.1) [1]
   (fun (_, _, _, _, _) => ⟨rfl, rfl⟩) (fun μ2 hle2 hno2 hat2 => ⟨(0, [[]], b9.map (fun r => ⟨r, 0, none⟩), c9, μ2), ⟨Nat.zero_le _, hle1.trans hle2, Rows.sl hat2 (Rows.one (d := csD []) ((Rows.sl (μ := μ1) (ds := []) hat1 .nil (Nat.zero_le _)).mono hle2) rfl) (show 1 ≤ maxLen by decide), hcl, by simp, by simp⟩, ⟨rfl, rfl, rfl, rfl, trivial⟩, trivial, rfl, rfl⟩) ?_
  rintro ⟨i, acc, b, c, μ'⟩ ⟨hi, hle, hacc, hJ, hlen, hmax⟩
  dsimp only at hi hle hacc hJ hlen hmax
  refine ifd (fun hlt => ?_) (fun hlt => ?_)
  rotate_left
  ·obtain rfl : i = g.goals.length := by omega
   rw [List.drop_length, Gl.clAnd] at hJ
   rw [List.take_length] at hlen
   exact rPl ⟨acc, hacc, by rw [hJ, if_pos hmax], fun c hc => by have := hlen c hc; omega, by omega⟩
  have w_ := aSo (l := g.goals) (i := i) (by omega)
  obtain ⟨x, hx⟩ := w_
  have w_ := Gl.elem (hgs.mono hle) hx
  obtain ⟨ad, q, hel, hr⟩ := w_
  have hxc := Gl.cnts_take hx
  have hxl := Gl.cnts_le g.goals (i + 1)
  refine eIn hel ?_
  intro r8
  refine cPl (ih x (mAt hx) hr (hS.sub x (mAt hx)) (by omega)) fun v3 μ3 hle3 hR => ?_
  obtain ⟨L, hL⟩ := hR
  obtain ⟨pv, rfl⟩ := hL.rep.inv
  have hLm := hL.max
  rw [drop_at hx, Gl.clAnd, hL.cl] at hJ
  refine ifd (fun h64 => ?_) (fun h64 => ?_)
  ·refine rPl ⟨L, hL.rep, ?_, fun c hc => Nat.le_trans (hL.len c hc) (by omega), hLm⟩
   rw [if_neg (show ¬ L.length ≤ 64 by omega)] at hJ ⊢
   exact hJ
  rw [if_pos (show L.length ≤ 64 by omega), Option.bind_some] at hJ
  intro r64
  have hasl := (Cls.sl (RepV.mono hle3 hacc)).1
  refine lIn (fun q : Nat × Option Nat × Nat × List Value × Mem => q.1 ≤ acc.length ∧ μ3.Le q.2.2.2.2 ∧ Rows q.2.2.2.2 1 ((prodC (acc.take q.1) L).map csD) q.2.2.2.1)
   (fun (j, b1, c1, ys, μ4) => ⟨[(9, .val (.slice pv.1 L.length pv.2)), (10, .row 1 b1 ys.length c1), (52, .val (.slice p.2.1 g.goals.length p.2.2)), (53, .val (.int .i64 g.goals.length)), (54, .val (.int .i64 i)), (65, .val (.slice b acc.length c)), (66, .val (.int .i64 acc.length)), (67, .val (.int .i64 j))], [(1, some (.row b1 c1 28 1 ys))], 2, μ4, Mem.nil⟩) (fun q => acc.length - q.1)
   (0, some r64, 0, [], μ3) ⟨Nat.zero_le _, Mem.Le.refl _, .nil⟩ (fun (_, _, _, _, _) => ⟨rfl, rfl⟩) ⟨⟨rfl, rfl, rfl, rfl, rfl, rfl, rfl, rfl, trivial⟩, ⟨rfl, trivial⟩, rfl, rfl⟩ ?_
  rintro ⟨j, b1, c1, ys, μ4⟩ ⟨hj, hle4, hrows⟩
  dsimp only at hj hle4 hrows
  have hyl := hrows.len
  rw [List.length_map, prodC_len, List.length_take] at hyl
  have hmul : min j acc.length * L.length ≤ 64 * 64 := Nat.mul_le_mul (by omega) (by omega)
  refine ifd (fun hlt2 => ?_) (fun hlt2 => ?_)
  ·have w_ := aSo (l := acc) (i := j) (by omega)
   obtain ⟨xa, hxa⟩ := w_
   have w_ := cls_elem (hasl.mono hle4) hxa
   obtain ⟨ad2, pa, hel2, hra⟩ := w_
   have hxal := hlen xa (mAt hxa)
   have hmul2 : j * L.length ≤ 64 * 64 := Nat.mul_le_mul (by omega) (by omega)
   rw [Nat.min_eq_left (by omega)] at hyl
   refine eIn hel2 ?_
   refine lIn (fun q : Nat × Option Nat × Nat × List Value × Mem => q.1 ≤ L.length ∧ μ4.Le q.2.2.2.2 ∧ Rows q.2.2.2.2 1 ((prodC (acc.take j) L ++ (L.take q.1).map fun y => xa ++ y).map csD) q.2.2.2.1)
    (fun (k, b1, c1, ys, μ5) => ⟨[(9, .val (.slice pv.1 L.length pv.2)), (10, .row 1 b1 ys.length c1), (12, .val (.slice pa.1 xa.length pa.2)), (52, .val (.slice p.2.1 g.goals.length p.2.2)), (53, .val (.int .i64 g.goals.length)), (54, .val (.int .i64 i)), (65, .val (.slice b acc.length c)), (66, .val (.int .i64 acc.length)), (67, .val (.int .i64 j)), (71, .val (.slice pv.1 L.length pv.2)), (72, .val (.int .i64 L.length)), (73, .val (.int .i64 k))], [(1, some (.row b1 c1 28 1 ys))], 2, μ5, Mem.nil⟩) (fun q => L.length - q.1)
    (0, b1, c1, ys, μ4) ⟨Nat.zero_le _, Mem.Le.refl _, by simpa using hrows⟩ (fun (_, _, _, _, _) => ⟨rfl, rfl⟩) ⟨⟨rfl, rfl, rfl, rfl, rfl, rfl, rfl, rfl, rfl, rfl, rfl, rfl, trivial⟩, ⟨rfl, trivial⟩, rfl, rfl⟩ ?_
   clear hrows
   rintro ⟨k, b2, c2, zs, μ5⟩ ⟨hk, hle5, hrows2⟩
   dsimp only at hk hle5 hrows2
   have hzl := hrows2.len
   rw [List.length_map, List.length_append, prodC_len, List.length_map, List.length_take, List.length_take, Nat.min_eq_left (show j ≤ acc.length by omega), Nat.min_eq_left hk] at hzl
   refine ifd (fun hlt3 => ?_) (fun hlt3 => ?_)
   ·have w_ := aSo (l := L) (i := k) (by omega)
    obtain ⟨y, hy⟩ := w_
    have w_ := cls_elem (((Cls.sl hL.rep).1.mono hle4).mono hle5) hy
    obtain ⟨ad3, py, hel3, hry⟩ := w_
    have hyl2 := hL.len y (mAt hy)
    have w_ := csD_src (hra.mono hle5)
    obtain ⟨vx, hvx, hvxl, hsx⟩ := w_
    have w_ := csD_src hry
    obtain ⟨vy, hvy, hvyl, hsy⟩ := w_
    refine eIn hel3 ?_
    intro r78
    refine src_intro vx hsx ?_
    refine gIn ?_ ?_ fun b6 c6 _ => ?_
    ·show (0 + vx.length) * 72 ≤ _; omega
    ·exact Nat.le_trans (m := 100000000) (show 0 + vx.length ≤ _ by omega) (by decide)
    refine src_intro vy hsy ?_
    refine gIn ?_ ?_ fun b7 c7 _ => ?_
    ·show ((([] : List Value) ++ vx).length + vy.length) * 72 ≤ _; simp; omega
    ·exact Nat.le_trans (m := 100000000) (show (([] : List Value) ++ vx).length + vy.length ≤ _ by simp; omega) (by decide)
    intro μ6 hle6 hno6 hat6 r83
    refine gIn ?_ ?_ fun b8 c8 _ => ?_
    ·show (zs.length + 1) * 24 ≤ _; omega
    ·exact Nat.le_trans (m := 100000000) (show zs.length + 1 ≤ _ by omega) (by decide)
    have hrow : RepV μ6 (csD (xa ++ y)) (.slice (b7.map fun r => ⟨r, 0, none⟩) (([] : List Value) ++ vx ++ vy).length c7) := by
     have := Rows.sl hat6 ((hvx.append hvy).mono hle6) (Nat.le_trans (m := 100000000) (by simp; omega) (by decide))
     rw [← List.map_append] at this
     exact this
    refine num64 (by omega) (by omega) ⟨(k + 1, b8, c8, _, μ6), ⟨by dsimp only; omega, hle5.trans hle6, ?_⟩, by dsimp only; omega, ⟨⟨rfl, rfl, rfl, rfl, rfl, rfl, rfl, rfl, rfl, rfl, rfl, rfl, trivial⟩, ⟨rfl, trivial⟩, rfl, rfl⟩⟩
    dsimp only
    rw [List.take_add_one, hy, Option.toList_some, List.map_append (f := fun y => xa ++ y), ← List.append_assoc, List.map_append (f := csD)]
    exact (hrows2.mono hle6).append (Rows.one hrow rfl)
   ·obtain rfl : k = L.length := by omega
    rw [List.take_length, ← prodC_step hxa] at hrows2
    exact num64 (by omega) (by omega) ⟨(j + 1, b2, c2, zs, μ5), ⟨by dsimp only; omega, hle4.trans hle5, hrows2⟩, by dsimp only; omega, ⟨⟨rfl, rfl, rfl, rfl, rfl, rfl, rfl, rfl, trivial⟩, ⟨rfl, trivial⟩, rfl, rfl⟩⟩
  ·obtain rfl : j = acc.length := by omega
   rw [List.take_length] at hrows
   rw [Nat.min_self] at hyl hmul
   have hpl := prodC_len acc L
   have hzlen : ∀ c ∈ prodC acc L, c.length ≤ Gl.cnts (g.goals.take (i + 1)) := fun c hc => by
    have w_ := prodC_mem hc
    obtain ⟨u, hu, w, hw, rfl⟩ := w_
    have h1 := hlen u hu
    have h2 := hL.len w hw
    rw [List.length_append]; omega
   refine ifd (fun hb => ?_) (fun hb => ?_)
   ·refine rFz [1] fun μ5 hle5 hno5 hat5 => .inl ⟨prodC acc L, ?_, ?_, fun c hc => by have := hzlen c hc; omega, by omega⟩
    ·have := Rows.sl hat5 (hrows.mono hle5) (Nat.le_trans (m := 100000000) (by omega) (by decide))
     exact this
    ·rw [if_neg (by omega)] at hJ ⊢
     exact hJ
   ·rw [if_pos (by omega)] at hJ
    refine num64 (by omega) (by omega) ⟨[1], fun μ5 hle5 hno5 hat5 => ⟨(i + 1, prodC acc L, b1.map (fun r => ⟨r, 0, none⟩), c1, μ5), ⟨by dsimp only; omega, ((hle.trans hle3).trans hle4).trans hle5, ?_, hJ, hzlen, by dsimp only; omega⟩, by dsimp only; omega, ⟨⟨?_, rfl, rfl, rfl, trivial⟩, trivial, rfl, rfl⟩⟩⟩
    ·have := Rows.sl hat5 (hrows.mono hle5) (Nat.le_trans (m := 100000000) (by omega) (by decide))
     rw [← hyl, ← hpl] at this
     exact this
    ·show some (SV.val (.slice _ _ _)) = some (SV.val (.slice _ _ _))
     rw [hpl, hyl]
end
end Go.Vx
namespace Go.Vx
open Go.Proofs Classical
theorem prodC_size {a l : List (List Gl)} {m n : Nat} (h1 : ∀ c ∈ a, c.length ≤ m) (h2 : ∀ c ∈ l, c.length ≤ n) : ∀ c ∈ prodC a l, c.length ≤ m + n := fun c hc => by
 have w_ := prodC_mem hc
 obtain ⟨u, hu, w, hw, rfl⟩ := w_
 have := h1 u hu
 have := h2 w hw
 rw [List.length_append]; omega
mutual
theorem Gl.cl_bnd : ∀ (g : Gl) {L : List (List Gl)}, g.cl = some L → (∀ c ∈ L, c.length ≤ g.cnt) ∧ L.length ≤ 64
 | .mk k s ts gs, L, h => by
  rw [Gl.cl] at h
  rw [Gl.cnt]
  split at h
  ·cases h; simp
  split at h
  ·cases h; simp
  split at h
  ·have := Gl.clOr_bnd gs (acc := []) (n := 0) (by simp) (by simp) h
   exact ⟨fun c hc => by have := this.1 c hc; omega, this.2⟩
  split at h
  ·have := Gl.clAnd_bnd gs (acc := [[]]) (n := 0) (by simp) (by simp) h
   exact ⟨fun c hc => by have := this.1 c hc; omega, this.2⟩
  ·cases h
   refine ⟨fun c hc => ?_, by simp⟩
   rw [List.mem_singleton.1 hc, List.length_singleton]; omega
theorem Gl.clOr_bnd : ∀ (gs : List Gl) {acc L : List (List Gl)} {n : Nat}, (∀ c ∈ acc, c.length ≤ n) → acc.length ≤ 64 → Gl.clOr gs acc = some L → (∀ c ∈ L, c.length ≤ n + Gl.cnts gs) ∧ L.length ≤ 64
 | [], acc, L, n, h1, h2, h => by
  rw [Gl.clOr] at h; cases h
  exact ⟨fun c hc => Nat.le_trans (h1 c hc) (Nat.le_add_right _ _), h2⟩
 | g :: gs, acc, L, n, h1, h2, h => by
  rw [Gl.clOr] at h
  cases e : g.cl with
  | none => rw [e] at h; cases h
  | some l =>
   rw [e, Option.bind_some] at h
   have hb := Gl.cl_bnd g e
   split at h
   ·rename_i h64
    have := Gl.clOr_bnd gs (acc := acc ++ l) (n := n + g.cnt) (fun c hc => by
     rcases List.mem_append.1 hc with hc | hc
     ·have := h1 c hc; omega
     ·have := hb.1 c hc; omega) h64 h
    rw [Gl.cnts]
    exact ⟨fun c hc => by have := this.1 c hc; omega, this.2⟩
   ·cases h
theorem Gl.clAnd_bnd : ∀ (gs : List Gl) {acc L : List (List Gl)} {n : Nat}, (∀ c ∈ acc, c.length ≤ n) → acc.length ≤ 64 → Gl.clAnd gs acc = some L → (∀ c ∈ L, c.length ≤ n + Gl.cnts gs) ∧ L.length ≤ 64
 | [], acc, L, n, h1, h2, h => by
  rw [Gl.clAnd] at h; cases h
  exact ⟨fun c hc => Nat.le_trans (h1 c hc) (Nat.le_add_right _ _), h2⟩
 | g :: gs, acc, L, n, h1, h2, h => by
  rw [Gl.clAnd] at h
  cases e : g.cl with
  | none => rw [e] at h; cases h
  | some l =>
   rw [e, Option.bind_some] at h
   have hb := Gl.cl_bnd g e
   split at h
   ·rename_i h64
    have := Gl.clAnd_bnd gs (acc := prodC acc l) (n := n + g.cnt) (prodC_size h1 hb.1) h64 h
    rw [Gl.cnts]
    exact ⟨fun c hc => by have := this.1 c hc; omega, this.2⟩
   ·cases h
end
def optC (P : List (List Gl) → Value → Prop) (o : Option (List (List Gl))) (v : Value) : Prop := match o with
 | some L => ∃ tv, v = .tuple #[tv, .bool true] ∧ P L tv
 | none => v = .tuple #[.slice none 0 0, .bool false]
section
variable {μ : Mem}
set_option maxHeartbeats 8000000 in
theorem clausesOf_spec : ∀ (g : Gl) {μ : Mem} {v : Value}, RepV μ g.d v → g.Sh → g.cnt ≤ 80 → Spec Tryz.prog 146 [v] μ fun v μ' => optC (Cls μ') g.cl v :=
 Gl.ind fun g ih μ v hv hS hcnt => by
  have hv0 := hv
  have w_ := Gl.inv hv
  obtain ⟨p, rfl, hts, hgs⟩ := w_
  have hg8 := hS.top.gl
  have hce := Gl.cnt_eq1 g
  refine Spec.mk Tryz.func146 (by kernel_rfl) ?_
  intro r1 r19
  refine ifd (fun h0 => ?_) (fun h0 => ?_)
  ·intro r27 μ1 hle1 hno1 hat1 r28
   refine rFz [3] fun μ2 hle2 hno2 hat2 => .inl ?_
   rw [Gl.cl_eq, if_pos h0]
   exact ⟨_, rfl, Rows.sl hat2 (Rows.one (d := csD []) ((Rows.sl (μ := μ1) (ds := []) hat1 .nil (Nat.zero_le _)).mono hle2) rfl) (show 1 ≤ maxLen by decide)⟩
  refine ifd (fun h1 => ?_) (fun h1 => ?_)
  ·refine rFz [1] fun μ2 hle2 hno2 hat2 => .inl ?_
   rw [Gl.cl_eq, if_neg h0, if_pos h1]
   exact ⟨_, rfl, Rows.sl hat2 .nil (Nat.zero_le _)⟩
  refine ifd (fun h8 => ?_) (fun h8 => ?_)
  ·have hcl : g.cl = Gl.clOr g.goals [] := by rw [Gl.cl_eq, if_neg h0, if_neg h1, if_pos h8]
   refine lIn (fun q : Nat × List (List Gl) × Option Nat × Nat × List Value × Mem => q.1 ≤ g.goals.length ∧ μ.Le q.2.2.2.2.2 ∧ Rows q.2.2.2.2.2 1 (q.2.1.map csD) q.2.2.2.2.1 ∧ g.cl = Gl.clOr (g.goals.drop q.1) q.2.1 ∧ q.2.1.length ≤ 64)
    (fun (i, acc, b, c, ys, μ') => ⟨[(4, .row 1 b ys.length c), (34, .val (.slice p.2.1 g.goals.length p.2.2)), (35, .val (.int .i64 g.goals.length)), (36, .val (.int .i64 i))], [(1, some (.row b c 28 1 ys))], 2, μ', Mem.nil⟩) (fun q => g.goals.length - q.1)
    (0, [], some r19, 0, [], μ) ⟨Nat.zero_le _, Mem.Le.refl _, .nil, hcl, by simp⟩ (fun (_, _, _, _, _, _) => ⟨rfl, rfl⟩) ⟨⟨rfl, rfl, rfl, rfl, trivial⟩, ⟨rfl, trivial⟩, rfl, rfl⟩ ?_
   rintro ⟨i, acc, b, c, ys, μ'⟩ ⟨hi, hle, hrows, hJ, hmax⟩
   dsimp only at hi hle hrows hJ hmax
   have hyl := hrows.len
   rw [List.length_map] at hyl
   refine ifd (fun hlt => ?_) (fun hlt => ?_)
   ·have w_ := aSo (l := g.goals) (i := i) (by omega)
    obtain ⟨x, hx⟩ := w_
    have w_ := Gl.elem (hgs.mono hle) hx
    obtain ⟨ad, q, hel, hr⟩ := w_
    have hxc := Gl.cnts_take hx
    have hxl := Gl.cnts_le g.goals (i + 1)
    refine eIn hel ?_
    intro r5
    refine cPl (ih x (mAt hx) hr (hS.sub x (mAt hx)) (by omega)) fun v1 μ1 hle1 hR => ?_
    rw [drop_at hx, Gl.clOr] at hJ
    cases e : x.cl with
    | none =>
     rw [e] at hR hJ
     obtain rfl := hR
     refine iIn (fun _ => ?_) (fun h => nomatch h)
     exact rPl (by rw [hJ]; rfl)
    | some L =>
     rw [e] at hR
     rw [e, Option.bind_some] at hJ
     obtain ⟨tv, rfl, hLr⟩ := hR
     obtain ⟨pv, rfl⟩ := hLr.inv
     have hLb := Gl.cl_bnd x e
     have w_ := Rep.srcAll hLr
     obtain ⟨vs, hvr, hvl, hsrc⟩ := w_
     refine iIn (fun h => nomatch h) (fun _ => ?_)
     refine src_intro vs hsrc ?_
     refine gIn ?_ ?_ fun b9 c9 _ => ?_
     ·show (ys.length + vs.length) * 24 ≤ _; omega
     ·exact Nat.le_trans (m := 100000000) (show ys.length + vs.length ≤ _ by omega) (by decide)
     have hal : (ys ++ vs).length = (acc ++ L).length := by rw [List.length_append, List.length_append]; omega
     refine ifd (fun h64 => ?_) (fun h64 => ?_)
     ·rw [if_neg (by omega)] at hJ
      exact rPl (by rw [hJ]; rfl)
     ·rw [if_pos (by omega)] at hJ
      refine num64 (by omega) (by omega) ⟨(i + 1, acc ++ L, b9, c9, _, μ1), ⟨by dsimp only; omega, hle.trans hle1, ?_, hJ, by dsimp only; omega⟩, by dsimp only; omega, ⟨⟨rfl, rfl, rfl, rfl, trivial⟩, ⟨rfl, trivial⟩, rfl, rfl⟩⟩
      dsimp only
      rw [List.map_append]
      exact (hrows.mono hle1).append hvr
   ·obtain rfl : i = g.goals.length := by omega
    rw [List.drop_length, Gl.clOr] at hJ
    refine rFz [1] fun μ2 hle2 hno2 hat2 => .inl ?_
    rw [hJ]
    exact ⟨_, rfl, Rows.sl hat2 (hrows.mono hle2) (Nat.le_trans (m := 100000000) (by omega) (by decide))⟩
  refine ifd (fun h7 => ?_) (fun h7 => ?_)
  rotate_left
  ·intro r23 μ1 hle1 hno1 hat1 r24
   refine rFz [3] fun μ2 hle2 hno2 hat2 => .inl ?_
   rw [Gl.cl_eq, if_neg h0, if_neg h1, if_neg h8, if_neg h7]
   exact ⟨_, rfl, Rows.sl hat2 (Rows.one (d := csD [g]) ((Rows.sl (μ := μ1) (ds := [g.d]) hat1 (Rows.one (hv0.mono hle1) (Gl.d_n g)) (show 1 ≤ maxLen by decide)).mono hle2) rfl) (show 1 ≤ maxLen by decide)⟩
  have hcl : g.cl = Gl.clAnd g.goals [[]] := by rw [Gl.cl_eq, if_neg h0, if_neg h1, if_neg h8, if_pos h7]
  intro r56 μ1 hle1 hno1 hat1 r57
  refine lFz (fun q : Nat × List (List Gl) × Option Addr × Nat × Mem => q.1 ≤ g.goals.length ∧ μ.Le q.2.2.2.2 ∧ Cls q.2.2.2.2 q.2.1 (.slice q.2.2.1 q.2.1.length q.2.2.2.1) ∧ g.cl = Gl.clAnd (g.goals.drop q.1) q.2.1 ∧ (∀ c ∈ q.2.1, c.length ≤ Gl.cnts (g.goals.take q.1)) ∧ q.2.1.length ≤ 64)
   (fun (i, acc, b, c, μ') => ⟨[(4, .val (.slice b acc.length c)), (9, .val (.bool false)), (59, .val (.slice p.2.1 g.goals.length p.2.2)), (60, .val (.int .i64 g.goals.length)), (61, .val (.int .i64 i))], [], 0, μ', Mem.nil⟩) (fun q => g.goals.length - q.1) [3]
   (fun (_, _, _, _, _) => ⟨rfl, rfl⟩) (fun μ2 hle2 hno2 hat2 => ⟨(0, [[]], some ⟨r57, 0, none⟩, 1, μ2), ⟨Nat.zero_le _, hle1.trans hle2, Rows.sl hat2 (Rows.one (d := csD []) ((Rows.sl (μ := μ1) (ds := []) hat1 .nil (Nat.zero_le _)).mono hle2) rfl) (show 1 ≤ maxLen by decide), hcl, by simp, by simp⟩, ⟨rfl, rfl, rfl, rfl, rfl, trivial⟩, trivial, rfl, rfl⟩) ?_
  rintro ⟨i, acc, b, c, μ'⟩ ⟨hi, hle, hacc, hJ, hlen, hmax⟩
  dsimp only at hi hle hacc hJ hlen hmax
  refine ifd (fun hlt => ?_) (fun hlt => ?_)
  rotate_left
  ·obtain rfl : i = g.goals.length := by omega
   rw [List.drop_length, Gl.clAnd] at hJ
   exact rPl (by rw [hJ]; exact ⟨_, rfl, hacc⟩)
  have w_ := aSo (l := g.goals) (i := i) (by omega)
  obtain ⟨x, hx⟩ := w_
  have w_ := Gl.elem (hgs.mono hle) hx
  obtain ⟨ad, q, hel, hr⟩ := w_
  have hxc := Gl.cnts_take hx
  have hxl := Gl.cnts_le g.goals (i + 1)
  refine eIn hel ?_
  intro r11
  refine cPl (ih x (mAt hx) hr (hS.sub x (mAt hx)) (by omega)) fun v3 μ3 hle3 hR => ?_
  rw [drop_at hx, Gl.clAnd] at hJ
  obtain ⟨o, e⟩ : ∃ o, x.cl = o := ⟨_, rfl⟩
  rw [e] at hR hJ
  match o, e, hR, hJ with
  | none, e, hR, hJ =>
  obtain rfl := hR
  refine iIn (fun _ => ?_) (fun h => nomatch h)
  exact rPl (by rw [hJ]; rfl)
  | some L, e, hR, hJ =>
  obtain ⟨tv, rfl, hLr⟩ := hR
  obtain ⟨pv, rfl⟩ := hLr.inv
  have hLb := Gl.cl_bnd x e
  have hLl := hLb.1
  have hLm := hLb.2
  rw [Option.bind_some] at hJ
  refine iIn (fun h => nomatch h) (fun _ => ?_)
  intro r64
  have hasl := (Cls.sl (RepV.mono hle3 hacc)).1
  refine lIn (fun q : Nat × Option Nat × Nat × List Value × Mem => q.1 ≤ acc.length ∧ μ3.Le q.2.2.2.2 ∧ Rows q.2.2.2.2 1 ((prodC (acc.take q.1) L).map csD) q.2.2.2.1)
   (fun (j, b1, c1, ys, μ4) => ⟨[(9, .val (.bool false)), (12, .val (.slice pv.1 L.length pv.2)), (14, .row 1 b1 ys.length c1), (59, .val (.slice p.2.1 g.goals.length p.2.2)), (60, .val (.int .i64 g.goals.length)), (61, .val (.int .i64 i)), (73, .val (.slice b acc.length c)), (74, .val (.int .i64 acc.length)), (75, .val (.int .i64 j))], [(1, some (.row b1 c1 28 1 ys))], 2, μ4, Mem.nil⟩) (fun q => acc.length - q.1)
   (0, some r64, 0, [], μ3) ⟨Nat.zero_le _, Mem.Le.refl _, .nil⟩ (fun (_, _, _, _, _) => ⟨rfl, rfl⟩) ⟨⟨rfl, rfl, rfl, rfl, rfl, rfl, rfl, rfl, rfl, trivial⟩, ⟨rfl, trivial⟩, rfl, rfl⟩ ?_
  rintro ⟨j, b1, c1, ys, μ4⟩ ⟨hj, hle4, hrows⟩
  dsimp only at hj hle4 hrows
  have hyl := hrows.len
  rw [List.length_map, prodC_len, List.length_take] at hyl
  have hmul : min j acc.length * L.length ≤ 64 * 64 := Nat.mul_le_mul (by omega) (by omega)
  refine ifd (fun hlt2 => ?_) (fun hlt2 => ?_)
  ·have w_ := aSo (l := acc) (i := j) (by omega)
   obtain ⟨xa, hxa⟩ := w_
   have w_ := cls_elem (hasl.mono hle4) hxa
   obtain ⟨ad2, pa, hel2, hra⟩ := w_
   have hxal := hlen xa (mAt hxa)
   have hmul2 : j * L.length ≤ 64 * 64 := Nat.mul_le_mul (by omega) (by omega)
   rw [Nat.min_eq_left (by omega)] at hyl
   refine eIn hel2 ?_
   refine lIn (fun q : Nat × Option Nat × Nat × List Value × Mem => q.1 ≤ L.length ∧ μ4.Le q.2.2.2.2 ∧ Rows q.2.2.2.2 1 ((prodC (acc.take j) L ++ (L.take q.1).map fun y => xa ++ y).map csD) q.2.2.2.1)
    (fun (k, b1, c1, ys, μ5) => ⟨[(9, .val (.bool false)), (12, .val (.slice pv.1 L.length pv.2)), (14, .row 1 b1 ys.length c1), (16, .val (.slice pa.1 xa.length pa.2)), (59, .val (.slice p.2.1 g.goals.length p.2.2)), (60, .val (.int .i64 g.goals.length)), (61, .val (.int .i64 i)), (73, .val (.slice b acc.length c)), (74, .val (.int .i64 acc.length)), (75, .val (.int .i64 j)), (79, .val (.slice pv.1 L.length pv.2)), (80, .val (.int .i64 L.length)), (81, .val (.int .i64 k))], [(1, some (.row b1 c1 28 1 ys))], 2, μ5, Mem.nil⟩) (fun q => L.length - q.1)
    (0, b1, c1, ys, μ4) ⟨Nat.zero_le _, Mem.Le.refl _, by simpa using hrows⟩ (fun (_, _, _, _, _) => ⟨rfl, rfl⟩) ⟨⟨rfl, rfl, rfl, rfl, rfl, rfl, rfl, rfl, rfl, rfl, rfl, rfl, rfl, trivial⟩, ⟨rfl, trivial⟩, rfl, rfl⟩ ?_
   clear hrows
   rintro ⟨k, b2, c2, zs, μ5⟩ ⟨hk, hle5, hrows2⟩
   dsimp only at hk hle5 hrows2
   have hzl := hrows2.len
   rw [List.length_map, List.length_append, prodC_len, List.length_map, List.length_take, List.length_take, Nat.min_eq_left (show j ≤ acc.length by omega), Nat.min_eq_left hk] at hzl
   refine ifd (fun hlt3 => ?_) (fun hlt3 => ?_)
   ·have w_ := aSo (l := L) (i := k) (by omega)
    obtain ⟨y, hy⟩ := w_
    have w_ := cls_elem (((Cls.sl hLr).1.mono hle4).mono hle5) hy
    obtain ⟨ad3, py, hel3, hry⟩ := w_
    have hyl2 := hLl y (mAt hy)
    have w_ := csD_src (hra.mono hle5)
    obtain ⟨vx, hvx, hvxl, hsx⟩ := w_
    have w_ := csD_src hry
    obtain ⟨vy, hvy, hvyl, hsy⟩ := w_
    refine eIn hel3 ?_
    intro r78
    refine src_intro vx hsx ?_
    refine gIn ?_ ?_ fun b6 c6 _ => ?_
    ·show (0 + vx.length) * 72 ≤ _; omega
    ·exact Nat.le_trans (m := 100000000) (show 0 + vx.length ≤ _ by omega) (by decide)
    refine src_intro vy hsy ?_
    refine gIn ?_ ?_ fun b7 c7 _ => ?_
    ·show ((([] : List Value) ++ vx).length + vy.length) * 72 ≤ _; simp; omega
    ·exact Nat.le_trans (m := 100000000) (show (([] : List Value) ++ vx).length + vy.length ≤ _ by simp; omega) (by decide)
    intro μ6 hle6 hno6 hat6 r83
    refine gIn ?_ ?_ fun b8 c8 _ => ?_
    ·show (zs.length + 1) * 24 ≤ _; omega
    ·exact Nat.le_trans (m := 100000000) (show zs.length + 1 ≤ _ by omega) (by decide)
    have hrow : RepV μ6 (csD (xa ++ y)) (.slice (b7.map fun r => ⟨r, 0, none⟩) (([] : List Value) ++ vx ++ vy).length c7) := by
     have := Rows.sl hat6 ((hvx.append hvy).mono hle6) (Nat.le_trans (m := 100000000) (by simp; omega) (by decide))
     rw [← List.map_append] at this
     exact this
    refine num64 (by omega) (by omega) ⟨(k + 1, b8, c8, _, μ6), ⟨by dsimp only; omega, hle5.trans hle6, ?_⟩, by dsimp only; omega, ⟨⟨rfl, rfl, rfl, rfl, rfl, rfl, rfl, rfl, rfl, rfl, rfl, rfl, rfl, trivial⟩, ⟨rfl, trivial⟩, rfl, rfl⟩⟩
    dsimp only
    rw [List.take_add_one, hy, Option.toList_some, List.map_append (f := fun y => xa ++ y), ← List.append_assoc, List.map_append (f := csD)]
    exact (hrows2.mono hle6).append (Rows.one hrow rfl)
   ·obtain rfl : k = L.length := by omega
    rw [List.take_length, ← prodC_step hxa] at hrows2
    exact num64 (by omega) (by omega) ⟨(j + 1, b2, c2, zs, μ5), ⟨by dsimp only; omega, hle4.trans hle5, hrows2⟩, by dsimp only; omega, ⟨⟨rfl, rfl, rfl, rfl, rfl, rfl, rfl, rfl, rfl, trivial⟩, ⟨rfl, trivial⟩, rfl, rfl⟩⟩
  ·obtain rfl : j = acc.length := by omega
   rw [List.take_length] at hrows
   rw [Nat.min_self] at hyl hmul
   have hpl := prodC_len acc L
   have hzlen : ∀ c ∈ prodC acc L, c.length ≤ Gl.cnts (g.goals.take (i + 1)) := fun c hc => by
    have w_ := prodC_mem hc
    obtain ⟨u, hu, w, hw, rfl⟩ := w_
    have h1 := hlen u hu
    have h2 := hLl w hw
    rw [List.length_append]; omega
   refine iIn (fun h => nomatch h) (fun _ => ?_)
   refine ifd (fun hb => ?_) (fun hb => ?_)
   ·rw [if_neg (by omega)] at hJ
    exact rPl (by rw [hJ]; rfl)
   ·rw [if_pos (by omega)] at hJ
    refine num64 (by omega) (by omega) ⟨[1], fun μ5 hle5 hno5 hat5 => ⟨(i + 1, prodC acc L, b1.map (fun r => ⟨r, 0, none⟩), c1, μ5), ⟨by dsimp only; omega, ((hle.trans hle3).trans hle4).trans hle5, ?_, hJ, hzlen, by dsimp only; omega⟩, by dsimp only; omega, ⟨⟨?_, ?_, rfl, rfl, rfl, trivial⟩, trivial, rfl, rfl⟩⟩⟩
    ·have := Rows.sl hat5 (hrows.mono hle5) (Nat.le_trans (m := 100000000) (by omega) (by decide))
     rw [← hyl, ← hpl] at this
     exact this
    ·show some (SV.val (.slice _ _ _)) = some (SV.val (.slice _ _ _))
     rw [hpl, hyl]
    ·show some (SV.val (.bool _)) = some (SV.val (.bool _))
     rw [decide_eq_false hb]
end
end Go.Vx
namespace Go.Vx
open Go.Proofs Classical
structure RowsFit (p : Pg) (rows : List Int) : Prop where
 pos : p.Pos
 cls : ∀ r ∈ p.rels, r.body.cl ≠ none
 len : rows.length = p.rels.length
 rng : ∀ (i : Nat) n r, rows[i]? = some n → p.rels[i]? = some r → 0 ≤ n ∧ n < 2 ^ (2 ^ r.arity.toNat)
section
variable {μ : Mem}
theorem l16Copy_spec {c : List Gl} {base : Option Addr} {cap : Nat} (hsl : Sl μ 4 base c.length (c.map Gl.d)) (hn : c.length ≤ 1000000) (hS : ∀ x ∈ c, x.Sh) :
  Spec Tryz.prog 143 [.slice base c.length cap] μ fun v μ' => RepV μ' (csD c) v := by
 refine Spec.mk Tryz.func143 (by kernel_rfl) ?_
 intro r6
 refine lIn (fun p : Nat × Option Nat × Nat × List Value × Mem => p.1 ≤ c.length ∧ μ.Le p.2.2.2.2 ∧ Rows p.2.2.2.2 4 ((c.take p.1).map Gl.d) p.2.2.2.1)
  (fun (i, b, k, ys, μ') => ⟨[(3, .row 0 b ys.length k), (7, .val (.slice base c.length cap)), (8, .val (.int .i64 c.length)), (9, .val (.int .i64 i))], [(0, some (.row b k 30 4 ys))], 1, μ', Mem.nil⟩) (fun p => c.length - p.1)
  (0, some r6, 0, [], μ) ⟨by simp, Mem.Le.refl _, .nil⟩ (fun (_, _, _, _, _) => ⟨rfl, rfl⟩) ⟨⟨rfl, rfl, rfl, rfl, trivial⟩, ⟨rfl, trivial⟩, rfl, rfl⟩ ?_
 rintro ⟨i, b, k, ys, μ'⟩ ⟨hi, hle, hrows⟩
 dsimp only at hi hle hrows
 have hlen := hrows.len
 simp only [List.length_map, List.length_take] at hlen
 refine ifd (fun h => ?_) (fun h => ?_)
 ·have w_ := aSo (l := c) (i := i) (by omega)
  obtain ⟨x, hx⟩ := w_
  have w_ := Gl.elem (hsl.mono hle) hx
  obtain ⟨ad, p, hel, hr⟩ := w_
  refine eIn hel ?_
  intro r5
  refine cPl (l13Copy_spec x hr (hS x (mAt hx))) fun v4 μ4 hle4 hR4 => ?_
  have w_ := Gl.invV hR4
  obtain ⟨q, rfl⟩ := w_
  intro r16
  refine gIn ?_ ?_ fun b' c' _ => ?_
  ·show (ys.length + 1) * 72 ≤ _; omega
  ·exact Nat.le_trans (m := 100000000) (show ys.length + 1 ≤ _ by omega) (by decide)
  refine num64 (by omega) (by omega) ⟨(i + 1, b', c', _, μ4), ⟨by dsimp only; omega, hle.trans hle4, ?_⟩, by dsimp only; omega, ⟨⟨rfl, rfl, rfl, rfl, trivial⟩, ⟨rfl, trivial⟩, rfl, rfl⟩⟩
  dsimp only
  rw [List.take_add_one, hx, Option.toList_some, List.map_append]
  exact (hrows.mono hle4).append (Rows.one hR4 (Gl.d_n _))
 ·obtain rfl : i = c.length := by omega
  rw [List.take_length] at hrows
  refine rFz [0] fun μ' hle' hno hrow => .inl ?_
  exact Rows.sl hrow (hrows.mono hle') (Nat.le_trans (m := 100000000) (by omega) (by decide))
mutual
theorem Gl.cl_Sh : ∀ (g : Gl) {L : List (List Gl)}, g.Sh → g.cl = some L → ∀ c ∈ L, ∀ x ∈ c, x.Sh
 | .mk k s ts gs, L, hS, h => by
  have hsub : ∀ x ∈ gs, x.Sh := hS.sub
  rw [Gl.cl] at h
  split at h
  ·cases h; simp
  split at h
  ·cases h; simp
  split at h
  ·exact Gl.clOr_Sh gs hsub (by simp) h
  split at h
  ·exact Gl.clAnd_Sh gs hsub (by simp) h
  ·cases h
   intro c hc x hx
   rw [List.mem_singleton.1 hc] at hx
   rw [List.mem_singleton.1 hx]; exact hS
theorem Gl.clOr_Sh : ∀ (gs : List Gl) {acc L : List (List Gl)}, (∀ x ∈ gs, x.Sh) → (∀ c ∈ acc, ∀ x ∈ c, x.Sh) → Gl.clOr gs acc = some L → ∀ c ∈ L, ∀ x ∈ c, x.Sh
 | [], acc, L, _, h1, h => by
  rw [Gl.clOr] at h; cases h; exact h1
 | g :: gs, acc, L, hS, h1, h => by
  rw [Gl.clOr] at h
  cases e : g.cl with
  | none => rw [e] at h; cases h
  | some l =>
   rw [e, Option.bind_some] at h
   have hb := Gl.cl_Sh g (hS g (by simp)) e
   split at h
   ·exact Gl.clOr_Sh gs (acc := acc ++ l) (fun x hx => hS x (by simp [hx])) (fun c hc => by
     rcases List.mem_append.1 hc with hc | hc
     ·exact h1 c hc
     ·exact hb c hc) h
   ·cases h
theorem Gl.clAnd_Sh : ∀ (gs : List Gl) {acc L : List (List Gl)}, (∀ x ∈ gs, x.Sh) → (∀ c ∈ acc, ∀ x ∈ c, x.Sh) → Gl.clAnd gs acc = some L → ∀ c ∈ L, ∀ x ∈ c, x.Sh
 | [], acc, L, _, h1, h => by
  rw [Gl.clAnd] at h; cases h; exact h1
 | g :: gs, acc, L, hS, h1, h => by
  rw [Gl.clAnd] at h
  cases e : g.cl with
  | none => rw [e] at h; cases h
  | some l =>
   rw [e, Option.bind_some] at h
   have hb := Gl.cl_Sh g (hS g (by simp)) e
   split at h
   ·exact Gl.clAnd_Sh gs (acc := prodC acc l) (fun x hx => hS x (by simp [hx])) (fun c hc => by
     have w_ := prodC_mem hc
     obtain ⟨u, hu, w, hw, rfl⟩ := w_
     intro x hx
     rcases List.mem_append.1 hx with hx | hx
     ·exact h1 u hu x hx
     ·exact hb w hw x hx) h
   ·cases h
end
theorem ClausesOf_spec {g : Gl} {v : Value} (hv : RepV μ g.d v) (hw : g.d.wd) (hok : g.Ok) : Spec Tryz.prog 83 [v] μ fun v μ' => optC (Cls μ') g.cl v := by
 have hv0 := hv
 have w_ := Gl.inv hv
 obtain ⟨p, rfl, -, -⟩ := w_
 refine Spec.mk Tryz.func83 (by kernel_rfl) ?_
 intro r1
 refine cGv (spec_GoalOk_spec g hv0 hw) ?_
 refine ifnd (fun h => absurd hok h) (fun _ => ?_)
 refine cPl (l16Clauses_spec g hv0 hok.1 hok.2) fun v1 μ1 hle1 hR => ?_
 obtain ⟨L, hL⟩ := hR
 obtain ⟨pv, rfl⟩ := hL.rep.inv
 have hcl := hL.cl
 refine ifd (fun h64 => ?_) (fun h64 => ?_)
 ·rw [if_neg (by omega)] at hcl
  exact rPl (by rw [hcl]; rfl)
 rw [if_pos (by omega)] at hcl
 rw [hcl]
 have hSh := Gl.cl_Sh g hok.1 hcl
 have hbd := Gl.cl_bnd g hcl
 have h80 := hok.2
 have hsl := (Cls.sl hL.rep).1
 intro r16
 refine lIn (fun p : Nat × Option Nat × Nat × List Value × Mem => p.1 ≤ L.length ∧ μ1.Le p.2.2.2.2 ∧ Rows p.2.2.2.2 1 ((L.take p.1).map csD) p.2.2.2.1)
  (fun (i, b, k, ys, μ') => ⟨[(5, .row 1 b ys.length k), (17, .val (.slice pv.1 L.length pv.2)), (18, .val (.int .i64 L.length)), (19, .val (.int .i64 i))], [(1, some (.row b k 28 1 ys))], 2, μ', Mem.nil⟩) (fun p => L.length - p.1)
  (0, some r16, 0, [], μ1) ⟨by simp, Mem.Le.refl _, .nil⟩ (fun (_, _, _, _, _) => ⟨rfl, rfl⟩) ⟨⟨rfl, rfl, rfl, rfl, trivial⟩, ⟨rfl, trivial⟩, rfl, rfl⟩ ?_
 rintro ⟨i, b, k, ys, μ'⟩ ⟨hi, hle, hrows⟩
 dsimp only at hi hle hrows
 have hlen := hrows.len
 simp only [List.length_map, List.length_take] at hlen
 refine ifd (fun h => ?_) (fun h => ?_)
 ·have w_ := aSo (l := L) (i := i) (by omega)
  obtain ⟨c, hc⟩ := w_
  have w_ := cls_elem (hsl.mono hle) hc
  obtain ⟨ad, pc, hel, hrc⟩ := w_
  have hcl2 := hbd.1 c (mAt hc)
  have hcs : Sl μ' 4 pc.1 c.length (c.map Gl.d) := by
   have w_ := Rep.sl (xs := c.map Gl.d) hrc
   obtain ⟨b', c', e1, hs⟩ := w_
   have w_ := Value.slice.inj e1
   obtain ⟨rfl, _, _⟩ := w_
   simpa using hs
  refine eIn hel ?_
  refine cPl (l16Copy_spec hcs (by omega) (hSh c (mAt hc))) fun v4 μ4 hle4 hR4 => ?_
  have w_ := csD_inv hR4
  obtain ⟨q, rfl⟩ := w_
  intro r26
  refine gIn ?_ ?_ fun b' c' _ => ?_
  ·show (ys.length + 1) * 24 ≤ _; omega
  ·exact Nat.le_trans (m := 100000000) (show ys.length + 1 ≤ _ by omega) (by decide)
  refine num64 (by omega) (by omega) ⟨(i + 1, b', c', _, μ4), ⟨by dsimp only; omega, hle.trans hle4, ?_⟩, by dsimp only; omega, ⟨⟨rfl, rfl, rfl, rfl, trivial⟩, ⟨rfl, trivial⟩, rfl, rfl⟩⟩
  dsimp only
  rw [List.take_add_one, hc, Option.toList_some, List.map_append]
  exact (hrows.mono hle4).append (Rows.one hR4 rfl)
 ·obtain rfl : i = L.length := by omega
  rw [List.take_length] at hrows
  refine rFz [1] fun μ' hle' hno hrow => .inl ⟨_, rfl, ?_⟩
  exact Rows.sl hrow (hrows.mono hle') (Nat.le_trans (m := 100000000) (by omega) (by decide))
end
end Go.Vx
namespace Go.Vx
open Go.Proofs Classical
noncomputable def numTo (P : Nat → Prop) : Nat → Nat
 | 0 => 0
 | n + 1 => numTo P n + if P n then 2 ^ n else 0
theorem numTo_lt (P : Nat → Prop) : ∀ n, numTo P n < 2 ^ n
 | 0 => by simp [numTo]
 | n + 1 => by
  have h := numTo_lt P n
  have e : 2 ^ (n + 1) = 2 ^ n + 2 ^ n := by rw [Nat.pow_succ]; omega
  rw [numTo, e]
  split <;> omega
theorem numTo_bit (P : Nat → Prop) : ∀ n k, (numTo P n).testBit k = decide (k < n ∧ P k)
 | 0, k => by simp [numTo]
 | n + 1, k => by
  have ih := numTo_bit P n k
  have hlt := numTo_lt P n
  rw [numTo]
  split
  ·rename_i h
   rw [Nat.add_comm]
   rcases Nat.lt_trichotomy k n with h1 | h1 | h1
   ·rw [Nat.testBit_two_pow_add_gt h1, ih]
    congr 1
    exact propext ⟨fun k => ⟨by omega, k.2⟩, fun k => ⟨h1, k.2⟩⟩
   ·subst h1
    rw [Nat.testBit_two_pow_add_eq, ih]
    simp [h]
   ·rw [Nat.testBit_lt_two_pow]
    ·simp; omega
    ·have : 2 ^ (n + 1) ≤ 2 ^ k := Nat.pow_le_pow_right (by omega) h1
     rw [Nat.pow_succ] at this; omega
  ·rename_i h
   rw [Nat.add_zero, ih]
   congr 1
   refine propext ⟨fun g => ⟨by omega, g.2⟩, fun g => ⟨?_, g.2⟩⟩
   have : k ≠ n := fun e => by subst e; exact h g.2
   omega
theorem eq_numTo {P : Nat → Prop} {n m : Nat} (hm : m < 2 ^ n) (h : ∀ k, k < n → (m.testBit k = true ↔ P k)) : m = numTo P n := by
 refine Nat.eq_of_testBit_eq fun k => ?_
 rw [numTo_bit]
 by_cases hk : k < n
 ·rw [Bool.eq_iff_iff, h k hk, decide_eq_true_eq]; simp [hk]
 ·have : 2 ^ n ≤ 2 ^ k := Nat.pow_le_pow_right (by omega) (by omega)
  rw [Nat.testBit_lt_two_pow (by omega)]
  simp [hk]
def gndBy (s : Nat) (x : T) : Prop := ∀ n ∈ x.vars, s.testBit n.toNat = true
def fitEq (s : Nat) : T → T → Prop
 | .pair a b, .pair c d => fitEq s a c ∧ fitEq s b d
 | x, y => if x.tm.kind = 1 ∨ y.tm.kind = 1 then (gndBy s x ↔ gndBy s y) else x = y
noncomputable def callRow (s : Nat) (l : List T) : Nat → Nat := numTo fun i => ∃ x, l[i]? = some x ∧ gndBy s x
noncomputable def fitG (p : Pg) (rows : List Nat) (s : Nat) (g : Gl) : Prop :=
 if g.kind = 2 then ∃ x y, g.terms = [x, y] ∧ fitEq s x.toT y.toT
 else if g.kind = 9 then ∃ n, rows[(relAt p g.name).toNat]? = some n ∧ n.testBit (callRow s (g.terms.map Tm.toT) g.terms.length) = true
 else True
def rowHit (p : Pg) (rows : List Nat) (r : Rl) (k : Nat) : Prop :=
 ∃ s L c, s < 2 ^ (r.arity + r.locals).toNat ∧ s % 2 ^ r.arity.toNat = k ∧ r.body.cl = some L ∧ c ∈ L ∧ ∀ g ∈ c, fitG p rows s g
end Go.Vx
namespace Go.Vx
open Go.Proofs Classical
def Low (x : T) : Prop := ∀ n ∈ x.vars, 0 ≤ n ∧ n ≤ 60
theorem Low.var {x : T} (h : Low x) (hk : x.tm.kind = 1) : 0 ≤ x.tm.num ∧ x.tm.num ≤ 60 := by
 cases x with
 | var n => exact h n (by simp [T.vars])
 | _ => simp [T.tm, Tm.kind] at hk
section
variable {μ : Mem}
end
end Go.Vx
namespace Go.Vx
open Go.Proofs Classical
def Gl.single (x : Gl) : Prop := x.kind ≠ 0 ∧ x.kind ≠ 1 ∧ x.kind ≠ 7 ∧ x.kind ≠ 8
mutual
theorem Gl.cl_all : ∀ (g : Gl) {L : List (List Gl)}, g.cl = some L → ∀ c ∈ L, ∀ x ∈ c, x ∈ g.all ∧ x.single
 | .mk k s ts gs, L, h => by
  have hsub : ∀ y ∈ gs, ∀ x ∈ y.all, x ∈ (Gl.mk k s ts gs).all := fun y hy x hx => by
   rw [Gl.all_eq]
   exact List.mem_cons_of_mem _ (List.mem_flatMap.2 ⟨y, hy, hx⟩)
  rw [Gl.cl] at h
  split at h
  ·cases h; simp
  rename_i h0
  split at h
  ·cases h; simp
  rename_i h1
  split at h
  ·exact Gl.clOr_all gs (fun x => x ∈ (Gl.mk k s ts gs).all ∧ x.single) (fun y hy x hx hs => ⟨hsub y hy x hx, hs⟩) (by simp) h
  rename_i h8
  split at h
  ·exact Gl.clAnd_all gs (fun x => x ∈ (Gl.mk k s ts gs).all ∧ x.single) (fun y hy x hx hs => ⟨hsub y hy x hx, hs⟩) (by simp) h
  ·rename_i h7
   cases h
   intro c hc x hx
   rw [List.mem_singleton.1 hc] at hx
   rw [List.mem_singleton.1 hx]
   exact ⟨by rw [Gl.all_eq]; simp, h0, h1, h7, h8⟩
theorem Gl.clOr_all : ∀ (gs : List Gl) (Q : Gl → Prop) {acc L : List (List Gl)}, (∀ y ∈ gs, ∀ x ∈ y.all, x.single → Q x) → (∀ c ∈ acc, ∀ x ∈ c, Q x) → Gl.clOr gs acc = some L → ∀ c ∈ L, ∀ x ∈ c, Q x
 | [], Q, acc, L, _, h1, h => by
  rw [Gl.clOr] at h; cases h; exact h1
 | g :: gs, Q, acc, L, hQ, h1, h => by
  rw [Gl.clOr] at h
  cases e : g.cl with
  | none => rw [e] at h; cases h
  | some l =>
   rw [e, Option.bind_some] at h
   have hb := Gl.cl_all g e
   split at h
   ·exact Gl.clOr_all gs Q (acc := acc ++ l) (fun y hy => hQ y (by simp [hy])) (fun c hc x hx => by
     rcases List.mem_append.1 hc with hc | hc
     ·exact h1 c hc x hx
     ·exact hQ g (by simp) x (hb c hc x hx).1 (hb c hc x hx).2) h
   ·cases h
theorem Gl.clAnd_all : ∀ (gs : List Gl) (Q : Gl → Prop) {acc L : List (List Gl)}, (∀ y ∈ gs, ∀ x ∈ y.all, x.single → Q x) → (∀ c ∈ acc, ∀ x ∈ c, Q x) → Gl.clAnd gs acc = some L → ∀ c ∈ L, ∀ x ∈ c, Q x
 | [], Q, acc, L, _, h1, h => by
  rw [Gl.clAnd] at h; cases h; exact h1
 | g :: gs, Q, acc, L, hQ, h1, h => by
  rw [Gl.clAnd] at h
  cases e : g.cl with
  | none => rw [e] at h; cases h
  | some l =>
   rw [e, Option.bind_some] at h
   have hb := Gl.cl_all g e
   split at h
   ·exact Gl.clAnd_all gs Q (acc := prodC acc l) (fun y hy => hQ y (by simp [hy])) (fun c hc => by
     have w_ := prodC_mem hc
     obtain ⟨u, hu, w, hw, rfl⟩ := w_
     intro x hx
     rcases List.mem_append.1 hx with hx | hx
     ·exact h1 u hu x hx
     ·exact hQ g (by simp) x (hb w hw x hx).1 (hb w hw x hx).2) h
   ·cases h
end
structure GOk (p : Pg) (rows : List Nat) (g : Gl) : Prop where
 sh : g.Sh
 one : g.single
 low : ∀ t ∈ g.terms, Low t.toT
 rel : g.kind = 9 → ∃ k n : Nat, relAt p g.name = (k : Int) ∧ rows[k]? = some n ∧ n < 65536
theorem GOk.of {p : Pg} (hp : p.Ok) {rows : List Nat} (hl : rows.length = p.rels.length) (hr : ∀ n ∈ rows, n < 65536) {i : Nat} {r : Rl} (hi : p.rels[i]? = some r) {L : List (List Gl)} (hL : r.body.cl = some L) {c : List Gl} (hc : c ∈ L) {g : Gl} (hg : g ∈ c) : GOk p rows g := by
 have hrel := hp.2 i r hi
 have w_ := Gl.cl_all r.body hL c hc g hg
 obtain ⟨h1, h2⟩ := w_
 have hsh := hrel.body.all _ g h1
 refine ⟨hsh, h2, fun t ht n hn => ?_, fun h9 => ?_⟩
 ·have hv : n ∈ r.body.vars := by
   rw [Gl.vars]
   exact List.mem_flatMap.2 ⟨g, h1, List.mem_flatMap.2 ⟨t.toT, List.mem_map.2 ⟨t, ht, rfl⟩, hn⟩⟩
  have hlt := hrel.vars n hv
  have hge := Gl.vars_range hrel.body n hv
  have := hrel.ar4; have := hrel.lo8
  omega
 ·have w_ := hrel.calls.all g h1 h9
  obtain ⟨k, q, hk, hq, _⟩ := w_
  have hlen := (List.getElem?_eq_some_iff.1 hq).1
  have w_ := aSo (l := rows) (i := k) (by omega)
  obtain ⟨n, hn⟩ := w_
  exact ⟨k, n, hk, hn, hr n (mAt hn)⟩
section
variable {μ : Mem}
end
end Go.Vx
namespace Go.Vx
open Go.Proofs Classical
structure BitsOf (p : Pg) (rows : List Nat) (a N : Nat) (D : Nat → List Gl → Prop) : Prop where
 lt : N < 2 ^ (2 ^ a)
 bit : ∀ k, k < 2 ^ a → (N.testBit k = true ↔ ∃ s c, D s c ∧ s % 2 ^ a = k ∧ ∀ g ∈ c, fitG p rows s g)
section
variable {p : Pg} {rows : List Nat} {a N : Nat} {D D' : Nat → List Gl → Prop}
theorem BitsOf.zero (h : ∀ s c, ¬ D s c) : BitsOf p rows a 0 D where
 lt := Nat.two_pow_pos _
 bit := fun k _ => by
  simp only [Nat.zero_testBit, Bool.false_eq_true, false_iff]
  rintro ⟨s, c, h1, _⟩
  exact h s c h1
theorem BitsOf.congr (h : BitsOf p rows a N D) (e : ∀ s c, D' s c ↔ D s c) : BitsOf p rows a N D' where
 lt := h.lt
 bit := fun k hk => by simp only [e]; exact h.bit k hk
end
def DI (L : List (List Gl)) (M j b : Nat) (s : Nat) (c : List Gl) : Prop := (c ∈ L.take j ∧ s < M) ∨ (L[j]? = some c ∧ s < b)
def DS (L : List (List Gl)) (s0 j : Nat) (s : Nat) (c : List Gl) : Prop := (s < s0 ∧ c ∈ L) ∨ (s = s0 ∧ c ∈ L.take j)
theorem DI.next {L : List (List Gl)} {M j b : Nat} {c0 : List Gl} (h : L[j]? = some c0) (s : Nat) (c : List Gl) : DI L M j (b + 1) s c ↔ DI L M j b s c ∨ (s = b ∧ c = c0) := by
 unfold DI
 rw [h]
 constructor
 ·rintro (k | ⟨k1, k2⟩)
  ·exact .inl (.inl k)
  ·cases k1
   rcases Nat.lt_or_ge s b with k3 | k3
   ·exact .inl (.inr ⟨rfl, k3⟩)
   ·exact .inr ⟨by omega, rfl⟩
 ·rintro ((k | ⟨k1, k2⟩) | ⟨rfl, rfl⟩)
  ·exact .inl k
  ·exact .inr ⟨k1, by omega⟩
  ·exact .inr ⟨rfl, by omega⟩
theorem DS.next {L : List (List Gl)} {s0 j : Nat} {c0 : List Gl} (h : L[j]? = some c0) (s : Nat) (c : List Gl) : DS L s0 (j + 1) s c ↔ DS L s0 j s c ∨ (s = s0 ∧ c = c0) := by
 unfold DS
 rw [List.take_add_one, h, Option.toList_some, List.mem_append, List.mem_singleton]
 constructor
 ·rintro (k | ⟨rfl, k | rfl⟩)
  ·exact .inl (.inl k)
  ·exact .inl (.inr ⟨rfl, k⟩)
  ·exact .inr ⟨rfl, rfl⟩
 ·rintro ((k | ⟨rfl, k⟩) | ⟨rfl, rfl⟩)
  ·exact .inl k
  ·exact .inr ⟨rfl, .inl k⟩
  ·exact .inr ⟨rfl, .inr rfl⟩
theorem BitsOf.row {p : Pg} {rows : List Nat} {r : Rl} {L : List (List Gl)} (hL : r.body.cl = some L) {a l N : Nat} (ha : r.arity = (a : Int)) (hl : r.locals = (l : Int)) {D : Nat → List Gl → Prop} (h : BitsOf p rows a N D) (e : ∀ s c, D s c ↔ c ∈ L ∧ s < 2 ^ (a + l)) : N = numTo (rowHit p rows r) (2 ^ r.arity.toNat) := by
 have e1 : r.arity.toNat = a := by omega
 have e2 : (r.arity + r.locals).toNat = a + l := by omega
 rw [e1]
 refine eq_numTo h.lt fun k hk => ?_
 rw [h.bit k hk]
 constructor
 ·rintro ⟨s, c, h1, h2, h3⟩
  have w_ := (e s c).1 h1
  obtain ⟨h4, h5⟩ := w_
  exact ⟨s, L, c, by rw [e2]; exact h5, by rw [e1]; exact h2, hL, h4, h3⟩
 ·rintro ⟨s, L', c, h1, h2, h3, h4, h5⟩
  rw [hL] at h3
  cases h3
  rw [e2] at h1
  rw [e1] at h2
  exact ⟨s, c, (e s c).2 ⟨h4, h1⟩, h2, h5⟩
structure RowsIn (p : Pg) (rows : List Nat) : Prop where
 ok : p.Ok
 cls : ∀ r ∈ p.rels, r.body.cl ≠ none
 len : rows.length = p.rels.length
 lt : ∀ n ∈ rows, n < 65536
section
variable {μ : Mem}
set_option maxHeartbeats 8000000 in
end
end Go.Vx
namespace Go.Vx
open Go.Proofs Classical
structure RuD where
 rel : ByteArray
 hargs : List Tm
 clause : Int
 vals : List Tm
 pos : List Fc
 neg : List Fc
def RuD.d (x : RuD) : D := .st [.s x.rel, .sl 4 (x.hargs.map Tm.d), .i x.clause, .sl 4 (x.vals.map Tm.d), .sl 2 (x.pos.map Fc.d), .sl 2 (x.neg.map Fc.d)]
theorem RuD.d_eq (x : RuD) : x.d = .st [.s x.rel, .sl 4 (x.hargs.map Tm.d), .i x.clause, .sl 4 (x.vals.map Tm.d), .sl 2 (x.pos.map Fc.d), .sl 2 (x.neg.map Fc.d)] := rfl
theorem RuD.d_n (x : RuD) : x.d.n = 6 := by
 rw [RuD.d_eq]
 simp only [D.n, D.ns]
abbrev RuD.P := (Option Addr × Nat) × (Option Addr × Nat) × (Option Addr × Nat) × (Option Addr × Nat)
def RuD.cs (x : RuD) (p : RuD.P) : List Value := [.string x.rel, .slice p.1.1 x.hargs.length p.1.2, .int .i64 x.clause, .slice p.2.1.1 x.vals.length p.2.1.2, .slice p.2.2.1.1 x.pos.length p.2.2.1.2, .slice p.2.2.2.1 x.neg.length p.2.2.2.2]
section
variable {μ : Mem}
def RuD.At (μ : Mem) (x : RuD) (p : RuD.P) : Prop := Sl μ 4 p.1.1 x.hargs.length (x.hargs.map Tm.d) ∧ Sl μ 4 p.2.1.1 x.vals.length (x.vals.map Tm.d) ∧ Sl μ 2 p.2.2.1.1 x.pos.length (x.pos.map Fc.d) ∧ Sl μ 2 p.2.2.2.1 x.neg.length (x.neg.map Fc.d)
theorem RuD.invA {x : RuD} {cs : List Value} (h : Rep μ x.d cs) : ∃ p : RuD.P, cs = x.cs p ∧ RuD.At μ x p := by
 rw [RuD.d_eq] at h
 obtain ⟨a0, t0, rfl, h0, h⟩ := h
 have h0 : a0 = [.string x.rel] := h0
 subst h0
 obtain ⟨a1, t1, rfl, h1, h⟩ := h
 have w_ := one_of (Rep.len _ _ h1)
 obtain ⟨v1, rfl⟩ := w_
 have w_ := Rep.sl h1
 obtain ⟨b1, c1, rfl, s1⟩ := w_
 rw [List.length_map] at s1
 obtain ⟨a2, t2, rfl, h2, h⟩ := h
 have h2 : a2 = [.int .i64 x.clause] := h2
 subst h2
 obtain ⟨a3, t3, rfl, h3, h⟩ := h
 have w_ := one_of (Rep.len _ _ h3)
 obtain ⟨v3, rfl⟩ := w_
 have w_ := Rep.sl h3
 obtain ⟨b3, c3, rfl, s3⟩ := w_
 rw [List.length_map] at s3
 obtain ⟨a4, t4, rfl, h4, h⟩ := h
 have w_ := one_of (Rep.len _ _ h4)
 obtain ⟨v4, rfl⟩ := w_
 have w_ := Rep.sl h4
 obtain ⟨b4, c4, rfl, s4⟩ := w_
 rw [List.length_map] at s4
 obtain ⟨a5, t5, rfl, h5, h⟩ := h
 have w_ := one_of (Rep.len _ _ h5)
 obtain ⟨v5, rfl⟩ := w_
 have w_ := Rep.sl h5
 obtain ⟨b5, c5, rfl, s5⟩ := w_
 rw [List.length_map] at s5
 obtain rfl : t5 = [] := h
 exact ⟨((b1, c1), (b3, c3), (b4, c4), (b5, c5)), by simp [RuD.cs], ⟨s1, s3, s4, s5⟩⟩
theorem RuD.rep {x : RuD} {cs : List Value} (h : Rep μ x.d cs) : RepV μ x.d (.agg cs.toArray) := by
 rw [RuD.d_eq] at h ⊢; exact ⟨cs, rfl, h⟩
theorem RuD.invR {x : RuD} {cs : List Value} (h : Rep μ x.d cs) : ∃ p : RuD.P, cs = x.cs p ∧ RepV μ x.d (.agg (x.cs p).toArray) := by
 have w_ := RuD.invA h
 obtain ⟨p, e, _⟩ := w_
 subst e
 exact ⟨p, rfl, RuD.rep h⟩
theorem RuD.inv {x : RuD} {v : Value} (h : RepV μ x.d v) : ∃ p : RuD.P, v = .agg #[.string x.rel, .slice p.1.1 x.hargs.length p.1.2, .int .i64 x.clause, .slice p.2.1.1 x.vals.length p.2.1.2, .slice p.2.2.1.1 x.pos.length p.2.2.1.2, .slice p.2.2.2.1 x.neg.length p.2.2.2.2] ∧ RuD.At μ x p := by
 have h2 : ∃ cs, v = .agg (List.toArray cs) ∧ Rep μ x.d cs := by rw [RuD.d_eq] at h ⊢; exact h
 obtain ⟨cs, rfl, h3⟩ := h2
 have w_ := RuD.invA h3
 obtain ⟨p, rfl, hA⟩ := w_
 exact ⟨p, rfl, hA⟩
theorem RuD.invV {x : RuD} {v : Value} (h : RepV μ x.d v) : ∃ p : RuD.P, v = .agg #[.string x.rel, .slice p.1.1 x.hargs.length p.1.2, .int .i64 x.clause, .slice p.2.1.1 x.vals.length p.2.1.2, .slice p.2.2.1.1 x.pos.length p.2.2.1.2, .slice p.2.2.2.1 x.neg.length p.2.2.2.2] := by
 have w_ := RuD.inv h
 obtain ⟨p, h, _⟩ := w_
 exact ⟨p, h⟩
theorem RuD.elemA {l : List RuD} {base : Option Addr} {n : Nat} (h : Sl μ 6 base n (l.map RuD.d)) {i : Nat} {x : RuD} (hx : l[i]? = some x) : ∃ ad, ∃ p : RuD.P, ElemAt μ base n 6 i ad (x.cs p) ∧ RepV μ x.d (.agg (x.cs p).toArray) ∧ RuD.At μ x p := by
 have w_ := h.get i x.d (by simp [hx])
 obtain ⟨ad, cs, h1, h2⟩ := w_
 have w_ := RuD.invA h2
 obtain ⟨p, rfl, hA⟩ := w_
 exact ⟨ad, p, h1, RuD.rep h2, hA⟩
theorem RuD.elem {l : List RuD} {base : Option Addr} {n : Nat} (h : Sl μ 6 base n (l.map RuD.d)) {i : Nat} {x : RuD} (hx : l[i]? = some x) : ∃ ad, ∃ p : RuD.P, ElemAt μ base n 6 i ad (x.cs p) ∧ RepV μ x.d (.agg (x.cs p).toArray) := by
 have w_ := RuD.elemA h hx
 obtain ⟨ad, p, h1, h2, _⟩ := w_
 exact ⟨ad, p, h1, h2⟩
end
end Go.Vx
namespace Go.Vx
open Go.Proofs Classical
structure F where
 rel : ByteArray
 args : List T
def F.fc (f : F) : Fc := ⟨f.rel, f.args.map T.tm⟩
structure Ru where
 head : F
 clause : Int
 vals : List T
 pos : List F
 neg : List F
inductive Der (rs : List Ru) (base : List F) : F → Prop
 | base {f : F} (h : f ∈ base) : Der rs base f
 | rule {r : Ru} (h : r ∈ rs) (hp : ∀ f ∈ r.pos, Der rs base f) : Der rs base r.head
end Go.Vx
namespace Go.Vx
open Go.Proofs Classical
section
variable {μ : Mem}
theorem T.elemL {xs : List T} {base : Option Addr} {n : Nat} (h : Sl μ 4 base n ((xs.map T.tm).map Tm.d)) {i : Nat} {x : T} (hx : xs[i]? = some x) : ∃ ad, ∃ p : Option Addr × Nat, ElemAt μ base n 4 i ad (x.tm.cs p) ∧ RepV μ x.tm.d (.agg (x.tm.cs p).toArray) :=
 Tm.elem h (by simp [hx])
theorem F.inv {f : F} {v : Value} (h : RepV μ f.fc.d v) : ∃ p : Fc.P, v = .agg #[.string f.rel, .slice p.1 f.args.length p.2] ∧ Sl μ 4 p.1 f.args.length ((f.args.map T.tm).map Tm.d) := by
 have w_ := Fc.inv h
 obtain ⟨p, rfl, hA⟩ := w_
 have e : f.fc.args.length = f.args.length := List.length_map ..
 have hA : Sl μ 4 p.1 f.fc.args.length ((f.args.map T.tm).map Tm.d) := hA
 rw [e] at hA ⊢
 exact ⟨p, rfl, hA⟩
def F.cs (f : F) (p : Fc.P) : List Value := [.string f.rel, .slice p.1 f.args.length p.2]
theorem F.elem {l : List F} {base : Option Addr} {n : Nat} (h : Sl μ 2 base n ((l.map F.fc).map Fc.d)) {i : Nat} {f : F} (hf : l[i]? = some f) : ∃ ad, ∃ p : Fc.P, ElemAt μ base n 2 i ad (f.cs p) ∧ RepV μ f.fc.d (.agg (f.cs p).toArray) ∧ Sl μ 4 p.1 f.args.length ((f.args.map T.tm).map Tm.d) := by
 have w_ := Fc.elemA h (i := i) (x := f.fc) (by simp [hf])
 obtain ⟨ad, p, h1, h2, h3⟩ := w_
 have e : f.fc.cs p = f.cs p := by
  show [_, Value.slice p.1 (f.args.map T.tm).length p.2] = _
  rw [List.length_map]; rfl
 rw [e] at h1 h2
 have h3 : Sl μ 4 p.1 (f.args.map T.tm).length ((f.args.map T.tm).map Tm.d) := h3
 rw [List.length_map] at h3
 exact ⟨ad, p, h1, h2, h3⟩
end
end Go.Vx
namespace Go.Vx
open Go.Proofs Classical
def GndT (t : Tm) : Prop := t.Ok ∧ t.toT.vars = []
structure UnivOk (l : List Tm) : Prop where
 pos : 1 ≤ l.length
 max : l.length ≤ 8
 gnd : ∀ t ∈ l, GndT t
 asc : ∀ (i : Nat) x y, l[i]? = some x → l[i + 1]? = some y → x.toT.cmp y.toT < 0
theorem UnivOk.lift {l : List Tm} (h : UnivOk l) : ∃ U : List T, l = U.map T.tm ∧ (∀ x ∈ U, x.ok ∧ x.vars = []) ∧ U.length = l.length := by
 have w_ := lift_ok fun t ht => (h.gnd t ht).1
 obtain ⟨U, rfl, hU⟩ := w_
 refine ⟨U, rfl, fun x hx => ⟨hU x hx, ?_⟩, by rw [List.length_map]⟩
 have := (h.gnd x.tm (List.mem_map_of_mem hx)).2
 rwa [T.toT_tm] at this
def relFor (p : Pg) (f : Fc) : Prop := ∃ (k : Nat) (r : Rl), relAt p f.rel = (k : Int) ∧ p.rels[k]? = some r ∧ r.arity = (f.args.length : Int)
def FactFits (p : Pg) (f : Fc) : Prop := relFor p f ∧ ∀ t ∈ f.args, GndT t
noncomputable def Fc.f (x : Fc) : F := ⟨x.rel, x.args.map Tm.toT⟩
theorem FactFits.lift {p : Pg} {x : Fc} (h : FactFits p x) : x.f.fc = x ∧ ∀ a ∈ x.f.args, a.ok ∧ a.vars = [] := by
 have w_ := lift_ok fun t ht => (h.2 t ht).1
 obtain ⟨xs, hxs, hok⟩ := w_
 have e : x.f.args = xs := by show x.args.map Tm.toT = xs; rw [hxs, toTs_tm]
 refine ⟨?_, fun a ha => ?_⟩
 ·show Fc.mk x.rel (x.f.args.map T.tm) = x
  rw [e, ← hxs]
 ·rw [e] at ha
  refine ⟨hok a ha, ?_⟩
  have := (h.2 a.tm (by rw [hxs]; exact List.mem_map_of_mem ha)).2
  rwa [T.toT_tm] at this
section
variable {μ : Mem}
def UnivTo (l : List Tm) (i : Nat) : Prop := ∀ j, j < i → (∀ t, l[j]? = some t → GndT t) ∧ ∀ k x y, k + 1 = j → l[k]? = some x → l[j]? = some y → x.toT.cmp y.toT < 0
theorem UnivTo.all {l : List Tm} (h : UnivTo l l.length) (h1 : 1 ≤ l.length) (h8 : l.length ≤ 8) : UnivOk l where
 pos := h1
 max := h8
 gnd t ht := by
  have w_ := List.mem_iff_getElem?.1 ht
  obtain ⟨j, hj⟩ := w_
  exact (h j (List.getElem?_eq_some_iff.1 hj).1).1 t hj
 asc i x y hx hy := (h (i + 1) (List.getElem?_eq_some_iff.1 hy).1).2 i x y rfl hx hy
theorem UnivOk.to {l : List Tm} (h : UnivOk l) (i : Nat) : UnivTo l i := fun j _ => ⟨fun t ht => h.gnd t (mAt ht), fun k x y hk hx hy => by subst hk; exact h.asc k x y hx hy⟩
noncomputable def findR (p : Pg) (s : ByteArray) : Int := if p.Ok then relAt p s else -1
theorem impl_FindRel_spec {p : Pg} {s : ByteArray} {v : Value} (hp : RepV μ p.d v) : Spec Tryz.prog 68 [v, .string s] μ fun r _ => r = .int .i64 (findR p s) := by
 have hp0 := hp
 have w_ := Pg.inv hp
 obtain ⟨q, rfl, _⟩ := w_
 refine Spec.mk Tryz.func68 (by kernel_rfl) ?_
 intro r2
 refine cPl (impl_ProgramOk_spec hp0) fun v1 μ1 hle1 hR => ?_
 obtain rfl := hR
 refine ifnd (fun h => rPl (by rw [findR, if_neg h])) (fun h => ?_)
 refine cGv (relation_spec (hp0.mono hle1)) ?_
 exact rPl (by rw [findR, if_pos h])
theorem spec_FindRel_spec {p : Pg} {s : ByteArray} {v : Value} (hp : RepV μ p.d v) (hw : p.d.wd) : Spec Tryz.prog 60 [v, .string s] μ fun r _ => r = .int .i64 (findR p s) := by
 have hp0 := hp
 have w_ := Pg.inv hp
 obtain ⟨q, rfl, _⟩ := w_
 refine Spec.mk Tryz.func60 (by kernel_rfl) ?_
 intro r2
 refine cPl (spec_ProgramOk_spec hp0 hw) fun v1 μ1 hle1 hR => ?_
 obtain rfl := hR
 refine ifnd (fun h => rPl (by rw [findR, if_neg h])) (fun h => ?_)
 refine cGv (l14Find_spec (hp0.mono hle1)) ?_
 exact rPl (by rw [findR, if_pos h])
end
end Go.Vx
namespace Go.Vx
open Go.Proofs Classical
section
variable {μ : Mem}
structure SimpleLen (k : Int) (n : Nat) : Prop where
 two : k = 2 ∨ k = 3 ∨ k = 6 → n = 2
 one : k = 4 ∨ k = 5 → n = 1
end
end Go.Vx
namespace Go.Vx
open Go.Proofs Classical
structure ClG (g : Gl) : Prop where
 sh : g.Sh
 one : g.kind ≠ 7 ∧ g.kind ≠ 8
section
variable {μ : Mem}
theorem flat_len2 {es : Nat} : ∀ {ys : List Value}, (∀ x ∈ ys, (vcells x).length = es) → (ys.flatMap vcells).length = ys.length * es
 | [], _ => by simp
 | y :: ys, h => by
  rw [List.flatMap_cons, List.length_append, flat_len2 fun x hx => h x (by simp [hx]), h y (by simp), List.length_cons, Nat.succ_mul]; omega
theorem RowAt.cut {b : Option Nat} {k es : Nat} {ys : List Value} (h : RowAt μ b k es ys) (a : Nat) : RowAt μ b k es (ys.take a) := by
 cases b with
 | none =>
  have h : ys = [] := h
  subst h
  exact List.take_nil
 | some r =>
  obtain ⟨h1, h2, arr, ty, h3, h4, h5⟩ := h
  have hl : (ys.take a).length ≤ ys.length := by rw [List.length_take]; omega
  refine ⟨by omega, fun x hx => h2 x (List.mem_of_mem_take hx), arr, ty, h3, h4, ?_⟩
  have e : ((ys.take a).flatMap vcells).length = (ys.take a).length * es := flat_len2 fun x hx => (h2 x (List.mem_of_mem_take hx)).1
  have e1 : arr.toList.take ((ys.take a).length * es) = (arr.toList.take (ys.length * es)).take ((ys.take a).length * es) := by
   rw [List.take_take]
   congr 1
   have := Nat.mul_le_mul_right es hl
   omega
  rw [e1, h5]
  conv => lhs; rw [← List.take_append_drop a ys]
  rw [List.flatMap_append, List.take_left' (by rw [e]; simp)]
end
end Go.Vx
namespace Go.Vx
open Go.Proofs Classical
theorem gl_cnt_sz3 : ∀ g : Gl, g.d.cnt ≤ 3 + 3 * g.d.sz :=
 Gl.ind fun g ih => by
  have h1 := tms_cnt g.terms
  have h2 : D.cnts (g.goals.map Gl.d) ≤ 3 * g.goals.length + 3 * D.szs (g.goals.map Gl.d) := by
   generalize g.goals = l at ih
   induction l with
   | nil => simp [D.cnts, D.szs]
   | cons t l ih2 =>
    have h1 := ih t (by simp)
    have h2 := ih2 fun t ht => ih t (by simp [ht])
    simp only [List.map_cons, D.cnts, D.szs, List.length_cons]; omega
  rw [Gl.cnt_eq, Gl.sz_eq]; omega
theorem rls_cnt : ∀ l : List Rl, D.cnts (l.map Rl.d) ≤ 10 * l.length + 3 * D.szs (l.map Rl.d)
 | [] => by simp [D.cnts, D.szs]
 | x :: l => by
  have h1 := rls_cnt l
  have h2 := gl_cnt_sz3 x.body
  have h3 := Rl.sz_eq x
  rw [Gl.cnt_eq] at h2
  simp only [List.map_cons, D.cnts, D.szs, List.length_cons]
  rw [Rl.cnt_eq, Rl.sz_eq]; omega
theorem pg_cnt_sz (p : Pg) : p.d.cnt ≤ 10 * p.d.sz := by
 have h1 := rls_cnt p.rels
 rw [Pg.cnt_eq, Pg.sz_eq]; omega
theorem pg_mt (p : Pg) (k : Int) : (p.d.mt k).2 = k + D.cnts (p.rels.map Rl.d) := by
 rw [Pg.mt_eq]
 exact D.mks_cnt (p.rels.map Rl.d) k
end Go.Vx
namespace Go.Vx
open Go.Proofs Classical
section
variable {μ : Mem}
theorem relAt_get {p : Pg} {s : ByteArray} (h : 0 ≤ relAt p s) : ∃ (k : Nat) (r : Rl), relAt p s = (k : Int) ∧ p.rels[k]? = some r ∧ r.name = s := by
 have w_ := relFrom_some (l := p.rels) (i := 0) (s := s) h
 obtain ⟨j, r, h1, h2, h3⟩ := w_
 exact ⟨j, r, by rw [relAt, h1]; congr 1; omega, h2, h3⟩
end
end Go.Vx
namespace Go.Vx
open Go.Proofs Classical
def Tm.Is (t : Tm) : Prop := ∃ x : T, t = x.tm
theorem lift_is : ∀ {l : List Tm}, (∀ t ∈ l, t.Is) → ∃ xs : List T, l = xs.map T.tm
 | [], _ => ⟨[], rfl⟩
 | t :: l, h => by
  have w_ := h t (by simp)
  obtain ⟨x, rfl⟩ := w_
  have w_ := lift_is (l := l) fun t ht => h t (by simp [ht])
  obtain ⟨xs, rfl⟩ := w_
  exact ⟨x :: xs, rfl⟩
def Gl.Mild (g : Gl) : Prop := ∀ x ∈ g.all, (∀ t ∈ x.terms, t.Is) ∧ x.terms.length ≤ 100000 ∧ x.goals.length ≤ 100000
theorem Gl.Mild.top {g : Gl} (h : g.Mild) : (∀ t ∈ g.terms, t.Is) ∧ g.terms.length ≤ 100000 ∧ g.goals.length ≤ 100000 := h g (by rw [Gl.all_eq]; simp)
theorem Gl.Mild.sub {g : Gl} (h : g.Mild) (x : Gl) (hx : x ∈ g.goals) : x.Mild := fun y hy => h y (by rw [Gl.all_eq]; exact List.mem_cons_of_mem _ (List.mem_flatMap.2 ⟨x, hx, hy⟩))
theorem Gl.mild_mk {g : Gl} (h1 : ∀ t ∈ g.terms, t.Is) (h2 : g.terms.length ≤ 100000) (h3 : g.goals.length ≤ 100000) (h4 : ∀ x ∈ g.goals, x.Mild) : g.Mild := fun y hy => by
 rw [Gl.all_eq] at hy
 rcases List.mem_cons.1 hy with rfl | hy
 ·exact ⟨h1, h2, h3⟩
 ·have w_ := List.mem_flatMap.1 hy
  obtain ⟨x, hx, hy⟩ := w_
  exact h4 x hx y hy
theorem Gl.Sh.mild : ∀ (g : Gl), g.Sh → g.Mild :=
 Gl.ind fun g ih hS => by
  refine Gl.mild_mk (fun t ht => by have w_ := (hS.top.tm t ht).lift; obtain ⟨x, _, rfl⟩ := w_; exact ⟨x, rfl⟩) ?_ (by have := hS.top.gl; omega) fun x hx => ih x hx (hS.sub x hx)
  have T := hS.top
  have e9 := T.ln9; have e2 := T.ln2; have e1 := T.ln1; have e0 := T.ln0; have k0 := T.k0; have k1 := T.k1
  omega
section
variable {μ : Mem}
theorem copyTerms_spec {xs : List T} {base : Option Addr} {cap : Nat} (hsl : Sl μ 4 base xs.length ((xs.map T.tm).map Tm.d)) (hn : xs.length ≤ 1000000) :
  Spec Tryz.prog 95 [.slice base xs.length cap] μ fun v μ' => Fresh μ μ' (.sl 4 ((xs.map T.tm).map Tm.d)) v := by
 refine Spec.mk Tryz.func95 (by kernel_rfl) ?_
 intro r6
 refine lIn (fun p : Nat × Option Nat × Nat × List Value × Mem => p.1 ≤ xs.length ∧ μ.Le p.2.2.2.2 ∧ Grown 4 μ p.2.2.2.2 (((xs.take p.1).map T.tm).map Tm.d) p.2.2.2.1)
  (fun (i, b, c, ys, μ') => ⟨[(3, .row 0 b ys.length c), (7, .val (.slice base xs.length cap)), (8, .val (.int .i64 xs.length)), (9, .val (.int .i64 i))], [(0, some (.row b c 50 4 ys))], 1, μ', Mem.nil⟩) (fun p => xs.length - p.1)
  (0, some r6, 0, [], μ) ⟨Nat.zero_le _, Mem.Le.refl _, Grown.nil _ _ _⟩ (fun (_, _, _, _, _) => ⟨rfl, rfl⟩) ⟨⟨rfl, rfl, rfl, rfl, trivial⟩, ⟨rfl, trivial⟩, rfl, rfl⟩ ?_
 rintro ⟨i, b, c, ys, μ'⟩ ⟨hi, hle, hrows⟩
 dsimp only at hi hle hrows
 have hlen := hrows.len
 simp only [List.length_map, List.length_take] at hlen
 refine ifd (fun hlt => ?_) (fun hlt => ?_)
 ·have w_ := aSo (l := xs) (i := i) (by omega)
  obtain ⟨x, hx⟩ := w_
  have w_ := T.elemL (hsl.mono hle) hx
  obtain ⟨ad, p, hel, hr⟩ := w_
  refine eIn hel ?_
  intro r5
  refine cPl (copyTerm_spec x hr) fun v1 μ1 hle1 hR => ?_
  have w_ := Tm.invV hR.rep
  obtain ⟨q, rfl⟩ := w_
  intro r16
  refine gIn ?_ ?_ fun b' c' _ => ?_
  ·show (ys.length + 1) * 56 ≤ _; omega
  ·exact Nat.le_trans (m := 100000000) (show ys.length + 1 ≤ _ by omega) (by decide)
  refine num64 (by omega) (by omega) ⟨(i + 1, b', c', _, μ1), ⟨by dsimp only; omega, hle.trans hle1, ?_⟩, by dsimp only; omega, ⟨⟨rfl, rfl, rfl, rfl, trivial⟩, ⟨rfl, trivial⟩, rfl, rfl⟩⟩
  dsimp only
  rw [List.take_add_one, hx, Option.toList_some]
  simp only [List.map_append, List.map_cons, List.map_nil]
  exact hrows.snoc hle hR hle1 (Tm.d_n _)
 ·obtain rfl : i = xs.length := by omega
  rw [List.take_length] at hrows
  refine rFz [0] fun μ2 hle2 hno hrow => .inl ?_
  exact hrows.fresh hle hle2 hno hrow (Nat.le_trans (m := 1000000) (by omega) (by decide))
theorem copyGoal_mild : ∀ (g : Gl) {μ : Mem} {v : Value}, RepV μ g.d v → g.Mild → Spec Tryz.prog 53 [v] μ fun v μ' => Fresh μ μ' g.d v :=
 Gl.ind fun g ih μ v hv hS => by
  have w_ := Gl.inv hv
  obtain ⟨p, rfl, hts, hgs⟩ := w_
  have w_ := lift_is hS.top.1
  obtain ⟨xs, hxs⟩ := w_
  have hg8 := hS.top.2.2
  have hx4 : xs.length ≤ 100000 := by
   have h := hS.top.2.1
   rwa [hxs, List.length_map] at h
  rw [hxs, List.length_map] at hts ⊢
  refine Spec.mk Tryz.func53 (by kernel_rfl) ?_
  intro r1 r2
  refine cPl (copyTerms_spec hts (by omega)) fun v1 μ1 hle1 hR1 => ?_
  have w_ := Rep.sl hR1.rep
  obtain ⟨bt, ct, rfl, _⟩ := w_
  rw [List.length_map, List.length_map] at hR1 ⊢
  intro r3
  have hgs1 := hgs.mono hle1
  refine loop_nil (fun p : Nat × Option Nat × Nat × List Value × Mem => p.1 ≤ g.goals.length ∧ μ1.Le p.2.2.2.2 ∧ Grown 4 μ1 p.2.2.2.2 ((g.goals.take p.1).map Gl.d) p.2.2.2.1)
   (fun (i, b, c, us, μ') => ⟨[(2, .loc 1 r2 0), (3, .loc 2 r3 0), (15, .val (.slice p.2.1 g.goals.length p.2.2)), (16, .val (.int .i64 g.goals.length)), (17, .val (.int .i64 i))],
    [(1, some (.cells r2 [.val (.int .i64 0), .val (.string ⟨#[]⟩), .val (.slice none 0 0), .val (.slice none 0 0)] 30)), (2, some (.cells r3 [.val (.int .i64 g.kind), .val (.string g.name), .val (.slice bt xs.length ct), .row 3 b us.length c] 30)), (3, some (.row b c 30 4 us))], 4, μ', Mem.nil⟩) (fun p => g.goals.length - p.1)
   (0, none, 0, [], μ1) ⟨Nat.zero_le _, Mem.Le.refl _, Grown.nil _ _ _⟩ (fun (_, _, _, _, _) => ⟨rfl, rfl⟩) ⟨⟨⟨_, rfl, .inl rfl⟩, ⟨_, rfl, .inl rfl⟩, ⟨_, rfl, .inl rfl⟩, ⟨_, rfl, .inl rfl⟩, ⟨_, rfl, .inl rfl⟩, trivial⟩, ⟨.inl rfl, .inr (.inr ⟨_, _, _, _, rfl, rfl, .inl rfl, .inl rfl, .inl rfl, .inr ⟨3, rfl, rfl, Nat.le_refl _⟩, trivial⟩), .inr (.inl ⟨_, _, rfl, Nat.le_refl _⟩), trivial⟩, rfl, rfl⟩ ?_
  rintro ⟨i, b, c, us, μ'⟩ ⟨hi, hle, hrows⟩
  dsimp only at hi hle hrows
  have hlen := hrows.len
  simp only [List.length_map, List.length_take] at hlen
  refine ifd (fun hlt => ?_) (fun hlt => ?_)
  ·have w_ := aSo (l := g.goals) (i := i) (by omega)
   obtain ⟨x, hx⟩ := w_
   have w_ := Gl.elem (hgs1.mono hle) hx
   obtain ⟨ad, p3, hel, hr⟩ := w_
   refine eIn hel ?_
   intro r5
   refine cPl (ih x (mAt hx) hr (hS.sub x (mAt hx))) fun v2 μ2 hle2 hR => ?_
   have w_ := Gl.invV hR.rep
   obtain ⟨q, rfl⟩ := w_
   intro r25
   refine gIn ?_ ?_ fun b' c' _ => ?_
   ·show (us.length + 1) * 72 ≤ _; omega
   ·exact Nat.le_trans (m := 100000000) (show us.length + 1 ≤ _ by omega) (by decide)
   refine num64 (by omega) (by omega) ⟨(i + 1, b', c', _, μ2), ⟨by dsimp only; omega, hle.trans hle2, ?_⟩, by dsimp only; omega, ⟨⟨rfl, rfl, rfl, rfl, rfl, trivial⟩, ⟨rfl, rfl, rfl, trivial⟩, rfl, rfl⟩⟩
   dsimp only
   rw [List.take_add_one, hx, Option.toList_some]
   simp only [List.map_append, List.map_cons, List.map_nil]
   exact hrows.snoc hle hR hle2 (Gl.d_n _)
  ·obtain rfl : i = g.goals.length := by omega
   rw [List.take_length] at hrows
   refine rFz [3] fun μ2 hle2 hno hrow => .inl ?_
   rw [Gl.d_eq, hxs]
   have k := hrows.fresh hle hle2 hno hrow (Nat.le_trans (m := 1000000) (by omega) (by decide))
   exact FreshS.st (FreshS.int (FreshS.str (FreshS.cons hR1 hle1 (hle.trans hle2) (FreshS.cons k (hle.trans hle2) (Mem.Le.refl _) FreshS.nil))))
theorem copyGoal_spec (g : Gl) {μ : Mem} {v : Value} (hv : RepV μ g.d v) (hS : g.Sh) : Spec Tryz.prog 53 [v] μ fun v μ' => Fresh μ μ' g.d v := copyGoal_mild g hv (Gl.Sh.mild _ hS)
theorem copyProgram_row {p : Pg} {v : Value} (hv : RepV μ p.d v) (hok : p.Ok) : Spec Tryz.prog 75 [v] μ fun v μ' => ∃ (b : Option Nat) (c : Nat) (us : List Value) (μ1 : Mem), v = .agg #[.slice (b.map fun r => ⟨r, 0, none⟩) us.length c] ∧ μ.Le μ1 ∧ μ1.Le μ' ∧ Grown 7 μ μ1 (p.rels.map Rl.d) us ∧ (∀ r, b = some r → μ1 r = none) ∧ RowAt μ' b c 7 us := by
 obtain ⟨q, rfl, hrl⟩ := Pg.inv hv
 have hn := hok.1
 refine Spec.mk Tryz.func75 (by kernel_rfl) ?_
 intro r1 r2 r3
 refine loop_nil (fun z : Nat × Option Nat × Nat × List Value × Mem => z.1 ≤ p.rels.length ∧ μ.Le z.2.2.2.2 ∧ Grown 7 μ z.2.2.2.2 ((p.rels.take z.1).map Rl.d) z.2.2.2.1)
  (fun (i, b, c, us, μ') => ⟨[(2, .loc 1 r2 0), (3, .loc 2 r3 0), (8, .val (.slice q.1 p.rels.length q.2)), (9, .val (.int .i64 p.rels.length)), (10, .val (.int .i64 i))],
   [(1, some (.cells r2 [.val (.slice none 0 0)] 45)), (2, some (.cells r3 [.row 3 b us.length c] 45)), (3, some (.row b c 94 7 us))], 4, μ', Mem.nil⟩) (fun z => p.rels.length - z.1)
  (0, none, 0, [], μ) ⟨Nat.zero_le _, Mem.Le.refl _, Grown.nil _ _ _⟩ (fun (_, _, _, _, _) => ⟨rfl, rfl⟩) ⟨⟨⟨_, rfl, .inl rfl⟩, ⟨_, rfl, .inl rfl⟩, ⟨_, rfl, .inl rfl⟩, ⟨_, rfl, .inl rfl⟩, ⟨_, rfl, .inl rfl⟩, trivial⟩, ⟨.inl rfl, .inr (.inr ⟨_, _, _, _, rfl, rfl, .inr ⟨3, rfl, rfl, Nat.le_refl _⟩, trivial⟩), .inr (.inl ⟨_, _, rfl, Nat.le_refl _⟩), trivial⟩, rfl, rfl⟩ ?_
 rintro ⟨i, b, c, us, μ'⟩ ⟨hi, hle, hrows⟩
 dsimp only at hi hle hrows
 have hlen := hrows.len
 simp only [List.length_map, List.length_take] at hlen
 refine ifd (fun hlt => ?_) (fun hlt => ?_)
 ·have w_ := aSo (l := p.rels) (i := i) (by omega)
  obtain ⟨x, hx⟩ := w_
  have w_ := Rl.elemA (hrl.mono hle) hx
  obtain ⟨ad, q2, hel, hr, hb⟩ := w_
  have hb : RepV μ' x.body.d (.agg (x.body.cs q2).toArray) := hb
  refine eIn hel ?_
  intro r5
  refine cPl (copyGoal_spec x.body hb (hok.2 i x hx).body) fun v2 μ2 hle2 hR => ?_
  have w_ := Gl.invV hR.rep
  obtain ⟨q3, rfl⟩ := w_
  intro r26
  refine gIn ?_ ?_ fun b' c' _ => ?_
  ·show (us.length + 1) * 104 ≤ _; omega
  ·exact Nat.le_trans (m := 100000000) (show us.length + 1 ≤ _ by omega) (by decide)
  refine num64 (by omega) (by omega) ⟨(i + 1, b', c', _, μ2), ⟨by dsimp only; omega, hle.trans hle2, ?_⟩, by dsimp only; omega, ⟨⟨rfl, rfl, rfl, rfl, rfl, trivial⟩, ⟨rfl, rfl, rfl, trivial⟩, rfl, rfl⟩⟩
  dsimp only
  rw [List.take_add_one, hx, Option.toList_some]
  simp only [List.map_append, List.map_cons, List.map_nil]
  refine hrows.snoc hle ?_ hle2 (Rl.d_n _)
  rw [Rl.d_eq]
  exact FreshS.st (FreshS.str (FreshS.int (FreshS.int (FreshS.cons hR hle2 (Mem.Le.refl _) FreshS.nil))))
 ·obtain rfl : i = p.rels.length := by omega
  rw [List.take_length] at hrows
  refine rFz [3] fun μ2 hle2 hno hrow => .inl ?_
  exact ⟨b, c, us, μ', rfl, hle, hle2, hrows, hno, hrow⟩
theorem copyProgram_own {p : Pg} {v : Value} (hv : RepV μ p.d v) (hok : p.Ok) (hne : p.rels ≠ []) : SpecH Tryz.prog 75 [v] μ Mem.nil fun v μ2 H2 => ∃ (r c : Nat) (ty : TypeId) (us : List Value), v = .agg #[.slice (some ⟨r, 0, none⟩) us.length c] ∧ RowO H2 r c ty 7 us ∧ Grown 7 μ μ2 (p.rels.map Rl.d) us := by
 have e0 : μ.join Mem.nil = μ := funext fun b => by rw [Mem.join_get]; cases μ b <;> rfl
 have h0 := copyProgram_row hv hok
 generalize hR0 : (fun v μ' => ∃ (b : Option Nat) (c : Nat) (us : List Value) (μ1 : Mem), v = Value.agg #[.slice (b.map fun r => ⟨r, 0, none⟩) us.length c] ∧ μ.Le μ1 ∧ μ1.Le μ' ∧ Grown 7 μ μ1 (p.rels.map Rl.d) us ∧ (∀ r, b = some r → μ1 r = none) ∧ RowAt μ' b c 7 us) = R0 at h0
 have h : Spec Tryz.prog 75 [v] (μ.join Mem.nil) R0 := by rw [e0]; exact h0
 refine (Spec.lendOwn (H := Mem.nil) (R' := fun v g μ1 => ∃ (r c : Nat) (ty : TypeId) (us : List Value), v = .agg #[.slice (some ⟨r, 0, none⟩) us.length c] ∧ RowO g r c ty 7 us ∧ Grown 7 μ (μ1.sub g) (p.rels.map Rl.d) us) (fun b _ => rfl) h fun v μ1 hle hR => ?_).weaken fun v μ2 H2 _ _ hR => ?_
 ·rw [e0]
  rw [← hR0] at hR
  obtain ⟨b, c, us, μ0, rfl, hl0, hl1, hgr, hno, hrow⟩ := hR
  have hl := hgr.len
  rw [List.length_map] at hl
  cases b with
  | none =>
   have : us = [] := hrow
   subst this
   exact absurd (List.eq_nil_of_length_eq_zero hl) hne
  | some r =>
   obtain ⟨h2, h3, arr, ty, h4, h5, h6⟩ := hrow
   have hr0 := hno r rfl
   have hn := hok.1
   refine ⟨Mem.nil.set r (.cells arr ty (0, 0)), fun x o hx => ?_, fun x hx => ?_, r, c, ty, us, rfl, ⟨arr.toList, Mem.set_at _ _ _, h2, Nat.le_trans (m := 8) (by omega) (by decide), h3, by simpa using h5, h6⟩, ?_⟩
   ·by_cases e : x = r
    ·subst e; rw [Mem.set_at] at hx; rw [h4]; exact hx
    ·rw [Mem.set_ne e] at hx; cases hx
   ·by_cases e : x = r
    ·subst e
     cases e2 : μ x with
     | none => rfl
     | some o => rw [hl0 x o e2] at hr0; cases hr0
    ·rw [Mem.set_ne e] at hx; exact absurd rfl hx
   ·obtain ⟨g, k1, k2, k3⟩ := hgr
    refine ⟨g, k1, Mem.le_sub (k2.trans hl1) (fun b hb => ?_), k3⟩
    by_cases e : b = r
    ·subst e
     cases e2 : g b with
     | none => exact absurd e2 hb
     | some o => rw [k2 b o e2] at hr0; cases hr0
    ·rw [Mem.set_ne e]; rfl
 ·obtain ⟨g, μ1, ⟨r, c, ty, us, rfl, ⟨cs, q1, q2⟩, hgr⟩, _, hp, rfl⟩ := hR
  exact ⟨r, c, ty, us, rfl, ⟨cs, hp.right _ _ q1, q2⟩, hgr⟩
end
end Go.Vx
namespace Go.Vx
open Go.Proofs Classical
def Gl.Long (nm : ByteArray) (k : Nat) (g : Gl) : Prop := ∀ x ∈ g.all, x.kind = 9 → x.name = nm → k < x.terms.length
theorem Gl.Long.sub {nm : ByteArray} {k : Nat} {g : Gl} (h : g.Long nm k) (x : Gl) (hx : x ∈ g.goals) : x.Long nm k := fun y hy => h y (by rw [Gl.all_eq]; exact List.mem_cons_of_mem _ (List.mem_flatMap.2 ⟨x, hx, hy⟩))
theorem Gl.Long.top {nm : ByteArray} {k : Nat} {g : Gl} (h : g.Long nm k) : g.kind = 9 → g.name = nm → k < g.terms.length := h g (by rw [Gl.all_eq]; simp)
section
variable {μ : Mem}
theorem Gl.termsW {g : Gl} {a b ts gs : Value} (h : RepV μ g.d (.agg #[a, b, ts, gs])) : RepV μ (.sl 4 (g.terms.map Tm.d)) ts := by
 have h2 : ∃ cs, Value.agg #[a, b, ts, gs] = .agg (List.toArray cs) ∧ Rep μ g.d cs := by rw [Gl.d_eq] at h ⊢; exact h
 obtain ⟨cs, e, h3⟩ := h2
 have e : cs = [a, b, ts, gs] := by
  injection e with e
  have := congrArg Array.toList e
  simpa using this.symm
 subst e
 rw [Gl.d_eq] at h3
 obtain ⟨a0, t0, e0, h0, h3⟩ := h3
 have h0 : a0 = [.int .i64 g.kind] := h0
 subst h0
 obtain ⟨rfl, rfl⟩ := List.cons.inj e0
 obtain ⟨a1, t1, e1, h1, h3⟩ := h3
 have h1 : a1 = [.string g.name] := h1
 subst h1
 obtain ⟨rfl, rfl⟩ := List.cons.inj e1
 obtain ⟨a2, t2, e2, h2, h3⟩ := h3
 have w_ := one_of (Rep.len _ _ h2)
 obtain ⟨v2, rfl⟩ := w_
 obtain ⟨rfl, _⟩ := List.cons.inj e2
 exact h2
end
end Go.Vx
namespace Go.Vx
open Go.Proofs Classical
theorem T.subst_congrD {f g : Int → Option T} : ∀ (x : T), (∀ n ∈ x.vars, (f n).getD (.var n) = (g n).getD (.var n)) → x.subst f = x.subst g
 | .nil, _ => rfl
 | .var n, h => h n (by simp [T.vars])
 | .sym _, _ => rfl
 | .num _, _ => rfl
 | .pair a b, h => by
  show T.pair (a.subst f) (b.subst f) = T.pair (a.subst g) (b.subst g)
  rw [T.subst_congrD a fun n hn => h n (by simp [T.vars, hn]), T.subst_congrD b fun n hn => h n (by simp [T.vars, hn])]
def SpcOk (p : Pg) (nm : ByteArray) (arg : Int) (t : Tm) (r : Rl) : Prop := (∃ k : Nat, findR p nm = (k : Int) ∧ p.rels[k]? = some r) ∧ GndT t ∧ 0 ≤ arg ∧ arg < r.arity
theorem SpcOk.uniq {p : Pg} {nm : ByteArray} {arg : Int} {t : Tm} {r r' : Rl} (h : SpcOk p nm arg t r) (h' : SpcOk p nm arg t r') : r = r' := by
 obtain ⟨⟨k, h1, h2⟩, _⟩ := h
 obtain ⟨⟨k', h3, h4⟩, _⟩ := h'
 obtain rfl : k = k' := by omega
 rw [h2] at h4; exact Option.some.inj h4
end Go.Vx
namespace Go.Vx
open Go.Proofs Classical
theorem T.good_vars : ∀ {x : T}, x.good → ∀ n ∈ x.vars, 0 ≤ n ∧ n ≤ 100000
 | .nil, _, n, h => by simp [T.vars] at h
 | .var m, hg, n, h => by
  simp only [T.vars, List.mem_singleton] at h
  subst h; exact hg
 | .sym _, _, n, h => by simp [T.vars] at h
 | .num _, _, n, h => by simp [T.vars] at h
 | .pair a b, hg, n, h => by
  simp only [T.vars, List.mem_append] at h
  rcases h with h | h
  ·exact T.good_vars hg.1 n h
  ·exact T.good_vars hg.2 n h
section
variable {μ : Mem}
def InV (n : Int) : Prop := 0 ≤ n ∧ n ≤ 100000
end
end Go.Vx
namespace Go.Vx
open Go.Proofs Classical
def optP (P : Pg → Value → Prop) (o : Option Pg) (v : Value) : Prop := match o with
 | none => v = .tuple #[.agg #[.slice none 0 0], .bool false]
 | some y => ∃ tv, v = .tuple #[tv, .bool true] ∧ P y tv
section
variable {μ : Mem}
end
end Go.Vx
namespace Go.Vx
open Go.Proofs Classical
theorem Gl.wd_mk {g : Gl} (h1 : InR g.kind) (h2 : g.name.size ≤ maxLen) (h3 : ∀ t ∈ g.terms, t.d.wd) (h4 : ∀ x ∈ g.goals, x.d.wd) : g.d.wd := by
 rw [Gl.d_eq]
 refine ⟨h1, h2, D.wds_of fun d hd => ?_, D.wds_of fun d hd => ?_, trivial⟩
 ·have w_ := List.mem_map.1 hd
  obtain ⟨y, hy, rfl⟩ := w_
  exact h3 y hy
 ·have w_ := List.mem_map.1 hd
  obtain ⟨y, hy, rfl⟩ := w_
  exact h4 y hy
theorem Gl.wd_at {g : Gl} (h : g.d.wd) : InR g.kind ∧ g.name.size ≤ maxLen ∧ (∀ t ∈ g.terms, t.d.wd) ∧ ∀ x ∈ g.goals, x.d.wd := by
 rw [Gl.d_eq] at h
 exact ⟨h.1, h.2.1, fun t ht => D.wds_mem h.2.2.1 _ (List.mem_map_of_mem ht), fun t ht => D.wds_mem h.2.2.2.1 _ (List.mem_map_of_mem ht)⟩
theorem Pg.repS {μ : Mem} {p : Pg} {v : Value} (h : RepV μ (.sl 7 (p.rels.map Rl.d)) v) : RepV μ p.d (.agg #[v]) := by
 rw [Pg.d_eq]
 exact ⟨_, rfl, RepS.last h⟩
section
variable {μ : Mem}
end
end Go.Vx
namespace Go.Vx
open Go.Proofs Classical
theorem Gl.all_self (g : Gl) : g ∈ g.all := by rw [Gl.all_eq]; simp
theorem Gl.all_sub {g x y : Gl} (hx : x ∈ g.goals) (hy : y ∈ x.all) : y ∈ g.all := by
 rw [Gl.all_eq]; exact List.mem_cons_of_mem _ (List.mem_flatMap.2 ⟨x, hx, hy⟩)
theorem Gl.all_wd : ∀ g : Gl, g.d.wd → ∀ x ∈ g.all, x.d.wd :=
 Gl.ind fun g ih h x hx => by
  rw [Gl.all_eq] at hx
  rcases List.mem_cons.1 hx with rfl | hx
  ·exact h
  ·have w_ := List.mem_flatMap.1 hx
   obtain ⟨y, hy, hx⟩ := w_
   exact ih y hy ((Gl.wd_at h).2.2.2 y hy) x hx
def Gl.Single (g : Gl) : Prop := g.Ok ∧ g.kind ≠ 7 ∧ g.kind ≠ 8
def CgOk (l : List (List Gl)) : Prop := l.length ≤ 8 ∧ ∀ c ∈ l, c.length ≤ 8 ∧ ∀ g ∈ c, g.Single
def cgA (c : List Gl) : Gl := .mk 7 ⟨#[]⟩ [] c
def cgG (l : List (List Gl)) : Gl := .mk 8 ⟨#[]⟩ [] (l.map cgA)
noncomputable def cgO (l : List (List Gl)) : Option Gl := if CgOk l then some (cgG l) else none
def callIdx : List Gl → Nat → Option Nat
 | [], _ => none
 | g :: r, 0 => if g.kind = 9 then some 0 else (callIdx r 0).map (· + 1)
 | g :: r, k + 1 => if g.kind = 9 then (callIdx r k).map (· + 1) else (callIdx r (k + 1)).map (· + 1)
theorem callIdx_at : ∀ {l : List Gl} {k a : Nat}, callIdx l k = some a → ∃ g, l[a]? = some g ∧ g.kind = 9
 | [], _, _, h => by cases h
 | g :: r, 0, a, h => by
  rw [callIdx] at h
  split at h
  ·rename_i h9
   cases h; exact ⟨g, rfl, h9⟩
  ·have w_ := Option.map_eq_some_iff.1 h
   obtain ⟨b, hb, rfl⟩ := w_
   exact callIdx_at (l := r) hb
 | g :: r, k + 1, a, h => by
  rw [callIdx] at h
  split at h
  ·have w_ := Option.map_eq_some_iff.1 h
   obtain ⟨b, hb, rfl⟩ := w_
   exact callIdx_at (l := r) hb
  ·have w_ := Option.map_eq_some_iff.1 h
   obtain ⟨b, hb, rfl⟩ := w_
   exact callIdx_at (l := r) hb
def placeI : Option Nat → Int
 | some a => a
 | none => -1
def shF (n : Int) (v : Int) : Option T := some (.var (v + n))
def eqG (n : Int) (i : Nat) (t : Tm) : Gl := .mk 2 ⟨#[]⟩ [(T.var (n + i)).tm, t] []
def eqsG (n : Int) (ts : List Tm) : List Gl := ts.mapIdx (eqG n)
theorem eqsG_take {n : Int} {ts : List Tm} {i : Nat} {t : Tm} (h : ts[i]? = some t) : (eqsG n ts).take (i + 1) = (eqsG n ts).take i ++ [eqG n i t] := by
 rw [List.take_add_one, eqsG, List.getElem?_mapIdx, h]; rfl
theorem eqsG_len (n : Int) (ts : List Tm) : (eqsG n ts).length = ts.length := by rw [eqsG, List.length_mapIdx]
noncomputable def unfC (l : List Gl) (a : Nat) (g : Gl) (n : Int) (d : List Gl) : List Gl := l.take a ++ eqsG n g.terms ++ d.map (Gl.put (shF n)) ++ l.drop (a + 1)
noncomputable def unfL (cls : List (List Gl)) (c : Nat) (l : List Gl) (a : Nat) (g : Gl) (n : Int) (ds : List (List Gl)) : List (List Gl) := cls.take c ++ ds.map (unfC l a g n) ++ cls.drop (c + 1)
structure UnfD where
 k : Nat
 r : Rl
 cls : List (List Gl)
 c : Nat
 l : List Gl
 a : Nat
 g : Gl
 q : Rl
structure UnfAt (p : Pg) (nm : ByteArray) (clause call : Int) (x : UnfD) : Prop where
 find : findR p nm = x.k
 rel : p.rels[x.k]? = some x.r
 cl : x.r.body.cl = some x.cls
 cc : clause = x.c
 cls : x.cls[x.c]? = some x.l
 call0 : 0 ≤ call
 pos : callIdx x.l call.toNat = some x.a
 goal : x.l[x.a]? = some x.g
 called : ∃ j : Nat, relAt p x.g.name = j ∧ p.rels[j]? = some x.q
theorem UnfAt.uniq {p : Pg} {nm : ByteArray} {clause call : Int} {x y : UnfD} (h : UnfAt p nm clause call x) (h' : UnfAt p nm clause call y) : x = y := by
 obtain ⟨k, r, cls, c, l, a, g, q⟩ := x
 obtain ⟨k', r', cls', c', l', a', g', q'⟩ := y
 obtain ⟨h1, h2, h3, h4, h5, h6, h7, h8, j, h9, h10⟩ := h
 obtain ⟨i1, i2, i3, i4, i5, i6, i7, i8, j', i9, i10⟩ := h'
 dsimp only at *
 obtain rfl : k = k' := by omega
 rw [h2] at i2; cases i2
 rw [h3] at i3; cases i3
 obtain rfl : c = c' := by omega
 rw [h5] at i5; cases i5
 rw [h7] at i7; cases i7
 rw [h8] at i8; cases i8
 obtain rfl : j = j' := by omega
 rw [h10] at i10; cases i10
 rfl
noncomputable def UnfD.ls (x : UnfD) (ds : List (List Gl)) : List (List Gl) := unfL x.cls x.c x.l x.a x.g (x.r.arity + x.r.locals) ds
noncomputable def UnfD.pg (x : UnfD) (p : Pg) (ds : List (List Gl)) : Pg := ⟨p.rels.set x.k ⟨x.r.name, x.r.arity, x.r.locals + x.q.arity + x.q.locals, cgG (x.ls ds)⟩⟩
def UnfOk (p : Pg) (x : UnfD) (ds : List (List Gl)) : Prop := x.q.body.cl = some ds ∧ CgOk (x.ls ds) ∧ (x.pg p ds).Ok
noncomputable def unfO (p : Pg) (nm : ByteArray) (clause call : Int) : Option (Pg × Nat) :=
 if h : ∃ z : UnfD × List (List Gl), UnfAt p nm clause call z.1 ∧ UnfOk p z.1 z.2 then some (h.choose.1.pg p h.choose.2, h.choose.2.length) else none
theorem unfO_some {p : Pg} {nm : ByteArray} {clause call : Int} {x : UnfD} {ds : List (List Gl)} (h : UnfAt p nm clause call x) (h2 : UnfOk p x ds) : unfO p nm clause call = some (x.pg p ds, ds.length) := by
 have hx : ∃ z : UnfD × List (List Gl), UnfAt p nm clause call z.1 ∧ UnfOk p z.1 z.2 := ⟨(x, ds), h, h2⟩
 have h3 := hx.choose_spec
 have e : hx.choose = (x, ds) := by
  have e1 := h3.1.uniq h
  have e2 := h3.2.1
  rw [e1, h2.1] at e2
  exact Prod.ext e1 (Option.some.inj e2).symm
 rw [unfO, dif_pos hx, e]
theorem unfO_none {p : Pg} {nm : ByteArray} {clause call : Int} (h : ∀ x, ¬ UnfAt p nm clause call x) : unfO p nm clause call = none := by
 rw [unfO, dif_neg fun k => by obtain ⟨⟨x, _⟩, hx, _⟩ := k; exact h x hx]
theorem unfO_bad {p : Pg} {nm : ByteArray} {clause call : Int} {x : UnfD} (h : UnfAt p nm clause call x) (h2 : ∀ ds, ¬ UnfOk p x ds) : unfO p nm clause call = none := by
 rw [unfO, dif_neg fun k => by obtain ⟨⟨y, ds⟩, hy, hd⟩ := k; exact h2 ds (h.uniq hy ▸ hd)]
end Go.Vx
namespace Go.Vx
open Go.Proofs Classical
section
variable {μ : Mem}
theorem l16Single_spec {g : Gl} {v : Value} (hv : RepV μ g.d v) (hw : g.d.wd) : Gives Tryz.prog 145 [v] μ (.bool (decide g.Single)) := by
 have w_ := Gl.invV hv
 obtain ⟨p, rfl⟩ := w_
 refine Spec.mk Tryz.func145 (by kernel_rfl) ?_
 intro r1
 refine cGv (spec_GoalOk_spec g hv hw) ?_
 refine ifd (fun h1 => ?_) (fun h1 => rGv (isF fun h => h1 h.1) rfl)
 refine ifnd (fun h2 => ?_) (fun h2 => rGv (isF fun h => h.2.1 h2) rfl)
 refine rGv ?_ rfl
 show Value.bool _ = Value.bool _
 congr 1
 by_cases e : g.kind = 8
 ·rw [decide_eq_true e, decide_eq_false fun k : g.Single => k.2.2 e]; rfl
 ·rw [decide_eq_false e, decide_eq_true (show g.Single from ⟨h1, h2, e⟩)]; rfl
theorem l13Make_spec {k : Int} {a b : Option Addr × Nat × Nat} : Gives Tryz.prog 84 [.int .i64 k, .slice a.1 a.2.1 a.2.2, .slice b.1 b.2.1 b.2.2] μ (.agg #[.int .i64 k, .string ⟨#[]⟩, .slice a.1 a.2.1 a.2.2, .slice b.1 b.2.1 b.2.2]) := by
 refine Spec.mk Tryz.func84 (by kernel_rfl) ?_
 intro r6
 exact rGv rfl rfl
theorem cgA_rep {c : List Gl} {v : Value} (h : RepV μ (csD c) v) : RepV μ (cgA c).d (.agg #[.int .i64 7, .string ⟨#[]⟩, .slice none 0 0, v]) := by
 rw [Gl.d_eq]
 have hnil : RepV μ (.sl 4 (([] : List Tm).map Tm.d)) (.slice none 0 0) := ⟨none, 0, rfl, ⟨Nat.zero_le _, Nat.zero_le _⟩, (fun _ h => nomatch h), .inl rfl⟩
 exact ⟨_, rfl, RepS.int (RepS.str (RepS.cons1 hnil (RepS.last h)))⟩
set_option maxHeartbeats 1000000 in
theorem spec_ClauseGoal_spec {l : List (List Gl)} {base : Option Addr} {cap : Nat} (hsl : Sl μ 1 base l.length (l.map csD)) (hw : ∀ c ∈ l, ∀ g ∈ c, g.d.wd) (hb : l.length ≤ 100000) (hb2 : ∀ c ∈ l, c.length ≤ 100000) :
  Spec Tryz.prog 86 [.slice base l.length cap] μ fun v μ' => optG (fun y tv => RepV μ' y.d tv) (cgO l) v := by
 refine Spec.mk Tryz.func86 (by kernel_rfl) ?_
 intro r2 r4
 refine loop_nil (fun z : Nat × Option Nat × Nat × List Value × Mem => z.1 ≤ l.length ∧ μ.Le z.2.2.2.2 ∧ Rows z.2.2.2.2 4 (((l.take z.1).map cgA).map Gl.d) z.2.2.2.1 ∧ (∀ c ∈ l.take z.1, c.length ≤ 8 ∧ ∀ g ∈ c, g.Single) ∧ (z.1 = 0 ∨ l.length ≤ 8))
  (fun (i, b, c, us, μ') => ⟨[(0, .val (.slice base l.length cap)), (2, .loc 0 r2 0), (4, .loc 1 r4 0), (10, .val (.slice base l.length cap)), (11, .val (.int .i64 l.length)), (12, .val (.int .i64 i))],
   [(0, some (.cells r2 [.val (.int .i64 0), .val (.string ⟨#[]⟩), .val (.slice none 0 0), .val (.slice none 0 0)] 30)), (1, some (.cells r4 [.val (.int .i64 8), .val (.string ⟨#[]⟩), .val (.slice none 0 0), .row 2 b us.length c] 30)), (2, some (.row b c 30 4 us))], 3, μ', Mem.nil⟩) (fun z => l.length - z.1)
  (0, none, 0, [], μ) ⟨Nat.zero_le _, Mem.Le.refl _, .nil, by simp, .inl rfl⟩ (fun (_, _, _, _, _) => ⟨rfl, rfl⟩) ⟨⟨⟨_, rfl, .inl rfl⟩, ⟨_, rfl, .inl rfl⟩, ⟨_, rfl, .inl rfl⟩, ⟨_, rfl, .inl rfl⟩, ⟨_, rfl, .inl rfl⟩, ⟨_, rfl, .inl rfl⟩, trivial⟩, ⟨.inl rfl, .inr (.inr ⟨_, _, _, _, rfl, rfl, .inl rfl, .inl rfl, .inl rfl, .inr ⟨2, rfl, rfl, Nat.le_refl _⟩, trivial⟩), .inr (.inl ⟨_, _, rfl, Nat.le_refl _⟩), trivial⟩, rfl, rfl⟩ ?_
 rintro ⟨i, b, c, us, μ'⟩ ⟨hi, hle, hrows, hall, h8⟩
 dsimp only at hi hle hrows hall h8
 have hul := hrows.len
 simp only [List.length_map, List.length_take] at hul
 refine ifd (fun hlt => ?_) (fun hlt => ?_)
 ·have w_ := aSo (l := l) (i := i) (by omega)
  obtain ⟨x, hx⟩ := w_
  have hxm := mAt hx
  have w_ := cls_elem (hsl.mono hle) hx
  obtain ⟨ad, px, hel, hrx⟩ := w_
  have hxl := hb2 x hxm
  have hxs : Sl μ' 4 px.1 x.length (x.map Gl.d) := by
   have w_ := Rep.sl (xs := x.map Gl.d) hrx
   obtain ⟨b', c', e1, hs⟩ := w_
   have w_ := Value.slice.inj e1
   obtain ⟨rfl, _, _⟩ := w_
   simpa using hs
  refine eIn hel ?_
  refine lIn (fun j : Nat => j ≤ x.length ∧ ∀ g ∈ x.take j, g.Single)
   (fun j => ⟨[(0, .val (.slice base l.length cap)), (2, .loc 0 r2 0), (4, .loc 1 r4 0), (6, .val (.slice px.1 x.length px.2)), (10, .val (.slice base l.length cap)), (11, .val (.int .i64 l.length)), (12, .val (.int .i64 i)), (16, .val (.slice px.1 x.length px.2)), (17, .val (.int .i64 x.length)), (18, .val (.int .i64 j))],
    [(0, some (.cells r2 [.val (.int .i64 0), .val (.string ⟨#[]⟩), .val (.slice none 0 0), .val (.slice none 0 0)] 30)), (1, some (.cells r4 [.val (.int .i64 8), .val (.string ⟨#[]⟩), .val (.slice none 0 0), .row 2 b us.length c] 30)), (2, some (.row b c 30 4 us))], 3, μ', Mem.nil⟩) (fun j => x.length - j)
   0 ⟨Nat.zero_le _, by simp⟩ (fun _ => ⟨rfl, rfl⟩) ⟨⟨rfl, rfl, rfl, rfl, rfl, rfl, rfl, rfl, rfl, rfl, trivial⟩, ⟨rfl, rfl, rfl, trivial⟩, rfl, rfl⟩ ?_
  rintro j ⟨hj, hsing⟩
  refine ifd (fun hlt2 => ?_) (fun hlt2 => ?_)
  ·have w_ := aSo (l := x) (i := j) (by omega)
   obtain ⟨y, hy⟩ := w_
   have w_ := Gl.elem hxs hy
   obtain ⟨ad2, p2, hel2, hr2⟩ := w_
   refine eIn hel2 ?_
   intro r8
   refine cGv (l16Single_spec hr2 (hw x hxm y (mAt hy))) ?_
   refine ifnd (fun hn => ?_) (fun hs => ?_)
   ·refine rPl ?_
    rw [cgO, if_neg fun k => hn ((k.2 x hxm).2 y (mAt hy))]
    rfl
   refine num64 (by omega) (by omega) ⟨j + 1, ⟨by omega, fun g hg => ?_⟩, by omega, ⟨⟨rfl, rfl, rfl, rfl, rfl, rfl, rfl, rfl, rfl, rfl, trivial⟩, ⟨rfl, rfl, rfl, trivial⟩, rfl, rfl⟩⟩
   rw [List.take_add_one, hy, Option.toList_some] at hg
   rcases List.mem_append.1 hg with hg | hg
   ·exact hsing g hg
   ·rw [List.mem_singleton.1 hg]; exact hs
  ·obtain rfl : j = x.length := by omega
   rw [List.take_length] at hsing
   refine ifd (fun h88 => ?_) (fun h88 => ?_)
   ·refine rPl ?_
    rw [cgO, if_neg fun k => by have := (k.2 x hxm).1; omega]
    rfl
   refine ifd (fun h89 => ?_) (fun h89 => ?_)
   ·refine rPl ?_
    rw [cgO, if_neg fun k => by have := k.1; omega]
    rfl
   refine cPl (l16Copy_spec hxs (by omega) (fun g hg => (hsing g hg).1.1)) fun v3 μ3 hle3 hR3 => ?_
   have w_ := csD_inv hR3
   obtain ⟨q3, rfl⟩ := w_
   refine cGv (l13Make_spec (a := (none, 0, 0)) (b := (q3.1, x.length, q3.2))) ?_
   intro r41
   refine gIn ?_ ?_ fun b' c' _ => ?_
   ·show (us.length + 1) * 72 ≤ _; omega
   ·exact Nat.le_trans (m := 100000000) (show us.length + 1 ≤ _ by omega) (by decide)
   refine num64 (by omega) (by omega) ⟨(i + 1, b', c', _, μ3), ⟨by dsimp only; omega, hle.trans hle3, ?_, ?_, by dsimp only; omega⟩, by dsimp only; omega, ⟨⟨rfl, rfl, rfl, rfl, rfl, rfl, trivial⟩, ⟨rfl, rfl, rfl, trivial⟩, rfl, rfl⟩⟩
   ·dsimp only
    rw [List.take_add_one, hx, Option.toList_some]
    simp only [List.map_append, List.map_cons, List.map_nil]
    exact (hrows.mono hle3).append (Rows.one (cgA_rep hR3) (Gl.d_n _))
   ·dsimp only
    intro c hc
    rw [List.take_add_one, hx, Option.toList_some] at hc
    rcases List.mem_append.1 hc with hc | hc
    ·exact hall c hc
    ·rw [List.mem_singleton.1 hc]; exact ⟨by omega, hsing⟩
 ·obtain rfl : i = l.length := by omega
  rw [List.take_length] at hrows hall
  refine rFz [2] fun μ2 hle2 hno hrow => .inl ?_
  rw [cgO, if_pos ⟨by omega, hall⟩]
  refine ⟨_, rfl, ?_⟩
  show RepV _ (cgG l).d _
  rw [cgG, Gl.d_eq]
  have hnil : RepV μ2 (.sl 4 (([] : List Tm).map Tm.d)) (.slice none 0 0) := ⟨none, 0, rfl, ⟨Nat.zero_le _, Nat.zero_le _⟩, (fun _ h => nomatch h), .inl rfl⟩
  exact ⟨_, rfl, RepS.int (RepS.str (RepS.cons1 hnil (RepS.last (Rows.sl hrow (hrows.mono hle2) (Nat.le_trans (m := 100000000) (by omega) (by decide))))))⟩
set_option maxHeartbeats 1000000 in
theorem impl_ClauseGoal_spec {l : List (List Gl)} {base : Option Addr} {cap : Nat} (hsl : Sl μ 1 base l.length (l.map csD)) (hb : l.length ≤ 100000) (hb2 : ∀ c ∈ l, c.length ≤ 100000) :
  Spec Tryz.prog 150 [.slice base l.length cap] μ fun v μ' => optG (fun y tv => Fresh μ μ' y.d tv) (cgO l) v := by
 refine Spec.mk Tryz.func150 (by kernel_rfl) ?_
 intro r2
 refine ifd (fun h8 => ?_) (fun h8 => ?_)
 ·refine rPl ?_
  rw [cgO, if_neg fun k => by have := k.1; omega]
  rfl
 intro r4
 refine loop_frzN (fun z : Nat × Option Nat × Nat × List Value × Mem => z.1 ≤ l.length ∧ μ.Le z.2.2.2.2 ∧ Grown 4 μ z.2.2.2.2 (((l.take z.1).map cgA).map Gl.d) z.2.2.2.1 ∧ (∀ c ∈ l.take z.1, c.length ≤ 8 ∧ ∀ g ∈ c, g.Single))
  (fun (i, b, c, us, μ') => ⟨[(2, .loc 0 r2 0), (4, .loc 1 r4 0), (15, .val (.slice base l.length cap)), (16, .val (.int .i64 l.length)), (17, .val (.int .i64 i))],
   [(0, some (.cells r2 [.val (.int .i64 0), .val (.string ⟨#[]⟩), .val (.slice none 0 0), .val (.slice none 0 0)] 30)), (1, some (.cells r4 [.val (.int .i64 8), .val (.string ⟨#[]⟩), .val (.slice none 0 0), .row 2 b us.length c] 30)), (2, some (.row b c 30 4 us))], 3, μ', Mem.nil⟩) (fun z => l.length - z.1) [] (fun (_, _, _, _, _) => ⟨rfl, rfl⟩)
  ⟨(0, none, 0, [], μ), ⟨Nat.zero_le _, Mem.Le.refl _, Grown.nil _ _ _, by simp⟩, ⟨⟨⟨_, rfl, .inl rfl⟩, ⟨_, rfl, .inl rfl⟩, ⟨_, rfl, .inl rfl⟩, ⟨_, rfl, .inl rfl⟩, ⟨_, rfl, .inl rfl⟩, trivial⟩, ⟨.inl rfl, .inr (.inr ⟨_, _, _, _, rfl, rfl, .inl rfl, .inl rfl, .inl rfl, .inr ⟨2, rfl, rfl, Nat.le_refl _⟩, trivial⟩), .inr (.inl ⟨_, _, rfl, Nat.le_refl _⟩), trivial⟩, rfl, rfl⟩⟩ ?_
 rintro ⟨i, b, c, us, μ'⟩ ⟨hi, hle, hrows, hall⟩
 dsimp only at hi hle hrows hall
 have hul := hrows.len
 simp only [List.length_map, List.length_take] at hul
 refine ifd (fun hlt => ?_) (fun hlt => ?_)
 ·have w_ := aSo (l := l) (i := i) (by omega)
  obtain ⟨x, hx⟩ := w_
  have hxm := mAt hx
  have w_ := cls_elem (hsl.mono hle) hx
  obtain ⟨ad, px, hel, hrx⟩ := w_
  have hxl := hb2 x hxm
  have hxs : Sl μ' 4 px.1 x.length (x.map Gl.d) := by
   have w_ := Rep.sl (xs := x.map Gl.d) hrx
   obtain ⟨b', c', e1, hs⟩ := w_
   have w_ := Value.slice.inj e1
   obtain ⟨rfl, _, _⟩ := w_
   simpa using hs
  refine eIn hel ?_
  refine ifd (fun h88 => ?_) (fun h88 => ?_)
  ·refine rPl ?_
   rw [cgO, if_neg fun k => by have := (k.2 x hxm).1; omega]
   rfl
  intro r7
  refine loop_nil (fun z : Nat × Option Nat × Nat × List Value × Mem => z.1 ≤ x.length ∧ μ'.Le z.2.2.2.2 ∧ Grown 4 μ' z.2.2.2.2 ((x.take z.1).map Gl.d) z.2.2.2.1 ∧ ∀ g ∈ x.take z.1, g.Single)
   (fun (j, b2, c2, ys, μ2) => ⟨[(2, .loc 0 r2 0), (4, .loc 1 r4 0), (7, .loc 3 r7 0), (15, .val (.slice base l.length cap)), (16, .val (.int .i64 l.length)), (17, .val (.int .i64 i)), (26, .val (.slice px.1 x.length px.2)), (27, .val (.int .i64 x.length)), (28, .val (.int .i64 j))],
    [(0, some (.cells r2 [.val (.int .i64 0), .val (.string ⟨#[]⟩), .val (.slice none 0 0), .val (.slice none 0 0)] 30)), (1, some (.cells r4 [.val (.int .i64 8), .val (.string ⟨#[]⟩), .val (.slice none 0 0), .row 2 b us.length c] 30)), (2, some (.row b c 30 4 us)), (3, some (.cells r7 [.val (.int .i64 7), .val (.string ⟨#[]⟩), .val (.slice none 0 0), .row 4 b2 ys.length c2] 30)), (4, some (.row b2 c2 30 4 ys))], 5, μ2, Mem.nil⟩) (fun z => x.length - z.1)
   (0, none, 0, [], μ') ⟨Nat.zero_le _, Mem.Le.refl _, Grown.nil _ _ _, by simp⟩ (fun (_, _, _, _, _) => ⟨rfl, rfl⟩) ⟨⟨⟨_, rfl, .inl rfl⟩, ⟨_, rfl, .inl rfl⟩, ⟨_, rfl, .inl rfl⟩, ⟨_, rfl, .inl rfl⟩, ⟨_, rfl, .inl rfl⟩, ⟨_, rfl, .inl rfl⟩, ⟨_, rfl, .inl rfl⟩, ⟨_, rfl, .inl rfl⟩, ⟨_, rfl, .inl rfl⟩, trivial⟩, ⟨.inl rfl, .inl rfl, .inl rfl, .inr (.inr ⟨_, _, _, _, rfl, rfl, .inl rfl, .inl rfl, .inl rfl, .inr ⟨4, rfl, rfl, Nat.le_refl _⟩, trivial⟩), .inr (.inl ⟨_, _, rfl, Nat.le_refl _⟩), trivial⟩, rfl, rfl⟩ ?_
  rintro ⟨j, b2, c2, ys, μ2⟩ ⟨hj, hle2, hrows2, hsing⟩
  dsimp only at hj hle2 hrows2 hsing
  have hyl := hrows2.len
  simp only [List.length_map, List.length_take] at hyl
  refine ifd (fun hlt2 => ?_) (fun hlt2 => ?_)
  ·have w_ := aSo (l := x) (i := j) (by omega)
   obtain ⟨y, hy⟩ := w_
   have w_ := Gl.elem (hxs.mono hle2) hy
   obtain ⟨ad2, p2, hel2, hr2⟩ := w_
   refine eIn hel2 ?_
   intro r9
   refine cGv (impl_GoalOk_spec y hr2) ?_
   refine ifnd (fun hn => ?_) (fun hok => ?_)
   ·refine rPl ?_
    rw [cgO, if_neg fun k => hn ((k.2 x hxm).2 y (mAt hy)).1]
    rfl
   refine ifd (fun h7 => ?_) (fun h7 => ?_)
   ·refine rPl ?_
    rw [cgO, if_neg fun k => ((k.2 x hxm).2 y (mAt hy)).2.1 h7]
    rfl
   refine ifd (fun h9 => ?_) (fun h9 => ?_)
   ·refine rPl ?_
    rw [cgO, if_neg fun k => ((k.2 x hxm).2 y (mAt hy)).2.2 h9]
    rfl
   refine cPl (copyGoal_spec y hr2 hok.1) fun v3 μ3 hle3 hR3 => ?_
   have w_ := Gl.invV hR3.rep
   obtain ⟨q3, rfl⟩ := w_
   intro r41
   refine gIn ?_ ?_ fun b' c' _ => ?_
   ·show (ys.length + 1) * 72 ≤ _; omega
   ·exact Nat.le_trans (m := 100000000) (show ys.length + 1 ≤ _ by omega) (by decide)
   refine num64 (by omega) (by omega) ⟨(j + 1, b', c', _, μ3), ⟨by dsimp only; omega, hle2.trans hle3, ?_, ?_⟩, by dsimp only; omega, ⟨⟨rfl, rfl, rfl, rfl, rfl, rfl, rfl, rfl, rfl, trivial⟩, ⟨rfl, rfl, rfl, rfl, rfl, trivial⟩, rfl, rfl⟩⟩
   ·dsimp only
    rw [List.take_add_one, hy, Option.toList_some]
    simp only [List.map_append, List.map_cons, List.map_nil]
    exact hrows2.snoc hle2 hR3 hle3 (Gl.d_n _)
   ·dsimp only
    intro g hg
    rw [List.take_add_one, hy, Option.toList_some] at hg
    rcases List.mem_append.1 hg with hg | hg
    ·exact hsing g hg
    ·rw [List.mem_singleton.1 hg]; exact ⟨hok, h7, h9⟩
  ·obtain rfl : j = x.length := by omega
   rw [List.take_length] at hsing hrows2
   intro r57
   refine gIn ?_ ?_ fun b' c' _ => ?_
   ·show (us.length + 1) * 72 ≤ _; omega
   ·exact Nat.le_trans (m := 100000000) (show us.length + 1 ≤ _ by omega) (by decide)
   have hnil : Fresh μ' μ' (.sl 4 (([] : List Tm).map Tm.d)) (.slice none 0 0) := ⟨Mem.nil, Own.nilSl 4, (fun _ _ h => nomatch h), fun _ h => absurd rfl h⟩
   refine num64 (by omega) (by omega) ⟨[4], fun μ6 hle6 hno6 hat6 => ?_⟩
   have hfr := hrows2.fresh hle2 hle6 hno6 hat6 (Nat.le_trans (m := 1000000) (by omega) (by decide))
   have hA : Fresh μ' μ6 (cgA x).d (.agg #[.int .i64 7, .string ⟨#[]⟩, .slice none 0 0, .slice (b2.map fun r => ⟨r, 0, none⟩) ys.length c2]) := by
    rw [cgA, Gl.d_eq]
    exact FreshS.st (FreshS.int (FreshS.str (FreshS.cons hnil (Mem.Le.refl _) (hle2.trans hle6) (FreshS.cons hfr (hle2.trans hle6) (Mem.Le.refl _) FreshS.nil))))
   refine ⟨(i + 1, b', c', _, μ6), ⟨by dsimp only; omega, hle.trans (hle2.trans hle6), ?_, ?_⟩, by dsimp only; omega, ⟨⟨rfl, rfl, rfl, rfl, rfl, trivial⟩, ⟨rfl, rfl, rfl, trivial⟩, rfl, rfl⟩⟩
   ·dsimp only
    rw [List.take_add_one, hx, Option.toList_some]
    simp only [List.map_append, List.map_cons, List.map_nil]
    exact hrows.snoc hle hA (hle2.trans hle6) (Gl.d_n _)
   ·dsimp only
    intro c hc
    rw [List.take_add_one, hx, Option.toList_some] at hc
    rcases List.mem_append.1 hc with hc | hc
    ·exact hall c hc
    ·rw [List.mem_singleton.1 hc]; exact ⟨by omega, hsing⟩
 ·obtain rfl : i = l.length := by omega
  rw [List.take_length] at hrows hall
  refine rFz [2] fun μ2 hle2 hno hrow => .inl ?_
  rw [cgO, if_pos ⟨by omega, hall⟩]
  refine ⟨_, rfl, ?_⟩
  show Fresh μ _ (cgG l).d _
  rw [cgG, Gl.d_eq]
  have k := hrows.fresh hle hle2 hno hrow (Nat.le_trans (m := 1000000) (by omega) (by decide))
  have hnil : Fresh μ μ (.sl 4 (([] : List Tm).map Tm.d)) (.slice none 0 0) := ⟨Mem.nil, Own.nilSl 4, (fun _ _ h => nomatch h), fun _ h => absurd rfl h⟩
  exact FreshS.st (FreshS.int (FreshS.str (FreshS.cons hnil (Mem.Le.refl _) (hle.trans hle2) (FreshS.cons k (hle.trans hle2) (Mem.Le.refl _) FreshS.nil))))
end
end Go.Vx
namespace Go.Vx
open Go.Proofs Classical
theorem Gl.withO_all {F : T → Option T} {f : Int → Option T} (h : ∀ x, F x = some (x.subst f)) : ∀ g : Gl, g.withO F = some (g.put f) :=
 Gl.ind fun g ih => by
  rw [Gl.withO_eq, mapM_all (h := T.subst f) fun x _ => h x]
  dsimp only
  rw [mapM_all (h := Gl.put f) ih]
  dsimp only
  cases g with
  | mk k s ts gs =>
  rw [Gl.put, Gl.puts_map]
  show some (Gl.mk k s _ _) = some (Gl.mk k s _ _)
  rw [List.map_map, List.map_map]; rfl
section
variable {μ : Mem}
theorem placeOfCall_spec {c : List Gl} {base : Option Addr} {cap k : Nat} (hsl : Sl μ 4 base c.length (c.map Gl.d)) (hb : c.length ≤ 1000000) (hk : (k : Int) ≤ 9223372036854775807) :
  Spec Tryz.prog 147 [.slice base c.length cap, .int .i64 k] μ fun r μ' => r = .int .i64 (placeI (callIdx c k)) ∧ μ' = μ := by
 refine Spec.mk Tryz.func147 (by kernel_rfl) ?_
 refine lIn (fun z : Nat × Nat => z.1 ≤ c.length ∧ z.2 ≤ k ∧ callIdx c k = (callIdx (c.drop z.1) z.2).map (· + z.1))
  (fun (i, j) => ⟨[(1, .val (.int .i64 j)), (7, .val (.slice base c.length cap)), (8, .val (.int .i64 c.length)), (9, .val (.int .i64 i))], [], 0, μ, Mem.nil⟩) (fun z => c.length - z.1)
  (0, k) ⟨Nat.zero_le _, Nat.le_refl _, by simp⟩ (fun (_, _) => ⟨rfl, rfl⟩) ⟨⟨rfl, rfl, rfl, rfl, trivial⟩, trivial, rfl, rfl⟩ ?_
 rintro ⟨i, j⟩ ⟨hi, hjk, he⟩
 dsimp only at hi hjk he
 refine ifd (fun hlt => ?_) (fun hlt => ?_)
 ·have w_ := aSo (l := c) (i := i) (by omega)
  obtain ⟨x, hx⟩ := w_
  have w_ := Gl.elem hsl hx
  obtain ⟨ad, p, hel, hr⟩ := w_
  rw [drop_at hx] at he
  refine eIn hel ?_
  intro r6
  have hz := hsl.max
  refine ifd (fun h9 => ?_) (fun h9 => ?_)
  ·refine ifd (fun h0 => ?_) (fun h0 => ?_)
   ·obtain rfl : j = 0 := by omega
    rw [callIdx, if_pos h9] at he
    exact rPl ⟨by rw [he]; simp [placeI], rfl⟩
   ·obtain ⟨j', rfl⟩ : ∃ m, j = m + 1 := ⟨j - 1, by omega⟩
    rw [callIdx, if_pos h9, Option.map_map] at he
    refine num64 (by omega) (by omega) ?_
    refine num64 (by omega) (by omega) ⟨(i + 1, j'), ⟨by dsimp only; omega, by dsimp only; omega, ?_⟩, by dsimp only; omega, ⟨⟨?_, rfl, rfl, rfl, trivial⟩, trivial, rfl, rfl⟩⟩
    ·dsimp only
     rw [he]; congr 1; funext a; show a + 1 + i = a + (i + 1); omega
    ·show some (SV.val (.int .i64 _)) = some (SV.val (.int .i64 _))
     congr 3; omega
  ·have he2 : callIdx c k = ((callIdx (c.drop (i + 1)) j).map (· + 1)).map (· + i) := by
    rw [he]
    cases j <;> rw [callIdx, if_neg h9]
   rw [Option.map_map] at he2
   refine num64 (by omega) (by omega) ⟨(i + 1, j), ⟨by dsimp only; omega, hjk, ?_⟩, by dsimp only; omega, ⟨⟨rfl, rfl, rfl, rfl, trivial⟩, trivial, rfl, rfl⟩⟩
   dsimp only
   rw [he2]; congr 1; funext a; show a + 1 + i = a + (i + 1); omega
 ·obtain rfl : i = c.length := by omega
  rw [List.drop_length, callIdx] at he
  exact rPl ⟨by rw [he]; rfl, rfl⟩
noncomputable def callI (c : List Gl) (call : Int) : Int := if call < 0 then -1 else placeI (callIdx c call.toNat)
theorem l33At_spec {c : List Gl} {base : Option Addr} {cap : Nat} {call : Int} (hsl : Sl μ 4 base c.length (c.map Gl.d)) (hb : c.length ≤ 1000000) :
  Spec Tryz.prog 141 [.slice base c.length cap, .int .i64 call] μ fun r μ' => r = .int .i64 (callI c call) ∧ μ' = μ := by
 refine Spec.mk Tryz.func141 (by kernel_rfl) ?_
 refine lIn (fun z : Nat × Nat => z.1 ≤ c.length ∧ z.2 ≤ z.1 ∧ (0 ≤ call → (z.2 : Int) ≤ call ∧ callIdx c call.toNat = (callIdx (c.drop z.1) (call.toNat - z.2)).map (· + z.1)))
  (fun (i, j) => ⟨[(1, .val (.int .i64 call)), (5, .val (.int .i64 j)), (8, .val (.slice base c.length cap)), (9, .val (.int .i64 c.length)), (10, .val (.int .i64 i))], [], 0, μ, Mem.nil⟩) (fun z => c.length - z.1)
  (0, 0) ⟨Nat.zero_le _, Nat.le_refl _, fun h => ⟨h, by simp⟩⟩ (fun (_, _) => ⟨rfl, rfl⟩) ⟨⟨rfl, rfl, rfl, rfl, rfl, trivial⟩, trivial, rfl, rfl⟩ ?_
 rintro ⟨i, j⟩ ⟨hi, hj, he⟩
 dsimp only at hi hj he
 refine ifd (fun hlt => ?_) (fun hlt => ?_)
 ·have w_ := aSo (l := c) (i := i) (by omega)
  obtain ⟨x, hx⟩ := w_
  have w_ := Gl.elem hsl hx
  obtain ⟨ad, p, hel, hr⟩ := w_
  rw [drop_at hx] at he
  refine eIn hel ?_
  intro r6
  refine ifd (fun h9 => ?_) (fun h9 => ?_)
  ·refine ifd (fun h0 => ?_) (fun h0 => ?_)
   ·have hc : 0 ≤ call := by omega
    have he := (he hc).2
    rw [show call.toNat - j = 0 by omega, callIdx, if_pos h9] at he
    exact rPl ⟨by rw [callI, if_neg (by omega), he]; simp [placeI], rfl⟩
   ·refine num64 (by omega) (by omega) ?_
    refine num64 (by omega) (by omega) ⟨(i + 1, j + 1), ⟨by dsimp only; omega, by dsimp only; omega, fun hc => ?_⟩, by dsimp only; omega, ⟨⟨rfl, rfl, rfl, rfl, rfl, trivial⟩, trivial, rfl, rfl⟩⟩
    have he := he hc
    refine ⟨by dsimp only; omega, ?_⟩
    have he := he.2
    obtain ⟨m, hm⟩ : ∃ m, call.toNat - j = m + 1 := ⟨call.toNat - j - 1, by omega⟩
    rw [hm, callIdx, if_pos h9, Option.map_map] at he
    dsimp only
    rw [he, show call.toNat - (j + 1) = m by omega]; congr 1; funext a; show a + 1 + i = a + (i + 1); omega
  ·refine num64 (by omega) (by omega) ⟨(i + 1, j), ⟨by dsimp only; omega, by dsimp only; omega, fun hc => ⟨(he hc).1, ?_⟩⟩, by dsimp only; omega, ⟨⟨rfl, rfl, rfl, rfl, rfl, trivial⟩, trivial, rfl, rfl⟩⟩
   have he2 : callIdx c call.toNat = ((callIdx (c.drop (i + 1)) (call.toNat - j)).map (· + 1)).map (· + i) := by
    rw [(he hc).2]
    cases (call.toNat - j) <;> rw [callIdx, if_neg h9]
   rw [Option.map_map] at he2
   dsimp only
   rw [he2]; congr 1; funext a; show a + 1 + i = a + (i + 1); omega
 ·obtain rfl : i = c.length := by omega
  refine rPl ⟨?_, rfl⟩
  rw [callI]
  by_cases hc : call < 0
  ·rw [if_pos hc]
  ·have he := (he (by omega)).2
   rw [List.drop_length, callIdx] at he
   rw [if_neg hc, he]; rfl
theorem l07Shift_spec {n : Int} (hn : 0 ≤ n ∧ n ≤ 1000) : ∀ (x : T) {μ : Mem} {v : Value}, x.good → RepV μ x.tm.d v →
  Spec Tryz.prog 144 [v, .int .i64 n] μ fun v μ' => RepV μ' (x.subst (shF n)).tm.d v := by
 intro x
 induction x with
 | var m =>
  intro μ v hg hv
  have hg : 0 ≤ m ∧ m ≤ 100000 := hg
  have w_ := Tm.invV hv
  obtain ⟨p, rfl⟩ := w_
  refine Spec.mk Tryz.func144 (by kernel_rfl) ?_
  intro r1 r2
  refine ifd (fun _ => ?_) (fun h => absurd rfl h)
  refine num64 (show (-9223372036854775808 : Int) ≤ m + n by omega) (show m + n < (9223372036854775808 : Int) by omega) ?_
  refine cGv (l02Var_spec _) ?_
  exact rPl (varV_rep (m + n))
 | pair a b iha ihb =>
  intro μ v hg hv
  have w_ := Tm.inv hv
  obtain ⟨base', cap', rfl, hsa⟩ := w_
  have w_ := T.parts hsa
  obtain ⟨ad, ad', p, p', h1, h2, hra, hrb⟩ := w_
  refine Spec.mk Tryz.func144 (by kernel_rfl) ?_
  intro r1 r2
  refine ifd (fun h => absurd h (by simp)) (fun _ => ?_)
  refine ifd (fun _ => ?_) (fun h => absurd rfl h)
  refine eIn h1 ?_
  refine eIn h2 ?_
  refine cPl (iha hg.1 hra) fun v1 μ1 hle1 hR1 => ?_
  refine cPl (ihb hg.2 (hrb.mono hle1)) fun v2 μ2 hle2 hR2 => ?_
  refine cPl (l02Pair_spec (hR1.mono hle2) hR2) fun v3 μ3 hle3 hR3 => ?_
  have w_ := Tm.invV hR3
  obtain ⟨q, rfl⟩ := w_
  exact rPl hR3
 | _ =>
  intro μ v hg hv
  have w_ := Tm.invV hv
  obtain ⟨p, rfl⟩ := w_
  refine Spec.mk Tryz.func144 (by kernel_rfl) ?_
  intro r1 r2
  refine ifd (fun h => absurd h (by simp [T.tm, Tm.kind])) (fun _ => ?_)
  refine ifd (fun h => absurd h (by simp [T.tm, Tm.kind])) (fun _ => ?_)
  exact rPl hv
theorem l14Shift_spec {n : Int} (hn : 0 ≤ n ∧ n ≤ 1000) : ∀ (g : Gl) {μ : Mem} {v : Value}, RepV μ g.d v → g.Sh → Spec Tryz.prog 85 [v, .int .i64 n] μ fun v μ' => RepV μ' (g.put (shF n)).d v :=
 Gl.ind fun g ih μ v hv hS => by
  have w_ := Gl.inv hv
  obtain ⟨p, rfl, hts, hgs⟩ := w_
  have w_ := lift_ok hS.top.tm
  obtain ⟨xs, hxs, hok⟩ := w_
  have hg8 := hS.top.gl
  have hx4 : xs.length ≤ 4 := by
   have T := hS.top
   have e9 := T.ln9; have e2 := T.ln2; have e1 := T.ln1; have e0 := T.ln0; have k0 := T.k0; have k1 := T.k1
   have : g.terms.length = xs.length := by rw [hxs, List.length_map]
   omega
  have hput : (g.put (shF n)).d = .st [.i g.kind, .s g.name, .sl 4 (((xs.map (T.subst (shF n))).map T.tm).map Tm.d), .sl 4 ((g.goals.map (Gl.put (shF n))).map Gl.d)] := by
   rw [Gl.d_eq, Gl.put_kind, Gl.put_name, Gl.put_goals, Gl.put_terms, hxs]
   simp [List.map_map, Function.comp_def, T.toT_tm]
  rw [hxs, List.length_map] at hts ⊢
  refine Spec.mk Tryz.func85 (by kernel_rfl) ?_
  intro r1 r2 r3
  refine loop_nil (fun p : Nat × Option Nat × Nat × List Value × Mem => p.1 ≤ xs.length ∧ μ.Le p.2.2.2.2 ∧ Rows p.2.2.2.2 4 ((((xs.take p.1).map (T.subst (shF n))).map T.tm).map Tm.d) p.2.2.2.1)
   (fun (i, b, c, ys, μ') => ⟨[(1, .val (.int .i64 n)), (2, .loc 0 r1 0), (4, .loc 1 r2 0), (5, .loc 2 r3 0), (16, .val (.slice p.1.1 xs.length p.1.2)), (17, .val (.int .i64 xs.length)), (18, .val (.int .i64 i))],
    [(0, some (.cells r1 [.val (.int .i64 g.kind), .val (.string g.name), .val (.slice p.1.1 xs.length p.1.2), .val (.slice p.2.1 g.goals.length p.2.2)] 30)), (1, some (.cells r2 [.val (.int .i64 0), .val (.string ⟨#[]⟩), .val (.slice none 0 0), .val (.slice none 0 0)] 30)), (2, some (.cells r3 [.val (.int .i64 g.kind), .val (.string g.name), .row 3 b ys.length c, .val (.slice none 0 0)] 30)), (3, some (.row b c 50 4 ys))], 4, μ', Mem.nil⟩) (fun p => xs.length - p.1)
   (0, none, 0, [], μ) ⟨by simp, Mem.Le.refl _, .nil⟩ (fun (_, _, _, _, _) => ⟨rfl, rfl⟩) ⟨⟨⟨_, rfl, .inl rfl⟩, ⟨_, rfl, .inl rfl⟩, ⟨_, rfl, .inl rfl⟩, ⟨_, rfl, .inl rfl⟩, ⟨_, rfl, .inl rfl⟩, ⟨_, rfl, .inl rfl⟩, ⟨_, rfl, .inl rfl⟩, trivial⟩, ⟨.inl rfl, .inl rfl, .inr (.inr ⟨_, _, _, _, rfl, rfl, .inl rfl, .inl rfl, .inr ⟨3, rfl, rfl, Nat.le_refl _⟩, .inl rfl, trivial⟩), .inr (.inl ⟨_, _, rfl, Nat.le_refl _⟩), trivial⟩, rfl, rfl⟩ ?_
  rintro ⟨i, b, c, ys, μ'⟩ ⟨hi, hle, hrows⟩
  dsimp only at hi hle hrows
  have hlen := hrows.len
  simp only [List.length_map, List.length_take] at hlen
  refine ifd (fun h => ?_) (fun h => ?_)
  ·have w_ := aSo (l := xs) (i := i) (by omega)
   obtain ⟨t, ht⟩ := w_
   have ht' : (xs.map T.tm)[i]? = some t.tm := by simp [ht]
   have w_ := Tm.elem (hts.mono hle) ht'
   obtain ⟨ad, p3, hel, hr⟩ := w_
   refine eIn hel ?_
   intro r4
   refine cPl (l07Shift_spec hn t (hok t (mAt ht)).1 hr) fun v' μ'' hle2 hR => ?_
   have w_ := Tm.invV hR
   obtain ⟨q, rfl⟩ := w_
   intro r5
   refine gIn ?_ ?_ fun b' c' _ => ?_
   ·show (ys.length + 1) * 56 ≤ _; omega
   ·exact Nat.le_trans (m := 100000000) (show ys.length + 1 ≤ _ by omega) (by decide)
   refine num64 (by omega) (by omega) ⟨(i + 1, b', c', _, μ''), ⟨by dsimp only; omega, hle.trans hle2, ?_⟩, by dsimp only; omega, ⟨⟨rfl, rfl, rfl, rfl, rfl, rfl, rfl, trivial⟩, ⟨rfl, rfl, rfl, rfl, trivial⟩, rfl, rfl⟩⟩
   dsimp only
   rw [List.take_add_one, ht, Option.toList_some]
   simp only [List.map_append, List.map_cons, List.map_nil]
   exact (hrows.mono hle2).append (Rows.one hR (Tm.d_n _))
  ·obtain rfl : i = xs.length := by omega
   rw [List.take_length] at hrows
   have hgs1 := hgs.mono hle
   refine loop_nil (fun p : Nat × Option Nat × Nat × List Value × Mem => p.1 ≤ g.goals.length ∧ μ'.Le p.2.2.2.2 ∧ Rows p.2.2.2.2 4 (((g.goals.take p.1).map (Gl.put (shF n))).map Gl.d) p.2.2.2.1)
    (fun (i, b2, c2, zs, μ'') => ⟨[(1, .val (.int .i64 n)), (4, .loc 1 r2 0), (5, .loc 2 r3 0), (32, .val (.slice p.2.1 g.goals.length p.2.2)), (33, .val (.int .i64 g.goals.length)), (34, .val (.int .i64 i))],
     [(1, some (.cells r2 [.val (.int .i64 0), .val (.string ⟨#[]⟩), .val (.slice none 0 0), .val (.slice none 0 0)] 30)), (2, some (.cells r3 [.val (.int .i64 g.kind), .val (.string g.name), .row 3 b ys.length c, .row 4 b2 zs.length c2] 30)), (3, some (.row b c 50 4 ys)), (4, some (.row b2 c2 30 4 zs))], 5, μ'', Mem.nil⟩) (fun p => g.goals.length - p.1)
    (0, none, 0, [], μ') ⟨by simp, Mem.Le.refl _, .nil⟩ (fun (_, _, _, _, _) => ⟨rfl, rfl⟩) ⟨⟨⟨_, rfl, .inl rfl⟩, ⟨_, rfl, .inl rfl⟩, ⟨_, rfl, .inl rfl⟩, ⟨_, rfl, .inl rfl⟩, ⟨_, rfl, .inl rfl⟩, ⟨_, rfl, .inl rfl⟩, trivial⟩, ⟨.inl rfl, .inr (.inr ⟨_, _, _, _, rfl, rfl, .inl rfl, .inl rfl, .inl rfl, .inr ⟨4, rfl, rfl, Nat.le_refl _⟩, trivial⟩), .inl rfl, .inr (.inl ⟨_, _, rfl, Nat.le_refl _⟩), trivial⟩, rfl, rfl⟩ ?_
   rintro ⟨i, b2, c2, zs, μ''⟩ ⟨hi, hle3, hrows2⟩
   dsimp only at hi hle3 hrows2
   have hlen2 := hrows2.len
   simp only [List.length_map, List.length_take] at hlen2
   refine ifd (fun h => ?_) (fun h => ?_)
   ·have w_ := aSo (l := g.goals) (i := i) (by omega)
    obtain ⟨t, ht⟩ := w_
    have w_ := Gl.elem (hgs1.mono hle3) ht
    obtain ⟨ad, p3, hel, hr⟩ := w_
    refine eIn hel ?_
    intro r4
    refine cPl (ih t (mAt ht) hr (hS.sub t (mAt ht))) fun v' μ3 hle4 hR => ?_
    have w_ := Gl.invV hR
    obtain ⟨q, rfl⟩ := w_
    intro r5
    refine gIn ?_ ?_ fun b' c' _ => ?_
    ·show (zs.length + 1) * 72 ≤ _; omega
    ·exact Nat.le_trans (m := 100000000) (show zs.length + 1 ≤ _ by omega) (by decide)
    refine num64 (by omega) (by omega) ⟨(i + 1, b', c', _, μ3), ⟨by dsimp only; omega, hle3.trans hle4, ?_⟩, by dsimp only; omega, ⟨⟨rfl, rfl, rfl, rfl, rfl, rfl, trivial⟩, ⟨rfl, rfl, rfl, rfl, trivial⟩, rfl, rfl⟩⟩
    dsimp only
    rw [List.take_add_one, ht, Option.toList_some]
    simp only [List.map_append, List.map_cons, List.map_nil]
    exact (hrows2.mono hle4).append (Rows.one hR (Gl.d_n _))
   ·obtain rfl : i = g.goals.length := by omega
    rw [List.take_length] at hrows2
    refine rFz [3, 4] fun μ2 hle5 hno hrow => fun μ3 hle6 hno2 hrow2 => .inl ?_
    rw [hput]
    exact ⟨_, rfl, RepS.int (RepS.str (RepS.cons1 ((Rows.sl hrow (((hrows.mono hle3)).mono hle5) (Nat.le_trans (m := 100000000) (by omega) (by decide))).mono hle6) (RepS.last (Rows.sl hrow2 ((hrows2.mono hle5).mono hle6) (Nat.le_trans (m := 100000000) (by omega) (by decide))))))⟩
theorem shifted1_looks {n : Int} {rn : Nat} (hn : 0 ≤ n ∧ n ≤ 1000) (hat : μ rn = some (.cells #[.int .i64 n] 3 (0, 0))) :
  LooksOn InV 188 [.pointer (some ⟨rn, 0, none⟩)] μ (shF n) := fun μ' hle m hm => by
 obtain ⟨hm0, hm1⟩ := hm
 refine Spec.mk Tryz.func188 (by kernel_rfl) ?_
 intro r3
 refine ext_intro [.int .i64 n] rfl (box_at (hle _ _ hat)) ?_
 refine num64 (by omega) (by omega) ?_
 refine cGv (variable_spec _) ?_
 exact rPl ⟨_, rfl, varV_rep _⟩
theorem shifted_spec {n : Int} (hn : 0 ≤ n ∧ n ≤ 1000) (x : T) {v : Value} (hg : x.good) (hv : RepV μ x.tm.d v) :
  Spec Tryz.prog 149 [v, .int .i64 n] μ fun v μ' => Fresh μ μ' (x.subst (shF n)).tm.d v := by
 have w_ := Tm.invV hv
 obtain ⟨p, rfl⟩ := w_
 refine Spec.mk Tryz.func149 (by kernel_rfl) ?_
 intro r2 r3 r4
 refine call_frz [1] ?_
 intro μ2 hle2 hno2 hat2
 refine call_go (mapVars_specQ (Q := InV) x (fun m hm => T.good_vars hg m hm) (shifted1_looks hn hat2) (RepV.mono hle2 hv)) fun v3 μ3 hle3 hR3 => ?_
 have w_ := Tm.invV hR3.rep
 obtain ⟨q, rfl⟩ := w_
 exact rPl (hR3.mono hle2 (Mem.Le.refl _))
theorem unfolded1_maps {n : Int} {rn : Nat} (hn : 0 ≤ n ∧ n ≤ 1000) (hat : μ rn = some (.cells #[.int .i64 n] 3 (0, 0))) :
  Maps 148 [.pointer (some ⟨rn, 0, none⟩)] μ (fun x => some (x.subst (shF n))) := fun μ' hle x v hx hv => by
 have w_ := Tm.invV hv
 obtain ⟨p, rfl⟩ := w_
 refine Spec.mk Tryz.func148 (by kernel_rfl) ?_
 intro r2 r3
 refine ext_intro [.int .i64 n] rfl (box_at (hle _ _ hat)) ?_
 refine cPl (shifted_spec hn x hx.1 hv) fun v2 μ2 hle2 hR => ?_
 have w_ := Tm.invV hR.rep
 obtain ⟨q, rfl⟩ := w_
 exact rPl ⟨_, rfl, hR⟩
end
end Go.Vx
namespace Go.Vx
open Go.Proofs Classical
theorem RowO.cut {h : Mem} {r cap : Nat} {ty : TypeId} {es : Nat} {xs : List Value} {cs : List Value} {k j : Nat} {x x' : Value} {vs : List Value} (h1 : xs.length ≤ cap) (h2 : xs.length ≤ maxLen) (h3 : ∀ x ∈ xs, (vcells x).length = es ∧ ∀ u ∈ vcells x, u.oneCell' = true) (h4 : cs.length = cap * es) (h5 : cs.take (xs.length * es) = xs.flatMap vcells)
  (hx : xs[k]? = some x) (hv : vcells x' = (vcells x).take j ++ vs ++ (vcells x).drop (j + vs.length)) (hj : j + vs.length ≤ es) (ho : ∀ u ∈ vs, u.oneCell' = true) :
  RowO (h.set r (.cells (List.toArray (cs.take (k * es + j) ++ vs ++ cs.drop (k * es + j + vs.length))) ty (0, 0))) r cap ty es (xs.set k x') := by
 have hk := (List.getElem?_eq_some_iff.1 hx).1
 have hxm := List.mem_of_getElem? hx
 have hxl := (h3 x hxm).1
 obtain ⟨A, B, rfl, hA⟩ : ∃ A B, xs = A ++ x :: B ∧ A.length = k := ⟨xs.take k, xs.drop (k + 1), by
  rw [← (List.getElem?_eq_some_iff.1 hx).2]
  rw [List.getElem_cons_drop, List.take_append_drop], by rw [List.length_take]; omega⟩
 subst hA
 have fA : (A.flatMap vcells).length = A.length * es := flat_len A fun y hy => (h3 y (by simp [hy])).1
 have fB : (B.flatMap vcells).length = B.length * es := flat_len B fun y hy => (h3 y (by simp [hy])).1
 obtain ⟨rest, hrest⟩ : ∃ rest, cs = A.flatMap vcells ++ vcells x ++ B.flatMap vcells ++ rest := ⟨cs.drop ((A ++ x :: B).length * es), by
  have h6 := List.take_append_drop ((A ++ x :: B).length * es) cs
  rw [h5] at h6
  refine h6.symm.trans ?_
  simp⟩
 have e1 : cs.take (A.length * es + j) = A.flatMap vcells ++ (vcells x).take j := by
  rw [hrest, List.append_assoc, List.append_assoc, ← fA, List.take_length_add_append, List.take_append_of_le_length (by omega)]
 have e2 : cs.drop (A.length * es + j + vs.length) = (vcells x).drop (j + vs.length) ++ B.flatMap vcells ++ rest := by
  rw [hrest, List.append_assoc, List.append_assoc, ← fA, Nat.add_assoc, List.drop_length_add_append, List.drop_append_of_le_length (by omega), List.append_assoc]
 have e3 : (A ++ x :: B).set A.length x' = A ++ x' :: B := by simp
 rw [e3]
 have hx'l : (vcells x').length = es := by
  rw [hv]; simp only [List.length_append, List.length_take, List.length_drop]; omega
 refine ⟨_, Mem.set_at _ _ _, by simpa using h1, by simpa using h2, fun y hy => ?_, ?_, ?_⟩
 ·rcases List.mem_append.1 hy with hy | hy
  ·exact h3 y (by simp [hy])
  rcases List.mem_cons.1 hy with rfl | hy
  ·refine ⟨hx'l, fun u hu => ?_⟩
   rw [hv] at hu
   simp only [List.mem_append] at hu
   rcases hu with (hu | hu) | hu
   ·exact (h3 x hxm).2 u (List.mem_of_mem_take hu)
   ·exact ho u hu
   ·exact (h3 x hxm).2 u (List.mem_of_mem_drop hu)
  ·exact h3 y (by simp [hy])
 ·have h4' := h4
  rw [hrest] at h4'
  rw [e1, e2]
  simp only [List.length_append, List.length_take, List.length_drop] at h4' ⊢
  omega
 ·rw [e1, e2]
  have : A.flatMap vcells ++ (vcells x).take j ++ vs ++ ((vcells x).drop (j + vs.length) ++ B.flatMap vcells ++ rest) = (A ++ x' :: B).flatMap vcells ++ rest := by
   simp [hv]
  rw [this]
  have hfl : ((A ++ x' :: B).flatMap vcells).length = (A ++ x' :: B).length * es := flat_len _ fun y hy => by
   rcases List.mem_append.1 hy with hy | hy
   ·exact (h3 y (by simp [hy])).1
   rcases List.mem_cons.1 hy with rfl | hy
   ·exact hx'l
   ·exact (h3 y (by simp [hy])).1
  rw [← hfl, List.take_left]
theorem srcAt_mono {μ μ' : Mem} {base : Option Addr} {n es : Nat} {ys : List Value} (k : SrcAt μ base n es ys) (h : μ.Le μ') : SrcAt μ' base n es ys :=
 ⟨k.1, k.2.1, k.2.2.imp id fun ⟨a, e, f⟩ => ⟨a, e, fun j v hj => h.cell (f j v hj)⟩⟩
theorem sto_row {h : Mem} {ad : Addr} {vs : List Value} {K : Mem → Prop} {r cap : Nat} {ty : TypeId} {es : Nat} {xs : List Value} {k j : Nat} {x : Value} (x' : Value) (hr : RowO h r cap ty es xs) (hx : xs[k]? = some x) (ha : ad = ⟨r, k * es + j, none⟩) (hv : vcells x' = (vcells x).take j ++ vs ++ (vcells x).drop (j + vs.length)) (hj : j + vs.length ≤ es) (ho : ∀ u ∈ vs, u.oneCell' = true)
  (hK : ∀ o, RowO (h.set r o) r cap ty es (xs.set k x') → K (h.set r o)) : stoVC h ad vs K := by
 subst ha
 obtain ⟨cs, hc, h1, h2, h3, h4, h5⟩ := hr
 have hk := (List.getElem?_eq_some_iff.1 hx).1
 refine sIn cs ty hc rfl ?_ (hK _ (RowO.cut h1 h2 h3 h4 h5 hx hv hj ho))
 show k * es + j + vs.length ≤ cs.length
 rw [h4]
 have := Nat.mul_le_mul_right es (show k + 1 ≤ cap by omega)
 rw [Nat.succ_mul] at this
 omega
theorem RowO.cell {h : Mem} {r cap : Nat} {ty : TypeId} {es : Nat} {xs : List Value} {k j : Nat} {x u : Value} (hr : RowO h r cap ty es xs) (hx : xs[k]? = some x) (hu : (vcells x)[j]? = some u) : h.cell ⟨r, k * es + j, none⟩ = some u := by
 obtain ⟨cs, hc, h1, h2, h3, h4, h5⟩ := hr
 obtain ⟨A, B, rfl, hA⟩ : ∃ A B, xs = A ++ x :: B ∧ A.length = k := ⟨xs.take k, xs.drop (k + 1), by
  rw [← (List.getElem?_eq_some_iff.1 hx).2]
  rw [List.getElem_cons_drop, List.take_append_drop], by rw [List.length_take]; have := (List.getElem?_eq_some_iff.1 hx).1; omega⟩
 subst hA
 have fA : (A.flatMap vcells).length = A.length * es := flat_len A fun y hy => (h3 y (by simp [hy])).1
 have hj := (List.getElem?_eq_some_iff.1 hu).1
 obtain ⟨rest, hrest⟩ : ∃ rest, cs = A.flatMap vcells ++ (vcells x ++ rest) := ⟨B.flatMap vcells ++ cs.drop ((A ++ x :: B).length * es), by
  have h6 := List.take_append_drop ((A ++ x :: B).length * es) cs
  rw [h5] at h6
  refine h6.symm.trans ?_
  simp⟩
 have e : cs[A.length * es + j]? = some u := by
  rw [hrest, List.getElem?_append_right (by omega), fA, show A.length * es + j - A.length * es = j by omega, List.getElem?_append_left hj, hu]
 simp [Mem.cell, hc, e]
end Go.Vx
