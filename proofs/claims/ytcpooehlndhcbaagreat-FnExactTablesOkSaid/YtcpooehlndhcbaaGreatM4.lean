/- Texts of the proof, part 4. -/
import Derived.Orders
import Derived.Below
import Derived.WalkKit
import Derived.MapKept
import Derived.WideKeyMaps
import Derived.Maps.RangeRun
import Derived.Laws.Cover3
import Derived.Laws.IdiomStrings
import Derived.Laws.BytesString
import Derived.Deep.RegionHeld3
import Derived.Carry
import Derived.ChangeArms
import Derived.RowKit3
import Derived.Test.YtcpooehlndhcbaaGreatChecked
import Derived.KernelRfl
import Derived.ProofKit
import Derived.OpenShut
import Derived.ChangeOld
import Derived.Handed
import Derived.JoinedOf
import Derived.Sort.AssemblyPlain
import Derived.Lib.ReflectliteSwap
import Derived.Test.YtcpooehlndhcbaaGreatM3
/- Contracts: rows of numbers sorted. -/
namespace Go.Vx
open Go.Proofs Classical
open Go.Sort
section
variable {h0 : Mem} {r : Nat} {ty : TypeId} {rest : List Value}
set_option maxHeartbeats 16000000 in
theorem pdqsort_spec {n cap : Nat} (hr : h0 r = none) (hn : n ≤ 1000000000000) : ∀ (m : Nat) (a b limit : Nat) (d : Array Int) (μ : Mem), b - a < m → a ≤ b → b ≤ n → d.size = n → limit ≤ 64 → Below ltInt a b d →
    SpecH Tryz.prog 343 [.slice (some ⟨r, 0, none⟩) n cap, .int .i64 a, .int .i64 b, .int .i64 limit] μ (RowI h0 r ty rest d) fun v _μ' h' => v = .tuple #[] ∧ ∃ d', PermIn a b d d' ∧ SortedIn ltInt a b d' ∧ h' = RowI h0 r ty rest d' := by
  intro m
  induction m with
  | zero => intro a b limit d μ h; omega
  | succ m ih =>
  intro a0 b0 limit0 d0 μ hm hab0 hb0 hd0 hl0 hB0
  refine SpecH.mk [] Tryz.func343 (by kernel_rfl) ?_
  refine loop_intro (fun p : Nat × Nat × Nat × Bool × Bool × Array Int × Mem => p.1 ≤ p.2.1 ∧ p.2.1 ≤ n ∧ p.2.1 - p.1 ≤ b0 - a0 ∧ p.2.2.1 ≤ 64 ∧ p.2.2.2.2.2.1.size = n ∧ Below ltInt p.1 p.2.1 p.2.2.2.2.2.1 ∧ μ.Le p.2.2.2.2.2.2 ∧ ∀ R, PermIn p.1 p.2.1 p.2.2.2.2.2.1 R → SortedIn ltInt p.1 p.2.1 R → PermIn a0 b0 d0 R ∧ SortedIn ltInt a0 b0 R)
    (fun (a, b, limit, wb, wp, d, μ') => ⟨[(0, .val (.slice (some ⟨r, 0, none⟩) n cap)), (1, .val (.int .i64 a)), (2, .val (.int .i64 b)), (3, .val (.int .i64 limit)), (8, .val (.bool wb)), (9, .val (.bool wp))], [], 0, μ', RowI h0 r ty rest d⟩) (fun p => p.2.1 - p.1)
    (a0, b0, limit0, true, true, d0, μ) ⟨hab0, hb0, Nat.le_refl _, hl0, hd0, hB0, Mem.Le.refl _, fun R h1 h2 => ⟨h1, h2⟩⟩ (fun (_, _, _, _, _, _, _) => ⟨rfl, rfl⟩) ⟨⟨rfl, rfl, rfl, rfl, rfl, rfl, trivial⟩, trivial, rfl, rfl⟩ ?_
  rintro ⟨a, b, limit, wb, wp, d, μ1⟩ ⟨hab, hb, hlen, hlim, hs, hB, hle, hfin⟩
  dsimp only at hab hb hlen hlim hs hB hle hfin
  refine num_eq (x := ((b - a : Nat) : Int)) (by rw [wrap64 (by omega) (by omega)]; omega) ?_
  refine ifd (fun h12 => ?_) (fun h12 => ?_)
  · refine call_own (insertionSort_spec hs hab hb hn) fun v μ' h' hle' hap hR => ?_
    obtain ⟨rfl, e1, rfl⟩ := hR
    have q := insertionSort_holds (lt := ltInt) swo_ltInt d a b hab (by omega)
    exact ret_plain ⟨rfl, _, (hfin _ q.1 q.2).1, (hfin _ q.1 q.2).2, rfl⟩
  refine ifd (fun hl => ?_) (fun hl => ?_)
  · refine call_own (heapSort_spec hs (by omega) hb hn) fun v μ' h' hle' hap hR => ?_
    obtain ⟨rfl, e1, rfl⟩ := hR
    have q := heapSort_holds (lt := ltInt) swo_ltInt d a b hab (by omega)
    exact ret_plain ⟨rfl, _, (hfin _ q.1 q.2).1, (hfin _ q.1 q.2).2, rfl⟩
  cases wb with
  | false =>
    refine if_intro (fun _ => ?_) (fun h => nomatch h)
    refine call_own (breakPatterns_spec hr hs (by omega) hb hn) fun v μ2 h' hle' hap hR => ?_
    obtain ⟨rfl, d1, p1, rfl⟩ := hR
    replace hB := hB.perm (by omega) p1
    replace hfin := fun R h1 h2 => hfin R (permIn_trans _ _ _ _ _ p1 h1) h2
    have hs1 : d1.size = n := p1.1.trans hs
    replace hle := hle.trans hle'
    clear hs p1 hle'
    refine num_eq (x := ((limit - 1 : Nat) : Int)) (by rw [wrap64 (by omega) (by omega)]; omega) ?_
    refine call_own (choosePivot_spec hr hs1 (by omega) hb hn) fun v μ3 h' hle' hap hR => ?_
    obtain ⟨p, k, hp1, hp2, hk, rfl, rfl⟩ := hR
    replace hle := hle.trans hle'
    clear hle' hap
    refine ifd (fun hk2 => ?_) (fun hk2 => ?_)
    · refine call_own (reverseRange_spec hs1 (by omega) hab hb hn) fun v μ4 h' hle' hap hR => ?_
      obtain ⟨rfl, e1, rfl⟩ := hR
      obtain rfl := e1.symm
      clear hle' hap
      have p2 := reverseRange_holds d1 a b hab (by omega)
      generalize reverseRange d1 a b = d2 at *
      replace hB := hB.perm (by omega) p2
      replace hfin := fun R h1 h2 => hfin R (permIn_trans _ _ _ _ _ p2 h1) h2
      have hs2 : d2.size = n := p2.1.trans hs1
      clear p2
      refine num_eq (x := ((b - 1 : Nat) : Int)) (by rw [wrap64 (by omega) (by omega)]; omega) ?_
      refine num_eq (x := ((p - a : Nat) : Int)) (by rw [wrap64 (by omega) (by omega)]; omega) ?_
      refine num_eq (x := (((b - 1) - (p - a) : Nat) : Int)) (by rw [wrap64 (by omega) (by omega)]; omega) ?_
      refine if_intro (fun h => nomatch h) (fun _ => ?_)
      refine ifd (fun ha0 => ?_) (fun ha0 => ?_)
      · refine num_eq (x := ((a - 1 : Nat) : Int)) (by rw [wrap64 (by omega) (by omega)]; omega) ?_
        refine idxI (a - 1) (by omega) (by omega) ?_
        refine rdI (by omega) ?_
        refine idxI ((b - 1) - (p - a)) (by omega) (by omega) ?_
        refine rdI (by omega) ?_
        refine call_gives (Less_spec _ _) ?_
        refine if_intro (fun hnl => ?_) (fun hnl => ?_)
        · refine call_own (partitionEqual_spec (pivot := (b - 1) - (p - a)) hs2 (by omega) (by omega) hb hn) fun v μ6 h' hle' hap hR => ?_
          obtain ⟨rfl, e1, rfl⟩ := hR
          obtain rfl := e1.symm
          obtain ⟨mid, d4, hx⟩ : ∃ mid d4, partitionEqual ltInt d2 a b ((b - 1) - (p - a)) = (mid, d4) := ⟨_, _, rfl⟩
          rw [hx]
          have q := round_eq swo_ltInt (partitionEqual_holds ltInt) (by omega) (by omega) (by omega) (by omega) hB (by simpa using hnl) hx
          have qa := q.1
          exact ⟨(mid, b, limit - 1, false, wp, d4, _), ⟨q.2.1, hb, by dsimp only; omega, by dsimp only; omega, q.2.2.1.trans hs2, q.2.2.2.1, hle, fun R h1 h2 => hfin R (q.2.2.2.2 R h1 h2).1 (q.2.2.2.2 R h1 h2).2⟩, by dsimp only; omega, ⟨⟨rfl, rfl, rfl, rfl, rfl, rfl, trivial⟩, trivial, rfl, rfl⟩⟩
        · refine call_own (partition_spec (pivot := (b - 1) - (p - a)) hs2 (by omega) (by omega) hb hn) fun v μ6 h' hle' hap hR => ?_
          obtain ⟨⟨ap, rfl⟩, e1, rfl⟩ := hR
          obtain rfl := e1.symm
          obtain ⟨mid, ap', d4, hx⟩ : ∃ mid ap' d4, partition ltInt d2 a b ((b - 1) - (p - a)) = (mid, ap', d4) := ⟨_, _, _, rfl⟩
          rw [hx]
          have hv_ := round_part swo_ltInt (partition_holds ltInt) (by omega) (by omega) (by omega) hB hx
          obtain ⟨q1, q2, q3, q4, q5, q6, q7⟩ := hv_
          refine num_eq (x := ((mid - a : Nat) : Int)) (by rw [wrap64 (by omega) (by omega)]; omega) ?_
          refine num_eq (x := ((b - mid : Nat) : Int)) (by rw [wrap64 (by omega) (by omega)]; omega) ?_
          refine need_intro (by decide) ?_
          refine num_eq (x := (((b - a) / 8 : Nat) : Int)) (by rw [Int.tdiv_eq_ediv_of_nonneg (by omega), wrap64 (by omega) (by omega)]; omega) ?_
          refine ifd (fun hlt => ?_) (fun hlt => ?_)
          · refine call_own (ih a mid (limit - 1) d4 _ (by omega) (by omega) (by omega) (q3.trans hs2) (by omega) q4) fun v μ7 h' hle7 hap hR => ?_
            obtain ⟨rfl, L, g1, g2, rfl⟩ := hR
            have hv_ := q6 L g1 g2
            obtain ⟨g3, g4⟩ := hv_
            refine num_eq (x := ((mid + 1 : Nat) : Int)) (by rw [wrap64 (by omega) (by omega)]; omega) ?_
            exact ⟨(mid + 1, b, limit - 1, _, ap, L, μ7), ⟨by dsimp only; omega, hb, by dsimp only; omega, by dsimp only; omega, g1.1.trans (q3.trans hs2), g3, hle.trans hle7, fun R h1 h2 => hfin R (g4 R h1 h2).1 (g4 R h1 h2).2⟩, by dsimp only; omega, ⟨⟨rfl, rfl, rfl, rfl, rfl, rfl, trivial⟩, trivial, rfl, rfl⟩⟩
          · refine num_eq (x := ((mid + 1 : Nat) : Int)) (by rw [wrap64 (by omega) (by omega)]; omega) ?_
            refine call_own (ih (mid + 1) b (limit - 1) d4 _ (by omega) (by omega) (by omega) (q3.trans hs2) (by omega) q5) fun v μ7 h' hle7 hap hR => ?_
            obtain ⟨rfl, L, g1, g2, rfl⟩ := hR
            have hv_ := q7 L g1 g2
            obtain ⟨g3, g4⟩ := hv_
            exact ⟨(a, mid, limit - 1, _, ap, L, μ7), ⟨by dsimp only; omega, by dsimp only; omega, by dsimp only; omega, by dsimp only; omega, g1.1.trans (q3.trans hs2), g3, hle.trans hle7, fun R h1 h2 => hfin R (g4 R h1 h2).1 (g4 R h1 h2).2⟩, by dsimp only; omega, ⟨⟨rfl, rfl, rfl, rfl, rfl, rfl, trivial⟩, trivial, rfl, rfl⟩⟩
      · refine call_own (partition_spec (pivot := (b - 1) - (p - a)) hs2 (by omega) (by omega) hb hn) fun v μ6 h' hle' hap hR => ?_
        obtain ⟨⟨ap, rfl⟩, e1, rfl⟩ := hR
        obtain rfl := e1.symm
        obtain ⟨mid, ap', d4, hx⟩ : ∃ mid ap' d4, partition ltInt d2 a b ((b - 1) - (p - a)) = (mid, ap', d4) := ⟨_, _, _, rfl⟩
        rw [hx]
        have hv_ := round_part swo_ltInt (partition_holds ltInt) (by omega) (by omega) (by omega) hB hx
        obtain ⟨q1, q2, q3, q4, q5, q6, q7⟩ := hv_
        refine num_eq (x := ((mid - a : Nat) : Int)) (by rw [wrap64 (by omega) (by omega)]; omega) ?_
        refine num_eq (x := ((b - mid : Nat) : Int)) (by rw [wrap64 (by omega) (by omega)]; omega) ?_
        refine need_intro (by decide) ?_
        refine num_eq (x := (((b - a) / 8 : Nat) : Int)) (by rw [Int.tdiv_eq_ediv_of_nonneg (by omega), wrap64 (by omega) (by omega)]; omega) ?_
        refine ifd (fun hlt => ?_) (fun hlt => ?_)
        · refine call_own (ih a mid (limit - 1) d4 _ (by omega) (by omega) (by omega) (q3.trans hs2) (by omega) q4) fun v μ7 h' hle7 hap hR => ?_
          obtain ⟨rfl, L, g1, g2, rfl⟩ := hR
          have hv_ := q6 L g1 g2
          obtain ⟨g3, g4⟩ := hv_
          refine num_eq (x := ((mid + 1 : Nat) : Int)) (by rw [wrap64 (by omega) (by omega)]; omega) ?_
          exact ⟨(mid + 1, b, limit - 1, _, ap, L, μ7), ⟨by dsimp only; omega, hb, by dsimp only; omega, by dsimp only; omega, g1.1.trans (q3.trans hs2), g3, hle.trans hle7, fun R h1 h2 => hfin R (g4 R h1 h2).1 (g4 R h1 h2).2⟩, by dsimp only; omega, ⟨⟨rfl, rfl, rfl, rfl, rfl, rfl, trivial⟩, trivial, rfl, rfl⟩⟩
        · refine num_eq (x := ((mid + 1 : Nat) : Int)) (by rw [wrap64 (by omega) (by omega)]; omega) ?_
          refine call_own (ih (mid + 1) b (limit - 1) d4 _ (by omega) (by omega) (by omega) (q3.trans hs2) (by omega) q5) fun v μ7 h' hle7 hap hR => ?_
          obtain ⟨rfl, L, g1, g2, rfl⟩ := hR
          have hv_ := q7 L g1 g2
          obtain ⟨g3, g4⟩ := hv_
          exact ⟨(a, mid, limit - 1, _, ap, L, μ7), ⟨by dsimp only; omega, by dsimp only; omega, by dsimp only; omega, by dsimp only; omega, g1.1.trans (q3.trans hs2), g3, hle.trans hle7, fun R h1 h2 => hfin R (g4 R h1 h2).1 (g4 R h1 h2).2⟩, by dsimp only; omega, ⟨⟨rfl, rfl, rfl, rfl, rfl, rfl, trivial⟩, trivial, rfl, rfl⟩⟩
    · refine if_intro (fun h => nomatch h) (fun _ => ?_)
      refine ifd (fun ha0 => ?_) (fun ha0 => ?_)
      · refine num_eq (x := ((a - 1 : Nat) : Int)) (by rw [wrap64 (by omega) (by omega)]; omega) ?_
        refine idxI (a - 1) (by omega) (by omega) ?_
        refine rdI (by omega) ?_
        refine idxI (p) (by omega) (by omega) ?_
        refine rdI (by omega) ?_
        refine call_gives (Less_spec _ _) ?_
        refine if_intro (fun hnl => ?_) (fun hnl => ?_)
        · refine call_own (partitionEqual_spec (pivot := p) hs1 (by omega) (by omega) hb hn) fun v μ6 h' hle' hap hR => ?_
          obtain ⟨rfl, e1, rfl⟩ := hR
          obtain rfl := e1.symm
          obtain ⟨mid, d4, hx⟩ : ∃ mid d4, partitionEqual ltInt d1 a b (p) = (mid, d4) := ⟨_, _, rfl⟩
          rw [hx]
          have q := round_eq swo_ltInt (partitionEqual_holds ltInt) (by omega) (by omega) (by omega) (by omega) hB (by simpa using hnl) hx
          have qa := q.1
          exact ⟨(mid, b, limit - 1, false, wp, d4, _), ⟨q.2.1, hb, by dsimp only; omega, by dsimp only; omega, q.2.2.1.trans hs1, q.2.2.2.1, hle, fun R h1 h2 => hfin R (q.2.2.2.2 R h1 h2).1 (q.2.2.2.2 R h1 h2).2⟩, by dsimp only; omega, ⟨⟨rfl, rfl, rfl, rfl, rfl, rfl, trivial⟩, trivial, rfl, rfl⟩⟩
        · refine call_own (partition_spec (pivot := p) hs1 (by omega) (by omega) hb hn) fun v μ6 h' hle' hap hR => ?_
          obtain ⟨⟨ap, rfl⟩, e1, rfl⟩ := hR
          obtain rfl := e1.symm
          obtain ⟨mid, ap', d4, hx⟩ : ∃ mid ap' d4, partition ltInt d1 a b (p) = (mid, ap', d4) := ⟨_, _, _, rfl⟩
          rw [hx]
          have hv_ := round_part swo_ltInt (partition_holds ltInt) (by omega) (by omega) (by omega) hB hx
          obtain ⟨q1, q2, q3, q4, q5, q6, q7⟩ := hv_
          refine num_eq (x := ((mid - a : Nat) : Int)) (by rw [wrap64 (by omega) (by omega)]; omega) ?_
          refine num_eq (x := ((b - mid : Nat) : Int)) (by rw [wrap64 (by omega) (by omega)]; omega) ?_
          refine need_intro (by decide) ?_
          refine num_eq (x := (((b - a) / 8 : Nat) : Int)) (by rw [Int.tdiv_eq_ediv_of_nonneg (by omega), wrap64 (by omega) (by omega)]; omega) ?_
          refine ifd (fun hlt => ?_) (fun hlt => ?_)
          · refine call_own (ih a mid (limit - 1) d4 _ (by omega) (by omega) (by omega) (q3.trans hs1) (by omega) q4) fun v μ7 h' hle7 hap hR => ?_
            obtain ⟨rfl, L, g1, g2, rfl⟩ := hR
            have hv_ := q6 L g1 g2
            obtain ⟨g3, g4⟩ := hv_
            refine num_eq (x := ((mid + 1 : Nat) : Int)) (by rw [wrap64 (by omega) (by omega)]; omega) ?_
            exact ⟨(mid + 1, b, limit - 1, _, ap, L, μ7), ⟨by dsimp only; omega, hb, by dsimp only; omega, by dsimp only; omega, g1.1.trans (q3.trans hs1), g3, hle.trans hle7, fun R h1 h2 => hfin R (g4 R h1 h2).1 (g4 R h1 h2).2⟩, by dsimp only; omega, ⟨⟨rfl, rfl, rfl, rfl, rfl, rfl, trivial⟩, trivial, rfl, rfl⟩⟩
          · refine num_eq (x := ((mid + 1 : Nat) : Int)) (by rw [wrap64 (by omega) (by omega)]; omega) ?_
            refine call_own (ih (mid + 1) b (limit - 1) d4 _ (by omega) (by omega) (by omega) (q3.trans hs1) (by omega) q5) fun v μ7 h' hle7 hap hR => ?_
            obtain ⟨rfl, L, g1, g2, rfl⟩ := hR
            have hv_ := q7 L g1 g2
            obtain ⟨g3, g4⟩ := hv_
            exact ⟨(a, mid, limit - 1, _, ap, L, μ7), ⟨by dsimp only; omega, by dsimp only; omega, by dsimp only; omega, by dsimp only; omega, g1.1.trans (q3.trans hs1), g3, hle.trans hle7, fun R h1 h2 => hfin R (g4 R h1 h2).1 (g4 R h1 h2).2⟩, by dsimp only; omega, ⟨⟨rfl, rfl, rfl, rfl, rfl, rfl, trivial⟩, trivial, rfl, rfl⟩⟩
      · refine call_own (partition_spec (pivot := p) hs1 (by omega) (by omega) hb hn) fun v μ6 h' hle' hap hR => ?_
        obtain ⟨⟨ap, rfl⟩, e1, rfl⟩ := hR
        obtain rfl := e1.symm
        obtain ⟨mid, ap', d4, hx⟩ : ∃ mid ap' d4, partition ltInt d1 a b (p) = (mid, ap', d4) := ⟨_, _, _, rfl⟩
        rw [hx]
        have hv_ := round_part swo_ltInt (partition_holds ltInt) (by omega) (by omega) (by omega) hB hx
        obtain ⟨q1, q2, q3, q4, q5, q6, q7⟩ := hv_
        refine num_eq (x := ((mid - a : Nat) : Int)) (by rw [wrap64 (by omega) (by omega)]; omega) ?_
        refine num_eq (x := ((b - mid : Nat) : Int)) (by rw [wrap64 (by omega) (by omega)]; omega) ?_
        refine need_intro (by decide) ?_
        refine num_eq (x := (((b - a) / 8 : Nat) : Int)) (by rw [Int.tdiv_eq_ediv_of_nonneg (by omega), wrap64 (by omega) (by omega)]; omega) ?_
        refine ifd (fun hlt => ?_) (fun hlt => ?_)
        · refine call_own (ih a mid (limit - 1) d4 _ (by omega) (by omega) (by omega) (q3.trans hs1) (by omega) q4) fun v μ7 h' hle7 hap hR => ?_
          obtain ⟨rfl, L, g1, g2, rfl⟩ := hR
          have hv_ := q6 L g1 g2
          obtain ⟨g3, g4⟩ := hv_
          refine num_eq (x := ((mid + 1 : Nat) : Int)) (by rw [wrap64 (by omega) (by omega)]; omega) ?_
          exact ⟨(mid + 1, b, limit - 1, _, ap, L, μ7), ⟨by dsimp only; omega, hb, by dsimp only; omega, by dsimp only; omega, g1.1.trans (q3.trans hs1), g3, hle.trans hle7, fun R h1 h2 => hfin R (g4 R h1 h2).1 (g4 R h1 h2).2⟩, by dsimp only; omega, ⟨⟨rfl, rfl, rfl, rfl, rfl, rfl, trivial⟩, trivial, rfl, rfl⟩⟩
        · refine num_eq (x := ((mid + 1 : Nat) : Int)) (by rw [wrap64 (by omega) (by omega)]; omega) ?_
          refine call_own (ih (mid + 1) b (limit - 1) d4 _ (by omega) (by omega) (by omega) (q3.trans hs1) (by omega) q5) fun v μ7 h' hle7 hap hR => ?_
          obtain ⟨rfl, L, g1, g2, rfl⟩ := hR
          have hv_ := q7 L g1 g2
          obtain ⟨g3, g4⟩ := hv_
          exact ⟨(a, mid, limit - 1, _, ap, L, μ7), ⟨by dsimp only; omega, by dsimp only; omega, by dsimp only; omega, by dsimp only; omega, g1.1.trans (q3.trans hs1), g3, hle.trans hle7, fun R h1 h2 => hfin R (g4 R h1 h2).1 (g4 R h1 h2).2⟩, by dsimp only; omega, ⟨⟨rfl, rfl, rfl, rfl, rfl, rfl, trivial⟩, trivial, rfl, rfl⟩⟩
  | true =>
    refine if_intro (fun h => nomatch h) (fun _ => ?_)
    have hs1 := hs
    refine call_own (choosePivot_spec hr hs1 (by omega) hb hn) fun v μ3 h' hle' hap hR => ?_
    obtain ⟨p, k, hp1, hp2, hk, rfl, rfl⟩ := hR
    replace hle := hle.trans hle'
    clear hle' hap
    refine ifd (fun hk2 => ?_) (fun hk2 => ?_)
    · refine call_own (reverseRange_spec hs1 (by omega) hab hb hn) fun v μ4 h' hle' hap hR => ?_
      obtain ⟨rfl, e1, rfl⟩ := hR
      obtain rfl := e1.symm
      clear hle' hap
      have p2 := reverseRange_holds d a b hab (by omega)
      generalize reverseRange d a b = d2 at *
      replace hB := hB.perm (by omega) p2
      replace hfin := fun R h1 h2 => hfin R (permIn_trans _ _ _ _ _ p2 h1) h2
      have hs2 : d2.size = n := p2.1.trans hs1
      clear p2
      refine num_eq (x := ((b - 1 : Nat) : Int)) (by rw [wrap64 (by omega) (by omega)]; omega) ?_
      refine num_eq (x := ((p - a : Nat) : Int)) (by rw [wrap64 (by omega) (by omega)]; omega) ?_
      refine num_eq (x := (((b - 1) - (p - a) : Nat) : Int)) (by rw [wrap64 (by omega) (by omega)]; omega) ?_
      refine if_intro (fun _ => ?_) (fun h => nomatch h)
      refine if_intro (fun hwp => ?_) (fun hwp => ?_)
      · refine ifd (fun _ => ?_) (fun h => absurd rfl h)
        refine call_own (partialInsertionSort_spec hs2 (by omega) hb hn) fun v μ5 h' hle' hap hR => ?_
        obtain ⟨rfl, e1, rfl⟩ := hR
        obtain rfl := e1.symm
        clear hle' hap
        have q := partialInsertionSort_holds (lt := ltInt) swo_ltInt d2 a b (by omega) (by omega) hB
        refine if_intro (fun hok => ?_) (fun hok => ?_)
        · exact ret_plain ⟨rfl, _, (hfin _ q.1 (q.2 hok)).1, (hfin _ q.1 (q.2 hok)).2, rfl⟩
        · have q1 := q.1
          clear q hok
          generalize (partialInsertionSort ltInt d2 a b).1 = d3 at *
          replace hB := hB.perm (by omega) q1
          replace hfin := fun R h1 h2 => hfin R (permIn_trans _ _ _ _ _ q1 h1) h2
          have hs3 : d3.size = n := q1.1.trans hs2
          clear q1
          refine ifd (fun ha0 => ?_) (fun ha0 => ?_)
          · refine num_eq (x := ((a - 1 : Nat) : Int)) (by rw [wrap64 (by omega) (by omega)]; omega) ?_
            refine idxI (a - 1) (by omega) (by omega) ?_
            refine rdI (by omega) ?_
            refine idxI ((b - 1) - (p - a)) (by omega) (by omega) ?_
            refine rdI (by omega) ?_
            refine call_gives (Less_spec _ _) ?_
            refine if_intro (fun hnl => ?_) (fun hnl => ?_)
            · refine call_own (partitionEqual_spec (pivot := (b - 1) - (p - a)) hs3 (by omega) (by omega) hb hn) fun v μ6 h' hle' hap hR => ?_
              obtain ⟨rfl, e1, rfl⟩ := hR
              obtain rfl := e1.symm
              obtain ⟨mid, d4, hx⟩ : ∃ mid d4, partitionEqual ltInt d3 a b ((b - 1) - (p - a)) = (mid, d4) := ⟨_, _, rfl⟩
              rw [hx]
              have q := round_eq swo_ltInt (partitionEqual_holds ltInt) (by omega) (by omega) (by omega) (by omega) hB (by simpa using hnl) hx
              have qa := q.1
              exact ⟨(mid, b, limit, true, wp, d4, _), ⟨q.2.1, hb, by dsimp only; omega, by dsimp only; omega, q.2.2.1.trans hs3, q.2.2.2.1, hle, fun R h1 h2 => hfin R (q.2.2.2.2 R h1 h2).1 (q.2.2.2.2 R h1 h2).2⟩, by dsimp only; omega, ⟨⟨rfl, rfl, rfl, rfl, rfl, rfl, trivial⟩, trivial, rfl, rfl⟩⟩
            · refine call_own (partition_spec (pivot := (b - 1) - (p - a)) hs3 (by omega) (by omega) hb hn) fun v μ6 h' hle' hap hR => ?_
              obtain ⟨⟨ap, rfl⟩, e1, rfl⟩ := hR
              obtain rfl := e1.symm
              obtain ⟨mid, ap', d4, hx⟩ : ∃ mid ap' d4, partition ltInt d3 a b ((b - 1) - (p - a)) = (mid, ap', d4) := ⟨_, _, _, rfl⟩
              rw [hx]
              have hv_ := round_part swo_ltInt (partition_holds ltInt) (by omega) (by omega) (by omega) hB hx
              obtain ⟨q1, q2, q3, q4, q5, q6, q7⟩ := hv_
              refine num_eq (x := ((mid - a : Nat) : Int)) (by rw [wrap64 (by omega) (by omega)]; omega) ?_
              refine num_eq (x := ((b - mid : Nat) : Int)) (by rw [wrap64 (by omega) (by omega)]; omega) ?_
              refine need_intro (by decide) ?_
              refine num_eq (x := (((b - a) / 8 : Nat) : Int)) (by rw [Int.tdiv_eq_ediv_of_nonneg (by omega), wrap64 (by omega) (by omega)]; omega) ?_
              refine ifd (fun hlt => ?_) (fun hlt => ?_)
              · refine call_own (ih a mid (limit) d4 _ (by omega) (by omega) (by omega) (q3.trans hs3) (by omega) q4) fun v μ7 h' hle7 hap hR => ?_
                obtain ⟨rfl, L, g1, g2, rfl⟩ := hR
                have hv_ := q6 L g1 g2
                obtain ⟨g3, g4⟩ := hv_
                refine num_eq (x := ((mid + 1 : Nat) : Int)) (by rw [wrap64 (by omega) (by omega)]; omega) ?_
                exact ⟨(mid + 1, b, limit, _, ap, L, μ7), ⟨by dsimp only; omega, hb, by dsimp only; omega, by dsimp only; omega, g1.1.trans (q3.trans hs3), g3, hle.trans hle7, fun R h1 h2 => hfin R (g4 R h1 h2).1 (g4 R h1 h2).2⟩, by dsimp only; omega, ⟨⟨rfl, rfl, rfl, rfl, rfl, rfl, trivial⟩, trivial, rfl, rfl⟩⟩
              · refine num_eq (x := ((mid + 1 : Nat) : Int)) (by rw [wrap64 (by omega) (by omega)]; omega) ?_
                refine call_own (ih (mid + 1) b (limit) d4 _ (by omega) (by omega) (by omega) (q3.trans hs3) (by omega) q5) fun v μ7 h' hle7 hap hR => ?_
                obtain ⟨rfl, L, g1, g2, rfl⟩ := hR
                have hv_ := q7 L g1 g2
                obtain ⟨g3, g4⟩ := hv_
                exact ⟨(a, mid, limit, _, ap, L, μ7), ⟨by dsimp only; omega, by dsimp only; omega, by dsimp only; omega, by dsimp only; omega, g1.1.trans (q3.trans hs3), g3, hle.trans hle7, fun R h1 h2 => hfin R (g4 R h1 h2).1 (g4 R h1 h2).2⟩, by dsimp only; omega, ⟨⟨rfl, rfl, rfl, rfl, rfl, rfl, trivial⟩, trivial, rfl, rfl⟩⟩
          · refine call_own (partition_spec (pivot := (b - 1) - (p - a)) hs3 (by omega) (by omega) hb hn) fun v μ6 h' hle' hap hR => ?_
            obtain ⟨⟨ap, rfl⟩, e1, rfl⟩ := hR
            obtain rfl := e1.symm
            obtain ⟨mid, ap', d4, hx⟩ : ∃ mid ap' d4, partition ltInt d3 a b ((b - 1) - (p - a)) = (mid, ap', d4) := ⟨_, _, _, rfl⟩
            rw [hx]
            have hv_ := round_part swo_ltInt (partition_holds ltInt) (by omega) (by omega) (by omega) hB hx
            obtain ⟨q1, q2, q3, q4, q5, q6, q7⟩ := hv_
            refine num_eq (x := ((mid - a : Nat) : Int)) (by rw [wrap64 (by omega) (by omega)]; omega) ?_
            refine num_eq (x := ((b - mid : Nat) : Int)) (by rw [wrap64 (by omega) (by omega)]; omega) ?_
            refine need_intro (by decide) ?_
            refine num_eq (x := (((b - a) / 8 : Nat) : Int)) (by rw [Int.tdiv_eq_ediv_of_nonneg (by omega), wrap64 (by omega) (by omega)]; omega) ?_
            refine ifd (fun hlt => ?_) (fun hlt => ?_)
            · refine call_own (ih a mid (limit) d4 _ (by omega) (by omega) (by omega) (q3.trans hs3) (by omega) q4) fun v μ7 h' hle7 hap hR => ?_
              obtain ⟨rfl, L, g1, g2, rfl⟩ := hR
              have hv_ := q6 L g1 g2
              obtain ⟨g3, g4⟩ := hv_
              refine num_eq (x := ((mid + 1 : Nat) : Int)) (by rw [wrap64 (by omega) (by omega)]; omega) ?_
              exact ⟨(mid + 1, b, limit, _, ap, L, μ7), ⟨by dsimp only; omega, hb, by dsimp only; omega, by dsimp only; omega, g1.1.trans (q3.trans hs3), g3, hle.trans hle7, fun R h1 h2 => hfin R (g4 R h1 h2).1 (g4 R h1 h2).2⟩, by dsimp only; omega, ⟨⟨rfl, rfl, rfl, rfl, rfl, rfl, trivial⟩, trivial, rfl, rfl⟩⟩
            · refine num_eq (x := ((mid + 1 : Nat) : Int)) (by rw [wrap64 (by omega) (by omega)]; omega) ?_
              refine call_own (ih (mid + 1) b (limit) d4 _ (by omega) (by omega) (by omega) (q3.trans hs3) (by omega) q5) fun v μ7 h' hle7 hap hR => ?_
              obtain ⟨rfl, L, g1, g2, rfl⟩ := hR
              have hv_ := q7 L g1 g2
              obtain ⟨g3, g4⟩ := hv_
              exact ⟨(a, mid, limit, _, ap, L, μ7), ⟨by dsimp only; omega, by dsimp only; omega, by dsimp only; omega, by dsimp only; omega, g1.1.trans (q3.trans hs3), g3, hle.trans hle7, fun R h1 h2 => hfin R (g4 R h1 h2).1 (g4 R h1 h2).2⟩, by dsimp only; omega, ⟨⟨rfl, rfl, rfl, rfl, rfl, rfl, trivial⟩, trivial, rfl, rfl⟩⟩
      · refine ifd (fun ha0 => ?_) (fun ha0 => ?_)
        · refine num_eq (x := ((a - 1 : Nat) : Int)) (by rw [wrap64 (by omega) (by omega)]; omega) ?_
          refine idxI (a - 1) (by omega) (by omega) ?_
          refine rdI (by omega) ?_
          refine idxI ((b - 1) - (p - a)) (by omega) (by omega) ?_
          refine rdI (by omega) ?_
          refine call_gives (Less_spec _ _) ?_
          refine if_intro (fun hnl => ?_) (fun hnl => ?_)
          · refine call_own (partitionEqual_spec (pivot := (b - 1) - (p - a)) hs2 (by omega) (by omega) hb hn) fun v μ6 h' hle' hap hR => ?_
            obtain ⟨rfl, e1, rfl⟩ := hR
            obtain rfl := e1.symm
            obtain ⟨mid, d4, hx⟩ : ∃ mid d4, partitionEqual ltInt d2 a b ((b - 1) - (p - a)) = (mid, d4) := ⟨_, _, rfl⟩
            rw [hx]
            have q := round_eq swo_ltInt (partitionEqual_holds ltInt) (by omega) (by omega) (by omega) (by omega) hB (by simpa using hnl) hx
            have qa := q.1
            exact ⟨(mid, b, limit, true, wp, d4, _), ⟨q.2.1, hb, by dsimp only; omega, by dsimp only; omega, q.2.2.1.trans hs2, q.2.2.2.1, hle, fun R h1 h2 => hfin R (q.2.2.2.2 R h1 h2).1 (q.2.2.2.2 R h1 h2).2⟩, by dsimp only; omega, ⟨⟨rfl, rfl, rfl, rfl, rfl, rfl, trivial⟩, trivial, rfl, rfl⟩⟩
          · refine call_own (partition_spec (pivot := (b - 1) - (p - a)) hs2 (by omega) (by omega) hb hn) fun v μ6 h' hle' hap hR => ?_
            obtain ⟨⟨ap, rfl⟩, e1, rfl⟩ := hR
            obtain rfl := e1.symm
            obtain ⟨mid, ap', d4, hx⟩ : ∃ mid ap' d4, partition ltInt d2 a b ((b - 1) - (p - a)) = (mid, ap', d4) := ⟨_, _, _, rfl⟩
            rw [hx]
            have hv_ := round_part swo_ltInt (partition_holds ltInt) (by omega) (by omega) (by omega) hB hx
            obtain ⟨q1, q2, q3, q4, q5, q6, q7⟩ := hv_
            refine num_eq (x := ((mid - a : Nat) : Int)) (by rw [wrap64 (by omega) (by omega)]; omega) ?_
            refine num_eq (x := ((b - mid : Nat) : Int)) (by rw [wrap64 (by omega) (by omega)]; omega) ?_
            refine need_intro (by decide) ?_
            refine num_eq (x := (((b - a) / 8 : Nat) : Int)) (by rw [Int.tdiv_eq_ediv_of_nonneg (by omega), wrap64 (by omega) (by omega)]; omega) ?_
            refine ifd (fun hlt => ?_) (fun hlt => ?_)
            · refine call_own (ih a mid (limit) d4 _ (by omega) (by omega) (by omega) (q3.trans hs2) (by omega) q4) fun v μ7 h' hle7 hap hR => ?_
              obtain ⟨rfl, L, g1, g2, rfl⟩ := hR
              have hv_ := q6 L g1 g2
              obtain ⟨g3, g4⟩ := hv_
              refine num_eq (x := ((mid + 1 : Nat) : Int)) (by rw [wrap64 (by omega) (by omega)]; omega) ?_
              exact ⟨(mid + 1, b, limit, _, ap, L, μ7), ⟨by dsimp only; omega, hb, by dsimp only; omega, by dsimp only; omega, g1.1.trans (q3.trans hs2), g3, hle.trans hle7, fun R h1 h2 => hfin R (g4 R h1 h2).1 (g4 R h1 h2).2⟩, by dsimp only; omega, ⟨⟨rfl, rfl, rfl, rfl, rfl, rfl, trivial⟩, trivial, rfl, rfl⟩⟩
            · refine num_eq (x := ((mid + 1 : Nat) : Int)) (by rw [wrap64 (by omega) (by omega)]; omega) ?_
              refine call_own (ih (mid + 1) b (limit) d4 _ (by omega) (by omega) (by omega) (q3.trans hs2) (by omega) q5) fun v μ7 h' hle7 hap hR => ?_
              obtain ⟨rfl, L, g1, g2, rfl⟩ := hR
              have hv_ := q7 L g1 g2
              obtain ⟨g3, g4⟩ := hv_
              exact ⟨(a, mid, limit, _, ap, L, μ7), ⟨by dsimp only; omega, by dsimp only; omega, by dsimp only; omega, by dsimp only; omega, g1.1.trans (q3.trans hs2), g3, hle.trans hle7, fun R h1 h2 => hfin R (g4 R h1 h2).1 (g4 R h1 h2).2⟩, by dsimp only; omega, ⟨⟨rfl, rfl, rfl, rfl, rfl, rfl, trivial⟩, trivial, rfl, rfl⟩⟩
        · refine call_own (partition_spec (pivot := (b - 1) - (p - a)) hs2 (by omega) (by omega) hb hn) fun v μ6 h' hle' hap hR => ?_
          obtain ⟨⟨ap, rfl⟩, e1, rfl⟩ := hR
          obtain rfl := e1.symm
          obtain ⟨mid, ap', d4, hx⟩ : ∃ mid ap' d4, partition ltInt d2 a b ((b - 1) - (p - a)) = (mid, ap', d4) := ⟨_, _, _, rfl⟩
          rw [hx]
          have hv_ := round_part swo_ltInt (partition_holds ltInt) (by omega) (by omega) (by omega) hB hx
          obtain ⟨q1, q2, q3, q4, q5, q6, q7⟩ := hv_
          refine num_eq (x := ((mid - a : Nat) : Int)) (by rw [wrap64 (by omega) (by omega)]; omega) ?_
          refine num_eq (x := ((b - mid : Nat) : Int)) (by rw [wrap64 (by omega) (by omega)]; omega) ?_
          refine need_intro (by decide) ?_
          refine num_eq (x := (((b - a) / 8 : Nat) : Int)) (by rw [Int.tdiv_eq_ediv_of_nonneg (by omega), wrap64 (by omega) (by omega)]; omega) ?_
          refine ifd (fun hlt => ?_) (fun hlt => ?_)
          · refine call_own (ih a mid (limit) d4 _ (by omega) (by omega) (by omega) (q3.trans hs2) (by omega) q4) fun v μ7 h' hle7 hap hR => ?_
            obtain ⟨rfl, L, g1, g2, rfl⟩ := hR
            have hv_ := q6 L g1 g2
            obtain ⟨g3, g4⟩ := hv_
            refine num_eq (x := ((mid + 1 : Nat) : Int)) (by rw [wrap64 (by omega) (by omega)]; omega) ?_
            exact ⟨(mid + 1, b, limit, _, ap, L, μ7), ⟨by dsimp only; omega, hb, by dsimp only; omega, by dsimp only; omega, g1.1.trans (q3.trans hs2), g3, hle.trans hle7, fun R h1 h2 => hfin R (g4 R h1 h2).1 (g4 R h1 h2).2⟩, by dsimp only; omega, ⟨⟨rfl, rfl, rfl, rfl, rfl, rfl, trivial⟩, trivial, rfl, rfl⟩⟩
          · refine num_eq (x := ((mid + 1 : Nat) : Int)) (by rw [wrap64 (by omega) (by omega)]; omega) ?_
            refine call_own (ih (mid + 1) b (limit) d4 _ (by omega) (by omega) (by omega) (q3.trans hs2) (by omega) q5) fun v μ7 h' hle7 hap hR => ?_
            obtain ⟨rfl, L, g1, g2, rfl⟩ := hR
            have hv_ := q7 L g1 g2
            obtain ⟨g3, g4⟩ := hv_
            exact ⟨(a, mid, limit, _, ap, L, μ7), ⟨by dsimp only; omega, by dsimp only; omega, by dsimp only; omega, by dsimp only; omega, g1.1.trans (q3.trans hs2), g3, hle.trans hle7, fun R h1 h2 => hfin R (g4 R h1 h2).1 (g4 R h1 h2).2⟩, by dsimp only; omega, ⟨⟨rfl, rfl, rfl, rfl, rfl, rfl, trivial⟩, trivial, rfl, rfl⟩⟩
    · refine if_intro (fun _ => ?_) (fun h => nomatch h)
      refine if_intro (fun hwp => ?_) (fun hwp => ?_)
      · refine ifd (fun hk1 => ?_) (fun hk1 => ?_)
        · refine call_own (partialInsertionSort_spec hs1 (by omega) hb hn) fun v μ5 h' hle' hap hR => ?_
          obtain ⟨rfl, e1, rfl⟩ := hR
          obtain rfl := e1.symm
          clear hle' hap
          have q := partialInsertionSort_holds (lt := ltInt) swo_ltInt d a b (by omega) (by omega) hB
          refine if_intro (fun hok => ?_) (fun hok => ?_)
          · exact ret_plain ⟨rfl, _, (hfin _ q.1 (q.2 hok)).1, (hfin _ q.1 (q.2 hok)).2, rfl⟩
          · have q1 := q.1
            clear q hok
            generalize (partialInsertionSort ltInt d a b).1 = d3 at *
            replace hB := hB.perm (by omega) q1
            replace hfin := fun R h1 h2 => hfin R (permIn_trans _ _ _ _ _ q1 h1) h2
            have hs3 : d3.size = n := q1.1.trans hs1
            clear q1
            refine ifd (fun ha0 => ?_) (fun ha0 => ?_)
            · refine num_eq (x := ((a - 1 : Nat) : Int)) (by rw [wrap64 (by omega) (by omega)]; omega) ?_
              refine idxI (a - 1) (by omega) (by omega) ?_
              refine rdI (by omega) ?_
              refine idxI (p) (by omega) (by omega) ?_
              refine rdI (by omega) ?_
              refine call_gives (Less_spec _ _) ?_
              refine if_intro (fun hnl => ?_) (fun hnl => ?_)
              · refine call_own (partitionEqual_spec (pivot := p) hs3 (by omega) (by omega) hb hn) fun v μ6 h' hle' hap hR => ?_
                obtain ⟨rfl, e1, rfl⟩ := hR
                obtain rfl := e1.symm
                obtain ⟨mid, d4, hx⟩ : ∃ mid d4, partitionEqual ltInt d3 a b (p) = (mid, d4) := ⟨_, _, rfl⟩
                rw [hx]
                have q := round_eq swo_ltInt (partitionEqual_holds ltInt) (by omega) (by omega) (by omega) (by omega) hB (by simpa using hnl) hx
                have qa := q.1
                exact ⟨(mid, b, limit, true, wp, d4, _), ⟨q.2.1, hb, by dsimp only; omega, by dsimp only; omega, q.2.2.1.trans hs3, q.2.2.2.1, hle, fun R h1 h2 => hfin R (q.2.2.2.2 R h1 h2).1 (q.2.2.2.2 R h1 h2).2⟩, by dsimp only; omega, ⟨⟨rfl, rfl, rfl, rfl, rfl, rfl, trivial⟩, trivial, rfl, rfl⟩⟩
              · refine call_own (partition_spec (pivot := p) hs3 (by omega) (by omega) hb hn) fun v μ6 h' hle' hap hR => ?_
                obtain ⟨⟨ap, rfl⟩, e1, rfl⟩ := hR
                obtain rfl := e1.symm
                obtain ⟨mid, ap', d4, hx⟩ : ∃ mid ap' d4, partition ltInt d3 a b (p) = (mid, ap', d4) := ⟨_, _, _, rfl⟩
                rw [hx]
                have hv_ := round_part swo_ltInt (partition_holds ltInt) (by omega) (by omega) (by omega) hB hx
                obtain ⟨q1, q2, q3, q4, q5, q6, q7⟩ := hv_
                refine num_eq (x := ((mid - a : Nat) : Int)) (by rw [wrap64 (by omega) (by omega)]; omega) ?_
                refine num_eq (x := ((b - mid : Nat) : Int)) (by rw [wrap64 (by omega) (by omega)]; omega) ?_
                refine need_intro (by decide) ?_
                refine num_eq (x := (((b - a) / 8 : Nat) : Int)) (by rw [Int.tdiv_eq_ediv_of_nonneg (by omega), wrap64 (by omega) (by omega)]; omega) ?_
                refine ifd (fun hlt => ?_) (fun hlt => ?_)
                · refine call_own (ih a mid (limit) d4 _ (by omega) (by omega) (by omega) (q3.trans hs3) (by omega) q4) fun v μ7 h' hle7 hap hR => ?_
                  obtain ⟨rfl, L, g1, g2, rfl⟩ := hR
                  have hv_ := q6 L g1 g2
                  obtain ⟨g3, g4⟩ := hv_
                  refine num_eq (x := ((mid + 1 : Nat) : Int)) (by rw [wrap64 (by omega) (by omega)]; omega) ?_
                  exact ⟨(mid + 1, b, limit, _, ap, L, μ7), ⟨by dsimp only; omega, hb, by dsimp only; omega, by dsimp only; omega, g1.1.trans (q3.trans hs3), g3, hle.trans hle7, fun R h1 h2 => hfin R (g4 R h1 h2).1 (g4 R h1 h2).2⟩, by dsimp only; omega, ⟨⟨rfl, rfl, rfl, rfl, rfl, rfl, trivial⟩, trivial, rfl, rfl⟩⟩
                · refine num_eq (x := ((mid + 1 : Nat) : Int)) (by rw [wrap64 (by omega) (by omega)]; omega) ?_
                  refine call_own (ih (mid + 1) b (limit) d4 _ (by omega) (by omega) (by omega) (q3.trans hs3) (by omega) q5) fun v μ7 h' hle7 hap hR => ?_
                  obtain ⟨rfl, L, g1, g2, rfl⟩ := hR
                  have hv_ := q7 L g1 g2
                  obtain ⟨g3, g4⟩ := hv_
                  exact ⟨(a, mid, limit, _, ap, L, μ7), ⟨by dsimp only; omega, by dsimp only; omega, by dsimp only; omega, by dsimp only; omega, g1.1.trans (q3.trans hs3), g3, hle.trans hle7, fun R h1 h2 => hfin R (g4 R h1 h2).1 (g4 R h1 h2).2⟩, by dsimp only; omega, ⟨⟨rfl, rfl, rfl, rfl, rfl, rfl, trivial⟩, trivial, rfl, rfl⟩⟩
            · refine call_own (partition_spec (pivot := p) hs3 (by omega) (by omega) hb hn) fun v μ6 h' hle' hap hR => ?_
              obtain ⟨⟨ap, rfl⟩, e1, rfl⟩ := hR
              obtain rfl := e1.symm
              obtain ⟨mid, ap', d4, hx⟩ : ∃ mid ap' d4, partition ltInt d3 a b (p) = (mid, ap', d4) := ⟨_, _, _, rfl⟩
              rw [hx]
              have hv_ := round_part swo_ltInt (partition_holds ltInt) (by omega) (by omega) (by omega) hB hx
              obtain ⟨q1, q2, q3, q4, q5, q6, q7⟩ := hv_
              refine num_eq (x := ((mid - a : Nat) : Int)) (by rw [wrap64 (by omega) (by omega)]; omega) ?_
              refine num_eq (x := ((b - mid : Nat) : Int)) (by rw [wrap64 (by omega) (by omega)]; omega) ?_
              refine need_intro (by decide) ?_
              refine num_eq (x := (((b - a) / 8 : Nat) : Int)) (by rw [Int.tdiv_eq_ediv_of_nonneg (by omega), wrap64 (by omega) (by omega)]; omega) ?_
              refine ifd (fun hlt => ?_) (fun hlt => ?_)
              · refine call_own (ih a mid (limit) d4 _ (by omega) (by omega) (by omega) (q3.trans hs3) (by omega) q4) fun v μ7 h' hle7 hap hR => ?_
                obtain ⟨rfl, L, g1, g2, rfl⟩ := hR
                have hv_ := q6 L g1 g2
                obtain ⟨g3, g4⟩ := hv_
                refine num_eq (x := ((mid + 1 : Nat) : Int)) (by rw [wrap64 (by omega) (by omega)]; omega) ?_
                exact ⟨(mid + 1, b, limit, _, ap, L, μ7), ⟨by dsimp only; omega, hb, by dsimp only; omega, by dsimp only; omega, g1.1.trans (q3.trans hs3), g3, hle.trans hle7, fun R h1 h2 => hfin R (g4 R h1 h2).1 (g4 R h1 h2).2⟩, by dsimp only; omega, ⟨⟨rfl, rfl, rfl, rfl, rfl, rfl, trivial⟩, trivial, rfl, rfl⟩⟩
              · refine num_eq (x := ((mid + 1 : Nat) : Int)) (by rw [wrap64 (by omega) (by omega)]; omega) ?_
                refine call_own (ih (mid + 1) b (limit) d4 _ (by omega) (by omega) (by omega) (q3.trans hs3) (by omega) q5) fun v μ7 h' hle7 hap hR => ?_
                obtain ⟨rfl, L, g1, g2, rfl⟩ := hR
                have hv_ := q7 L g1 g2
                obtain ⟨g3, g4⟩ := hv_
                exact ⟨(a, mid, limit, _, ap, L, μ7), ⟨by dsimp only; omega, by dsimp only; omega, by dsimp only; omega, by dsimp only; omega, g1.1.trans (q3.trans hs3), g3, hle.trans hle7, fun R h1 h2 => hfin R (g4 R h1 h2).1 (g4 R h1 h2).2⟩, by dsimp only; omega, ⟨⟨rfl, rfl, rfl, rfl, rfl, rfl, trivial⟩, trivial, rfl, rfl⟩⟩
        · refine ifd (fun ha0 => ?_) (fun ha0 => ?_)
          · refine num_eq (x := ((a - 1 : Nat) : Int)) (by rw [wrap64 (by omega) (by omega)]; omega) ?_
            refine idxI (a - 1) (by omega) (by omega) ?_
            refine rdI (by omega) ?_
            refine idxI (p) (by omega) (by omega) ?_
            refine rdI (by omega) ?_
            refine call_gives (Less_spec _ _) ?_
            refine if_intro (fun hnl => ?_) (fun hnl => ?_)
            · refine call_own (partitionEqual_spec (pivot := p) hs1 (by omega) (by omega) hb hn) fun v μ6 h' hle' hap hR => ?_
              obtain ⟨rfl, e1, rfl⟩ := hR
              obtain rfl := e1.symm
              obtain ⟨mid, d4, hx⟩ : ∃ mid d4, partitionEqual ltInt d a b (p) = (mid, d4) := ⟨_, _, rfl⟩
              rw [hx]
              have q := round_eq swo_ltInt (partitionEqual_holds ltInt) (by omega) (by omega) (by omega) (by omega) hB (by simpa using hnl) hx
              have qa := q.1
              exact ⟨(mid, b, limit, true, wp, d4, _), ⟨q.2.1, hb, by dsimp only; omega, by dsimp only; omega, q.2.2.1.trans hs1, q.2.2.2.1, hle, fun R h1 h2 => hfin R (q.2.2.2.2 R h1 h2).1 (q.2.2.2.2 R h1 h2).2⟩, by dsimp only; omega, ⟨⟨rfl, rfl, rfl, rfl, rfl, rfl, trivial⟩, trivial, rfl, rfl⟩⟩
            · refine call_own (partition_spec (pivot := p) hs1 (by omega) (by omega) hb hn) fun v μ6 h' hle' hap hR => ?_
              obtain ⟨⟨ap, rfl⟩, e1, rfl⟩ := hR
              obtain rfl := e1.symm
              obtain ⟨mid, ap', d4, hx⟩ : ∃ mid ap' d4, partition ltInt d a b (p) = (mid, ap', d4) := ⟨_, _, _, rfl⟩
              rw [hx]
              have hv_ := round_part swo_ltInt (partition_holds ltInt) (by omega) (by omega) (by omega) hB hx
              obtain ⟨q1, q2, q3, q4, q5, q6, q7⟩ := hv_
              refine num_eq (x := ((mid - a : Nat) : Int)) (by rw [wrap64 (by omega) (by omega)]; omega) ?_
              refine num_eq (x := ((b - mid : Nat) : Int)) (by rw [wrap64 (by omega) (by omega)]; omega) ?_
              refine need_intro (by decide) ?_
              refine num_eq (x := (((b - a) / 8 : Nat) : Int)) (by rw [Int.tdiv_eq_ediv_of_nonneg (by omega), wrap64 (by omega) (by omega)]; omega) ?_
              refine ifd (fun hlt => ?_) (fun hlt => ?_)
              · refine call_own (ih a mid (limit) d4 _ (by omega) (by omega) (by omega) (q3.trans hs1) (by omega) q4) fun v μ7 h' hle7 hap hR => ?_
                obtain ⟨rfl, L, g1, g2, rfl⟩ := hR
                have hv_ := q6 L g1 g2
                obtain ⟨g3, g4⟩ := hv_
                refine num_eq (x := ((mid + 1 : Nat) : Int)) (by rw [wrap64 (by omega) (by omega)]; omega) ?_
                exact ⟨(mid + 1, b, limit, _, ap, L, μ7), ⟨by dsimp only; omega, hb, by dsimp only; omega, by dsimp only; omega, g1.1.trans (q3.trans hs1), g3, hle.trans hle7, fun R h1 h2 => hfin R (g4 R h1 h2).1 (g4 R h1 h2).2⟩, by dsimp only; omega, ⟨⟨rfl, rfl, rfl, rfl, rfl, rfl, trivial⟩, trivial, rfl, rfl⟩⟩
              · refine num_eq (x := ((mid + 1 : Nat) : Int)) (by rw [wrap64 (by omega) (by omega)]; omega) ?_
                refine call_own (ih (mid + 1) b (limit) d4 _ (by omega) (by omega) (by omega) (q3.trans hs1) (by omega) q5) fun v μ7 h' hle7 hap hR => ?_
                obtain ⟨rfl, L, g1, g2, rfl⟩ := hR
                have hv_ := q7 L g1 g2
                obtain ⟨g3, g4⟩ := hv_
                exact ⟨(a, mid, limit, _, ap, L, μ7), ⟨by dsimp only; omega, by dsimp only; omega, by dsimp only; omega, by dsimp only; omega, g1.1.trans (q3.trans hs1), g3, hle.trans hle7, fun R h1 h2 => hfin R (g4 R h1 h2).1 (g4 R h1 h2).2⟩, by dsimp only; omega, ⟨⟨rfl, rfl, rfl, rfl, rfl, rfl, trivial⟩, trivial, rfl, rfl⟩⟩
          · refine call_own (partition_spec (pivot := p) hs1 (by omega) (by omega) hb hn) fun v μ6 h' hle' hap hR => ?_
            obtain ⟨⟨ap, rfl⟩, e1, rfl⟩ := hR
            obtain rfl := e1.symm
            obtain ⟨mid, ap', d4, hx⟩ : ∃ mid ap' d4, partition ltInt d a b (p) = (mid, ap', d4) := ⟨_, _, _, rfl⟩
            rw [hx]
            have hv_ := round_part swo_ltInt (partition_holds ltInt) (by omega) (by omega) (by omega) hB hx
            obtain ⟨q1, q2, q3, q4, q5, q6, q7⟩ := hv_
            refine num_eq (x := ((mid - a : Nat) : Int)) (by rw [wrap64 (by omega) (by omega)]; omega) ?_
            refine num_eq (x := ((b - mid : Nat) : Int)) (by rw [wrap64 (by omega) (by omega)]; omega) ?_
            refine need_intro (by decide) ?_
            refine num_eq (x := (((b - a) / 8 : Nat) : Int)) (by rw [Int.tdiv_eq_ediv_of_nonneg (by omega), wrap64 (by omega) (by omega)]; omega) ?_
            refine ifd (fun hlt => ?_) (fun hlt => ?_)
            · refine call_own (ih a mid (limit) d4 _ (by omega) (by omega) (by omega) (q3.trans hs1) (by omega) q4) fun v μ7 h' hle7 hap hR => ?_
              obtain ⟨rfl, L, g1, g2, rfl⟩ := hR
              have hv_ := q6 L g1 g2
              obtain ⟨g3, g4⟩ := hv_
              refine num_eq (x := ((mid + 1 : Nat) : Int)) (by rw [wrap64 (by omega) (by omega)]; omega) ?_
              exact ⟨(mid + 1, b, limit, _, ap, L, μ7), ⟨by dsimp only; omega, hb, by dsimp only; omega, by dsimp only; omega, g1.1.trans (q3.trans hs1), g3, hle.trans hle7, fun R h1 h2 => hfin R (g4 R h1 h2).1 (g4 R h1 h2).2⟩, by dsimp only; omega, ⟨⟨rfl, rfl, rfl, rfl, rfl, rfl, trivial⟩, trivial, rfl, rfl⟩⟩
            · refine num_eq (x := ((mid + 1 : Nat) : Int)) (by rw [wrap64 (by omega) (by omega)]; omega) ?_
              refine call_own (ih (mid + 1) b (limit) d4 _ (by omega) (by omega) (by omega) (q3.trans hs1) (by omega) q5) fun v μ7 h' hle7 hap hR => ?_
              obtain ⟨rfl, L, g1, g2, rfl⟩ := hR
              have hv_ := q7 L g1 g2
              obtain ⟨g3, g4⟩ := hv_
              exact ⟨(a, mid, limit, _, ap, L, μ7), ⟨by dsimp only; omega, by dsimp only; omega, by dsimp only; omega, by dsimp only; omega, g1.1.trans (q3.trans hs1), g3, hle.trans hle7, fun R h1 h2 => hfin R (g4 R h1 h2).1 (g4 R h1 h2).2⟩, by dsimp only; omega, ⟨⟨rfl, rfl, rfl, rfl, rfl, rfl, trivial⟩, trivial, rfl, rfl⟩⟩
      · refine ifd (fun ha0 => ?_) (fun ha0 => ?_)
        · refine num_eq (x := ((a - 1 : Nat) : Int)) (by rw [wrap64 (by omega) (by omega)]; omega) ?_
          refine idxI (a - 1) (by omega) (by omega) ?_
          refine rdI (by omega) ?_
          refine idxI (p) (by omega) (by omega) ?_
          refine rdI (by omega) ?_
          refine call_gives (Less_spec _ _) ?_
          refine if_intro (fun hnl => ?_) (fun hnl => ?_)
          · refine call_own (partitionEqual_spec (pivot := p) hs1 (by omega) (by omega) hb hn) fun v μ6 h' hle' hap hR => ?_
            obtain ⟨rfl, e1, rfl⟩ := hR
            obtain rfl := e1.symm
            obtain ⟨mid, d4, hx⟩ : ∃ mid d4, partitionEqual ltInt d a b (p) = (mid, d4) := ⟨_, _, rfl⟩
            rw [hx]
            have q := round_eq swo_ltInt (partitionEqual_holds ltInt) (by omega) (by omega) (by omega) (by omega) hB (by simpa using hnl) hx
            have qa := q.1
            exact ⟨(mid, b, limit, true, wp, d4, _), ⟨q.2.1, hb, by dsimp only; omega, by dsimp only; omega, q.2.2.1.trans hs1, q.2.2.2.1, hle, fun R h1 h2 => hfin R (q.2.2.2.2 R h1 h2).1 (q.2.2.2.2 R h1 h2).2⟩, by dsimp only; omega, ⟨⟨rfl, rfl, rfl, rfl, rfl, rfl, trivial⟩, trivial, rfl, rfl⟩⟩
          · refine call_own (partition_spec (pivot := p) hs1 (by omega) (by omega) hb hn) fun v μ6 h' hle' hap hR => ?_
            obtain ⟨⟨ap, rfl⟩, e1, rfl⟩ := hR
            obtain rfl := e1.symm
            obtain ⟨mid, ap', d4, hx⟩ : ∃ mid ap' d4, partition ltInt d a b (p) = (mid, ap', d4) := ⟨_, _, _, rfl⟩
            rw [hx]
            have hv_ := round_part swo_ltInt (partition_holds ltInt) (by omega) (by omega) (by omega) hB hx
            obtain ⟨q1, q2, q3, q4, q5, q6, q7⟩ := hv_
            refine num_eq (x := ((mid - a : Nat) : Int)) (by rw [wrap64 (by omega) (by omega)]; omega) ?_
            refine num_eq (x := ((b - mid : Nat) : Int)) (by rw [wrap64 (by omega) (by omega)]; omega) ?_
            refine need_intro (by decide) ?_
            refine num_eq (x := (((b - a) / 8 : Nat) : Int)) (by rw [Int.tdiv_eq_ediv_of_nonneg (by omega), wrap64 (by omega) (by omega)]; omega) ?_
            refine ifd (fun hlt => ?_) (fun hlt => ?_)
            · refine call_own (ih a mid (limit) d4 _ (by omega) (by omega) (by omega) (q3.trans hs1) (by omega) q4) fun v μ7 h' hle7 hap hR => ?_
              obtain ⟨rfl, L, g1, g2, rfl⟩ := hR
              have hv_ := q6 L g1 g2
              obtain ⟨g3, g4⟩ := hv_
              refine num_eq (x := ((mid + 1 : Nat) : Int)) (by rw [wrap64 (by omega) (by omega)]; omega) ?_
              exact ⟨(mid + 1, b, limit, _, ap, L, μ7), ⟨by dsimp only; omega, hb, by dsimp only; omega, by dsimp only; omega, g1.1.trans (q3.trans hs1), g3, hle.trans hle7, fun R h1 h2 => hfin R (g4 R h1 h2).1 (g4 R h1 h2).2⟩, by dsimp only; omega, ⟨⟨rfl, rfl, rfl, rfl, rfl, rfl, trivial⟩, trivial, rfl, rfl⟩⟩
            · refine num_eq (x := ((mid + 1 : Nat) : Int)) (by rw [wrap64 (by omega) (by omega)]; omega) ?_
              refine call_own (ih (mid + 1) b (limit) d4 _ (by omega) (by omega) (by omega) (q3.trans hs1) (by omega) q5) fun v μ7 h' hle7 hap hR => ?_
              obtain ⟨rfl, L, g1, g2, rfl⟩ := hR
              have hv_ := q7 L g1 g2
              obtain ⟨g3, g4⟩ := hv_
              exact ⟨(a, mid, limit, _, ap, L, μ7), ⟨by dsimp only; omega, by dsimp only; omega, by dsimp only; omega, by dsimp only; omega, g1.1.trans (q3.trans hs1), g3, hle.trans hle7, fun R h1 h2 => hfin R (g4 R h1 h2).1 (g4 R h1 h2).2⟩, by dsimp only; omega, ⟨⟨rfl, rfl, rfl, rfl, rfl, rfl, trivial⟩, trivial, rfl, rfl⟩⟩
        · refine call_own (partition_spec (pivot := p) hs1 (by omega) (by omega) hb hn) fun v μ6 h' hle' hap hR => ?_
          obtain ⟨⟨ap, rfl⟩, e1, rfl⟩ := hR
          obtain rfl := e1.symm
          obtain ⟨mid, ap', d4, hx⟩ : ∃ mid ap' d4, partition ltInt d a b (p) = (mid, ap', d4) := ⟨_, _, _, rfl⟩
          rw [hx]
          have hv_ := round_part swo_ltInt (partition_holds ltInt) (by omega) (by omega) (by omega) hB hx
          obtain ⟨q1, q2, q3, q4, q5, q6, q7⟩ := hv_
          refine num_eq (x := ((mid - a : Nat) : Int)) (by rw [wrap64 (by omega) (by omega)]; omega) ?_
          refine num_eq (x := ((b - mid : Nat) : Int)) (by rw [wrap64 (by omega) (by omega)]; omega) ?_
          refine need_intro (by decide) ?_
          refine num_eq (x := (((b - a) / 8 : Nat) : Int)) (by rw [Int.tdiv_eq_ediv_of_nonneg (by omega), wrap64 (by omega) (by omega)]; omega) ?_
          refine ifd (fun hlt => ?_) (fun hlt => ?_)
          · refine call_own (ih a mid (limit) d4 _ (by omega) (by omega) (by omega) (q3.trans hs1) (by omega) q4) fun v μ7 h' hle7 hap hR => ?_
            obtain ⟨rfl, L, g1, g2, rfl⟩ := hR
            have hv_ := q6 L g1 g2
            obtain ⟨g3, g4⟩ := hv_
            refine num_eq (x := ((mid + 1 : Nat) : Int)) (by rw [wrap64 (by omega) (by omega)]; omega) ?_
            exact ⟨(mid + 1, b, limit, _, ap, L, μ7), ⟨by dsimp only; omega, hb, by dsimp only; omega, by dsimp only; omega, g1.1.trans (q3.trans hs1), g3, hle.trans hle7, fun R h1 h2 => hfin R (g4 R h1 h2).1 (g4 R h1 h2).2⟩, by dsimp only; omega, ⟨⟨rfl, rfl, rfl, rfl, rfl, rfl, trivial⟩, trivial, rfl, rfl⟩⟩
          · refine num_eq (x := ((mid + 1 : Nat) : Int)) (by rw [wrap64 (by omega) (by omega)]; omega) ?_
            refine call_own (ih (mid + 1) b (limit) d4 _ (by omega) (by omega) (by omega) (q3.trans hs1) (by omega) q5) fun v μ7 h' hle7 hap hR => ?_
            obtain ⟨rfl, L, g1, g2, rfl⟩ := hR
            have hv_ := q7 L g1 g2
            obtain ⟨g3, g4⟩ := hv_
            exact ⟨(a, mid, limit, _, ap, L, μ7), ⟨by dsimp only; omega, by dsimp only; omega, by dsimp only; omega, by dsimp only; omega, g1.1.trans (q3.trans hs1), g3, hle.trans hle7, fun R h1 h2 => hfin R (g4 R h1 h2).1 (g4 R h1 h2).2⟩, by dsimp only; omega, ⟨⟨rfl, rfl, rfl, rfl, rfl, rfl, trivial⟩, trivial, rfl, rfl⟩⟩
end
end Go.Vx

/- Contracts: sort.Ints. -/
namespace Go.Vx
open Go.Proofs Classical
open Go.Sort
section
variable {h0 μ : Mem} {r : Nat} {ty : TypeId} {rest : List Value}
theorem Sort_spec {n cap : Nat} {d : Array Int} (hr : h0 r = none) (hd : d.size = n) (hn : n ≤ 1000000000000) :
    SpecH Tryz.prog 342 [.slice (some ⟨r, 0, none⟩) n cap] μ (RowI h0 r ty rest d) fun v _μ' h' => v = .tuple #[] ∧ h' = RowI h0 r ty rest (d.toList.mergeSort fun x y => decide (x ≤ y)).toArray := by
  refine SpecH.mk [] Tryz.func342 (by kernel_rfl) ?_
  refine num_eq (x := (n : Int)) (by
    show (n : Int) % 18446744073709551616 = _
    omega) ?_
  refine call_gives (Len_spec (by omega)) ?_
  have hL : bitsLen n ≤ 40 := (bitsLen_le_iff n 40).2 (by omega)
  refine call_own (pdqsort_spec hr hn (n + 1) 0 n (bitsLen n) d μ (by omega) (by omega) (Nat.le_refl _) hd (by omega) (.inl rfl)) fun v μ' h' hle hap hR => ?_
  obtain ⟨rfl, d', p1, p2, rfl⟩ := hR
  have e := sorted_unique_holds (lt := ltInt) swo_ltInt (fun x y h1 h2 => by
    simp only [ltInt, decide_eq_false_iff_not] at h1 h2
    omega) d d' (by rw [hd]; exact p1) (by rw [hd]; exact p2)
  have e2 : (fun x y => !ltInt y x) = fun x y : Int => decide (x ≤ y) := by
    funext x y
    simp only [ltInt]
    by_cases h : x ≤ y
    · rw [decide_eq_true h, decide_eq_false (by omega)]; rfl
    · rw [decide_eq_false h, decide_eq_true (by omega)]; rfl
  rw [e2] at e
  refine ret_plain ⟨rfl, ?_⟩
  rw [← e]
theorem Ints_spec {n cap : Nat} {d : Array Int} (hr : h0 r = none) (hd : d.size = n) (hn : n ≤ 1000000000000) :
    SpecH Tryz.prog 335 [.slice (some ⟨r, 0, none⟩) n cap] μ (RowI h0 r ty rest d) fun v _μ' h' => v = .tuple #[] ∧ h' = RowI h0 r ty rest (d.toList.mergeSort fun x y => decide (x ≤ y)).toArray := by
  refine SpecH.mk [] Tryz.func335 (by kernel_rfl) ?_
  refine call_own (Sort_spec hr hd hn) fun v μ' h' hle hap hR => ?_
  obtain ⟨rfl, rfl⟩ := hR
  exact ret_plain ⟨rfl, rfl⟩
end
end Go.Vx

/- Contracts: the sorted keys of a map of numbers. -/
namespace Go.Vx
open Go.Proofs Classical
open Go.Sort
theorem keys_ints {l : List (Value × Value)} (h : MapOk IntKey l) : ∃ ks : List Int, l.map Prod.fst = ints ks ∧ ks.Nodup := by
  have h1 : ∀ (l : List (Value × Value)), (∀ p ∈ l, IntKey p.1) → ∃ ks : List Int, l.map Prod.fst = ints ks := fun l => by
    induction l with
    | nil => intro _; exact ⟨[], rfl⟩
    | cons p l ih =>
      intro h
      have hv_ := ih fun q hq => h q (by simp [hq])
      obtain ⟨ks, hks⟩ := hv_
      have hv_ := h p (by simp)
      obtain ⟨n, hn⟩ := hv_
      exact ⟨n :: ks, by rw [List.map_cons, hks, hn]; rfl⟩
  have hv_ := h1 l h.keys
  obtain ⟨ks, hks⟩ := hv_
  refine ⟨ks, hks, ?_⟩
  have hn := h.nodup
  rw [hks, ints] at hn
  exact List.Pairwise.of_map (S := fun a b => a ≠ b) _ (fun a b hab e => hab (by rw [e])) hn
theorem mget_keys {l : List (Value × Value)} {ks : List Int} (h : l.map Prod.fst = ints ks) (n : Int) : (mget l (.int .i64 n)).isSome ↔ n ∈ ks := by
  have e : n ∈ ks ↔ Value.int .i64 n ∈ l.map Prod.fst := by
    rw [h, ints, List.mem_map]
    exact ⟨fun k => ⟨n, k, rfl⟩, fun ⟨m, k, e⟩ => by cases e; exact k⟩
  rw [e]
  clear e h
  induction l with
  | nil => simp [mget]
  | cons p l ih =>
    obtain ⟨a, v⟩ := p
    rw [mget]
    by_cases h : a = .int .i64 n
    · rw [if_pos h]; simp [h]
    · rw [if_neg h]
      refine ih.trans ?_
      simp only [List.map_cons, List.mem_cons]
      exact ⟨.inr, fun k => k.elim (fun e => absurd e.symm h) id⟩
theorem nodup_len {N : Nat} {l : List Nat} (h : l.Nodup) (hb : ∀ j ∈ l, j < N) : l.length ≤ N := by
  have h1 : (l.map fun j : Nat => (j : Int)).Nodup := List.Pairwise.map (S := fun a b => a ≠ b) _ (fun a b hab e => hab (by omega)) h
  have := nodup_range (N := N) h1 fun n hn => by
    have hv_ := List.mem_map.1 hn
    obtain ⟨j, hj, rfl⟩ := hv_
    have := hb j hj; omega
  rwa [List.length_map] at this
theorem ints_own : ∀ l : List Int, OwnRows 1 (l.map D.i) (ints l) Mem.nil
  | [] => OwnRows.nil 1
  | n :: l => ⟨by
      have := (ints_own l).own
      exact OwnS.int this, by
      intro x hx
      have hv_ := List.mem_map.1 hx
      obtain ⟨m, _, rfl⟩ := hv_
      rfl, by simp [ints]⟩
theorem srt_lt (D : List Int) (h : D.Nodup) : (D.mergeSort fun x y => decide (x ≤ y)).Pairwise (· < ·) := by
  have h1 := List.pairwise_mergeSort (le := fun x y : Int => decide (x ≤ y)) (fun a b c h1 h2 => by simp at *; omega) (fun a b => by simp; omega) D
  have h2 : (D.mergeSort fun x y => decide (x ≤ y)).Nodup := ((List.mergeSort_perm D _).nodup_iff).2 h
  rw [List.nodup_iff_pairwise_ne] at h2
  exact List.Pairwise.imp (fun ⟨a, b⟩ => by simp at a; omega) (h1.and h2)
theorem getD_at {ks : List Int} {j : Nat} (h : j < ks.length) : ks[j]? = some (ks.getD j 0) := by
  rw [List.getD_eq_getElem?_getD, List.getElem?_eq_getElem h]; rfl
theorem picked {ks : List Int} (hnd : ks.Nodup) {seen : List Nat} (hsn : seen.Nodup) (hsl : ∀ j ∈ seen, j < ks.length) : (seen.map fun j => ks.getD j 0).Nodup := by
  rw [List.nodup_iff_pairwise_ne, List.pairwise_map]
  rw [List.nodup_iff_pairwise_ne] at hsn
  refine hsn.imp_of_mem fun {a b} ha hb hab e => hab ?_
  have h1 := idx_at hnd (getD_at (hsl a ha))
  have h2 := idx_at hnd (getD_at (hsl b hb))
  rw [e] at h1
  omega
theorem picked_mem {ks : List Int} {seen : List Nat} (hsl : ∀ j ∈ seen, j < ks.length) (hall : ∀ j, j < ks.length → j ∈ seen) (n : Int) : n ∈ (seen.map fun j => ks.getD j 0) ↔ n ∈ ks := by
  rw [List.mem_map]
  constructor
  · rintro ⟨j, hj, rfl⟩
    exact List.mem_of_getElem? (getD_at (hsl j hj))
  · intro h
    have hv_ := List.mem_iff_getElem?.1 h
    obtain ⟨j, hj⟩ := hv_
    have hjl := (List.getElem?_eq_some_iff.1 hj).1
    refine ⟨j, hall j hjl, ?_⟩
    rw [getD_at hjl] at hj
    exact Option.some.inj hj
section
variable {μ h : Mem}
theorem sortedInts_spec {m : Nat} {l : List (Value × Value)} (hm : h m = some (mapO l)) (hk : MapOk IntKey l) (hn : l.length ≤ 1000000) :
    SpecH Tryz.prog 323 [.map (some m)] μ h fun v μ' h' => h' = h ∧ ∃ xs : List Int, (∀ n, n ∈ xs ↔ (mget l (.int .i64 n)).isSome) ∧ xs.Pairwise (· < ·) ∧ Fresh μ μ' (.sl 1 (xs.map D.i)) v := by
  have hv_ := keys_ints hk
  obtain ⟨ks, hks, hnd⟩ := hv_
  have hkl : ks.length = l.length := by
    have := congrArg List.length hks
    simpa [ints] using this.symm
  refine SpecH.mk [] Tryz.func323 (by kernel_rfl) ?_
  intro r5
  refine mlen_intro l hm ?_
  intro ri hmi hoi
  have hne : m ≠ ri := ne_of_none hm hoi
  refine loop_intro (fun p : List Nat × Option Nat × Nat × List Value => p.2.1 ≠ none ∧ p.1.Nodup ∧ (∀ j ∈ p.1, j < l.length) ∧ p.2.2.2 = ints (p.1.map fun j => ks.getD j 0))
    (fun (seen, b, c, ys) => ⟨[(3, .row 0 b ys.length c), (7, .val (.pointer (some ⟨ri, 0, none⟩)))], [(0, some (.row b c 3 1 ys))], 1, μ, h.set ri (iterO m l.length seen l.length)⟩) (fun p => l.length - p.1.length)
    ([], some r5, 0, []) ⟨by simp, by simp, by simp, rfl⟩ (fun (_, _, _, _) => ⟨rfl, rfl⟩) ⟨⟨rfl, rfl, trivial⟩, ⟨rfl, trivial⟩, rfl, rfl⟩ ?_
  rintro ⟨seen, b, c, ys⟩ ⟨hb, hsn, hsl, hys⟩
  dsimp only at hb hsn hsl hys
  have hslen := nodup_len hsn hsl
  refine next_intro m seen l.length l (Mem.set_at _ _ _) ((Mem.set_ne hne).trans hm) (Nat.le_refl _) (fun hall => ?_) (fun j k v hj hns => ?_)
  rotate_left
  · have hjl := (List.getElem?_eq_some_iff.1 hj).1
    have hkj : k = .int .i64 (ks.getD j 0) := by
      have h1 : (l.map Prod.fst)[j]? = some k := by simp [hj]
      rw [hks, ints, List.getElem?_map] at h1
      have h2 : j < ks.length := by omega
      rw [List.getElem?_eq_getElem h2] at h1
      simp only [Option.map_some, Option.some.injEq] at h1
      rw [← h1, List.getD_eq_getElem?_getD, List.getElem?_eq_getElem h2]; rfl
    subst hkj
    rw [Mem.set_set]
    refine if_intro (fun _ => ?_) (fun h => nomatch h)
    refine ent_intro m l.length seen j l _ v (Mem.set_at _ _ _) ((Mem.set_ne hne).trans hm) hj ?_
    intro r6
    have hyl : ys.length = seen.length := by rw [hys]; simp [ints]
    refine grow_intro ?_ ?_ fun b' c' hb' => ?_
    · show (ys.length + 1) * 8 ≤ _; omega
    · exact Nat.le_trans (m := 100000000) (show ys.length + 1 ≤ _ by omega) (by decide)
    have hsl2 : ∀ i ∈ seen ++ [j], i < l.length := fun i hi => by
      rcases List.mem_append.1 hi with hi | hi
      · exact hsl i hi
      · rw [List.mem_singleton] at hi; subst hi; exact hjl
    have hsn2 : (seen ++ [j]).Nodup := by
      rw [List.nodup_append]
      refine ⟨hsn, by simp, fun a ha b hb e => ?_⟩
      rw [List.mem_singleton] at hb
      subst hb; subst e; exact hns ha
    have hs3 := nodup_len hsn2 hsl2
    rw [List.length_append, List.length_singleton] at hs3
    exact ⟨(seen ++ [j], b', c', ys ++ [.int .i64 (ks.getD j 0)]), ⟨by
      dsimp only
      intro e
      have := hb' e
      simp at this, hsn2, hsl2, by dsimp only; rw [List.map_append, ints, List.map_append, hys]; rfl⟩, by dsimp only; rw [List.length_append, List.length_singleton]; omega, ⟨⟨rfl, rfl, trivial⟩, ⟨rfl, trivial⟩, rfl, rfl⟩⟩
  · refine if_intro (fun h => nomatch h) (fun _ => ?_)
    have hp := picked hnd hsn (by rw [hkl]; exact hsl)
    have hpm := picked_mem (by rw [hkl]; exact hsl) (by rw [hkl]; exact hall) (ks := ks) (seen := seen)
    have hDs : (seen.map (fun j => ks.getD j 0)).length = seen.length := by simp
    generalize seen.map (fun j => ks.getD j 0) = D at *
    subst hys
    have hv_ := Option.ne_none_iff_exists'.1 hb
    obtain ⟨b0, rfl⟩ := hv_
    have hDl : (ints D).length = D.length := by simp [ints]
    refine call_gen [] [0] (fun h => nomatch h) ?_
    intro h' hmem hgiven
    obtain ⟨hb0, hlen, hcap, hone, cs, rfl, hcs, htake⟩ := hgiven
    replace hb0 : (Mem.set h ri (iterO m l.length seen l.length)) b0 = none := hb0
    replace hmem : μ b0 = none := hmem b0 rfl
    obtain ⟨rest, rfl⟩ : ∃ rest, cs = ints D ++ rest := by
      refine ⟨cs.drop ((ints D).length * 1), ?_⟩
      rw [ints_flat] at htake
      conv => lhs; rw [← List.take_append_drop ((ints D).length * 1) cs, htake]
    have hD6 : D.length ≤ 1000000000000 := by omega
    refine own_go (Ints_spec (h0 := h.set ri (iterO m l.length seen l.length)) (r := b0) (ty := 3) (rest := rest) (d := D.toArray) hb0 (by simp [ints]) (by omega)) fun v μ' h'' hle hap hR => ?_
    obtain ⟨rfl, rfl⟩ := hR
    have f1 : (D.toArray.toList.mergeSort fun x y => decide (x ≤ y)).Pairwise (· < ·) := srt_lt D hp
    have f2 : ∀ n, n ∈ (D.toArray.toList.mergeSort fun x y => decide (x ≤ y)) ↔ n ∈ D := fun n => (List.mergeSort_perm D _).mem_iff
    have f3 : (D.toArray.toList.mergeSort fun x y => decide (x ≤ y)).length = D.length := (List.mergeSort_perm D _).length_eq
    generalize (D.toArray.toList.mergeSort fun x y => decide (x ≤ y)) = S at *
    have hbr : b0 ≠ ri := fun e => by subst e; rw [Mem.set_at] at hb0; cases hb0
    have hhb : h b0 = none := by rwa [Mem.set_ne hbr] at hb0
    have hb1 : μ' b0 = none := by
      cases e : μ' b0 with
      | none => rfl
      | some o => have := hap b0 (by simp [e]); rw [RowI, Mem.set_at] at this; cases this
    have hSl : (ints S).length = S.length := by simp [ints]
    refine ret_own ((Mem.nil.set ri (iterO m l.length seen l.length)).set b0 (.cells (List.toArray ([] ++ (S.toArray.toList.map (Value.int .i64) ++ rest))) 3 (0, 0))) h ?_ ⟨rfl, S, fun n => (f2 n).trans ((hpm n).trans (mget_keys hks n).symm), f1, ?_⟩
    · show Parts (RowI (h.set ri (iterO m l.length seen l.length)) b0 3 rest S.toArray) _ h
      replace hoi : h ri = none := hoi
      intro x
      by_cases h1 : x = b0
      · subst h1; exact .inl ⟨by rw [RowI, Mem.set_at, Mem.set_at], hhb⟩
      · by_cases h2 : x = ri
        · subst h2; exact .inl ⟨by rw [RowI, Mem.set_ne h1, Mem.set_ne h1, Mem.set_at, Mem.set_at], hoi⟩
        · exact .inr ⟨by rw [RowI, Mem.set_ne h1, Mem.set_ne h2], by rw [Mem.set_ne h1, Mem.set_ne h2]; rfl⟩
    · have F := Fresh.ofRow (μ := μ) (μ1 := μ) (μ' := μ'.join ((Mem.nil.set ri (iterO m l.length seen l.length)).set b0 (.cells (List.toArray ([] ++ (S.toArray.toList.map (Value.int .i64) ++ rest))) 3 (0, 0)))) (b := some b0) (cap := c) (ints_own S) (fun _ _ h => nomatch h) (fun _ h => absurd rfl h) (Mem.Le.refl _) (hle.trans (Mem.le_join _ _)) (fun r e => by cases e; exact hmem)
        ⟨by omega, fun x hx => by
          have hv_ := List.mem_map.1 hx
          obtain ⟨n, _, rfl⟩ := hv_
          exact ⟨rfl, by simp [vcells, Value.oneCell']⟩, _, _, by rw [Mem.join_get, hb1, Mem.set_at], by
            simp only [List.length_append, ints, List.length_map] at hcs
            simp [f3]; omega, by rw [ints_flat]; simp [ints]⟩ (Nat.le_trans (m := 1000000) (by omega) (by decide))
      have e : (ints D).length = (ints S).length := by omega
      show Fresh μ _ (.sl 1 (S.map Go.Vx.D.i)) (.slice _ (ints D).length c)
      rw [e]; exact F
end
end Go.Vx

/- Contracts: the laws' own functions on values of the type Goal: sizes, copies, equality, marks; what an argument reads. (By gen_types.py.) -/
namespace Go.Vx
open Go.Proofs Classical
inductive Gl where
  | mk (kind : Int) (name : ByteArray) (terms : List Tm) (goals : List Gl)
def Gl.kind : Gl → Int | .mk a _ _ _ => a
def Gl.name : Gl → ByteArray | .mk _ a _ _ => a
def Gl.terms : Gl → List Tm | .mk _ _ a _ => a
def Gl.goals : Gl → List Gl | .mk _ _ _ a => a
theorem Gl.ind {q : Gl → Prop} (h : ∀ x : Gl, (∀ y ∈ x.goals, q y) → q x) : ∀ x, q x
  | .mk a0 a1 a2 a3 => h _ fun y hy => have _ := hy; Gl.ind h y
termination_by x => x
decreasing_by all_goals (first | exact Nat.lt_of_lt_of_le (List.sizeOf_lt_of_mem hy) (by simp only [Gl.goals, Gl.mk.sizeOf_spec]; omega) | decreasing_tactic)
mutual
def Gl.d : Gl → D
  | .mk a0 a1 a2 a3 => .st [.i a0, .s a1, .sl 4 (a2.map Tm.d), .sl 4 (Gl.ds a3)]
def Gl.ds : List Gl → List D
  | [] => []
  | t :: r => t.d :: Gl.ds r
end
theorem Gl.ds_map : ∀ l : List Gl, Gl.ds l = l.map Gl.d
  | [] => rfl
  | t :: r => by simp [Gl.ds, Gl.ds_map r]
theorem Gl.d_eq (x : Gl) : x.d = .st [.i x.kind, .s x.name, .sl 4 (x.terms.map Tm.d), .sl 4 (x.goals.map Gl.d)] := by
  cases x
  rw [Gl.d, Gl.ds_map]
  rfl
theorem Gl.d_n (x : Gl) : x.d.n = 4 := by
  rw [Gl.d_eq]
  simp only [D.n, D.ns]
abbrev Gl.P := (Option Addr × Nat) × (Option Addr × Nat)
/-- The cells of a value. -/
def Gl.cs (x : Gl) (p : Gl.P) : List Value := [.int .i64 x.kind, .string x.name, .slice p.1.1 x.terms.length p.1.2, .slice p.2.1 x.goals.length p.2.2]
section
variable {μ : Mem}
def Gl.At (μ : Mem) (x : Gl) (p : Gl.P) : Prop := Sl μ 4 p.1.1 x.terms.length (x.terms.map Tm.d) ∧ Sl μ 4 p.2.1 x.goals.length (x.goals.map Gl.d)
theorem Gl.invA {x : Gl} {cs : List Value} (h : Rep μ x.d cs) : ∃ p : Gl.P, cs = x.cs p ∧ Gl.At μ x p := by
  rw [Gl.d_eq] at h
  obtain ⟨a0, t0, rfl, h0, h⟩ := h
  have h0 : a0 = [.int .i64 x.kind] := h0
  subst h0
  obtain ⟨a1, t1, rfl, h1, h⟩ := h
  have h1 : a1 = [.string x.name] := h1
  subst h1
  obtain ⟨a2, t2, rfl, h2, h⟩ := h
  have hv_ := one_of (Rep.len _ _ h2)
  obtain ⟨v2, rfl⟩ := hv_
  have hv_ := Rep.sl h2
  obtain ⟨b2, c2, rfl, s2⟩ := hv_
  rw [List.length_map] at s2
  obtain ⟨a3, t3, rfl, h3, h⟩ := h
  have hv_ := one_of (Rep.len _ _ h3)
  obtain ⟨v3, rfl⟩ := hv_
  have hv_ := Rep.sl h3
  obtain ⟨b3, c3, rfl, s3⟩ := hv_
  rw [List.length_map] at s3
  obtain rfl : t3 = [] := h
  exact ⟨((b2, c2), (b3, c3)), by simp [Gl.cs], ⟨s2, s3⟩⟩
theorem Gl.rep {x : Gl} {cs : List Value} (h : Rep μ x.d cs) : RepV μ x.d (.agg cs.toArray) := by
  rw [Gl.d_eq] at h ⊢; exact ⟨cs, rfl, h⟩
theorem Gl.invR {x : Gl} {cs : List Value} (h : Rep μ x.d cs) : ∃ p : Gl.P, cs = x.cs p ∧ RepV μ x.d (.agg (x.cs p).toArray) := by
  have hv_ := Gl.invA h
  obtain ⟨p, e, _⟩ := hv_
  subst e
  exact ⟨p, rfl, Gl.rep h⟩
theorem Gl.inv {x : Gl} {v : Value} (h : RepV μ x.d v) : ∃ p : Gl.P, v = .agg #[.int .i64 x.kind, .string x.name, .slice p.1.1 x.terms.length p.1.2, .slice p.2.1 x.goals.length p.2.2] ∧ Gl.At μ x p := by
  have h2 : ∃ cs, v = .agg (List.toArray cs) ∧ Rep μ x.d cs := by rw [Gl.d_eq] at h ⊢; exact h
  obtain ⟨cs, rfl, h3⟩ := h2
  have hv_ := Gl.invA h3
  obtain ⟨p, rfl, hA⟩ := hv_
  exact ⟨p, rfl, hA⟩
theorem Gl.invV {x : Gl} {v : Value} (h : RepV μ x.d v) : ∃ p : Gl.P, v = .agg #[.int .i64 x.kind, .string x.name, .slice p.1.1 x.terms.length p.1.2, .slice p.2.1 x.goals.length p.2.2] := by
  have hv_ := Gl.inv h
  obtain ⟨p, h, _⟩ := hv_
  exact ⟨p, h⟩
theorem Gl.elemA {l : List Gl} {base : Option Addr} {n : Nat} (h : Sl μ 4 base n (l.map Gl.d)) {i : Nat} {x : Gl} (hx : l[i]? = some x) : ∃ ad, ∃ p : Gl.P, ElemAt μ base n 4 i ad (x.cs p) ∧ RepV μ x.d (.agg (x.cs p).toArray) ∧ Gl.At μ x p := by
  have hv_ := h.get i x.d (by simp [hx])
  obtain ⟨ad, cs, h1, h2⟩ := hv_
  have hv_ := Gl.invA h2
  obtain ⟨p, rfl, hA⟩ := hv_
  exact ⟨ad, p, h1, Gl.rep h2, hA⟩
theorem Gl.elem {l : List Gl} {base : Option Addr} {n : Nat} (h : Sl μ 4 base n (l.map Gl.d)) {i : Nat} {x : Gl} (hx : l[i]? = some x) : ∃ ad, ∃ p : Gl.P, ElemAt μ base n 4 i ad (x.cs p) ∧ RepV μ x.d (.agg (x.cs p).toArray) := by
  have hv_ := Gl.elemA h hx
  obtain ⟨ad, p, h1, h2, _⟩ := hv_
  exact ⟨ad, p, h1, h2⟩
theorem Gl.sz_eq (x : Gl) : x.d.sz = x.name.size + (x.terms.length + D.szs (x.terms.map Tm.d)) + (x.goals.length + D.szs (x.goals.map Gl.d)) := by
  rw [Gl.d_eq]
  simp [D.sz, D.szs]
  omega
theorem szGoalS_of {l : List Gl} (he : ∀ t ∈ l, ∀ {v : Value} {left : Int}, RepV μ t.d v → 0 ≤ left → left ≤ 1048576 → t.d.wd → Gives Tryz.prog 31 [v, .int .i64 left] μ (.int .i64 (szR left t.d.sz)))
    {base : Option Addr} {cap : Nat} {left : Int} (hsl : Sl μ 4 base l.length (l.map Gl.d)) (hl : 0 ≤ left) (hl2 : left ≤ 1048576) (hw : D.wds (l.map Gl.d)) :
    Gives Tryz.prog 98 [.slice base l.length cap, .int .i64 left] μ (.int .i64 (szR left (l.length + D.szs (l.map Gl.d)))) := by
  have hn := maxLen_le hsl.max
  refine Spec.mk Tryz.func98 (by kernel_rfl) ?_
  refine num64 (by omega) (by omega) (ifd (fun h => ret_gives ?_ rfl) (fun h => ?_))
  · rw [szR_neg (by omega)]
  refine loop_intro (fun i : Nat => i ≤ l.length ∧ (D.szs ((l.map Gl.d).take i) : Int) ≤ left - l.length) (fun i => ⟨[(0, .val (.slice base l.length cap)), (1, .val (.int .i64 (left - l.length - D.szs ((l.map Gl.d).take i)))), (5, .val (.int .i64 i))], [], 0, μ, Mem.nil⟩) (fun i => l.length - i)
    0 ⟨by omega, by simp [D.szs]; omega⟩ (fun i => ⟨rfl, rfl⟩) ⟨⟨rfl, by show some (SV.val (.int .i64 _)) = some (SV.val (.int .i64 _)); congr 3; simp [D.szs], rfl, trivial⟩, trivial, rfl, rfl⟩ ?_
  rintro i ⟨hi, hz⟩
  refine ifd (fun h => ?_) (fun h => ?_)
  · obtain ⟨t, ht⟩ := at_some (l := l) (i := i) (by omega)
    have hx := at_map (f := Gl.d) ht
    have hs := D.szs_take hx
    have hs' := D.szs_le (l.map Gl.d) (i + 1)
    obtain ⟨ad, p, hel, hr⟩ := Gl.elem hsl ht
    refine elem_intro hel (call_gives (he t (mem_at ht) hr (by omega) (by omega) (D.wds_mem hw _ (mem_at hx))) ?_)
    refine ifd (fun h => ret_gives ?_ rfl) (fun h => ?_)
    · have := szR_lt h
      rw [szR_neg (by omega)]
    · have := szR_ge h
      refine num64 (by omega) (by omega) ⟨i + 1, ⟨by omega, by omega⟩, by omega, ⟨⟨rfl, ?_, rfl, trivial⟩, trivial, rfl, rfl⟩⟩
      rw [szR_pos this, hs]
      show some (SV.val (.int .i64 _)) = some (SV.val (.int .i64 _))
      congr 3; omega
  · obtain rfl : i = l.length := by omega
    rw [List.take_of_length_le (by simp)] at hz ⊢
    refine ret_gives ?_ rfl
    rw [szR_pos (by omega)]; congr 1; omega
theorem szGoal_spec : ∀ (x : Gl) {v : Value} {left : Int}, RepV μ x.d v → 0 ≤ left → left ≤ 1048576 → x.d.wd → Gives Tryz.prog 31 [v, .int .i64 left] μ (.int .i64 (szR left x.d.sz)) :=
  Gl.ind fun x ih v left hv hl hl2 hw => by
    have hv_ := Gl.inv hv
    obtain ⟨p, rfl, hA⟩ := hv_
    have hsz := Gl.sz_eq x
    rw [Gl.d_eq] at hw
    obtain ⟨A0, A1⟩ := hA
    have m1 := maxLen_le hw.2.1
    refine Spec.mk Tryz.func31 (by kernel_rfl) ?_
    intro r
    refine num64 (by omega) (by omega) (ifd (fun h => ret_gives (by rw [szR_neg (by omega)]) rfl) (fun h => ?_))
    refine call_gives (szTermS_spec A0 (by omega) (by omega) hw.2.2.1) ?_
    refine ifd (fun h => ret_gives (by have := szR_lt h; rw [szR_neg (by omega)]) rfl) (fun h => ?_)
    have q2 := szR_ge h
    rw [szR_pos q2] at h ⊢
    refine call_gives (szGoalS_of (l := x.goals) (fun t ht _ _ => ih t ht) A1 (by omega) (by omega) hw.2.2.2.1) ?_
    refine ifd (fun h => ret_gives (by have := szR_lt h; rw [szR_neg (by omega)]) rfl) (fun h => ?_)
    have q3 := szR_ge h
    rw [szR_pos q3] at h ⊢
    refine ret_gives ?_ rfl
    rw [szR_pos (by omega)]
    first | rfl | (congr 1; omega)
theorem toGoalS_of {l : List Gl} (he : ∀ t ∈ l, ∀ {μ : Mem} {v : Value}, RepV μ t.d v → t.d.sz ≤ 1048576 → Spec Tryz.prog 33 [v] μ fun v μ' => Fresh μ μ' t.d v)
    {base : Option Addr} {cap : Nat} (hsl : Sl μ 4 base l.length (l.map Gl.d)) (hb : l.length + D.szs (l.map Gl.d) ≤ 1048576) :
    Spec Tryz.prog 102 [.slice base l.length cap] μ fun v μ' => Fresh μ μ' (.sl 4 (l.map Gl.d)) v := by
  refine Spec.mk Tryz.func102 (by kernel_rfl) ?_
  refine make_intro l.length rfl rfl (by simp only; omega) (Nat.le_trans (m := 1048576) (by omega) (by decide)) ?_
  intro r
  refine loop_intro (fun p : Nat × List Value × Mem => μ.Le p.2.2 ∧ ∃ g, Filled 4 (.agg #[.int .i64 0, .string ⟨#[]⟩, .slice none 0 0, .slice none 0 0]) μ p.2.2 (l.map Gl.d) p.1 p.2.1 g)
    (fun (i, xs, μ') => ⟨[(0, .val (.slice base l.length cap)), (3, .row 0 (some r) l.length l.length), (4, .val (.int .i64 i))], [(0, some (.row (some r) l.length 55 4 xs))], 1, μ', Mem.nil⟩) (fun p => l.length - p.1)
    (0, List.replicate l.length (.agg #[.int .i64 0, .string ⟨#[]⟩, .slice none 0 0, .slice none 0 0]), μ) ⟨Mem.Le.refl μ, _, Filled.start (by simp)⟩ (fun (_, _, _) => ⟨rfl, rfl⟩) ⟨⟨rfl, rfl, rfl, trivial⟩, ⟨rfl, trivial⟩, rfl, rfl⟩ ?_
  rintro ⟨i, xs, μ'⟩ ⟨hle, g, hf⟩
  dsimp only at hle hf
  have hi := hf.le
  have hlen := hf.len
  rw [List.length_map] at hi hlen
  refine ifd (fun h => ?_) (fun h => ?_)
  · obtain ⟨t, ht⟩ := at_some (l := l) (i := i) (by omega)
    have hx := at_map (f := Gl.d) ht
    have hs := D.szs_mem hx
    obtain ⟨ad, p, hel, hr⟩ := Gl.elem (hsl.mono hle) ht
    refine elem_intro hel (call_plain (he t (mem_at ht) hr (by omega)) fun v μ'' hle2 hfr => ?_)
    obtain ⟨g', hf'⟩ := hf.step hx (Gl.d_n t) hfr hle2
    obtain ⟨p2, rfl⟩ := Gl.invV hfr.rep
    refine rel_intro i rfl (by omega) ?_
    refine get_intro _ (hf.rest i (by omega) (by simpa using h)) ?_
    refine num64 (by omega) (by omega) ⟨(i + 1, _, μ''), ⟨hle.trans hle2, g', hf'⟩, by dsimp only; omega, ⟨⟨rfl, rfl, rfl, trivial⟩, ⟨rfl, trivial⟩, rfl, rfl⟩⟩
  · obtain rfl : i = l.length := by omega
    refine ret_frz [0] fun μ2 hle2 hno hrow => .inl ?_
    have := Fresh.ofRow (hf.all (by simp)) hf.sub hf.new hle hle2 hno hrow (Nat.le_trans (m := 1048576) (by omega) (by decide))
    rw [hlen] at this
    exact this
set_option maxRecDepth 4000 in
theorem toGoal_spec : ∀ (x : Gl) {μ : Mem} {v : Value}, RepV μ x.d v → x.d.sz ≤ 1048576 → Spec Tryz.prog 33 [v] μ fun v μ' => Fresh μ μ' x.d v :=
  Gl.ind fun x ih μ v hv hb => by
    have hv_ := Gl.inv hv
    obtain ⟨p, rfl, hA⟩ := hv_
    have hsz := Gl.sz_eq x
    obtain ⟨A0, A1⟩ := hA
    refine Spec.mk Tryz.func33 (by kernel_rfl) ?_
    intro r1 r2 r3
    refine call_plain (toTermS_spec A0 (by omega)) fun u0 μ0 hle0 hf0 => ?_
    replace A1 := A1.mono hle0
    have hv_ := Rep.sl hf0.rep
    obtain ⟨bb0, cc0, rfl, _⟩ := hv_
    refine call_plain (toGoalS_of (l := x.goals) (fun t ht _ _ => ih t ht) A1 (by omega)) fun u1 μ1 hle1 hf1 => ?_
    have hv_ := Rep.sl hf1.rep
    obtain ⟨bb1, cc1, rfl, _⟩ := hv_
    rw [Gl.d_eq]
    exact ret_plain (FreshS.st (FreshS.int (FreshS.str (FreshS.cons hf0 hle0 (hle1) (FreshS.cons hf1 hle1 (Mem.Le.refl _) (FreshS.nil))))))
theorem eqGoalS_of {l : List Gl} (he : ∀ t ∈ l, ∀ {v v' : Value}, RepV μ t.d v → RepV μ t.d v' → Gives Tryz.prog 35 [v, v'] μ (.bool true))
    {base base' : Option Addr} {cap cap' : Nat} (hl : Sl μ 4 base l.length (l.map Gl.d)) (hl' : Sl μ 4 base' l.length (l.map Gl.d)) :
    Gives Tryz.prog 106 [.slice base l.length cap, .slice base' l.length cap'] μ (.bool true) := by
  have hn := maxLen_le hl.max
  refine Spec.mk Tryz.func106 (by kernel_rfl) ?_
  refine ifnd (fun h => absurd rfl h) (fun _ => ?_)
  refine loop_intro (fun i : Nat => i ≤ l.length) (fun i => ⟨[(0, .val (.slice base l.length cap)), (1, .val (.slice base' l.length cap')), (5, .val (.int .i64 i))], [], 0, μ, Mem.nil⟩) (fun i => l.length - i)
    0 (by omega) (fun i => ⟨rfl, rfl⟩) ⟨⟨rfl, rfl, rfl, trivial⟩, trivial, rfl, rfl⟩ ?_
  intro i hi
  refine ifd (fun h => ?_) (fun h => ?_)
  · obtain ⟨t, ht⟩ := at_some (l := l) (i := i) (by omega)
    obtain ⟨ad, p, hel, hr⟩ := Gl.elem hl ht
    obtain ⟨ad', p', hel', hr'⟩ := Gl.elem hl' ht
    refine elem_intro hel (elem_intro hel' (call_gives (he t (mem_at ht) hr hr') ?_))
    refine if_intro (fun h => nomatch h) (fun _ => ?_)
    exact num64 (by omega) (by omega) ⟨i + 1, by omega, by omega, ⟨⟨rfl, rfl, rfl, trivial⟩, trivial, rfl, rfl⟩⟩
  · exact ret_gives rfl rfl
theorem eqGoal_spec : ∀ (x : Gl) {v v' : Value}, RepV μ x.d v → RepV μ x.d v' → Gives Tryz.prog 35 [v, v'] μ (.bool true) :=
  Gl.ind fun x ih v v' hv hv' => by
    have hv_ := Gl.inv hv
    obtain ⟨p, rfl, hA⟩ := hv_
    have hv_ := Gl.inv hv'
    obtain ⟨p', rfl, hB⟩ := hv_
    obtain ⟨A0, A1⟩ := hA
    obtain ⟨B0, B1⟩ := hB
    refine Spec.mk Tryz.func35 (by kernel_rfl) ?_
    intro r1 r2
    refine ifnd (fun h => absurd rfl h) (fun _ => ?_)
    refine ifnd (fun h => absurd rfl h) (fun _ => ?_)
    refine call_gives (eqTermS_spec A0 B0) ?_
    refine if_intro (fun h => nomatch h) (fun _ => ?_)
    refine call_gives (eqGoalS_of (l := x.goals) (fun t ht _ _ => ih t ht) A1 B1) ?_
    refine if_intro (fun h => nomatch h) (fun _ => ?_)
    exact ret_gives rfl rfl
theorem read_Goal : Reads Tryz.prog 51 fun d => ∃ x : Gl, d = x.d ∧ x.d.wd := fun n => by
  induction n using Nat.strongRecOn with
  | ind n ih =>
    match n, ih with
    | 0, _ => exact ReadsTo.zero _
    | n + 1, ih =>
      have hs : ReadsTo Tryz.prog n 49 fun d => ∃ xs, d = .sl 4 xs ∧ ∀ x ∈ xs, ∃ t : Gl, x = t.d ∧ t.d.wd := by
        match n, ih with
        | 0, _ => exact ReadsTo.zero _
        | n + 1, ih => exact reads_slice ti49.kind (cellsOf_tt ti51) (ih n (by omega)) (fun d h => by obtain ⟨t, rfl, _⟩ := h; exact Gl.d_n t)
      exact (reads_struct ti51 rfl (FieldsTo.cons ti3 (reads_int und_int n) (FieldsTo.cons ti9 (reads_str und_string n) (FieldsTo.cons ti37 (read_TermS n) (FieldsTo.cons ti49 (hs) FieldsTo.nil))))).weaken fun d h => by
        obtain ⟨ds, rfl, h⟩ := h
        obtain ⟨_, _, rfl, ⟨x0, rfl, w0⟩, q0⟩ := h.cons
        obtain ⟨_, _, rfl, ⟨x1, rfl, w1⟩, q1⟩ := q0.cons
        obtain ⟨_, _, rfl, ⟨x2, rfl, w2⟩, q2⟩ := q1.cons
        obtain ⟨_, _, rfl, ⟨xs, rfl, hxs⟩, q3⟩ := q2.cons
        obtain ⟨x3, rfl⟩ := lift_list (f := Gl.d) fun x h => by obtain ⟨t, h, _⟩ := hxs x h; exact ⟨t, h⟩
        have w3 : D.wds (x3.map Gl.d) := D.wds_of fun x hm => by obtain ⟨t, rfl, h⟩ := hxs x hm; exact h
        obtain rfl := q3.nil
        refine ⟨.mk x0 x1 x2 x3, (Gl.d_eq (.mk x0 x1 x2 x3)).symm, ?_⟩
        rw [Gl.d_eq]
        exact ⟨w0, w1, w2, w3, trivial⟩
end
end Go.Vx

/- Contracts: names of relations. -/
namespace Go.Vx
open Go.Proofs Classical
/-! ### Names of relations -/
def rsv : List ByteArray := [⟨#[116, 114, 117, 101]⟩, ⟨#[102, 97, 105, 108]⟩, ⟨#[115, 121, 109, 98, 111, 108]⟩, ⟨#[110, 117, 109, 98, 101, 114]⟩, ⟨#[97, 98, 115, 101, 110, 116]⟩, ⟨#[97, 110, 100]⟩, ⟨#[111, 114]⟩, ⟨#[110, 111, 116]⟩, ⟨#[100, 101, 102, 105, 110, 101]⟩]
def IsRel (s : ByteArray) : Prop := s ∉ rsv ∧ IsNm s
theorem impl_IsRelName_spec (s : ByteArray) (μ : Mem) : Gives Tryz.prog 210 [.string s] μ (.bool (decide (IsRel s))) := by
  refine Spec.mk Tryz.func210 (by kernel_rfl) ?_
  have bad : s ∈ rsv → Value.bool false = .bool (decide (IsRel s)) := fun h => by
    have : ¬ IsRel s := fun k => k.1 h
    simp [this]
  repeat' (first
    | refine ifd (fun h => ?_) (fun h => ?_) <;> try contradiction
    | refine call_gives (impl_IsName_spec s μ) (ret_gives ?_ rfl)
    | refine ret_gives ?_ rfl)
  all_goals first
    | (refine bad ?_; subst_vars; simp [rsv])
    | (have : s ∉ rsv := by simp only [rsv, List.mem_cons, List.not_mem_nil, or_false, not_or]; simp_all
       simp [IsRel, this])
theorem spec_IsRelName_spec (s : ByteArray) (hs : s.size ≤ maxLen) (μ : Mem) : Gives Tryz.prog 202 [.string s] μ (.bool (decide (IsRel s))) := by
  refine Spec.mk Tryz.func202 (by kernel_rfl) ?_
  have bad : s ∈ rsv → Value.bool false = .bool (decide (IsRel s)) := fun h => by
    have : ¬ IsRel s := fun k => k.1 h
    simp [this]
  intro r
  refine loop_intro (fun i : Nat => i ≤ 9 ∧ ∀ x ∈ rsv.take i, x ≠ s) (fun i => ⟨[(0, .val (.string s)), (5, .row 0 (some r) 9 9), (6, .val (.int .i64 9)), (7, .val (.int .i64 i))], [(0, some (.row (some r) 9 9 1 (rsv.map .string)))], 1, μ, Mem.nil⟩) (fun i => 9 - i)
    0 ⟨by omega, by simp⟩ (fun i => ⟨rfl, rfl⟩) ⟨⟨rfl, rfl, rfl, rfl, trivial⟩, ⟨rfl, trivial⟩, rfl, rfl⟩ ?_
  rintro i ⟨hi, hall⟩
  refine ifd (fun h => ?_) (fun h => ?_)
  · have hi : i < 9 := by omega
    obtain ⟨x, hx⟩ : ∃ x, rsv[i]? = some x := ⟨_, List.getElem?_eq_getElem (by simpa [rsv] using hi)⟩
    refine rel_intro i rfl (by omega) (get_intro (.string x) (by simp [hx]) ?_)
    refine ifd (fun h => ret_gives (bad ?_) rfl) (fun h => ?_)
    · subst h; exact List.mem_of_getElem? hx
    · refine num64 (by omega) (by omega) ⟨i + 1, ⟨by omega, fun y hy => ?_⟩, by omega, ⟨⟨rfl, rfl, rfl, rfl, trivial⟩, ⟨rfl, trivial⟩, rfl, rfl⟩⟩
      rw [List.take_add_one, hx] at hy
      simp only [Option.toList_some, List.mem_append, List.mem_singleton] at hy
      rcases hy with hy | rfl
      · exact hall y hy
      · exact h
  · refine call_gives (spec_IsName_spec s hs μ) (ret_gives ?_ rfl)
    have hi : i = 9 := by omega
    subst hi
    have : s ∉ rsv := fun k => hall s (by simpa [rsv] using k) rfl
    simp [IsRel, this]
end Go.Vx

/- Contracts: which goals are well-formed. -/
namespace Go.Vx
open Go.Proofs Classical
/-! ### Plain -/
mutual
def Gl.cnt : Gl → Nat
  | .mk _ _ _ l => 1 + Gl.cnts l
def Gl.cnts : List Gl → Nat
  | [] => 0
  | t :: r => t.cnt + Gl.cnts r
end
theorem Gl.cnt_eq1 (g : Gl) : g.cnt = 1 + Gl.cnts g.goals := by cases g; rfl
theorem Gl.cnt_pos (g : Gl) : 1 ≤ g.cnt := by rw [Gl.cnt_eq1]; omega
theorem Gl.cnts_append : ∀ (a c : List Gl), Gl.cnts (a ++ c) = Gl.cnts a + Gl.cnts c
  | [], c => by simp [Gl.cnts]
  | d :: r, c => by simp [Gl.cnts, Gl.cnts_append r c, Nat.add_assoc]
theorem Gl.cnts_take {xs : List Gl} {j : Nat} {x : Gl} (h : xs[j]? = some x) : Gl.cnts (xs.take (j + 1)) = Gl.cnts (xs.take j) + x.cnt := by
  rw [List.take_add_one, h, Option.toList_some, Gl.cnts_append]; simp [Gl.cnts]
theorem Gl.cnts_le (xs : List Gl) (j : Nat) : Gl.cnts (xs.take j) ≤ Gl.cnts xs := by
  have := Gl.cnts_append (xs.take j) (xs.drop j)
  rw [List.take_append_drop] at this; omega
/-- What a goal's own node must be. -/
structure TopOk (g : Gl) : Prop where
  tm : ∀ t ∈ g.terms, t.Ok
  k0 : 0 ≤ g.kind
  k1 : g.kind ≤ 10
  nm : g.kind ≠ 9 → g.name = ⟨#[]⟩
  rel : g.kind = 9 → IsRel g.name
  ln9 : g.kind = 9 → g.terms.length ≤ 4
  ln2 : g.kind = 2 ∨ g.kind = 3 ∨ g.kind = 6 → g.terms.length = 2
  ln1 : g.kind = 4 ∨ g.kind = 5 → g.terms.length = 1
  ln0 : g.kind = 0 ∨ g.kind = 1 ∨ g.kind = 7 ∨ g.kind = 8 ∨ g.kind = 10 → g.terms.length = 0
  gl : g.goals.length ≤ 8
  gl0 : g.kind < 7 ∨ g.kind = 9 → g.goals.length = 0
  gl1 : g.kind = 10 → g.goals.length = 1
  sy : g.kind = 6 → ∀ a, g.terms[0]? = some a → a.kind = 2
  cl : g.kind = 10 → ∀ b, g.goals[0]? = some b → b.kind = 9
inductive Gl.Sh : Gl → Prop
  | mk {g : Gl} (top : TopOk g) (sub : ∀ x ∈ g.goals, x.Sh) : g.Sh
theorem Gl.Sh.top {g : Gl} (h : g.Sh) : TopOk g := by cases h; assumption
theorem Gl.Sh.sub {g : Gl} (h : g.Sh) : ∀ x ∈ g.goals, x.Sh := by cases h; assumption
def Gl.Ok (g : Gl) : Prop := g.Sh ∧ g.cnt ≤ 80
section
variable {μ : Mem}
theorem l13Count_spec : ∀ (g : Gl) {v : Value} {most : Int}, RepV μ g.d v → -1000000000000 ≤ most → most ≤ 1000000000000 → Gives Tryz.prog 185 [v, .int .i64 most] μ (.int .i64 (upTo g.cnt most)) :=
  Gl.ind fun g ih v most hv h1 h2 => by
    have hv_ := Gl.inv hv
    obtain ⟨p, rfl, -, hsl⟩ := hv_
    have hn := maxLen_le hsl.max
    have hge := Gl.cnt_eq1 g
    generalize hl : g.goals = l at *
    refine Spec.mk Tryz.func185 (by kernel_rfl) ?_
    intro r
    refine loop_intro (fun i : Nat => i ≤ l.length) (fun i => ⟨[(1, .val (.int .i64 most)), (5, .val (.int .i64 (upTo (1 + Gl.cnts (l.take i) : Nat) most))), (9, .val (.slice p.2.1 l.length p.2.2)), (10, .val (.int .i64 l.length)), (11, .val (.int .i64 i))], [], 1, μ, Mem.nil⟩) (fun i => l.length - i)
      0 (by omega) (fun i => ⟨rfl, rfl⟩) ⟨⟨rfl, by show some (SV.val (.int .i64 _)) = some (SV.val (.int .i64 _)); congr 3; simp [Gl.cnts, upTo]; omega, rfl, rfl, rfl, trivial⟩, trivial, rfl, rfl⟩ ?_
    intro i hi
    refine ifd (fun h => ?_) (fun h => ?_)
    · have hv_ := at_some (l := l) (i := i) (by omega)
      obtain ⟨t, ht⟩ := hv_
      have hc := Gl.cnts_take ht
      have hc' := Gl.cnts_le l (i + 1)
      have hv_ := Gl.elem hsl ht
      obtain ⟨ad, p, hel, hr⟩ := hv_
      refine elem_intro hel ?_
      intro r2
      refine ifd (fun h => ret_gives ?_ rfl) (fun h => ?_)
      · simp only [upTo] at h ⊢
        congr 1; omega
      · have hb : upTo (1 + Gl.cnts (l.take i) : Nat) most ≤ 1000000000001 ∧ 1 ≤ upTo (1 + Gl.cnts (l.take i) : Nat) most := by unfold upTo; omega
        refine num64 (by omega) (by omega) ?_
        refine call_gives (ih t (mem_at ht) hr (by omega) (by omega)) ?_
        refine num_eq (x := upTo (1 + Gl.cnts (l.take (i + 1)) : Nat) most) ?_ ?_
        · have hb2 : upTo (t.cnt : Int) (most - upTo (1 + Gl.cnts (l.take i) : Nat) most) ≤ 1000000000001 ∧ 1 ≤ upTo (t.cnt : Int) (most - upTo (1 + Gl.cnts (l.take i) : Nat) most) := by
            have := t.cnt_pos
            unfold upTo at hb h ⊢
            omega
          rw [wrap64 (by omega) (by omega), hc]
          unfold upTo at h ⊢; omega
        · exact num64 (by omega) (by omega) ⟨i + 1, by omega, by omega, ⟨⟨rfl, rfl, rfl, rfl, rfl, trivial⟩, trivial, rfl, rfl⟩⟩
    · obtain rfl : i = l.length := by omega
      rw [List.take_length]
      exact ret_gives (by rw [hge]) rfl
theorem kinds_at {n k : Nat} (hk : k ≤ 10) : ([.int .i64 0, .int .i64 0, .int .i64 2, .int .i64 2, .int .i64 1, .int .i64 1, .int .i64 2, .int .i64 0, .int .i64 0, .int .i64 n, .int .i64 0] : List Value)[k]? = some (.int .i64 (if k = 2 ∨ k = 3 ∨ k = 6 then 2 else if k = 4 ∨ k = 5 then 1 else if k = 9 then n else 0)) := by
  match k, hk with
  | 0, _ => rfl
  | 1, _ => rfl
  | 2, _ => rfl
  | 3, _ => rfl
  | 4, _ => rfl
  | 5, _ => rfl
  | 6, _ => rfl
  | 7, _ => rfl
  | 8, _ => rfl
  | 9, _ => rfl
  | 10, _ => rfl
theorem l13Shape_spec : ∀ (g : Gl) {v : Value}, RepV μ g.d v → g.d.wd → Gives Tryz.prog 186 [v] μ (.bool (decide g.Sh)) :=
  Gl.ind fun g ih v hv hw => by
    have hv_ := Gl.inv hv
    obtain ⟨p, rfl, hts, hgs⟩ := hv_
    have hn1 := maxLen_le hts.max
    have hn2 := maxLen_le hgs.max
    rw [Gl.d_eq] at hw
    have hs : g.name.size ≤ maxLen := hw.2.1
    have wt : D.wds (g.terms.map Tm.d) := hw.2.2.1
    have wg : D.wds (g.goals.map Gl.d) := hw.2.2.2.1
    have bad : ¬ TopOk g → Value.bool false = .bool (decide g.Sh) := fun h => isF fun k => h k.top
    refine Spec.mk Tryz.func186 (by kernel_rfl) ?_
    intro r
    refine call_gives (l01In_spec _ _ _ _) ?_
    refine ifnd (fun h => ret_gives (bad fun T => h ⟨T.k0, T.k1⟩) rfl) (fun hk => ?_)
    refine ifnd (fun h9 => ifnd (fun hne => ret_gives (bad fun T => hne (T.nm h9)) rfl) (fun hnm => ?_)) (fun h9 => ?_)
    all_goals refine call_gives (l02AllOk_spec hts wt) ?_
    all_goals refine ifnd (fun h => ret_gives (bad fun T => h T.tm) rfl) (fun htm => ?_)
    all_goals intro r2
    all_goals obtain ⟨k, hk'⟩ : ∃ k : Nat, g.kind = k := ⟨g.kind.toNat, by omega⟩
    all_goals refine rel_intro k hk' (by omega) (get_intro _ (kinds_at (by omega)) ?_)
    all_goals refine ifnd (fun hlen => ret_gives (bad fun T => hlen ?_) rfl) (fun hlen => ?_)
    any_goals (have e9 := T.ln9; have e2 := T.ln2; have e1 := T.ln1; have e0 := T.ln0; have := T.gl; omega)
    all_goals refine ifd (fun h4 => ret_gives (bad fun T => ?_) rfl) (fun h4 => ?_)
    any_goals (have e9 := T.ln9; have e2 := T.ln2; have e1 := T.ln1; have e0 := T.ln0; have := T.gl; omega)
    all_goals refine ifd (fun h7 => ifd (fun h0 => ret_gives (bad fun T => ?_) rfl) (fun h0 => ?_)) (fun h7 => ?_)
    any_goals (have e9 := T.gl0; omega)
    all_goals refine ifd (fun h8 => ret_gives (bad fun T => ?_) rfl) (fun h8 => ?_)
    any_goals (have e9 := T.gl; omega)
    all_goals refine loop_intro (fun i : Nat => i ≤ g.goals.length ∧ ∀ t ∈ g.goals.take i, t.Sh) (fun i => ⟨[(1, .loc 0 r 0), (61, .val (.slice p.2.1 g.goals.length p.2.2)), (62, .val (.int .i64 g.goals.length)), (63, .val (.int .i64 i))], [(0, some (.cells r [.val (.int .i64 g.kind), .val (.string g.name), .val (.slice p.1.1 g.terms.length p.1.2), .val (.slice p.2.1 g.goals.length p.2.2)] 55))], 2, μ, Mem.nil⟩) (fun i => g.goals.length - i) 0 ⟨by omega, by simp⟩ (fun i => ⟨rfl, rfl⟩) ⟨⟨rfl, rfl, rfl, rfl, trivial⟩, ⟨rfl, trivial⟩, rfl, rfl⟩ ?_
    all_goals rintro i ⟨hi, hall⟩
    all_goals refine ifd (fun h => ?_) (fun h => ?_)
    any_goals
      have hv_ := at_some (l := g.goals) (i := i) (by omega)
      obtain ⟨t, ht⟩ := hv_
      have hv_ := Gl.elem hgs ht
      obtain ⟨ad, p, hel, hr⟩ := hv_
      refine elem_intro hel ?_
      intro r3
      refine call_gives (ih t (mem_at ht) hr (D.wds_mem wg _ (mem_at (at_map (f := Gl.d) ht)))) ?_
      refine ifnd (fun h => ret_gives (isF fun S => h (S.sub t (mem_at ht))) rfl) (fun h => ?_)
      refine num64 (by omega) (by omega) ⟨i + 1, ⟨by omega, fun x hx => ?_⟩, by omega, ⟨⟨rfl, rfl, rfl, rfl, trivial⟩, ⟨rfl, trivial⟩, rfl, rfl⟩⟩
      rw [List.take_add_one, ht, Option.toList_some, List.mem_append, List.mem_singleton] at hx
      rcases hx with hx | rfl
      · exact hall x hx
      · exact h
    all_goals obtain rfl : i = g.goals.length := by omega
    all_goals rw [List.take_length] at hall
    all_goals
      have mk : (g.kind = 9 → IsRel g.name) → (g.kind = 10 → g.goals.length = 1) → (g.kind = 9 → g.goals.length = 0) → (g.kind = 6 → ∀ a, g.terms[0]? = some a → a.kind = 2) → (g.kind = 10 → ∀ b, g.goals[0]? = some b → b.kind = 9) → g.Sh := fun a b c d e =>
        .mk ⟨htm, by omega, by omega, by first | exact fun _ => hnm | exact fun h => absurd h9 h, a, by omega, by omega, by omega, by omega, by omega, by omega, b, d, e⟩ hall
    all_goals refine ifd (fun h6 => ?_) (fun h6 => ?_)
    any_goals
      have hv_ := at_some (l := g.terms) (i := 0) (by omega)
      obtain ⟨a, ha⟩ := hv_
      have hv_ := Tm.elem hts ha
      obtain ⟨ad, p, hel, hr⟩ := hv_
      refine elem_intro hel ?_
      exact ret_gives (isI ⟨fun hh => mk (by omega) (by omega) (by omega) (fun _ x hx => by rw [ha] at hx; cases hx; exact hh) (by omega), fun S => S.top.sy h6 a ha⟩) rfl
    all_goals refine ifd (fun h9 => ?_) (fun h9 => ?_)
    any_goals omega
    any_goals
      refine ifd (fun h0 => call_gives (spec_IsRelName_spec _ hs _) (ret_gives (isI ⟨fun hh => mk (fun _ => hh) (by omega) (by omega) (by omega) (by omega), fun S => S.top.rel h9⟩) rfl)) (fun h0 => ret_gives (isF fun S => ?_) rfl)
      have := S.top.gl0; omega
    all_goals refine ifd (fun h10 => ?_) (fun h10 => ret_gives (isT (mk (by omega) (by omega) (by omega) (by omega) (by omega))) rfl)
    any_goals omega
    all_goals refine ifd (fun h1 => ?_) (fun h1 => ret_gives (isF fun S => h1 ?_) rfl)
    any_goals (have := S.top.gl1; omega)
    all_goals
      have hv_ := at_some (l := g.goals) (i := 0) (by omega)
      obtain ⟨b, hb⟩ := hv_
      have hv_ := Gl.elem hgs hb
      obtain ⟨ad, p, hel, hr⟩ := hv_
      refine elem_intro hel ?_
      exact ret_gives (isI ⟨fun hh => mk (by omega) (by omega) (by omega) (by omega) (fun _ x hx => by rw [hb] at hx; cases hx; exact hh), fun S => S.top.cl h10 b hb⟩) rfl
end
end Go.Vx

/- Contracts: well-formed goals, both sides. -/
namespace Go.Vx
open Go.Proofs Classical
/-- 'goalNodes': the nodes of a well-formed goal that fits; else -1. -/
noncomputable def Gl.nodes (t : Gl) (room : Int) : Int := if t.Sh ∧ (t.cnt : Int) ≤ room then t.cnt else -1
theorem Gl.nodes_neg {t : Gl} {room : Int} (h : ¬ (t.Sh ∧ (t.cnt : Int) ≤ room)) : Value.int .i64 (-1) = .int .i64 (t.nodes room) := by rw [Gl.nodes, if_neg h]
theorem Gl.nodes_pos {t : Gl} {room : Int} (h : t.Sh) (h2 : (t.cnt : Int) ≤ room) : t.nodes room = t.cnt := by rw [Gl.nodes, if_pos ⟨h, h2⟩]
theorem Gl.nodes_lt {t : Gl} {room : Int} (h : t.nodes room < 0) : ¬ (t.Sh ∧ (t.cnt : Int) ≤ room) := fun k => by rw [Gl.nodes, if_pos k] at h; omega
theorem Gl.nodes_ge {t : Gl} {room : Int} (h : ¬ t.nodes room < 0) : t.Sh ∧ (t.cnt : Int) ≤ room ∧ t.nodes room = t.cnt := by
  by_cases k : t.Sh ∧ (t.cnt : Int) ≤ room
  · exact ⟨k.1, k.2, by rw [Gl.nodes, if_pos k]⟩
  · rw [Gl.nodes, if_neg k] at h; omega
/-- The map of how many terms a kind has. -/
noncomputable def kmap : List (Value × Value) := mset (mset (mset (mset (mset [] (.int .i64 2) (.int .i64 2)) (.int .i64 3) (.int .i64 2)) (.int .i64 4) (.int .i64 1)) (.int .i64 5) (.int .i64 1)) (.int .i64 6) (.int .i64 2)
theorem kmap_get (k : Int) : mget kmap (.int .i64 k) = if k = 6 then some (.int .i64 2) else if k = 5 then some (.int .i64 1) else if k = 4 then some (.int .i64 1) else if k = 3 then some (.int .i64 2) else if k = 2 then some (.int .i64 2) else none := by
  unfold kmap
  rw [mget_int, mget_int, mget_int, mget_int, mget_int]
  rfl
section
variable {μ : Mem}
theorem spec_GoalOk_spec (g : Gl) {v : Value} (hv : RepV μ g.d v) (hw : g.d.wd) : Gives Tryz.prog 99 [v] μ (.bool (decide g.Ok)) := by
  have hv_ := Gl.invV hv
  obtain ⟨p, rfl⟩ := hv_
  refine Spec.mk Tryz.func99 (by kernel_rfl) ?_
  intro r
  refine call_gives (l13Count_spec g hv (by decide) (by decide)) ?_
  refine ifd (fun h => ?_) (fun h => ret_gives (isF fun hh => ?_) rfl)
  · refine call_gives (l13Shape_spec g hv hw) (ret_gives (isI ⟨fun hh => ⟨hh, ?_⟩, fun hh => hh.1⟩) rfl)
    unfold upTo at h; omega
  · have := hh.2; unfold upTo at h; omega
theorem goalNodes_spec : ∀ (g : Gl) {v : Value} {room : Int}, RepV μ g.d v → -1000000000000 ≤ room → room ≤ 1000000000000 → Gives Tryz.prog 193 [v, .int .i64 room] μ (.int .i64 (g.nodes room)) :=
  Gl.ind fun g ih v room hv hr1 hr2 => by
    have hv_ := Gl.inv hv
    obtain ⟨p, rfl, hts, hgs⟩ := hv_
    have hn1 := maxLen_le hts.max
    have hn2 := maxLen_le hgs.max
    have hpos := g.cnt_pos
    have hce := g.cnt_eq1
    have bad : ¬ TopOk g → Value.int .i64 (-1) = .int .i64 (g.nodes room) := fun h => Gl.nodes_neg fun k => h k.1.top
    refine Spec.mkO [18] Tryz.func193 (by kernel_rfl) ?_
    intro r
    refine ifd (fun h => ret_gives (Gl.nodes_neg fun k => by omega) rfl) (fun h1 => ?_)
    refine call_gives (termsOk_spec hts) ?_
    refine ifnd (fun h => ret_gives (bad fun T => h T.tm) rfl) (fun htm => ?_)
    intro rM hmM hoM
    have k0 : MapOk IntKey [] := MapOk.nil
    have k1 := k0.int (n := 2) (.int .i64 2)
    have k2 := k1.int (n := 3) (.int .i64 2)
    have k3 := k2.int (n := 4) (.int .i64 1)
    have k4 := k3.int (n := 5) (.int .i64 1)
    have k5 := k4.int (n := 6) (.int .i64 2)
    refine upd_intro _ (Mem.set_at _ _ _) (k0.weaken (by rintro _ ⟨n, rfl⟩; rfl)) rfl ?_
    refine upd_intro _ (Mem.set_at _ _ _) (k1.weaken (by rintro _ ⟨n, rfl⟩; rfl)) rfl ?_
    refine upd_intro _ (Mem.set_at _ _ _) (k2.weaken (by rintro _ ⟨n, rfl⟩; rfl)) rfl ?_
    refine upd_intro _ (Mem.set_at _ _ _) (k3.weaken (by rintro _ ⟨n, rfl⟩; rfl)) rfl ?_
    refine upd_intro _ (Mem.set_at _ _ _) (k4.weaken (by rintro _ ⟨n, rfl⟩; rfl)) rfl ?_
    generalize hh : Mem.set (Mem.set (Mem.set (Mem.set (Mem.set (Mem.set _ rM _) rM _) rM _) rM _) rM _) rM _ = h0
    have hm : h0 rM = some (mapO kmap) := by subst hh; exact Mem.set_at _ _ _
    clear hh hmM hoM
    have one : TopOk g → g.goals.length = 0 → Value.int .i64 1 = .int .i64 (g.nodes room) := fun T h => by
      have e : g.goals = [] := List.eq_nil_of_length_eq_zero h
      have hc : g.cnt = 1 := by rw [hce, e]; rfl
      rw [Gl.nodes_pos (.mk T (by rw [e]; simp)) (by omega), hc]; rfl
    have htm : ∀ t ∈ g.terms, t.Ok := htm
    rcases (by omega : g.kind = 6 ∨ g.kind = 5 ∨ g.kind = 4 ∨ g.kind = 3 ∨ g.kind = 2 ∨ ¬ (2 ≤ g.kind ∧ g.kind ≤ 6)) with e | e | e | e | e | e
    · refine look_intro kmap (some (.int .i64 2)) hm (k5.weaken (by rintro _ ⟨n, rfl⟩; rfl)) rfl (by rw [kmap_get]; simp [e]) ?_
      repeat (refine ifd (fun h => ?_) (fun h => ?_) <;> try (exfalso; omega))
      refine ifnd (fun h => ret_gives (bad fun T => h (T.nm (by omega))) rfl) (fun hnm => ?_)
      refine ifnd (fun h => ret_gives (bad fun T => h (by have := T.gl0; omega)) rfl) (fun hg0 => ?_)
      refine ifnd (fun h => ret_gives (bad fun T => h (by have := T.ln2; omega)) rfl) (fun hl => ?_)
      refine ifd (fun _ => ?_) (fun h => absurd e h)
      have hv_ := at_some (l := g.terms) (i := 0) (by omega)
      obtain ⟨a, ha⟩ := hv_
      have hv_ := Tm.elem hts ha
      obtain ⟨ad, p, hel, hr⟩ := hv_
      refine elem_intro hel ?_
      refine ifnd (fun h => ret_gives (bad fun T => h (T.sy e a ha)) rfl) (fun h => ?_)
      exact ret_gives (one ⟨htm, by omega, by omega, fun _ => hnm, by omega, by omega, by omega, by omega, by omega, by omega, by omega, by omega, fun _ x hx => by rw [ha] at hx; cases hx; exact h, by omega⟩ (by omega)) rfl
    · refine look_intro kmap (some (.int .i64 1)) hm (k5.weaken (by rintro _ ⟨n, rfl⟩; rfl)) rfl (by rw [kmap_get]; simp [e]) ?_
      repeat (refine ifd (fun h => ?_) (fun h => ?_) <;> try (exfalso; omega))
      refine ifnd (fun h => ret_gives (bad fun T => h (T.nm (by omega))) rfl) (fun hnm => ?_)
      refine ifnd (fun h => ret_gives (bad fun T => h (by have := T.gl0; omega)) rfl) (fun hg0 => ?_)
      refine ifnd (fun h => ret_gives (bad fun T => h (by have := T.ln1; omega)) rfl) (fun hl => ?_)
      refine ifd (fun h => by omega) (fun h => ?_)
      exact ret_gives (one ⟨htm, by omega, by omega, fun _ => hnm, by omega, by omega, by omega, by omega, by omega, by omega, by omega, by omega, by omega, by omega⟩ (by omega)) rfl
    · refine look_intro kmap (some (.int .i64 1)) hm (k5.weaken (by rintro _ ⟨n, rfl⟩; rfl)) rfl (by rw [kmap_get]; simp [e]) ?_
      repeat (refine ifd (fun h => ?_) (fun h => ?_) <;> try (exfalso; omega))
      refine ifnd (fun h => ret_gives (bad fun T => h (T.nm (by omega))) rfl) (fun hnm => ?_)
      refine ifnd (fun h => ret_gives (bad fun T => h (by have := T.gl0; omega)) rfl) (fun hg0 => ?_)
      refine ifnd (fun h => ret_gives (bad fun T => h (by have := T.ln1; omega)) rfl) (fun hl => ?_)
      refine ifd (fun h => by omega) (fun h => ?_)
      exact ret_gives (one ⟨htm, by omega, by omega, fun _ => hnm, by omega, by omega, by omega, by omega, by omega, by omega, by omega, by omega, by omega, by omega⟩ (by omega)) rfl
    · refine look_intro kmap (some (.int .i64 2)) hm (k5.weaken (by rintro _ ⟨n, rfl⟩; rfl)) rfl (by rw [kmap_get]; simp [e]) ?_
      repeat (refine ifd (fun h => ?_) (fun h => ?_) <;> try (exfalso; omega))
      refine ifnd (fun h => ret_gives (bad fun T => h (T.nm (by omega))) rfl) (fun hnm => ?_)
      refine ifnd (fun h => ret_gives (bad fun T => h (by have := T.gl0; omega)) rfl) (fun hg0 => ?_)
      refine ifnd (fun h => ret_gives (bad fun T => h (by have := T.ln2; omega)) rfl) (fun hl => ?_)
      refine ifd (fun h => by omega) (fun h => ?_)
      exact ret_gives (one ⟨htm, by omega, by omega, fun _ => hnm, by omega, by omega, by omega, by omega, by omega, by omega, by omega, by omega, by omega, by omega⟩ (by omega)) rfl
    · refine look_intro kmap (some (.int .i64 2)) hm (k5.weaken (by rintro _ ⟨n, rfl⟩; rfl)) rfl (by rw [kmap_get]; simp [e]) ?_
      repeat (refine ifd (fun h => ?_) (fun h => ?_) <;> try (exfalso; omega))
      refine ifnd (fun h => ret_gives (bad fun T => h (T.nm (by omega))) rfl) (fun hnm => ?_)
      refine ifnd (fun h => ret_gives (bad fun T => h (by have := T.gl0; omega)) rfl) (fun hg0 => ?_)
      refine ifnd (fun h => ret_gives (bad fun T => h (by have := T.ln2; omega)) rfl) (fun hl => ?_)
      refine ifd (fun h => by omega) (fun h => ?_)
      exact ret_gives (one ⟨htm, by omega, by omega, fun _ => hnm, by omega, by omega, by omega, by omega, by omega, by omega, by omega, by omega, by omega, by omega⟩ (by omega)) rfl
    · refine look_intro kmap none hm (k5.weaken (by rintro _ ⟨n, rfl⟩; rfl)) rfl (by rw [kmap_get, if_neg (by omega), if_neg (by omega), if_neg (by omega), if_neg (by omega), if_neg (by omega)]) ?_
      by_cases e2 : g.kind = 0 ∨ g.kind = 1
      · repeat' (refine ifd (fun h => ?_) (fun h => ?_) <;> try (exfalso; omega))
        all_goals
          refine ifnd (fun h => ret_gives (bad fun T => h (T.nm (by omega))) rfl) (fun hnm => ?_)
          refine ifnd (fun h => ret_gives (bad fun T => h (by have := T.gl0; omega)) rfl) (fun hg0 => ?_)
          refine ifnd (fun h => ret_gives (bad fun T => h (by have := T.ln0; omega)) rfl) (fun hl => ?_)
          refine ifd (fun h => by omega) (fun h => ?_)
          exact ret_gives (one ⟨htm, by omega, by omega, fun _ => hnm, by omega, by omega, by omega, by omega, by omega, by omega, by omega, by omega, by omega, by omega⟩ (by omega)) rfl
      · by_cases e9 : g.kind = 9
        · repeat (refine ifd (fun h => ?_) (fun h => ?_) <;> try (exfalso; omega))
          refine call_gives (impl_IsRelName_spec _ _) ?_
          refine ifnd (fun h => ret_gives (bad fun T => h (T.rel e9)) rfl) (fun hnm => ?_)
          refine ifnd (fun h => ret_gives (bad fun T => h (by have := T.gl0; omega)) rfl) (fun hg0 => ?_)
          refine ifd (fun h => ret_gives (bad fun T => by have := T.ln9; omega) rfl) (fun hl => ?_)
          exact ret_gives (one ⟨htm, by omega, by omega, by omega, fun _ => hnm, by omega, by omega, by omega, by omega, by omega, by omega, by omega, by omega, by omega⟩ (by omega)) rfl
        · by_cases e3 : g.kind = 7 ∨ g.kind = 8 ∨ g.kind = 10
          · have fin : ∀ k : Int, k = 1 + (Gl.cnts g.goals : Nat) → TopOk g → (∀ x ∈ g.goals, x.Sh) → k ≤ room → Value.int .i64 k = .int .i64 (g.nodes room) := fun k hk T hS hr => by
              rw [Gl.nodes_pos (.mk T hS) (by omega), hce, hk]; congr 1
            have top : g.name = ⟨#[]⟩ → g.terms.length = 0 → g.goals.length ≤ 8 → (g.kind = 10 → g.goals.length = 1) → (g.kind = 10 → ∀ b, g.goals[0]? = some b → b.kind = 9) → TopOk g := fun a b c d f =>
              ⟨htm, by omega, by omega, fun _ => a, by omega, by omega, by omega, by omega, by omega, c, by omega, d, by omega, f⟩
            repeat' (refine ifd (fun h => ?_) (fun h => ?_) <;> try (exfalso; omega))
            · refine ifnd (fun h => ret_gives (bad fun T => h (T.nm (by omega))) rfl) (fun hnm => ?_)
              refine ifnd (fun h => ret_gives (bad fun T => h (by have := T.ln0; omega)) rfl) (fun hl => ?_)
              refine ifd (fun h => ret_gives (bad fun T => by have := T.gl; omega) rfl) (fun h8 => ?_)
              have T := top hnm (by omega) (by omega) (by omega) (by omega)
              refine loop_intro (fun i : Nat => i ≤ g.goals.length ∧ (∀ x ∈ g.goals.take i, x.Sh) ∧ 1 + (Gl.cnts (g.goals.take i) : Int) ≤ room) (fun i => ⟨[(1, .val (.int .i64 room)), (6, .val (.int .i64 (1 + (Gl.cnts (g.goals.take i) : Int)))), (124, .val (.slice p.2.1 g.goals.length p.2.2)), (125, .val (.int .i64 g.goals.length)), (126, .val (.int .i64 i))], [], 1, μ, h0⟩) (fun i => g.goals.length - i)
                0 ⟨by omega, by simp, by simp [Gl.cnts]; omega⟩ (fun i => ⟨rfl, rfl⟩) ⟨⟨rfl, rfl, rfl, rfl, rfl, trivial⟩, trivial, rfl, rfl⟩ ?_
              rintro i ⟨hi, hall, hle⟩
              refine ifd (fun h => ?_) (fun h => ?_)
              · have hv_ := at_some (l := g.goals) (i := i) (by omega)
                obtain ⟨t, ht⟩ := hv_
                have hc := Gl.cnts_take ht
                have hc' := Gl.cnts_le g.goals (i + 1)
                have hv_ := Gl.elem hgs ht
                obtain ⟨ad, p3, hel, hr⟩ := hv_
                refine elem_intro hel ?_
                intro r2
                refine num64 (by omega) (by omega) ?_
                refine call_gives (ih t (mem_at ht) hr (by omega) (by omega)) ?_
                refine ifd (fun h => ret_gives (Gl.nodes_neg fun k => Gl.nodes_lt h ⟨k.1.sub t (mem_at ht), by omega⟩) rfl) (fun h => ?_)
                have hv_ := Gl.nodes_ge h
                obtain ⟨hS, hcnt, he⟩ := hv_
                refine num_eq (x := 1 + (Gl.cnts (g.goals.take (i + 1)) : Int)) (by rw [he, wrap64 (by omega) (by omega), hc]; omega) ?_
                refine num64 (by omega) (by omega) ⟨i + 1, ⟨by omega, fun x hx => ?_, by omega⟩, by omega, ⟨⟨rfl, rfl, rfl, rfl, rfl, trivial⟩, trivial, rfl, rfl⟩⟩
                rw [List.take_add_one, ht, Option.toList_some, List.mem_append, List.mem_singleton] at hx
                rcases hx with hx | rfl
                · exact hall x hx
                · exact hS
              · obtain rfl : i = g.goals.length := by omega
                rw [List.take_length] at hall hle
                exact ret_gives (fin _ (by rw [List.take_length]) T hall (by rw [List.take_length]; exact hle)) rfl
            · refine ifnd (fun h => ret_gives (bad fun T => h (T.nm (by omega))) rfl) (fun hnm => ?_)
              refine ifnd (fun h => ret_gives (bad fun T => h (by have := T.ln0; omega)) rfl) (fun hl => ?_)
              refine ifd (fun h => ret_gives (bad fun T => by have := T.gl; omega) rfl) (fun h8 => ?_)
              have T := top hnm (by omega) (by omega) (by omega) (by omega)
              refine loop_intro (fun i : Nat => i ≤ g.goals.length ∧ (∀ x ∈ g.goals.take i, x.Sh) ∧ 1 + (Gl.cnts (g.goals.take i) : Int) ≤ room) (fun i => ⟨[(1, .val (.int .i64 room)), (6, .val (.int .i64 (1 + (Gl.cnts (g.goals.take i) : Int)))), (124, .val (.slice p.2.1 g.goals.length p.2.2)), (125, .val (.int .i64 g.goals.length)), (126, .val (.int .i64 i))], [], 1, μ, h0⟩) (fun i => g.goals.length - i)
                0 ⟨by omega, by simp, by simp [Gl.cnts]; omega⟩ (fun i => ⟨rfl, rfl⟩) ⟨⟨rfl, rfl, rfl, rfl, rfl, trivial⟩, trivial, rfl, rfl⟩ ?_
              rintro i ⟨hi, hall, hle⟩
              refine ifd (fun h => ?_) (fun h => ?_)
              · have hv_ := at_some (l := g.goals) (i := i) (by omega)
                obtain ⟨t, ht⟩ := hv_
                have hc := Gl.cnts_take ht
                have hc' := Gl.cnts_le g.goals (i + 1)
                have hv_ := Gl.elem hgs ht
                obtain ⟨ad, p3, hel, hr⟩ := hv_
                refine elem_intro hel ?_
                intro r2
                refine num64 (by omega) (by omega) ?_
                refine call_gives (ih t (mem_at ht) hr (by omega) (by omega)) ?_
                refine ifd (fun h => ret_gives (Gl.nodes_neg fun k => Gl.nodes_lt h ⟨k.1.sub t (mem_at ht), by omega⟩) rfl) (fun h => ?_)
                have hv_ := Gl.nodes_ge h
                obtain ⟨hS, hcnt, he⟩ := hv_
                refine num_eq (x := 1 + (Gl.cnts (g.goals.take (i + 1)) : Int)) (by rw [he, wrap64 (by omega) (by omega), hc]; omega) ?_
                refine num64 (by omega) (by omega) ⟨i + 1, ⟨by omega, fun x hx => ?_, by omega⟩, by omega, ⟨⟨rfl, rfl, rfl, rfl, rfl, trivial⟩, trivial, rfl, rfl⟩⟩
                rw [List.take_add_one, ht, Option.toList_some, List.mem_append, List.mem_singleton] at hx
                rcases hx with hx | rfl
                · exact hall x hx
                · exact hS
              · obtain rfl : i = g.goals.length := by omega
                rw [List.take_length] at hall hle
                exact ret_gives (fin _ (by rw [List.take_length]) T hall (by rw [List.take_length]; exact hle)) rfl
            · refine ifnd (fun h => ret_gives (bad fun T => h (T.nm (by omega))) rfl) (fun hnm => ?_)
              refine ifnd (fun h => ret_gives (bad fun T => h (by have := T.ln0; omega)) rfl) (fun hl => ?_)
              refine ifnd (fun h => ret_gives (bad fun T => h (by have := T.gl1; omega)) rfl) (fun hg1 => ?_)
              have hv_ := at_some (l := g.goals) (i := 0) (by omega)
              obtain ⟨b, hb⟩ := hv_
              have hv_ := Gl.elem hgs hb
              obtain ⟨ad, p2, hel, hr⟩ := hv_
              refine elem_intro hel ?_
              refine ifnd (fun h => ret_gives (bad fun T => h (T.cl (by omega) b hb)) rfl) (fun hb9 => ?_)
              have T := top hnm (by omega) (by omega) (by omega) (fun _ x hx => by rw [hb] at hx; cases hx; exact hb9)
              refine loop_intro (fun i : Nat => i ≤ g.goals.length ∧ (∀ x ∈ g.goals.take i, x.Sh) ∧ 1 + (Gl.cnts (g.goals.take i) : Int) ≤ room) (fun i => ⟨[(1, .val (.int .i64 room)), (6, .val (.int .i64 (1 + (Gl.cnts (g.goals.take i) : Int)))), (124, .val (.slice p.2.1 g.goals.length p.2.2)), (125, .val (.int .i64 g.goals.length)), (126, .val (.int .i64 i))], [], 1, μ, h0⟩) (fun i => g.goals.length - i)
                0 ⟨by omega, by simp, by simp [Gl.cnts]; omega⟩ (fun i => ⟨rfl, rfl⟩) ⟨⟨rfl, rfl, rfl, rfl, rfl, trivial⟩, trivial, rfl, rfl⟩ ?_
              rintro i ⟨hi, hall, hle⟩
              refine ifd (fun h => ?_) (fun h => ?_)
              · have hv_ := at_some (l := g.goals) (i := i) (by omega)
                obtain ⟨t, ht⟩ := hv_
                have hc := Gl.cnts_take ht
                have hc' := Gl.cnts_le g.goals (i + 1)
                have hv_ := Gl.elem hgs ht
                obtain ⟨ad, p3, hel, hr⟩ := hv_
                refine elem_intro hel ?_
                intro r2
                refine num64 (by omega) (by omega) ?_
                refine call_gives (ih t (mem_at ht) hr (by omega) (by omega)) ?_
                refine ifd (fun h => ret_gives (Gl.nodes_neg fun k => Gl.nodes_lt h ⟨k.1.sub t (mem_at ht), by omega⟩) rfl) (fun h => ?_)
                have hv_ := Gl.nodes_ge h
                obtain ⟨hS, hcnt, he⟩ := hv_
                refine num_eq (x := 1 + (Gl.cnts (g.goals.take (i + 1)) : Int)) (by rw [he, wrap64 (by omega) (by omega), hc]; omega) ?_
                refine num64 (by omega) (by omega) ⟨i + 1, ⟨by omega, fun x hx => ?_, by omega⟩, by omega, ⟨⟨rfl, rfl, rfl, rfl, rfl, trivial⟩, trivial, rfl, rfl⟩⟩
                rw [List.take_add_one, ht, Option.toList_some, List.mem_append, List.mem_singleton] at hx
                rcases hx with hx | rfl
                · exact hall x hx
                · exact hS
              · obtain rfl : i = g.goals.length := by omega
                rw [List.take_length] at hall hle
                exact ret_gives (fin _ (by rw [List.take_length]) T hall (by rw [List.take_length]; exact hle)) rfl
          · repeat (refine ifd (fun h => ?_) (fun h => ?_) <;> try (exfalso; omega))
            exact ret_gives (bad fun T => by have := T.k0; have := T.k1; omega) rfl
end
end Go.Vx

/- Contracts: goals visited; the variables of a goal. -/
namespace Go.Vx
open Go.Proofs Classical
/-! ### Plain -/
mutual
def Gl.all : Gl → List Gl
  | .mk k s ts gs => .mk k s ts gs :: Gl.alls gs
def Gl.alls : List Gl → List Gl
  | [] => []
  | g :: r => g.all ++ Gl.alls r
end
theorem Gl.alls_map : ∀ l : List Gl, Gl.alls l = l.flatMap Gl.all
  | [] => rfl
  | g :: r => by simp [Gl.alls, Gl.alls_map r]
theorem Gl.all_eq (g : Gl) : g.all = g :: g.goals.flatMap Gl.all := by
  cases g
  rw [Gl.all, Gl.alls_map]
  rfl
theorem Gl.Sh.all : ∀ (g : Gl), g.Sh → ∀ x ∈ g.all, x.Sh :=
  Gl.ind fun g ih h x hx => by
    rw [Gl.all_eq] at hx
    rcases List.mem_cons.1 hx with rfl | hx
    · exact h
    · have hv_ := List.mem_flatMap.1 hx
      obtain ⟨y, hy, hx⟩ := hv_
      exact ih y hy (h.sub y hy) x hx
noncomputable def Gl.tvars (g : Gl) : List Int := (g.terms.map Tm.toT).flatMap T.vars
noncomputable def Gl.vars (g : Gl) : List Int := g.all.flatMap Gl.tvars
theorem foldl_snoc {α : Type} : ∀ (l s : List α), l.foldl (fun s n => s ++ [n]) s = s ++ l
  | [], s => by simp
  | a :: l, s => by rw [List.foldl_cons, foldl_snoc l]; simp
theorem foldl_app {α β : Type} (f : α → List β) : ∀ (l : List α) (s : List β), l.foldl (fun s x => s ++ f x) s = s ++ l.flatMap f
  | [], s => by simp
  | a :: l, s => by rw [List.foldl_cons, foldl_app f l]; simp
theorem toTs_tm' {xs : List T} : (xs.map T.tm).map Tm.toT = xs := by
  rw [List.map_map]
  exact (List.map_congr_left fun x _ => T.toT_tm x).trans (List.map_id _)
section
variable {μ : Mem}
theorem eachGoal_rel {S : Type} (J : S → Mem → Prop) (step : S → Gl → S) (Q : Gl → Prop) {k : FuncId} {caps : List Value}
    (hc : ∀ s h g v, Q g → RepV μ g.d v → J s h → SpecH Tryz.prog k (v :: caps) μ h fun r μ' h' => r = .tuple #[] ∧ μ' = μ ∧ J (step s g) h') :
    ∀ (g : Gl) {v : Value} (s : S) (h : Mem), RepV μ g.d v → (∀ x ∈ g.all, Q x) → J s h → SpecH Tryz.prog 292 [v, .func (.func k) #[] caps.toArray] μ h fun r μ' h' => r = .tuple #[] ∧ μ' = μ ∧ J (g.all.foldl step s) h' :=
  Gl.ind fun g ih v s h hv hq hj => by
    have hv_ := Gl.inv hv
    obtain ⟨p, rfl, hts, hgs⟩ := hv_
    have hn := maxLen_le hgs.max
    rw [Gl.all_eq] at hq ⊢
    rw [List.foldl_cons]
    refine SpecH.mk [] Tryz.func292 (by kernel_rfl) ?_
    intro r
    refine call_own (hc s h g _ (hq g (by simp)) hv hj) fun v μ' h' hle hap hR => ?_
    obtain ⟨rfl, e2, hj'⟩ := hR
    obtain rfl := e2.symm
    refine loop_intro (fun p : Nat × Mem => p.1 ≤ g.goals.length ∧ J (((g.goals.take p.1).flatMap Gl.all).foldl step (step s g)) p.2)
      (fun (i, h) => ⟨[(1, .val (.func (.func k) #[] caps.toArray)), (10, .val (.slice p.2.1 g.goals.length p.2.2)), (11, .val (.int .i64 g.goals.length)), (12, .val (.int .i64 i))], [], 1, μ, h⟩) (fun p => g.goals.length - p.1)
      (0, h') ⟨by simp, by simpa using hj'⟩ (fun (_, _) => ⟨rfl, rfl⟩) ⟨⟨rfl, rfl, rfl, rfl, trivial⟩, trivial, rfl, rfl⟩ ?_
    rintro ⟨i, h1⟩ ⟨hi, hj1⟩
    dsimp only at hi hj1
    refine ifd (fun hlt => ?_) (fun hlt => ?_)
    · have hv_ := at_some (l := g.goals) (i := i) (by omega)
      obtain ⟨t, ht⟩ := hv_
      have hv_ := Gl.elem hgs ht
      obtain ⟨ad, p3, hel, hr⟩ := hv_
      refine elem_intro hel ?_
      intro r4
      refine call_own (ih t (mem_at ht) _ h1 hr (fun x hx => hq x (List.mem_cons_of_mem _ (List.mem_flatMap.2 ⟨t, mem_at ht, hx⟩))) hj1) fun v μ' h' hle hap hR => ?_
      obtain ⟨rfl, e2, hj2⟩ := hR
      obtain rfl := e2.symm
      refine num64 (by omega) (by omega) ⟨(i + 1, h'), ⟨by dsimp only; omega, ?_⟩, by dsimp only; omega, ⟨⟨rfl, rfl, rfl, rfl, trivial⟩, trivial, rfl, rfl⟩⟩
      dsimp only
      rw [List.take_add_one, ht, Option.toList_some, List.flatMap_append, List.foldl_append]
      simpa using hj2
    · obtain rfl : i = g.goals.length := by omega
      rw [List.take_length] at hj1
      exact ret_plain ⟨rfl, rfl, hj1⟩
/-- The map of variables: which it holds. -/
def KeysInv (rm : Nat) (s : List Int) (h : Mem) : Prop := ∃ r l, h rm = some (.cells #[.map (some r)] 299 (0, 0)) ∧ h r = some (mapO l) ∧ MapOk IntKey l ∧ ∀ n, (mget l (.int .i64 n)).isSome ↔ n ∈ s
theorem goalVars11_spec {rm : Nat} {s : List Int} {h : Mem} {n : Int} (H : KeysInv rm s h) : SpecH Tryz.prog 327 [.int .i64 n, .pointer (some ⟨rm, 0, none⟩)] μ h fun r μ' h' => r = .tuple #[] ∧ μ' = μ ∧ KeysInv rm (s ++ [n]) h' := by
  obtain ⟨r, l, h1, h2, hk, hg⟩ := H
  have e1 : rm ≠ r := ne_of_obj h1 h2 (by simp [mapO])
  refine SpecH.mk [] Tryz.func327 (by kernel_rfl) ?_
  refine own_intro [.map (some r)] rfl (box_at h1) ?_
  refine upd_intro l h2 (hk.weaken (by rintro _ ⟨n, rfl⟩; rfl)) rfl ?_
  refine ret_plain ⟨rfl, rfl, r, _, ?_, Mem.set_at _ _ _, hk.int _, fun m => ?_⟩
  · dsimp only; rw [Mem.set_ne e1]; exact h1
  · rw [mget_int, List.mem_append, List.mem_singleton]
    by_cases e : m = n
    · simp [e]
    · rw [if_neg e, hg]; simp [e]
theorem goalVars1_spec {rm : Nat} {s : List Int} {h : Mem} {g : Gl} {v : Value} (hok : ∀ t ∈ g.terms, t.Ok) (hv : RepV μ g.d v) (H : KeysInv rm s h) : SpecH Tryz.prog 326 [v, .pointer (some ⟨rm, 0, none⟩)] μ h fun r μ' h' => r = .tuple #[] ∧ μ' = μ ∧ KeysInv rm (s ++ g.tvars) h' := by
  have hv_ := Gl.inv hv
  obtain ⟨p, rfl, hts, hgs⟩ := hv_
  have hv_ := lift_ok hok
  obtain ⟨xs, hxs, hxo⟩ := hv_
  have htv : g.tvars = xs.flatMap T.vars := by
    rw [Gl.tvars, hxs, List.map_map]
    congr 1
    exact (List.map_congr_left fun x _ => T.toT_tm x).trans (List.map_id _)
  rw [htv]
  rw [hxs, List.length_map] at hts ⊢
  have hn := maxLen_le hts.max
  refine SpecH.mk [] Tryz.func326 (by kernel_rfl) ?_
  intro r
  refine loop_intro (fun p : Nat × Mem => p.1 ≤ xs.length ∧ KeysInv rm (s ++ (xs.take p.1).flatMap T.vars) p.2)
    (fun (i, h) => ⟨[(1, .val (.pointer (some ⟨rm, 0, none⟩))), (6, .val (.slice p.1.1 xs.length p.1.2)), (7, .val (.int .i64 xs.length)), (8, .val (.int .i64 i))], [], 1, μ, h⟩) (fun p => xs.length - p.1)
    (0, h) ⟨by simp, by simpa using H⟩ (fun (_, _) => ⟨rfl, rfl⟩) ⟨⟨rfl, rfl, rfl, rfl, trivial⟩, trivial, rfl, rfl⟩ ?_
  rintro ⟨i, h1⟩ ⟨hi, hj1⟩
  dsimp only at hi hj1
  refine ifd (fun hlt => ?_) (fun hlt => ?_)
  · have hv_ := at_some (l := xs) (i := i) (by omega)
    obtain ⟨x, hx'⟩ := hv_
    have hv_ := Tm.elem (i := i) (t := x.tm) hts (by simp [hx'])
    obtain ⟨ad, p3, hel, hto⟩ := hv_
    refine elem_intro hel ?_
    intro r4
    refine call_own (eachVar_rel (KeysInv rm) (fun s n => s ++ [n]) (fun _ _ => True) (fun s h n _ hj => goalVars11_spec hj) x _ h1 hto (fun _ _ _ _ => trivial) hj1) fun v μ' h' hle hap hR => ?_
    obtain ⟨rfl, e2, hj2⟩ := hR
    obtain rfl := e2.symm
    rw [foldl_snoc] at hj2
    refine num64 (by omega) (by omega) ⟨(i + 1, h'), ⟨by dsimp only; omega, ?_⟩, by dsimp only; omega, ⟨⟨rfl, rfl, rfl, rfl, trivial⟩, trivial, rfl, rfl⟩⟩
    dsimp only
    rw [List.take_add_one, hx', Option.toList_some, List.flatMap_append]
    simpa using hj2
  · obtain rfl : i = xs.length := by omega
    rw [List.take_length] at hj1
    exact ret_plain ⟨rfl, rfl, hj1⟩
theorem Gl.vars_range {g : Gl} (h : g.Sh) : ∀ n ∈ g.vars, 0 ≤ n ∧ n ≤ 100000 := fun n hn => by
  have hv_ := List.mem_flatMap.1 hn
  obtain ⟨x, hx, hn⟩ := hv_
  have hv_ := lift_ok (h.all g x hx).top.tm
  obtain ⟨xs, hxs, hxo⟩ := hv_
  rw [Gl.tvars, hxs, toTs_tm'] at hn
  have hv_ := List.mem_flatMap.1 hn
  obtain ⟨t, ht, hn⟩ := hv_
  exact T.vars_range (hxo t ht).1 n hn
theorem goalVars_spec {g : Gl} {v : Value} (hS : g.Sh) (hv : RepV μ g.d v) : Spec Tryz.prog 291 [v] μ fun v μ' => ∃ xs : List Int, (∀ n, n ∈ xs ↔ n ∈ g.vars) ∧ xs.Pairwise (· < ·) ∧ Fresh μ μ' (.sl 1 (xs.map D.i)) v := by
  have hv_ := Gl.invV hv
  obtain ⟨p, rfl⟩ := hv_
  refine Spec.mkO [3, 4] Tryz.func291 (by kernel_rfl) ?_
  intro r
  intro rM hmM hoM r3 hm3 ho3
  refine sto_intro [.map none] 299 (Mem.set_at _ _ _) rfl (Nat.le_refl _) ?_
  dsimp only at hmM hoM hm3 ho3
  have n1 : rM ≠ r3 := fun e => by subst e; simp [Mem.set_get] at ho3
  generalize hh : Mem.set (Mem.set _ r3 _) r3 _ = h0
  have H0 : KeysInv r3 [] h0 := by
    subst hh
    refine ⟨rM, [], ?_, ?_, MapOk.nil, fun n => by simp [mget]⟩
    · rw [Mem.set_at]; rfl
    · dsimp only; rw [Mem.set_ne n1, Mem.set_ne n1, Mem.set_at]
  refine call_own (eachGoal_rel (KeysInv r3) (fun s g => s ++ g.tvars) (fun g => ∀ t ∈ g.terms, t.Ok) (fun s h g v hq hv hj => goalVars1_spec hq hv hj) g [] h0 hv (fun x hx => (Gl.Sh.all g hS x hx).top.tm) H0) fun v μ' h' hle hap hR => ?_
  obtain ⟨rfl, e2, hj⟩ := hR
  obtain rfl := e2.symm
  rw [foldl_app] at hj
  obtain ⟨r, l, h1, h2, hk, hg⟩ := hj
  have hlen : l.length ≤ 1000000 := by
    have hv_ := keys_ints hk
    obtain ⟨ks, hks, hnd⟩ := hv_
    have := nodup_range (N := 100001) hnd fun n hn => by
      have h3 := (hg n).1 ((mget_keys hks n).2 hn)
      have := Gl.vars_range hS n (by simpa [Gl.vars] using h3)
      omega
    have h4 := congrArg List.length hks
    simp only [ints, List.length_map] at h4
    omega
  refine own_intro [.map (some r)] rfl (box_at h1) ?_
  refine call_own (sortedInts_spec h2 hk hlen) fun v μ2 h2' hle2 hap2 hR2 => ?_
  obtain ⟨rfl, xs, g1, g2, g3⟩ := hR2
  exact ret_plain ⟨xs, fun n => (g1 n).trans ((hg n).trans (by simp [Gl.vars])), g2, g3⟩
theorem varsBelow_spec {g : Gl} {v : Value} {n : Int} (hS : g.Sh) (hv : RepV μ g.d v) : Spec Tryz.prog 211 [v, .int .i64 n] μ fun r _ => r = .bool (decide (∀ m ∈ g.vars, m < n)) := by
  have hv_ := Gl.invV hv
  obtain ⟨p, rfl⟩ := hv_
  refine Spec.mk Tryz.func211 (by kernel_rfl) ?_
  intro r
  refine call_plain (goalVars_spec hS hv) fun v1 μ1 hle1 hR => ?_
  obtain ⟨xs, g1, g2, g3⟩ := hR
  have hv_ := Rep.sl g3.rep
  obtain ⟨b, c, rfl, hsl⟩ := hv_
  rw [List.length_map] at hsl ⊢
  have hn := maxLen_le hsl.max
  refine loop_intro (fun i : Nat => i ≤ xs.length ∧ ∀ m ∈ xs.take i, m < n) (fun i => ⟨[(1, .val (.int .i64 n)), (8, .val (.slice b xs.length c)), (9, .val (.int .i64 xs.length)), (10, .val (.int .i64 i))], [], 1, μ1, Mem.nil⟩) (fun i => xs.length - i)
    0 ⟨by simp, by simp⟩ (fun _ => ⟨rfl, rfl⟩) ⟨⟨rfl, rfl, rfl, rfl, trivial⟩, trivial, rfl, rfl⟩ ?_
  rintro i ⟨hi, hall⟩
  refine ifd (fun hlt => ?_) (fun hlt => ?_)
  · have hv_ := at_some (l := xs) (i := i) (by omega)
    obtain ⟨x, hx⟩ := hv_
    have hv_ := Ints.elem hsl hx
    obtain ⟨ad, hel⟩ := hv_
    refine elem_intro hel ?_
    refine ifd (fun hge => ret_plain (isF fun hh => ?_)) (fun hge => ?_)
    · have := hh x ((g1 x).1 (mem_at hx)); omega
    refine num64 (by omega) (by omega) ⟨i + 1, ⟨by omega, fun y hy => ?_⟩, by omega, ⟨⟨rfl, rfl, rfl, rfl, trivial⟩, trivial, rfl, rfl⟩⟩
    rw [List.take_add_one, hx, Option.toList_some, List.mem_append, List.mem_singleton] at hy
    rcases hy with hy | rfl
    · exact hall y hy
    · omega
  · obtain rfl : i = xs.length := by omega
    rw [List.take_length] at hall
    exact ret_plain (isT fun m hm => hall m ((g1 m).2 hm))
end
end Go.Vx

/- Contracts: the laws' own functions on values of the type Rel: sizes, copies, equality, marks; what an argument reads. (By gen_types.py.) -/
namespace Go.Vx
open Go.Proofs Classical
structure Rl where
  name : ByteArray
  arity : Int
  locals : Int
  body : Gl
def Rl.d (x : Rl) : D := .st [.s x.name, .i x.arity, .i x.locals, x.body.d]
theorem Rl.d_eq (x : Rl) : x.d = .st [.s x.name, .i x.arity, .i x.locals, x.body.d] := rfl
theorem Rl.d_n (x : Rl) : x.d.n = 7 := by
  rw [Rl.d_eq]
  simp only [D.n, D.ns, Gl.d_n]
abbrev Rl.P := Gl.P
/-- The cells of a value. -/
def Rl.cs (x : Rl) (p : Rl.P) : List Value := [.string x.name, .int .i64 x.arity, .int .i64 x.locals, .int .i64 x.body.kind, .string x.body.name, .slice p.1.1 x.body.terms.length p.1.2, .slice p.2.1 x.body.goals.length p.2.2]
section
variable {μ : Mem}
def Rl.At (μ : Mem) (x : Rl) (p : Rl.P) : Prop := RepV μ x.body.d (.agg (x.body.cs p).toArray)
theorem Rl.invA {x : Rl} {cs : List Value} (h : Rep μ x.d cs) : ∃ p : Rl.P, cs = x.cs p ∧ Rl.At μ x p := by
  rw [Rl.d_eq] at h
  obtain ⟨a0, t0, rfl, h0, h⟩ := h
  have h0 : a0 = [.string x.name] := h0
  subst h0
  obtain ⟨a1, t1, rfl, h1, h⟩ := h
  have h1 : a1 = [.int .i64 x.arity] := h1
  subst h1
  obtain ⟨a2, t2, rfl, h2, h⟩ := h
  have h2 : a2 = [.int .i64 x.locals] := h2
  subst h2
  obtain ⟨a3, t3, rfl, h3, h⟩ := h
  have hv_ := Gl.invR h3
  obtain ⟨p3, rfl, r3⟩ := hv_
  obtain rfl : t3 = [] := h
  exact ⟨p3, by simp [Rl.cs, Gl.cs], r3⟩
theorem Rl.rep {x : Rl} {cs : List Value} (h : Rep μ x.d cs) : RepV μ x.d (.agg cs.toArray) := by
  rw [Rl.d_eq] at h ⊢; exact ⟨cs, rfl, h⟩
theorem Rl.invR {x : Rl} {cs : List Value} (h : Rep μ x.d cs) : ∃ p : Rl.P, cs = x.cs p ∧ RepV μ x.d (.agg (x.cs p).toArray) := by
  have hv_ := Rl.invA h
  obtain ⟨p, e, _⟩ := hv_
  subst e
  exact ⟨p, rfl, Rl.rep h⟩
theorem Rl.inv {x : Rl} {v : Value} (h : RepV μ x.d v) : ∃ p : Rl.P, v = .agg #[.string x.name, .int .i64 x.arity, .int .i64 x.locals, .int .i64 x.body.kind, .string x.body.name, .slice p.1.1 x.body.terms.length p.1.2, .slice p.2.1 x.body.goals.length p.2.2] ∧ Rl.At μ x p := by
  have h2 : ∃ cs, v = .agg (List.toArray cs) ∧ Rep μ x.d cs := by rw [Rl.d_eq] at h ⊢; exact h
  obtain ⟨cs, rfl, h3⟩ := h2
  have hv_ := Rl.invA h3
  obtain ⟨p, rfl, hA⟩ := hv_
  exact ⟨p, rfl, hA⟩
theorem Rl.invV {x : Rl} {v : Value} (h : RepV μ x.d v) : ∃ p : Rl.P, v = .agg #[.string x.name, .int .i64 x.arity, .int .i64 x.locals, .int .i64 x.body.kind, .string x.body.name, .slice p.1.1 x.body.terms.length p.1.2, .slice p.2.1 x.body.goals.length p.2.2] := by
  have hv_ := Rl.inv h
  obtain ⟨p, h, _⟩ := hv_
  exact ⟨p, h⟩
theorem Rl.elemA {l : List Rl} {base : Option Addr} {n : Nat} (h : Sl μ 7 base n (l.map Rl.d)) {i : Nat} {x : Rl} (hx : l[i]? = some x) : ∃ ad, ∃ p : Rl.P, ElemAt μ base n 7 i ad (x.cs p) ∧ RepV μ x.d (.agg (x.cs p).toArray) ∧ Rl.At μ x p := by
  have hv_ := h.get i x.d (by simp [hx])
  obtain ⟨ad, cs, h1, h2⟩ := hv_
  have hv_ := Rl.invA h2
  obtain ⟨p, rfl, hA⟩ := hv_
  exact ⟨ad, p, h1, Rl.rep h2, hA⟩
theorem Rl.elem {l : List Rl} {base : Option Addr} {n : Nat} (h : Sl μ 7 base n (l.map Rl.d)) {i : Nat} {x : Rl} (hx : l[i]? = some x) : ∃ ad, ∃ p : Rl.P, ElemAt μ base n 7 i ad (x.cs p) ∧ RepV μ x.d (.agg (x.cs p).toArray) := by
  have hv_ := Rl.elemA h hx
  obtain ⟨ad, p, h1, h2, _⟩ := hv_
  exact ⟨ad, p, h1, h2⟩
theorem Rl.sz_eq (x : Rl) : x.d.sz = x.name.size + x.body.d.sz := by
  rw [Rl.d_eq]
  simp [D.sz, D.szs]
theorem szRel_spec (x : Rl) {v : Value} {left : Int} (hv : RepV μ x.d v) (hl : 0 ≤ left) (hl2 : left ≤ 1048576) (hw : x.d.wd) : Gives Tryz.prog 199 [v, .int .i64 left] μ (.int .i64 (szR left x.d.sz)) := by
  have hv_ := Rl.inv hv
  obtain ⟨p, rfl, hA⟩ := hv_
  have hsz := Rl.sz_eq x
  rw [Rl.d_eq] at hw
  have m0 := maxLen_le hw.1
  refine Spec.mk Tryz.func199 (by kernel_rfl) ?_
  intro r
  refine num64 (by omega) (by omega) (ifd (fun h => ret_gives (by rw [szR_neg (by omega)]) rfl) (fun h => ?_))
  refine call_gives (szGoal_spec x.body hA (by omega) (by omega) hw.2.2.2.1) ?_
  refine ifd (fun h => ret_gives (by have := szR_lt h; rw [szR_neg (by omega)]) rfl) (fun h => ?_)
  have q3 := szR_ge h
  rw [szR_pos q3] at h ⊢
  refine ret_gives ?_ rfl
  rw [szR_pos (by omega)]
  first | rfl | (congr 1; omega)
theorem szRelS_of {l : List Rl} (he : ∀ t ∈ l, ∀ {v : Value} {left : Int}, RepV μ t.d v → 0 ≤ left → left ≤ 1048576 → t.d.wd → Gives Tryz.prog 199 [v, .int .i64 left] μ (.int .i64 (szR left t.d.sz)))
    {base : Option Addr} {cap : Nat} {left : Int} (hsl : Sl μ 7 base l.length (l.map Rl.d)) (hl : 0 ≤ left) (hl2 : left ≤ 1048576) (hw : D.wds (l.map Rl.d)) :
    Gives Tryz.prog 110 [.slice base l.length cap, .int .i64 left] μ (.int .i64 (szR left (l.length + D.szs (l.map Rl.d)))) := by
  have hn := maxLen_le hsl.max
  refine Spec.mk Tryz.func110 (by kernel_rfl) ?_
  refine num64 (by omega) (by omega) (ifd (fun h => ret_gives ?_ rfl) (fun h => ?_))
  · rw [szR_neg (by omega)]
  refine loop_intro (fun i : Nat => i ≤ l.length ∧ (D.szs ((l.map Rl.d).take i) : Int) ≤ left - l.length) (fun i => ⟨[(0, .val (.slice base l.length cap)), (1, .val (.int .i64 (left - l.length - D.szs ((l.map Rl.d).take i)))), (5, .val (.int .i64 i))], [], 0, μ, Mem.nil⟩) (fun i => l.length - i)
    0 ⟨by omega, by simp [D.szs]; omega⟩ (fun i => ⟨rfl, rfl⟩) ⟨⟨rfl, by show some (SV.val (.int .i64 _)) = some (SV.val (.int .i64 _)); congr 3; simp [D.szs], rfl, trivial⟩, trivial, rfl, rfl⟩ ?_
  rintro i ⟨hi, hz⟩
  refine ifd (fun h => ?_) (fun h => ?_)
  · obtain ⟨t, ht⟩ := at_some (l := l) (i := i) (by omega)
    have hx := at_map (f := Rl.d) ht
    have hs := D.szs_take hx
    have hs' := D.szs_le (l.map Rl.d) (i + 1)
    obtain ⟨ad, p, hel, hr⟩ := Rl.elem hsl ht
    refine elem_intro hel (call_gives (he t (mem_at ht) hr (by omega) (by omega) (D.wds_mem hw _ (mem_at hx))) ?_)
    refine ifd (fun h => ret_gives ?_ rfl) (fun h => ?_)
    · have := szR_lt h
      rw [szR_neg (by omega)]
    · have := szR_ge h
      refine num64 (by omega) (by omega) ⟨i + 1, ⟨by omega, by omega⟩, by omega, ⟨⟨rfl, ?_, rfl, trivial⟩, trivial, rfl, rfl⟩⟩
      rw [szR_pos this, hs]
      show some (SV.val (.int .i64 _)) = some (SV.val (.int .i64 _))
      congr 3; omega
  · obtain rfl : i = l.length := by omega
    rw [List.take_of_length_le (by simp)] at hz ⊢
    refine ret_gives ?_ rfl
    rw [szR_pos (by omega)]; congr 1; omega
theorem szRelS_spec {l : List Rl} {base : Option Addr} {cap : Nat} {left : Int} (hsl : Sl μ 7 base l.length (l.map Rl.d)) (hl : 0 ≤ left) (hl2 : left ≤ 1048576) (hw : D.wds (l.map Rl.d)) :
    Gives Tryz.prog 110 [.slice base l.length cap, .int .i64 left] μ (.int .i64 (szR left (l.length + D.szs (l.map Rl.d)))) := szRelS_of (fun t _ _ _ => szRel_spec t) hsl hl hl2 hw
set_option maxRecDepth 4000 in
theorem toRel_spec (x : Rl) {μ : Mem} {v : Value} (hv : RepV μ x.d v) (hb : x.d.sz ≤ 1048576) : Spec Tryz.prog 205 [v] μ fun v μ' => Fresh μ μ' x.d v := by
  have hv_ := Rl.inv hv
  obtain ⟨p, rfl, hA⟩ := hv_
  have hsz := Rl.sz_eq x
  have A0 := hA
  refine Spec.mk Tryz.func205 (by kernel_rfl) ?_
  intro r1 r2 r3
  refine call_plain (toGoal_spec x.body A0 (by omega)) fun u0 μ0 hle0 hf0 => ?_
  have hv_ := Gl.invV hf0.rep
  obtain ⟨pp0, rfl⟩ := hv_
  rw [Rl.d_eq]
  exact ret_plain (FreshS.st (FreshS.str (FreshS.int (FreshS.int (FreshS.cons hf0 hle0 (Mem.Le.refl _) (FreshS.nil))))))
theorem toRelS_of {l : List Rl} (he : ∀ t ∈ l, ∀ {μ : Mem} {v : Value}, RepV μ t.d v → t.d.sz ≤ 1048576 → Spec Tryz.prog 205 [v] μ fun v μ' => Fresh μ μ' t.d v)
    {base : Option Addr} {cap : Nat} (hsl : Sl μ 7 base l.length (l.map Rl.d)) (hb : l.length + D.szs (l.map Rl.d) ≤ 1048576) :
    Spec Tryz.prog 118 [.slice base l.length cap] μ fun v μ' => Fresh μ μ' (.sl 7 (l.map Rl.d)) v := by
  refine Spec.mk Tryz.func118 (by kernel_rfl) ?_
  refine make_intro l.length rfl rfl (by simp only; omega) (Nat.le_trans (m := 1048576) (by omega) (by decide)) ?_
  intro r
  refine loop_intro (fun p : Nat × List Value × Mem => μ.Le p.2.2 ∧ ∃ g, Filled 7 (.agg #[.string ⟨#[]⟩, .int .i64 0, .int .i64 0, .int .i64 0, .string ⟨#[]⟩, .slice none 0 0, .slice none 0 0]) μ p.2.2 (l.map Rl.d) p.1 p.2.1 g)
    (fun (i, xs, μ') => ⟨[(0, .val (.slice base l.length cap)), (3, .row 0 (some r) l.length l.length), (4, .val (.int .i64 i))], [(0, some (.row (some r) l.length 143 7 xs))], 1, μ', Mem.nil⟩) (fun p => l.length - p.1)
    (0, List.replicate l.length (.agg #[.string ⟨#[]⟩, .int .i64 0, .int .i64 0, .int .i64 0, .string ⟨#[]⟩, .slice none 0 0, .slice none 0 0]), μ) ⟨Mem.Le.refl μ, _, Filled.start (by simp)⟩ (fun (_, _, _) => ⟨rfl, rfl⟩) ⟨⟨rfl, rfl, rfl, trivial⟩, ⟨rfl, trivial⟩, rfl, rfl⟩ ?_
  rintro ⟨i, xs, μ'⟩ ⟨hle, g, hf⟩
  dsimp only at hle hf
  have hi := hf.le
  have hlen := hf.len
  rw [List.length_map] at hi hlen
  refine ifd (fun h => ?_) (fun h => ?_)
  · obtain ⟨t, ht⟩ := at_some (l := l) (i := i) (by omega)
    have hx := at_map (f := Rl.d) ht
    have hs := D.szs_mem hx
    obtain ⟨ad, p, hel, hr⟩ := Rl.elem (hsl.mono hle) ht
    refine elem_intro hel (call_plain (he t (mem_at ht) hr (by omega)) fun v μ'' hle2 hfr => ?_)
    obtain ⟨g', hf'⟩ := hf.step hx (Rl.d_n t) hfr hle2
    obtain ⟨p2, rfl⟩ := Rl.invV hfr.rep
    refine rel_intro i rfl (by omega) ?_
    refine get_intro _ (hf.rest i (by omega) (by simpa using h)) ?_
    refine num64 (by omega) (by omega) ⟨(i + 1, _, μ''), ⟨hle.trans hle2, g', hf'⟩, by dsimp only; omega, ⟨⟨rfl, rfl, rfl, trivial⟩, ⟨rfl, trivial⟩, rfl, rfl⟩⟩
  · obtain rfl : i = l.length := by omega
    refine ret_frz [0] fun μ2 hle2 hno hrow => .inl ?_
    have := Fresh.ofRow (hf.all (by simp)) hf.sub hf.new hle hle2 hno hrow (Nat.le_trans (m := 1048576) (by omega) (by decide))
    rw [hlen] at this
    exact this
theorem toRelS_spec {l : List Rl} {base : Option Addr} {cap : Nat} (hsl : Sl μ 7 base l.length (l.map Rl.d)) (hb : l.length + D.szs (l.map Rl.d) ≤ 1048576) :
    Spec Tryz.prog 118 [.slice base l.length cap] μ fun v μ' => Fresh μ μ' (.sl 7 (l.map Rl.d)) v := toRelS_of (fun t _ _ _ => toRel_spec t) hsl hb
theorem eqRel_spec (x : Rl) {v v' : Value} (hv : RepV μ x.d v) (hv' : RepV μ x.d v') : Gives Tryz.prog 213 [v, v'] μ (.bool true) := by
  have hv_ := Rl.inv hv
  obtain ⟨p, rfl, hA⟩ := hv_
  have hv_ := Rl.inv hv'
  obtain ⟨p', rfl, hB⟩ := hv_
  have A0 := hA
  have B0 := hB
  refine Spec.mk Tryz.func213 (by kernel_rfl) ?_
  intro r1 r2
  refine ifnd (fun h => absurd rfl h) (fun _ => ?_)
  refine ifnd (fun h => absurd rfl h) (fun _ => ?_)
  refine ifnd (fun h => absurd rfl h) (fun _ => ?_)
  refine call_gives (eqGoal_spec x.body A0 B0) ?_
  refine if_intro (fun h => nomatch h) (fun _ => ?_)
  exact ret_gives rfl rfl
theorem eqRelS_of {l : List Rl} (he : ∀ t ∈ l, ∀ {v v' : Value}, RepV μ t.d v → RepV μ t.d v' → Gives Tryz.prog 213 [v, v'] μ (.bool true))
    {base base' : Option Addr} {cap cap' : Nat} (hl : Sl μ 7 base l.length (l.map Rl.d)) (hl' : Sl μ 7 base' l.length (l.map Rl.d)) :
    Gives Tryz.prog 128 [.slice base l.length cap, .slice base' l.length cap'] μ (.bool true) := by
  have hn := maxLen_le hl.max
  refine Spec.mk Tryz.func128 (by kernel_rfl) ?_
  refine ifnd (fun h => absurd rfl h) (fun _ => ?_)
  refine loop_intro (fun i : Nat => i ≤ l.length) (fun i => ⟨[(0, .val (.slice base l.length cap)), (1, .val (.slice base' l.length cap')), (5, .val (.int .i64 i))], [], 0, μ, Mem.nil⟩) (fun i => l.length - i)
    0 (by omega) (fun i => ⟨rfl, rfl⟩) ⟨⟨rfl, rfl, rfl, trivial⟩, trivial, rfl, rfl⟩ ?_
  intro i hi
  refine ifd (fun h => ?_) (fun h => ?_)
  · obtain ⟨t, ht⟩ := at_some (l := l) (i := i) (by omega)
    obtain ⟨ad, p, hel, hr⟩ := Rl.elem hl ht
    obtain ⟨ad', p', hel', hr'⟩ := Rl.elem hl' ht
    refine elem_intro hel (elem_intro hel' (call_gives (he t (mem_at ht) hr hr') ?_))
    refine if_intro (fun h => nomatch h) (fun _ => ?_)
    exact num64 (by omega) (by omega) ⟨i + 1, by omega, by omega, ⟨⟨rfl, rfl, rfl, trivial⟩, trivial, rfl, rfl⟩⟩
  · exact ret_gives rfl rfl
theorem eqRelS_spec {l : List Rl} {base base' : Option Addr} {cap cap' : Nat} (hl : Sl μ 7 base l.length (l.map Rl.d)) (hl' : Sl μ 7 base' l.length (l.map Rl.d)) :
    Gives Tryz.prog 128 [.slice base l.length cap, .slice base' l.length cap'] μ (.bool true) := eqRelS_of (fun t _ _ _ => eqRel_spec t) hl hl'
theorem read_Rel : Reads Tryz.prog 217 fun d => ∃ x : Rl, d = x.d ∧ x.d.wd
  | 0 => ReadsTo.zero _
  | n + 1 => (reads_struct ti217 rfl (FieldsTo.cons ti9 (reads_str und_string n) (FieldsTo.cons ti3 (reads_int und_int n) (FieldsTo.cons ti3 (reads_int und_int n) (FieldsTo.cons ti51 (read_Goal n) FieldsTo.nil))))).weaken fun d h => by
    obtain ⟨ds, rfl, h⟩ := h
    obtain ⟨_, _, rfl, ⟨x0, rfl, w0⟩, q0⟩ := h.cons
    obtain ⟨_, _, rfl, ⟨x1, rfl, w1⟩, q1⟩ := q0.cons
    obtain ⟨_, _, rfl, ⟨x2, rfl, w2⟩, q2⟩ := q1.cons
    obtain ⟨_, _, rfl, ⟨x3, rfl, w3⟩, q3⟩ := q2.cons
    obtain rfl := q3.nil
    refine ⟨.mk x0 x1 x2 x3, (Rl.d_eq (.mk x0 x1 x2 x3)).symm, ?_⟩
    rw [Rl.d_eq]
    exact ⟨w0, w1, w2, w3, trivial⟩
theorem read_RelS : Reads Tryz.prog 61 fun d => ∃ l : List Rl, d = .sl 7 (l.map Rl.d) ∧ D.wds (l.map Rl.d) := fun n =>
  (reads_sl ti61.kind (cellsOf_tt ti217) (fun d h => by obtain ⟨a, rfl, _⟩ := h; exact Rl.d_n a) read_Rel n).weaken fun d h => by
    obtain ⟨xs, rfl, hx⟩ := h
    obtain ⟨l, rfl⟩ := lift_list (f := Rl.d) fun x h => by obtain ⟨t, h, _⟩ := hx x h; exact ⟨t, h⟩
    exact ⟨l, rfl, D.wds_of fun x hm => by obtain ⟨t, rfl, h⟩ := hx x hm; exact h⟩
end
end Go.Vx

/- Contracts: the laws' own functions on values of the type Program: sizes, copies, equality, marks; what an argument reads. (By gen_types.py.) -/
namespace Go.Vx
open Go.Proofs Classical
structure Pg where
  rels : List Rl
def Pg.d (x : Pg) : D := .st [.sl 7 (x.rels.map Rl.d)]
theorem Pg.d_eq (x : Pg) : x.d = .st [.sl 7 (x.rels.map Rl.d)] := rfl
theorem Pg.d_n (x : Pg) : x.d.n = 1 := by
  rw [Pg.d_eq]
  simp only [D.n, D.ns]
abbrev Pg.P := (Option Addr × Nat)
/-- The cells of a value. -/
def Pg.cs (x : Pg) (p : Pg.P) : List Value := [.slice p.1 x.rels.length p.2]
section
variable {μ : Mem}
def Pg.At (μ : Mem) (x : Pg) (p : Pg.P) : Prop := Sl μ 7 p.1 x.rels.length (x.rels.map Rl.d)
theorem Pg.invA {x : Pg} {cs : List Value} (h : Rep μ x.d cs) : ∃ p : Pg.P, cs = x.cs p ∧ Pg.At μ x p := by
  rw [Pg.d_eq] at h
  obtain ⟨a0, t0, rfl, h0, h⟩ := h
  have hv_ := one_of (Rep.len _ _ h0)
  obtain ⟨v0, rfl⟩ := hv_
  have hv_ := Rep.sl h0
  obtain ⟨b0, c0, rfl, s0⟩ := hv_
  rw [List.length_map] at s0
  obtain rfl : t0 = [] := h
  exact ⟨(b0, c0), by simp [Pg.cs], s0⟩
theorem Pg.rep {x : Pg} {cs : List Value} (h : Rep μ x.d cs) : RepV μ x.d (.agg cs.toArray) := by
  rw [Pg.d_eq] at h ⊢; exact ⟨cs, rfl, h⟩
theorem Pg.invR {x : Pg} {cs : List Value} (h : Rep μ x.d cs) : ∃ p : Pg.P, cs = x.cs p ∧ RepV μ x.d (.agg (x.cs p).toArray) := by
  have hv_ := Pg.invA h
  obtain ⟨p, e, _⟩ := hv_
  subst e
  exact ⟨p, rfl, Pg.rep h⟩
theorem Pg.inv {x : Pg} {v : Value} (h : RepV μ x.d v) : ∃ p : Pg.P, v = .agg #[.slice p.1 x.rels.length p.2] ∧ Pg.At μ x p := by
  have h2 : ∃ cs, v = .agg (List.toArray cs) ∧ Rep μ x.d cs := by rw [Pg.d_eq] at h ⊢; exact h
  obtain ⟨cs, rfl, h3⟩ := h2
  have hv_ := Pg.invA h3
  obtain ⟨p, rfl, hA⟩ := hv_
  exact ⟨p, rfl, hA⟩
theorem Pg.invV {x : Pg} {v : Value} (h : RepV μ x.d v) : ∃ p : Pg.P, v = .agg #[.slice p.1 x.rels.length p.2] := by
  have hv_ := Pg.inv h
  obtain ⟨p, h, _⟩ := hv_
  exact ⟨p, h⟩
theorem Pg.elemA {l : List Pg} {base : Option Addr} {n : Nat} (h : Sl μ 1 base n (l.map Pg.d)) {i : Nat} {x : Pg} (hx : l[i]? = some x) : ∃ ad, ∃ p : Pg.P, ElemAt μ base n 1 i ad (x.cs p) ∧ RepV μ x.d (.agg (x.cs p).toArray) ∧ Pg.At μ x p := by
  have hv_ := h.get i x.d (by simp [hx])
  obtain ⟨ad, cs, h1, h2⟩ := hv_
  have hv_ := Pg.invA h2
  obtain ⟨p, rfl, hA⟩ := hv_
  exact ⟨ad, p, h1, Pg.rep h2, hA⟩
theorem Pg.elem {l : List Pg} {base : Option Addr} {n : Nat} (h : Sl μ 1 base n (l.map Pg.d)) {i : Nat} {x : Pg} (hx : l[i]? = some x) : ∃ ad, ∃ p : Pg.P, ElemAt μ base n 1 i ad (x.cs p) ∧ RepV μ x.d (.agg (x.cs p).toArray) := by
  have hv_ := Pg.elemA h hx
  obtain ⟨ad, p, h1, h2, _⟩ := hv_
  exact ⟨ad, p, h1, h2⟩
theorem Pg.sz_eq (x : Pg) : x.d.sz = (x.rels.length + D.szs (x.rels.map Rl.d)) := by
  rw [Pg.d_eq]
  simp [D.sz, D.szs]
theorem szProgram_spec (x : Pg) {v : Value} {left : Int} (hv : RepV μ x.d v) (hl : 0 ≤ left) (hl2 : left ≤ 1048576) (hw : x.d.wd) : Gives Tryz.prog 38 [v, .int .i64 left] μ (.int .i64 (szR left x.d.sz)) := by
  have hv_ := Pg.inv hv
  obtain ⟨p, rfl, hA⟩ := hv_
  have hsz := Pg.sz_eq x
  rw [Pg.d_eq] at hw
  refine Spec.mk Tryz.func38 (by kernel_rfl) ?_
  intro r
  refine call_gives (szRelS_spec hA (by omega) (by omega) hw.1) ?_
  refine ifd (fun h => ret_gives (by have := szR_lt h; rw [szR_neg (by omega)]) rfl) (fun h => ?_)
  have q0 := szR_ge h
  rw [szR_pos q0] at h ⊢
  refine ret_gives ?_ rfl
  rw [szR_pos (by omega)]
  first | rfl | (congr 1; omega)
set_option maxRecDepth 4000 in
theorem toProgram_spec (x : Pg) {μ : Mem} {v : Value} (hv : RepV μ x.d v) (hb : x.d.sz ≤ 1048576) : Spec Tryz.prog 40 [v] μ fun v μ' => Fresh μ μ' x.d v := by
  have hv_ := Pg.inv hv
  obtain ⟨p, rfl, hA⟩ := hv_
  have hsz := Pg.sz_eq x
  have A0 := hA
  refine Spec.mk Tryz.func40 (by kernel_rfl) ?_
  intro r1 r2 r3
  refine call_plain (toRelS_spec A0 (by omega)) fun u0 μ0 hle0 hf0 => ?_
  have hv_ := Rep.sl hf0.rep
  obtain ⟨bb0, cc0, rfl, _⟩ := hv_
  rw [Pg.d_eq]
  exact ret_plain (FreshS.st (FreshS.cons hf0 hle0 (Mem.Le.refl _) (FreshS.nil)))
theorem eqProgram_spec (x : Pg) {v v' : Value} (hv : RepV μ x.d v) (hv' : RepV μ x.d v') : Gives Tryz.prog 42 [v, v'] μ (.bool true) := by
  have hv_ := Pg.inv hv
  obtain ⟨p, rfl, hA⟩ := hv_
  have hv_ := Pg.inv hv'
  obtain ⟨p', rfl, hB⟩ := hv_
  have A0 := hA
  have B0 := hB
  refine Spec.mk Tryz.func42 (by kernel_rfl) ?_
  intro r1 r2
  refine call_gives (eqRelS_spec A0 B0) ?_
  refine if_intro (fun h => nomatch h) (fun _ => ?_)
  exact ret_gives rfl rfl
theorem read_Program : Reads Tryz.prog 63 fun d => ∃ x : Pg, d = x.d ∧ x.d.wd
  | 0 => ReadsTo.zero _
  | n + 1 => (reads_struct ti63 rfl (FieldsTo.cons ti61 (read_RelS n) FieldsTo.nil)).weaken fun d h => by
    obtain ⟨ds, rfl, h⟩ := h
    obtain ⟨_, _, rfl, ⟨x0, rfl, w0⟩, q0⟩ := h.cons
    obtain rfl := q0.nil
    refine ⟨.mk x0, (Pg.d_eq (.mk x0)).symm, ?_⟩
    rw [Pg.d_eq]
    exact ⟨w0, trivial⟩
end
end Go.Vx

/- Contracts: relations of a program, calls that fit. -/
namespace Go.Vx
open Go.Proofs Classical
noncomputable def relFrom : List Rl → Nat → ByteArray → Int
  | [], _, _ => -1
  | r :: l, i, s => if r.name = s then i else relFrom l (i + 1) s
noncomputable def relAt (p : Pg) (s : ByteArray) : Int := relFrom p.rels 0 s
theorem relFrom_some {s : ByteArray} : ∀ {l : List Rl} {i : Nat}, 0 ≤ relFrom l i s → ∃ (j : Nat) (r : Rl), relFrom l i s = ((i + j : Nat) : Int) ∧ l[j]? = some r ∧ r.name = s
  | [], i, h => by simp [relFrom] at h
  | r :: l, i, h => by
    rw [relFrom] at h ⊢
    by_cases e : r.name = s
    · rw [if_pos e]; exact ⟨0, r, by simp, rfl, e⟩
    · rw [if_neg e] at h ⊢
      have hv_ := relFrom_some h
      obtain ⟨j, r', h1, h2, h3⟩ := hv_
      exact ⟨j + 1, r', by rw [h1]; congr 1; omega, h2, h3⟩
/-- A call that fits the program. -/
def CallFits (p : Pg) (g : Gl) : Prop := g.kind = 9 → ∃ (i : Nat) (r : Rl), relAt p g.name = i ∧ p.rels[i]? = some r ∧ r.arity = g.terms.length
section
variable {μ : Mem}
theorem relation_spec {p : Pg} {s : ByteArray} {v : Value} (hv : RepV μ p.d v) : Gives Tryz.prog 151 [v, .string s] μ (.int .i64 (relAt p s)) := by
  have hv_ := Pg.inv hv
  obtain ⟨q, rfl, hsl⟩ := hv_
  have hn := maxLen_le hsl.max
  refine Spec.mk Tryz.func151 (by kernel_rfl) ?_
  intro r
  refine loop_intro (fun i : Nat => i ≤ p.rels.length ∧ relFrom (p.rels.drop i) i s = relAt p s) (fun i => ⟨[(1, .val (.string s)), (8, .val (.slice q.1 p.rels.length q.2)), (9, .val (.int .i64 p.rels.length)), (10, .val (.int .i64 i))], [], 1, μ, Mem.nil⟩) (fun i => p.rels.length - i)
    0 ⟨by omega, rfl⟩ (fun _ => ⟨rfl, rfl⟩) ⟨⟨rfl, rfl, rfl, rfl, trivial⟩, trivial, rfl, rfl⟩ ?_
  rintro i ⟨hi, hJ⟩
  refine ifd (fun hlt => ?_) (fun hlt => ?_)
  · have hv_ := at_some (l := p.rels) (i := i) (by omega)
    obtain ⟨x, hx⟩ := hv_
    have hv_ := Rl.elem hsl hx
    obtain ⟨ad, q2, hel, hr⟩ := hv_
    rw [drop_at hx, relFrom] at hJ
    refine elem_intro hel ?_
    intro r2
    refine ifd (fun e => ?_) (fun e => ?_)
    · rw [if_pos e] at hJ
      exact ret_gives (by rw [← hJ]) rfl
    · rw [if_neg e] at hJ
      exact num64 (by omega) (by omega) ⟨i + 1, ⟨by omega, hJ⟩, by omega, ⟨⟨rfl, rfl, rfl, rfl, trivial⟩, trivial, rfl, rfl⟩⟩
  · obtain rfl : i = p.rels.length := by omega
    rw [List.drop_length] at hJ
    exact ret_gives (by rw [← hJ]; rfl) rfl
theorem l14Find_spec {p : Pg} {s : ByteArray} {v : Value} (hv : RepV μ p.d v) : Gives Tryz.prog 137 [v, .string s] μ (.int .i64 (relAt p s)) := by
  have hv_ := Pg.inv hv
  obtain ⟨q, rfl, hsl⟩ := hv_
  have hn := maxLen_le hsl.max
  refine Spec.mk Tryz.func137 (by kernel_rfl) ?_
  intro r
  refine loop_intro (fun i : Nat => i ≤ p.rels.length ∧ relFrom (p.rels.drop i) i s = relAt p s) (fun i => ⟨[(1, .val (.string s)), (8, .val (.slice q.1 p.rels.length q.2)), (9, .val (.int .i64 p.rels.length)), (10, .val (.int .i64 i))], [], 1, μ, Mem.nil⟩) (fun i => p.rels.length - i)
    0 ⟨by omega, rfl⟩ (fun _ => ⟨rfl, rfl⟩) ⟨⟨rfl, rfl, rfl, rfl, trivial⟩, trivial, rfl, rfl⟩ ?_
  rintro i ⟨hi, hJ⟩
  refine ifd (fun hlt => ?_) (fun hlt => ?_)
  · have hv_ := at_some (l := p.rels) (i := i) (by omega)
    obtain ⟨x, hx⟩ := hv_
    have hv_ := Rl.elem hsl hx
    obtain ⟨ad, q2, hel, hr⟩ := hv_
    rw [drop_at hx, relFrom] at hJ
    refine elem_intro hel ?_
    intro r2
    refine ifd (fun e => ?_) (fun e => ?_)
    · rw [if_pos e] at hJ
      exact ret_gives (by rw [← hJ]) rfl
    · rw [if_neg e] at hJ
      exact num64 (by omega) (by omega) ⟨i + 1, ⟨by omega, hJ⟩, by omega, ⟨⟨rfl, rfl, rfl, rfl, trivial⟩, trivial, rfl, rfl⟩⟩
  · obtain rfl : i = p.rels.length := by omega
    rw [List.drop_length] at hJ
    exact ret_gives (by rw [← hJ]; rfl) rfl
theorem relAt_some {p : Pg} {s : ByteArray} (h : 0 ≤ relAt p s) : ∃ (j : Nat) (r : Rl), relAt p s = (j : Int) ∧ p.rels[j]? = some r := by
  have hv_ := relFrom_some h
  obtain ⟨j, r, h1, h2, h3⟩ := hv_
  exact ⟨j, r, by rw [relAt, h1]; simp, h2⟩
theorem callFits_iff {p : Pg} {g : Gl} (h9 : g.kind = 9) {j : Nat} {r : Rl} (e : relAt p g.name = (j : Int)) (hr : p.rels[j]? = some r) : CallFits p g ↔ r.arity = g.terms.length := by
  constructor
  · intro h
    have hv_ := h h9
    obtain ⟨i, r', h1, h2, h3⟩ := hv_
    rw [e] at h1
    obtain rfl : j = i := by omega
    rw [hr] at h2; cases h2
    exact h3
  · intro h _
    exact ⟨j, r, e, hr, h⟩
theorem callFits_neg {p : Pg} {g : Gl} (h9 : g.kind = 9) (h : ¬ 0 ≤ relAt p g.name) : ¬ CallFits p g := fun k => by
  have hv_ := k h9
  obtain ⟨i, r', h1, _, _⟩ := hv_
  omega
/-- All calls in a goal fit. -/
inductive FitAll (p : Pg) : Gl → Prop
  | mk {g : Gl} (top : CallFits p g) (sub : ∀ x ∈ g.goals, FitAll p x) : FitAll p g
theorem FitAll.top {p : Pg} {g : Gl} (h : FitAll p g) : CallFits p g := by cases h; assumption
theorem FitAll.sub {p : Pg} {g : Gl} (h : FitAll p g) : ∀ x ∈ g.goals, FitAll p x := by cases h; assumption
theorem l14Calls_spec {p : Pg} {vp : Value} (hp : RepV μ p.d vp) : ∀ (g : Gl) {v : Value}, g.Sh → RepV μ g.d v → Gives Tryz.prog 288 [vp, v] μ (.bool (decide (FitAll p g))) := by
  have hv_ := Pg.inv hp
  obtain ⟨q, rfl, hrl⟩ := hv_
  refine Gl.ind fun g ih v hS hv => ?_
  have hv_ := Gl.inv hv
  obtain ⟨q2, rfl, hts, hgs⟩ := hv_
  have hn := maxLen_le hgs.max
  refine Spec.mk Tryz.func288 (by kernel_rfl) ?_
  intro r1 r2
  refine ifd (fun h9 => ?_) (fun h9 => ?_)
  · have hg0 : g.goals = [] := List.eq_nil_of_length_eq_zero (hS.top.gl0 (.inr h9))
    have hiff : FitAll p g ↔ CallFits p g := ⟨fun h => h.top, fun h => .mk h (by rw [hg0]; simp)⟩
    refine call_gives (l14Find_spec hp) ?_
    refine ifd (fun h0 => ?_) (fun h0 => ret_gives (isF fun h => callFits_neg h9 h0 h.top) rfl)
    have hv_ := relAt_some h0
    obtain ⟨j, rl, e, hr⟩ := hv_
    have hv_ := Rl.elem hrl hr
    obtain ⟨ad, q3, hel, hrr⟩ := hv_
    rw [e]
    refine elem_intro hel ?_
    exact ret_gives (isI ((callFits_iff h9 e hr).symm.trans hiff.symm)) rfl
  · refine loop_intro (fun i : Nat => i ≤ g.goals.length ∧ ∀ x ∈ g.goals.take i, FitAll p x) (fun i => ⟨[(2, .loc 0 r1 0), (30, .val (.slice q2.2.1 g.goals.length q2.2.2)), (31, .val (.int .i64 g.goals.length)), (32, .val (.int .i64 i))], [(0, some (.cells r1 [.val (.slice q.1 p.rels.length q.2)] 67))], 2, μ, Mem.nil⟩) (fun i => g.goals.length - i)
      0 ⟨by omega, by simp⟩ (fun _ => ⟨rfl, rfl⟩) ⟨⟨rfl, rfl, rfl, rfl, trivial⟩, ⟨rfl, trivial⟩, rfl, rfl⟩ ?_
    rintro i ⟨hi, hall⟩
    refine ifd (fun hlt => ?_) (fun hlt => ?_)
    · have hv_ := at_some (l := g.goals) (i := i) (by omega)
      obtain ⟨t, ht⟩ := hv_
      have hv_ := Gl.elem hgs ht
      obtain ⟨ad, q3, hel, hr⟩ := hv_
      refine elem_intro hel ?_
      intro r3
      refine call_gives (ih t (mem_at ht) (hS.sub t (mem_at ht)) hr) ?_
      refine ifnd (fun h => ret_gives (isF fun S => h (S.sub t (mem_at ht))) rfl) (fun h => ?_)
      refine num64 (by omega) (by omega) ⟨i + 1, ⟨by omega, fun x hx => ?_⟩, by omega, ⟨⟨rfl, rfl, rfl, rfl, trivial⟩, ⟨rfl, trivial⟩, rfl, rfl⟩⟩
      rw [List.take_add_one, ht, Option.toList_some, List.mem_append, List.mem_singleton] at hx
      rcases hx with hx | rfl
      · exact hall x hx
      · exact h
    · obtain rfl : i = g.goals.length := by omega
      rw [List.take_length] at hall
      exact ret_gives (isT (.mk (fun h => absurd h h9) hall)) rfl
end
end Go.Vx

/- Contracts: calls that fit, the program's side. -/
namespace Go.Vx
open Go.Proofs Classical
theorem FitAll.all {p : Pg} : ∀ {g : Gl}, FitAll p g → ∀ x ∈ g.all, CallFits p x := fun {g} => by
  refine Gl.ind (q := fun g => FitAll p g → ∀ x ∈ g.all, CallFits p x) (fun g ih h x hx => ?_) g
  rw [Gl.all_eq] at hx
  rcases List.mem_cons.1 hx with rfl | hx
  · exact h.top
  · have hv_ := List.mem_flatMap.1 hx
    obtain ⟨y, hy, hx⟩ := hv_
    exact ih y hy (h.sub y hy) x hx
theorem FitAll.of {p : Pg} : ∀ {g : Gl}, (∀ x ∈ g.all, CallFits p x) → FitAll p g := fun {g} => by
  refine Gl.ind (q := fun g => (∀ x ∈ g.all, CallFits p x) → FitAll p g) (fun g ih h => ?_) g
  rw [Gl.all_eq] at h
  exact .mk (h g (by simp)) fun y hy => ih y hy fun x hx => h x (List.mem_cons_of_mem _ (List.mem_flatMap.2 ⟨y, hy, hx⟩))
theorem foldl_and {α : Type} (f : α → Prop) : ∀ (l : List α) (b : Bool), l.foldl (fun b x => b && decide (f x)) b = (b && decide (∀ x ∈ l, f x))
  | [], b => by simp
  | a :: l, b => by
    rw [List.foldl_cons, foldl_and f l, Bool.and_assoc]
    congr 1
    by_cases h : f a
    · simp [h]
    · simp [h]
section
variable {μ : Mem}
theorem callsFit1_spec {p : Pg} {q : Pg.P} {rp rf : Nat} {b : Bool} {h : Mem} {g : Gl} {v : Value} (hp : RepV μ p.d (.agg #[.slice q.1 p.rels.length q.2])) (hrl : Sl μ 7 q.1 p.rels.length (p.rels.map Rl.d)) (hat : μ rp = some (.cells #[.slice q.1 p.rels.length q.2] 67 (0, 0)))
    (hv : RepV μ g.d v) (hf : h rf = some (.cells #[.bool b] 4 (0, 0))) :
    SpecH Tryz.prog 293 [v, .pointer (some ⟨rp, 0, none⟩), .pointer (some ⟨rf, 0, none⟩)] μ h fun r μ' h' => r = .tuple #[] ∧ μ' = μ ∧ h' rf = some (.cells #[.bool (b && decide (CallFits p g))] 4 (0, 0)) := by
  have hv_ := Gl.inv hv
  obtain ⟨q2, rfl, hts, hgs⟩ := hv_
  refine SpecH.mk [] Tryz.func293 (by kernel_rfl) ?_
  intro r
  refine ifd (fun h9 => ?_) (fun h9 => ?_)
  rotate_left
  · have : CallFits p g := fun k => absurd k h9
    exact ret_plain ⟨rfl, rfl, by rw [decide_eq_true this, Bool.and_true]; exact hf⟩
  refine ext_intro [.slice q.1 p.rels.length q.2] rfl (box_at hat) ?_
  refine call_gives (relation_spec hp) ?_
  refine ifd (fun h0 => ?_) (fun h0 => ?_)
  · have : ¬ CallFits p g := callFits_neg h9 (by omega)
    refine sto_intro [.bool b] 4 hf rfl (Nat.le_refl _) ?_
    exact ret_plain ⟨rfl, rfl, by rw [decide_eq_false this, Bool.and_false]; exact Mem.set_at _ _ _⟩
  · have hv_ := relAt_some (Int.not_lt.1 h0)
    obtain ⟨j, rl, e, hr⟩ := hv_
    have hv_ := Rl.elem hrl hr
    obtain ⟨ad, q3, hel, hrr⟩ := hv_
    have hiff := callFits_iff h9 e hr
    refine ext_intro [.slice q.1 p.rels.length q.2] rfl (fun j v hj => by show μ.cell (((⟨rp, 0, none⟩ : Addr).add 0).add j) = some v; rw [add_add, Nat.zero_add]; exact box_at hat j v hj) ?_
    rw [e]
    refine elem_intro hel ?_
    refine ifnd (fun hne => ?_) (fun heq => ?_)
    · have : ¬ CallFits p g := fun k => hne (hiff.1 k)
      refine sto_intro [.bool b] 4 hf rfl (Nat.le_refl _) ?_
      exact ret_plain ⟨rfl, rfl, by rw [decide_eq_false this, Bool.and_false]; exact Mem.set_at _ _ _⟩
    · have : CallFits p g := hiff.2 heq
      exact ret_plain ⟨rfl, rfl, by rw [decide_eq_true this, Bool.and_true]; exact hf⟩
theorem callsFit_spec {p : Pg} {vp v : Value} {g : Gl} (hp : RepV μ p.d vp) (hv : RepV μ g.d v) : Spec Tryz.prog 212 [vp, v] μ fun r _ => r = .bool (decide (FitAll p g)) := by
  have hv_ := Pg.inv hp
  obtain ⟨q, rfl, hrl⟩ := hv_
  have hv_ := Gl.invV hv
  obtain ⟨q2, rfl⟩ := hv_
  refine Spec.mkO [5] Tryz.func212 (by kernel_rfl) ?_
  intro r1 r2
  intro rf hmf hof
  refine sto_intro [.bool false] 4 (Mem.set_at _ _ _) rfl (Nat.le_refl _) ?_
  generalize hh : Mem.set (Mem.set _ rf _) rf _ = h0
  have hf0 : h0 rf = some (.cells #[.bool true] 4 (0, 0)) := by subst hh; rw [Mem.set_at]; rfl
  refine call_gen [0] [] (fun _ => rfl) ?_
  intro μ1 hle1 hno1 hat1
  refine own_go (eachGoal_rel (fun b h => h rf = some (.cells #[.bool b] 4 (0, 0))) (fun b x => b && decide (CallFits p x)) (fun _ => True) (fun b h x w _ hw hj => callsFit1_spec (hp.mono hle1) (hrl.mono hle1) hat1 hw hj) g true h0 (hv.mono hle1) (fun _ _ => trivial) hf0) fun v μ2 h' hle hap hR => ?_
  obtain ⟨rfl, e2, hj⟩ := hR
  obtain rfl := e2.symm
  rw [foldl_and, Bool.true_and] at hj
  refine own_intro [.bool _] rfl (box_at hj) ?_
  exact ret_plain (isI ⟨fun h => FitAll.of h, fun h => h.all⟩)
end
end Go.Vx

/- Contracts: well-formed programs, the program's side. -/
namespace Go.Vx
open Go.Proofs Classical
structure RelOk (p : Pg) (i : Nat) (r : Rl) : Prop where
  at_ : relAt p r.name = i
  name : IsRel r.name
  ar0 : 0 ≤ r.arity
  ar4 : r.arity ≤ 4
  lo0 : 0 ≤ r.locals
  lo8 : r.locals ≤ 8
  body : r.body.Sh
  size : r.body.cnt ≤ 60
  vars : ∀ n ∈ r.body.vars, n < r.arity + r.locals
  calls : FitAll p r.body
def Pg.Ok (p : Pg) : Prop := p.rels.length ≤ 8 ∧ ∀ (i : Nat) (r : Rl), p.rels[i]? = some r → RelOk p i r
section
variable {μ : Mem}
theorem impl_ProgramOk_spec {p : Pg} {v : Value} (hp : RepV μ p.d v) : Spec Tryz.prog 127 [v] μ fun r _ => r = .bool (decide p.Ok) := by
  have hv_ := Pg.inv hp
  obtain ⟨q, rfl, hrl⟩ := hv_
  refine Spec.mk Tryz.func127 (by kernel_rfl) ?_
  intro r1
  refine ifd (fun h8 => ret_plain (isF fun h => by have := h.1; omega)) (fun h8 => ?_)
  refine loop_intro (fun x : Nat × Mem => x.1 ≤ p.rels.length ∧ μ.Le x.2 ∧ ∀ (j : Nat) (r : Rl), j < x.1 → p.rels[j]? = some r → RelOk p j r)
    (fun (i, μ') => ⟨[(1, .loc 0 r1 0), (10, .val (.slice q.1 p.rels.length q.2)), (11, .val (.int .i64 p.rels.length)), (12, .val (.int .i64 i))], [(0, some (.cells r1 [.val (.slice q.1 p.rels.length q.2)] 67))], 1, μ', Mem.nil⟩) (fun x => p.rels.length - x.1)
    (0, μ) ⟨by simp, Mem.Le.refl _, fun j r hj => by simp at hj⟩ (fun (_, _) => ⟨rfl, rfl⟩) ⟨⟨rfl, rfl, rfl, rfl, trivial⟩, ⟨rfl, trivial⟩, rfl, rfl⟩ ?_
  rintro ⟨i, μ'⟩ ⟨hi, hle, hall⟩
  dsimp only at hi hle hall
  refine ifd (fun hlt => ?_) (fun hlt => ?_)
  · have hv_ := at_some (l := p.rels) (i := i) (by omega)
    obtain ⟨x, hx⟩ := hv_
    have hv_ := Rl.elemA (hrl.mono hle) hx
    obtain ⟨ad, q2, hel, hr, hb⟩ := hv_
    have hb : RepV μ' x.body.d (.agg (x.body.cs q2).toArray) := hb
    have bad : ¬ RelOk p i x → Value.bool false = .bool (decide p.Ok) := fun h => isF fun k => h (k.2 i x hx)
    refine elem_intro hel ?_
    intro r2
    refine call_gives (impl_IsRelName_spec _ _) ?_
    refine ifnd (fun h => ret_plain (bad fun k => h k.name)) (fun g1 => ?_)
    refine call_gives (relation_spec (hp.mono hle)) ?_
    refine ifnd (fun h => ret_plain (bad fun k => h k.at_)) (fun g2 => ?_)
    refine ifd (fun h => ret_plain (bad fun k => by have := k.ar0; omega)) (fun g3 => ?_)
    refine ifd (fun h => ret_plain (bad fun k => by have := k.ar4; omega)) (fun g4 => ?_)
    refine ifd (fun h => ret_plain (bad fun k => by have := k.lo0; omega)) (fun g5 => ?_)
    refine ifd (fun h => ret_plain (bad fun k => by have := k.lo8; omega)) (fun g6 => ?_)
    refine call_gives (goalNodes_spec x.body hb (by decide) (by decide)) ?_
    refine ifd (fun h => ret_plain (bad fun k => Gl.nodes_lt h ⟨k.body, by have := k.size; omega⟩)) (fun h => ?_)
    have hv_ := Gl.nodes_ge h
    obtain ⟨g7, g8, _⟩ := hv_
    refine num64 (by omega) (by omega) ?_
    refine call_plain (varsBelow_spec g7 hb) fun v1 μ1 hle1 hR => ?_
    obtain rfl := hR
    refine ifnd (fun h => ret_plain (bad fun k => h k.vars)) (fun g9 => ?_)
    refine call_plain (callsFit_spec ((hp.mono hle).mono hle1) (hb.mono hle1)) fun v2 μ2 hle2 hR => ?_
    obtain rfl := hR
    refine ifnd (fun h => ret_plain (bad fun k => h k.calls)) (fun g10 => ?_)
    have hok : RelOk p i x := ⟨g2, g1, by omega, by omega, by omega, by omega, g7, by omega, g9, g10⟩
    refine num64 (by omega) (by omega) ⟨(i + 1, μ2), ⟨by dsimp only; omega, (hle.trans hle1).trans hle2, fun j r hj hr => ?_⟩, by dsimp only; omega, ⟨⟨rfl, rfl, rfl, rfl, trivial⟩, ⟨rfl, trivial⟩, rfl, rfl⟩⟩
    rcases Nat.lt_or_ge j i with h6 | h6
    · exact hall j r h6 hr
    · obtain rfl : j = i := by omega
      rw [hx] at hr; cases hr; exact hok
  · obtain rfl : i = p.rels.length := by omega
    exact ret_plain (isT ⟨by omega, fun j r hr => hall j r (List.getElem?_eq_some_iff.1 hr).1 hr⟩)
/-- How many nodes a goal has; none if it is not well-formed. -/
noncomputable def Gl.count (g : Gl) : Int := if g.Ok then g.cnt else 0
theorem spec_GoalSize_spec (g : Gl) {v : Value} (hv : RepV μ g.d v) (hw : g.d.wd) : Gives Tryz.prog 204 [v] μ (.int .i64 g.count) := by
  have hv_ := Gl.invV hv
  obtain ⟨p, rfl⟩ := hv_
  refine Spec.mk Tryz.func204 (by kernel_rfl) ?_
  intro r
  refine call_gives (spec_GoalOk_spec g hv hw) ?_
  refine ifnd (fun h => ret_gives (by rw [Gl.count, if_neg h]) rfl) (fun h => ?_)
  refine call_gives (l13Count_spec g hv (by decide) (by decide)) ?_
  refine ret_gives ?_ rfl
  congr 1
  have := h.2
  have := g.cnt_pos
  rw [Gl.count, if_pos h, upTo]
  omega
end
end Go.Vx

/- Contracts: the reference's lists of variables, sorted; goals that fit. -/
namespace Go.Vx
open Go.Proofs Classical
theorem ins_sorted {l : List Int} {n : Int} {k : Nat} (hs : l.Pairwise (· < ·)) (h1 : ∀ y ∈ l.take k, y < n) (h2 : ∀ y ∈ l.drop k, n < y) : (insInt l n k).Pairwise (· < ·) := by
  unfold insInt
  rw [List.pairwise_append]
  refine ⟨hs.sublist (List.take_sublist _ _), ?_, ?_⟩
  · rw [List.singleton_append, List.pairwise_cons]
    exact ⟨h2, hs.sublist (List.drop_sublist _ _)⟩
  · intro a ha b hb
    rcases List.mem_append.1 hb with hb | hb
    · rw [List.mem_singleton] at hb; subst hb; exact h1 a ha
    · have := h1 a ha; have := h2 b hb; omega
theorem srt_get {l : List Int} (hs : l.Pairwise (· < ·)) {i j : Nat} {x y : Int} (h : i < j) (hx : l[i]? = some x) (hy : l[j]? = some y) : x < y := by
  have hv_ := List.getElem?_eq_some_iff.1 hx
  obtain ⟨h1, rfl⟩ := hv_
  have hv_ := List.getElem?_eq_some_iff.1 hy
  obtain ⟨h2, rfl⟩ := hv_
  exact List.pairwise_iff_getElem.1 hs i j h1 h2 h
theorem take_lt {l : List Int} (hs : l.Pairwise (· < ·)) {k : Nat} {n : Int} (h : k = 0 ∨ ∃ x, l[k - 1]? = some x ∧ x < n) : ∀ y ∈ l.take k, y < n := fun y hy => by
  have hv_ := List.mem_iff_getElem?.1 hy
  obtain ⟨i, hi⟩ := hv_
  rw [List.getElem?_take] at hi
  split at hi
  · rename_i hik
    rcases h with rfl | ⟨x, hx, hxn⟩
    · omega
    · rcases Nat.lt_or_ge i (k - 1) with h1 | h1
      · have := srt_get hs h1 hi hx; omega
      · obtain rfl : i = k - 1 := by omega
        rw [hx] at hi; cases hi; exact hxn
  · cases hi
theorem drop_gt {l : List Int} (hs : l.Pairwise (· < ·)) {k : Nat} {n : Int} (h : ∀ (j : Nat) y, k ≤ j → l[j]? = some y → n ≤ y) (hne : ∀ y, l[k]? = some y → y ≠ n) : ∀ y ∈ l.drop k, n < y := fun y hy => by
  have hv_ := List.mem_iff_getElem?.1 hy
  obtain ⟨i, hi⟩ := hv_
  rw [List.getElem?_drop] at hi
  have h1 := h (k + i) y (by omega) hi
  rcases Nat.eq_zero_or_pos i with rfl | h2
  · have := hne y (by simpa using hi)
    omega
  · have hk : k < l.length := by have := (List.getElem?_eq_some_iff.1 hi).1; omega
    have hkk : l[k]? = some l[k] := List.getElem?_eq_getElem hk
    have h3 := h k _ (Nat.le_refl _) hkk
    have := srt_get hs (by omega : k < k + i) hkk hi
    omega
section
variable {μ : Mem}
theorem l02InsertS_spec {l : List Int} {v : Value} {n : Int} (hv : RepV μ (.sl 1 (l.map D.i)) v) (hb : l.length ≤ 1000000000) (hs : l.Pairwise (· < ·)) : Spec Tryz.prog 252 [v, .int .i64 n] μ fun v μ' => ∃ r : List Int, RepV μ' (.sl 1 (r.map D.i)) v ∧ (∀ x, x ∈ r ↔ x = n ∨ x ∈ l) ∧ r.Pairwise (· < ·) := by
  have hv_ := Rep.sl hv
  obtain ⟨base, cap, rfl, hsl⟩ := hv_
  have hcap := Rep.lens hv
  rw [List.length_map] at hsl hcap hv ⊢
  refine Spec.mk Tryz.func252 (by kernel_rfl) ?_
  refine loop_intro (fun k : Nat => k ≤ l.length ∧ ∀ (j : Nat) y, k ≤ j → l[j]? = some y → n ≤ y) (fun k => ⟨[(0, .val (.slice base l.length cap)), (1, .val (.int .i64 n)), (5, .val (.int .i64 k))], [], 0, μ, Mem.nil⟩) (fun k => k)
    l.length ⟨Nat.le_refl _, fun j y hj hy => absurd (List.getElem?_eq_some_iff.1 hy).1 (by omega)⟩ (fun i => ⟨rfl, rfl⟩) ⟨⟨rfl, rfl, rfl, trivial⟩, trivial, rfl, rfl⟩ ?_
  rintro k ⟨hk, hge⟩
  refine ifd (fun h1 => ?_) (fun h1 => ?_)
  · have hv_ := at_some (l := l) (i := k - 1) (by omega)
    obtain ⟨x, hx⟩ := hv_
    have hv_ := Ints.elem hsl hx
    obtain ⟨ad, hel⟩ := hv_
    refine num_eq (x := ((k - 1 : Nat) : Int)) (by rw [wrap64 (by omega) (by omega)]; omega) ?_
    refine elem_intro hel ?_
    refine ifd (fun h2 => ?_) (fun h2 => ?_)
    · refine num_eq (x := ((k - 1 : Nat) : Int)) (by rw [wrap64 (by omega) (by omega)]; omega) ⟨k - 1, ⟨by omega, fun j y hj hy => ?_⟩, by omega, ⟨⟨rfl, rfl, rfl, trivial⟩, trivial, rfl, rfl⟩⟩
      rcases Nat.lt_or_ge j k with h3 | h3
      · obtain rfl : j = k - 1 := by omega
        rw [hx] at hy; cases hy; exact h2
      · exact hge j y h3 hy
    · have htk := take_lt hs (k := k) (n := n) (.inr ⟨x, hx, by omega⟩)
      refine ifd (fun h3 => ?_) (fun h3 => ?_)
      · have hv_ := at_some (l := l) (i := k) (by omega)
        obtain ⟨y, hy⟩ := hv_
        have hv_ := Ints.elem hsl hy
        obtain ⟨ad2, hel2⟩ := hv_
        refine elem_intro hel2 ?_
        refine ifd (fun h4 => ret_plain ⟨l, hv, fun x => ⟨.inr, fun hx => hx.elim (fun e => by rw [e, ← h4]; exact mem_at hy) id⟩, hs⟩) (fun h4 => ?_)
        have hgt := drop_gt hs hge (fun z hz => by rw [hy] at hz; cases hz; exact h4)
        intro r0
        refine cut_intro 0 k rfl rfl (by omega) (by omega) ?_
        refine src_intro _ (Ints.src hsl (a := 0) (b := k) (by omega) hk hcap) ?_
        refine grow_intro ?_ ?_ fun b1 c1 _ => ?_
        · show (0 + (ints _).length) * 8 ≤ _; simp [ints]; omega
        · show 0 + (ints _).length ≤ 9223372036854775807; simp [ints]; omega
        intro r1
        refine grow_intro ?_ ?_ fun b2 c2 _ => ?_
        · show (([] ++ ints _).length + 1) * 8 ≤ _; simp [ints]; omega
        · show ([] ++ ints _).length + 1 ≤ 9223372036854775807; simp [ints]; omega
        refine cut_intro k l.length rfl rfl hk (by omega) ?_
        refine src_intro _ (Ints.src hsl (a := k) (b := l.length) hk (Nat.le_refl _) hcap) ?_
        refine grow_intro ?_ ?_ fun b3 c3 _ => ?_
        · show (([] ++ ints _ ++ [_]).length + (ints _).length) * 8 ≤ _; simp [ints]; omega
        · show ([] ++ ints _ ++ [_]).length + (ints _).length ≤ 9223372036854775807; simp [ints]; omega
        refine ret_frz [0] fun μ' hle hno hrow => .inl ⟨insInt l n k, ?_, insInt_mem l n k, ins_sorted hs htk hgt⟩
        have e : [] ++ ints ((l.drop 0).take (k - 0)) ++ [.int .i64 n] ++ ints ((l.drop k).take (l.length - k)) = ints (insInt l n k) := by
          simp [ints, insInt]
          rw [List.take_of_length_le (by simp)]
        rw [e] at hrow ⊢
        exact Ints.sl hrow (Nat.le_trans (m := 2000000000) (by simp [insInt]; omega) (by decide))
      · have hgt := drop_gt hs hge (fun z hz => by have := (List.getElem?_eq_some_iff.1 hz).1; omega)
        intro r0
        refine cut_intro 0 k rfl rfl (by omega) (by omega) ?_
        refine src_intro _ (Ints.src hsl (a := 0) (b := k) (by omega) hk hcap) ?_
        refine grow_intro ?_ ?_ fun b1 c1 _ => ?_
        · show (0 + (ints _).length) * 8 ≤ _; simp [ints]; omega
        · show 0 + (ints _).length ≤ 9223372036854775807; simp [ints]; omega
        intro r1
        refine grow_intro ?_ ?_ fun b2 c2 _ => ?_
        · show (([] ++ ints _).length + 1) * 8 ≤ _; simp [ints]; omega
        · show ([] ++ ints _).length + 1 ≤ 9223372036854775807; simp [ints]; omega
        refine cut_intro k l.length rfl rfl hk (by omega) ?_
        refine src_intro _ (Ints.src hsl (a := k) (b := l.length) hk (Nat.le_refl _) hcap) ?_
        refine grow_intro ?_ ?_ fun b3 c3 _ => ?_
        · show (([] ++ ints _ ++ [_]).length + (ints _).length) * 8 ≤ _; simp [ints]; omega
        · show ([] ++ ints _ ++ [_]).length + (ints _).length ≤ 9223372036854775807; simp [ints]; omega
        refine ret_frz [0] fun μ' hle hno hrow => .inl ⟨insInt l n k, ?_, insInt_mem l n k, ins_sorted hs htk hgt⟩
        have e : [] ++ ints ((l.drop 0).take (k - 0)) ++ [.int .i64 n] ++ ints ((l.drop k).take (l.length - k)) = ints (insInt l n k) := by
          simp [ints, insInt]
          rw [List.take_of_length_le (by simp)]
        rw [e] at hrow ⊢
        exact Ints.sl hrow (Nat.le_trans (m := 2000000000) (by simp [insInt]; omega) (by decide))
  · have htk := take_lt hs (k := k) (n := n) (.inl (by omega))
    refine ifd (fun h3 => ?_) (fun h3 => ?_)
    · have hv_ := at_some (l := l) (i := k) (by omega)
      obtain ⟨y, hy⟩ := hv_
      have hv_ := Ints.elem hsl hy
      obtain ⟨ad2, hel2⟩ := hv_
      refine elem_intro hel2 ?_
      refine ifd (fun h4 => ret_plain ⟨l, hv, fun x => ⟨.inr, fun hx => hx.elim (fun e => by rw [e, ← h4]; exact mem_at hy) id⟩, hs⟩) (fun h4 => ?_)
      have hgt := drop_gt hs hge (fun z hz => by rw [hy] at hz; cases hz; exact h4)
      intro r0
      refine cut_intro 0 k rfl rfl (by omega) (by omega) ?_
      refine src_intro _ (Ints.src hsl (a := 0) (b := k) (by omega) hk hcap) ?_
      refine grow_intro ?_ ?_ fun b1 c1 _ => ?_
      · show (0 + (ints _).length) * 8 ≤ _; simp [ints]; omega
      · show 0 + (ints _).length ≤ 9223372036854775807; simp [ints]; omega
      intro r1
      refine grow_intro ?_ ?_ fun b2 c2 _ => ?_
      · show (([] ++ ints _).length + 1) * 8 ≤ _; simp [ints]; omega
      · show ([] ++ ints _).length + 1 ≤ 9223372036854775807; simp [ints]; omega
      refine cut_intro k l.length rfl rfl hk (by omega) ?_
      refine src_intro _ (Ints.src hsl (a := k) (b := l.length) hk (Nat.le_refl _) hcap) ?_
      refine grow_intro ?_ ?_ fun b3 c3 _ => ?_
      · show (([] ++ ints _ ++ [_]).length + (ints _).length) * 8 ≤ _; simp [ints]; omega
      · show ([] ++ ints _ ++ [_]).length + (ints _).length ≤ 9223372036854775807; simp [ints]; omega
      refine ret_frz [0] fun μ' hle hno hrow => .inl ⟨insInt l n k, ?_, insInt_mem l n k, ins_sorted hs htk hgt⟩
      have e : [] ++ ints ((l.drop 0).take (k - 0)) ++ [.int .i64 n] ++ ints ((l.drop k).take (l.length - k)) = ints (insInt l n k) := by
        simp [ints, insInt]
        rw [List.take_of_length_le (by simp)]
      rw [e] at hrow ⊢
      exact Ints.sl hrow (Nat.le_trans (m := 2000000000) (by simp [insInt]; omega) (by decide))
    · have hgt := drop_gt hs hge (fun z hz => by have := (List.getElem?_eq_some_iff.1 hz).1; omega)
      intro r0
      refine cut_intro 0 k rfl rfl (by omega) (by omega) ?_
      refine src_intro _ (Ints.src hsl (a := 0) (b := k) (by omega) hk hcap) ?_
      refine grow_intro ?_ ?_ fun b1 c1 _ => ?_
      · show (0 + (ints _).length) * 8 ≤ _; simp [ints]; omega
      · show 0 + (ints _).length ≤ 9223372036854775807; simp [ints]; omega
      intro r1
      refine grow_intro ?_ ?_ fun b2 c2 _ => ?_
      · show (([] ++ ints _).length + 1) * 8 ≤ _; simp [ints]; omega
      · show ([] ++ ints _).length + 1 ≤ 9223372036854775807; simp [ints]; omega
      refine cut_intro k l.length rfl rfl hk (by omega) ?_
      refine src_intro _ (Ints.src hsl (a := k) (b := l.length) hk (Nat.le_refl _) hcap) ?_
      refine grow_intro ?_ ?_ fun b3 c3 _ => ?_
      · show (([] ++ ints _ ++ [_]).length + (ints _).length) * 8 ≤ _; simp [ints]; omega
      · show ([] ++ ints _ ++ [_]).length + (ints _).length ≤ 9223372036854775807; simp [ints]; omega
      refine ret_frz [0] fun μ' hle hno hrow => .inl ⟨insInt l n k, ?_, insInt_mem l n k, ins_sorted hs htk hgt⟩
      have e : [] ++ ints ((l.drop 0).take (k - 0)) ++ [.int .i64 n] ++ ints ((l.drop k).take (l.length - k)) = ints (insInt l n k) := by
        simp [ints, insInt]
        rw [List.take_of_length_le (by simp)]
      rw [e] at hrow ⊢
      exact Ints.sl hrow (Nat.le_trans (m := 2000000000) (by simp [insInt]; omega) (by decide))
/-- A list of variables: sorted, in range. -/
structure VL (l : List Int) : Prop where
  srt : l.Pairwise (· < ·)
  rng : ∀ x ∈ l, 0 ≤ x ∧ x ≤ 100000
theorem VL.len {l : List Int} (h : VL l) : l.length ≤ 100001 := by
  refine nodup_range (N := 100001) ?_ fun n hn => by have := h.rng n hn; omega
  rw [List.nodup_iff_pairwise_ne]
  exact h.srt.imp fun hab e => by omega
def VarsS (μ' : Mem) (l vs : List Int) (v : Value) : Prop := ∃ r : List Int, RepV μ' (.sl 1 (r.map D.i)) v ∧ (∀ x, x ∈ r ↔ x ∈ vs ∨ x ∈ l) ∧ VL r
theorem l02VarsS_spec : ∀ (x : T) {μ : Mem} {l : List Int} {w v : Value}, x.good → RepV μ x.tm.d w → RepV μ (.sl 1 (l.map D.i)) v → VL l → Spec Tryz.prog 167 [w, v] μ fun v μ' => VarsS μ' l x.vars v :=
  T.ind fun x ih μ l w v hgd hw hv hb => by
    have hrng := T.vars_range hgd
    have hv_ := T.inv hw
    obtain ⟨base, cap, rfl, hsl⟩ := hv_
    have hn := maxLen_le hsl.max
    refine Spec.mk Tryz.func167 (by kernel_rfl) ?_
    intro r
    refine ifd (fun h => ?_) (fun h => ?_)
    · have e : x.vars = [x.tm.num] := by cases x <;> simp_all [T.vars, T.tm, Tm.kind, Tm.num]
      refine call_plain (l02InsertS_spec hv (by have := hb.len; omega) hb.srt) fun v' μ' hle hR => ret_plain ?_
      obtain ⟨r, h1, h2, h3⟩ := hR
      refine ⟨r, h1, by simpa [e] using h2, h3, fun y hy => ?_⟩
      rcases (h2 y).1 hy with rfl | hy
      · exact hrng _ (by rw [e]; simp)
      · exact hb.rng y hy
    have e := T.vars_args h
    have hgs : ∀ y ∈ x.args, y.good := fun y hy => by
      cases x with
      | pair a b =>
        simp only [T.args, List.mem_cons, List.not_mem_nil, or_false] at hy
        rcases hy with rfl | rfl
        · exact hgd.1
        · exact hgd.2
      | _ => simp [T.args] at hy
    refine loop_intro (fun p : Nat × Value × Mem => p.1 ≤ x.args.length ∧ μ.Le p.2.2 ∧ VarsS p.2.2 l ((x.args.take p.1).flatMap T.vars) p.2.1)
      (fun (i, v, μ') => ⟨[(1, .val v), (15, .val (.slice base x.args.length cap)), (16, .val (.int .i64 x.args.length)), (17, .val (.int .i64 i))], [], 1, μ', Mem.nil⟩) (fun p => x.args.length - p.1)
      (0, v, μ) ⟨by simp, Mem.Le.refl μ, l, hv, by simp, hb⟩ (fun (_, _, _) => ⟨rfl, rfl⟩) ⟨⟨rfl, rfl, rfl, rfl, trivial⟩, trivial, rfl, rfl⟩ ?_
    rintro ⟨i, v, μ'⟩ ⟨hi, hle, r, h1, h2, h3⟩
    dsimp only at hi hle h1 h2 h3
    refine ifd (fun h => ?_) (fun h => ?_)
    · have hv_ := at_some (l := x.args) (i := i) (by omega)
      obtain ⟨t, ht⟩ := hv_
      have ht' : (x.args.map T.tm)[i]? = some t.tm := by simp [ht]
      have hv_ := Tm.elem (hsl.mono hle) ht'
      obtain ⟨ad, p, hel, hr⟩ := hv_
      have hsucc : (x.args.take (i + 1)).flatMap T.vars = (x.args.take i).flatMap T.vars ++ t.vars := by
        rw [List.take_add_one, ht, Option.toList_some, List.flatMap_append]; simp
      refine elem_intro hel ?_
      intro r2
      refine call_plain (ih t (mem_at ht) (hgs t (mem_at ht)) hr h1 h3) fun v' μ'' hle2 hR => ?_
      obtain ⟨q, g1, g2, g3⟩ := hR
      refine num64 (by omega) (by omega) ⟨(i + 1, v', μ''), ⟨by dsimp only; omega, hle.trans hle2, q, g1, fun y => ?_, g3⟩, by dsimp only; omega, ⟨⟨rfl, rfl, rfl, rfl, trivial⟩, trivial, rfl, rfl⟩⟩
      dsimp only
      rw [g2, h2, hsucc, List.mem_append]
      constructor
      · rintro (h | h | h) <;> simp [h]
      · rintro ((h | h) | h) <;> simp [h]
    · obtain rfl : i = x.args.length := by omega
      rw [List.take_length] at h2
      exact ret_plain ⟨r, h1, by rw [e]; exact h2, h3⟩
end
end Go.Vx

/- Contracts: well-formed programs, the reference's side; goals counted. -/
namespace Go.Vx
open Go.Proofs Classical
theorem Gl.vars_eq (g : Gl) : g.vars = g.tvars ++ g.goals.flatMap Gl.vars := by
  rw [Gl.vars, Gl.all_eq, List.flatMap_cons, List.flatMap_assoc]
  rfl
section
variable {μ : Mem}
theorem l13Vars_spec : ∀ (g : Gl) {μ : Mem} {l : List Int} {w v : Value}, g.Sh → RepV μ g.d w → RepV μ (.sl 1 (l.map D.i)) v → VL l → Spec Tryz.prog 289 [w, v] μ fun v μ' => VarsS μ' l g.vars v :=
  Gl.ind fun g ih μ l w v hS hw hv hb => by
    have hv_ := Gl.inv hw
    obtain ⟨p, rfl, hts, hgs⟩ := hv_
    have hv_ := lift_ok hS.top.tm
    obtain ⟨xs, hxs, hxo⟩ := hv_
    have htv : g.tvars = xs.flatMap T.vars := by rw [Gl.tvars, hxs, toTs_tm']
    rw [hxs, List.length_map] at hts ⊢
    have hn := maxLen_le hts.max
    have hn2 := maxLen_le hgs.max
    refine Spec.mk Tryz.func289 (by kernel_rfl) ?_
    intro r1
    refine loop_intro (fun p : Nat × Value × Mem => p.1 ≤ xs.length ∧ μ.Le p.2.2 ∧ VarsS p.2.2 l ((xs.take p.1).flatMap T.vars) p.2.1)
      (fun (i, v, μ') => ⟨[(1, .val v), (2, .loc 0 r1 0), (10, .val (.slice p.1.1 xs.length p.1.2)), (11, .val (.int .i64 xs.length)), (12, .val (.int .i64 i))], [(0, some (.cells r1 [.val (.int .i64 g.kind), .val (.string g.name), .val (.slice p.1.1 xs.length p.1.2), .val (.slice p.2.1 g.goals.length p.2.2)] 55))], 1, μ', Mem.nil⟩) (fun p => xs.length - p.1)
      (0, v, μ) ⟨by simp, Mem.Le.refl μ, l, hv, by simp, hb⟩ (fun (_, _, _) => ⟨rfl, rfl⟩) ⟨⟨rfl, rfl, rfl, rfl, rfl, trivial⟩, ⟨rfl, trivial⟩, rfl, rfl⟩ ?_
    rintro ⟨i, v, μ'⟩ ⟨hi, hle, r, h1, h2, h3⟩
    dsimp only at hi hle h1 h2 h3
    refine ifd (fun h => ?_) (fun h => ?_)
    · have hv_ := at_some (l := xs) (i := i) (by omega)
      obtain ⟨t, ht⟩ := hv_
      have hv_ := Tm.elem (i := i) (t := t.tm) (hts.mono hle) (by simp [ht])
      obtain ⟨ad, p3, hel, hr⟩ := hv_
      have hsucc : (xs.take (i + 1)).flatMap T.vars = (xs.take i).flatMap T.vars ++ t.vars := by
        rw [List.take_add_one, ht, Option.toList_some, List.flatMap_append]; simp
      refine elem_intro hel ?_
      intro r2
      refine call_plain (l02VarsS_spec t (hxo t (mem_at ht)).1 hr h1 h3) fun v' μ'' hle2 hR => ?_
      obtain ⟨q, g1, g2, g3⟩ := hR
      refine num64 (by omega) (by omega) ⟨(i + 1, v', μ''), ⟨by dsimp only; omega, hle.trans hle2, q, g1, fun y => ?_, g3⟩, by dsimp only; omega, ⟨⟨rfl, rfl, rfl, rfl, rfl, trivial⟩, ⟨rfl, trivial⟩, rfl, rfl⟩⟩
      dsimp only
      rw [g2, h2, hsucc, List.mem_append]
      constructor
      · rintro (h | h | h) <;> simp [h]
      · rintro ((h | h) | h) <;> simp [h]
    · obtain rfl : i = xs.length := by omega
      rw [List.take_length] at h2
      have hgs1 := hgs.mono hle
      refine loop_intro (fun x : Nat × Value × Mem => x.1 ≤ g.goals.length ∧ μ'.Le x.2.2 ∧ VarsS x.2.2 l (g.tvars ++ (g.goals.take x.1).flatMap Gl.vars) x.2.1)
        (fun (i, v, μ'') => ⟨[(1, .val v), (21, .val (.slice p.2.1 g.goals.length p.2.2)), (22, .val (.int .i64 g.goals.length)), (23, .val (.int .i64 i))], [], 1, μ'', Mem.nil⟩) (fun x => g.goals.length - x.1)
        (0, v, μ') ⟨by simp, Mem.Le.refl μ', r, h1, by simpa [htv] using h2, h3⟩ (fun (_, _, _) => ⟨rfl, rfl⟩) ⟨⟨rfl, rfl, rfl, rfl, trivial⟩, trivial, rfl, rfl⟩ ?_
      rintro ⟨i, v2, μ2⟩ ⟨hi, hle2, r2, k1, k2, k3⟩
      dsimp only at hi hle2 k1 k2 k3
      refine ifd (fun h => ?_) (fun h => ?_)
      · have hv_ := at_some (l := g.goals) (i := i) (by omega)
        obtain ⟨t, ht⟩ := hv_
        have hv_ := Gl.elem (hgs1.mono hle2) ht
        obtain ⟨ad, p3, hel, hr⟩ := hv_
        have hsucc : (g.goals.take (i + 1)).flatMap Gl.vars = (g.goals.take i).flatMap Gl.vars ++ t.vars := by
          rw [List.take_add_one, ht, Option.toList_some, List.flatMap_append]; simp
        refine elem_intro hel ?_
        intro r3
        refine call_plain (ih t (mem_at ht) (hS.sub t (mem_at ht)) hr k1 k3) fun v' μ3 hle3 hR => ?_
        obtain ⟨q, g1, g2, g3⟩ := hR
        refine num64 (by omega) (by omega) ⟨(i + 1, v', μ3), ⟨by dsimp only; omega, hle2.trans hle3, q, g1, fun y => ?_, g3⟩, by dsimp only; omega, ⟨⟨rfl, rfl, rfl, rfl, trivial⟩, trivial, rfl, rfl⟩⟩
        dsimp only
        rw [g2, k2, hsucc, ← List.append_assoc, List.mem_append (s := g.tvars ++ _)]
        constructor
        · rintro (h | h | h) <;> simp [h]
        · rintro ((h | h) | h) <;> simp [h]
      · obtain rfl : i = g.goals.length := by omega
        rw [List.take_length, ← Gl.vars_eq] at k2
        exact ret_plain ⟨r2, k1, k2, k3⟩
theorem VL.last {l : List Int} (h : VL l) {n x : Int} (hx : l[l.length - 1]? = some x) : (∀ y ∈ l, y < n) ↔ x < n := by
  constructor
  · intro k; exact k x (List.mem_of_getElem? hx)
  · intro k y hy
    have hv_ := List.mem_iff_getElem?.1 hy
    obtain ⟨i, hi⟩ := hv_
    have hil := (List.getElem?_eq_some_iff.1 hi).1
    rcases Nat.lt_or_ge i (l.length - 1) with h1 | h1
    · have := srt_get h.srt h1 hi hx; omega
    · obtain rfl : i = l.length - 1 := by omega
      rw [hx] at hi; cases hi; exact k
def Fits (p : Pg) (g : Gl) (n : Int) : Prop := g.Ok ∧ FitAll p g ∧ ∀ m ∈ g.vars, m < n
theorem l14Fits_spec {p : Pg} {g : Gl} {n : Int} {vp v : Value} (hp : RepV μ p.d vp) (hv : RepV μ g.d v) (hw : g.d.wd) : Spec Tryz.prog 203 [vp, v, .int .i64 n] μ fun r _ => r = .bool (decide (Fits p g n)) := by
  have hv_ := Pg.inv hp
  obtain ⟨q, rfl, hrl⟩ := hv_
  have hv_ := Gl.invV hv
  obtain ⟨q2, rfl⟩ := hv_
  refine Spec.mk Tryz.func203 (by kernel_rfl) ?_
  intro r1 r2
  refine call_gives (spec_GoalOk_spec g hv hw) ?_
  refine ifnd (fun h => ret_plain (isF fun k => h k.1)) (fun h1 => ?_)
  refine call_gives (l14Calls_spec hp g h1.1 hv) ?_
  refine ifnd (fun h => ret_plain (isF fun k => h k.2.1)) (fun h2 => ?_)
  refine call_plain (l13Vars_spec (l := []) (v := .slice none 0 0) g h1.1 hv ⟨none, 0, rfl, ⟨Nat.zero_le _, Nat.zero_le _⟩, by simp, .inl rfl⟩ ⟨List.Pairwise.nil, by simp⟩) fun v1 μ1 hle1 hR => ?_
  obtain ⟨r, g1, g2, g3⟩ := hR
  have hv_ := Rep.sl g1
  obtain ⟨b, c, rfl, hsl⟩ := hv_
  rw [List.length_map] at hsl ⊢
  have hlen := g3.len
  have hmem : ∀ x, x ∈ r ↔ x ∈ g.vars := fun x => by rw [g2]; simp
  refine ifd (fun h => ret_plain (isT ⟨h1, h2, fun m hm => ?_⟩)) (fun h => ?_)
  · have h3 : r = [] := List.eq_nil_of_length_eq_zero (by omega)
    have := (hmem m).2 hm
    rw [h3] at this; simp at this
  · have hv_ := at_some (l := r) (i := r.length - 1) (by omega)
    obtain ⟨x, hx⟩ := hv_
    have hv_ := Ints.elem hsl hx
    obtain ⟨ad, hel⟩ := hv_
    refine num_eq (x := ((r.length - 1 : Nat) : Int)) (by rw [wrap64 (by omega) (by omega)]; omega) ?_
    refine elem_intro hel ?_
    refine ret_plain (isI ⟨fun k => ⟨h1, h2, fun m hm => ((VL.last g3 hx).2 k) m ((hmem m).2 hm)⟩, fun k => (VL.last g3 hx).1 fun y hy => k.2.2 y ((hmem y).1 hy)⟩)
end
end Go.Vx

/- Contracts: well-formed programs, the reference's side; goals counted. -/
namespace Go.Vx
open Go.Proofs Classical
section
variable {μ : Mem}
theorem spec_ProgramOk_spec {p : Pg} {v : Value} (hp : RepV μ p.d v) (hw : p.d.wd) : Spec Tryz.prog 117 [v] μ fun r _ => r = .bool (decide p.Ok) := by
  have hv_ := Pg.inv hp
  obtain ⟨q, rfl, hrl⟩ := hv_
  have hws : D.wds (p.rels.map Rl.d) := by rw [Pg.d_eq] at hw; exact hw.1
  refine Spec.mk Tryz.func117 (by kernel_rfl) ?_
  intro r1
  refine ifd (fun h8 => ret_plain (isF fun h => by have := h.1; omega)) (fun h8 => ?_)
  refine loop_intro (fun x : Nat × Mem => x.1 ≤ p.rels.length ∧ μ.Le x.2 ∧ ∀ (j : Nat) (r : Rl), j < x.1 → p.rels[j]? = some r → RelOk p j r)
    (fun (i, μ') => ⟨[(1, .loc 0 r1 0), (10, .val (.slice q.1 p.rels.length q.2)), (11, .val (.int .i64 p.rels.length)), (12, .val (.int .i64 i))], [(0, some (.cells r1 [.val (.slice q.1 p.rels.length q.2)] 67))], 1, μ', Mem.nil⟩) (fun x => p.rels.length - x.1)
    (0, μ) ⟨by simp, Mem.Le.refl _, fun j r hj => by simp at hj⟩ (fun (_, _) => ⟨rfl, rfl⟩) ⟨⟨rfl, rfl, rfl, rfl, trivial⟩, ⟨rfl, trivial⟩, rfl, rfl⟩ ?_
  rintro ⟨i, μ'⟩ ⟨hi, hle, hall⟩
  dsimp only at hi hle hall
  refine ifd (fun hlt => ?_) (fun hlt => ?_)
  · have hv_ := at_some (l := p.rels) (i := i) (by omega)
    obtain ⟨x, hx⟩ := hv_
    have hv_ := Rl.elemA (hrl.mono hle) hx
    obtain ⟨ad, q2, hel, hr, hb⟩ := hv_
    have hb : RepV μ' x.body.d (.agg (x.body.cs q2).toArray) := hb
    have hxw : x.d.wd := D.wds_mem hws _ (mem_at (at_map (f := Rl.d) hx))
    rw [Rl.d_eq] at hxw
    have hnm : x.name.size ≤ maxLen := hxw.1
    have hbw : x.body.d.wd := hxw.2.2.2.1
    have bad : ¬ RelOk p i x → Value.bool false = .bool (decide p.Ok) := fun h => isF fun k => h (k.2 i x hx)
    refine elem_intro hel ?_
    intro r2
    refine call_gives (l14Find_spec (hp.mono hle)) ?_
    refine ifnd (fun h => ret_plain (bad fun k => h k.at_)) (fun g2 => ?_)
    refine call_gives (spec_IsRelName_spec _ hnm _) ?_
    refine ifnd (fun h => ret_plain (bad fun k => h k.name)) (fun g1 => ?_)
    refine call_gives (l01In_spec _ _ _ _) ?_
    refine ifnd (fun h => ret_plain (bad fun k => h ⟨k.ar0, k.ar4⟩)) (fun g3 => ?_)
    refine call_gives (l01In_spec _ _ _ _) ?_
    refine ifnd (fun h => ret_plain (bad fun k => h ⟨k.lo0, k.lo8⟩)) (fun g4 => ?_)
    refine num64 (by omega) (by omega) ?_
    refine call_plain (l14Fits_spec (hp.mono hle) hb hbw) fun v1 μ1 hle1 hR => ?_
    obtain rfl := hR
    refine ifnd (fun h => ret_plain (bad fun k => h ⟨⟨k.body, by have := k.size; omega⟩, k.calls, k.vars⟩)) (fun g5 => ?_)
    refine call_gives (spec_GoalSize_spec x.body (hb.mono hle1) hbw) ?_
    have hc : x.body.count = x.body.cnt := by rw [Gl.count, if_pos g5.1]
    refine ifd (fun h => ret_plain (bad fun k => by have := k.size; omega)) (fun g6 => ?_)
    have hok : RelOk p i x := ⟨g2, g1, by omega, by omega, by omega, by omega, g5.1.1, by omega, g5.2.2, g5.2.1⟩
    refine num64 (by omega) (by omega) ⟨(i + 1, μ1), ⟨by dsimp only; omega, hle.trans hle1, fun j r hj hr => ?_⟩, by dsimp only; omega, ⟨⟨rfl, rfl, rfl, rfl, trivial⟩, ⟨rfl, trivial⟩, rfl, rfl⟩⟩
    rcases Nat.lt_or_ge j i with h6 | h6
    · exact hall j r h6 hr
    · obtain rfl : j = i := by omega
      rw [hx] at hr; cases hr; exact hok
  · obtain rfl : i = p.rels.length := by omega
    exact ret_plain (isT ⟨by omega, fun j r hr => hall j r (List.getElem?_eq_some_iff.1 hr).1 hr⟩)
end
end Go.Vx

/- Contracts: which substitutions are fine. -/
namespace Go.Vx
open Go.Proofs Classical
/-! ### Plain -/
def bndOk (bs : List B) (b : B) : Prop := ¬ (b.to.tm.kind = 1 ∧ b.var ≤ b.to.tm.num) ∧ ∀ n ∈ b.to.vars, sub bs n = none
def substOk (l : List Bd) : Prop := valsOk l ∧ ∀ b ∈ l.map Bd.b, bndOk (l.map Bd.b) b
theorem B.bd_b (b : B) : b.bd.b = b := by
  cases b; simp [B.bd, Bd.b, T.toT_tm]
theorem B.map_b (bs : List B) : (bs.map B.bd).map Bd.b = bs := by
  rw [List.map_map]
  conv => rhs; rw [← List.map_id bs]
  exact List.map_congr_left fun b _ => B.bd_b b
/-- A fine list of bindings, as terms. -/
structure Vals (bs : List B) : Prop where
  ok : valsOk (bs.map B.bd)
theorem Vals.len {bs : List B} (h : Vals bs) : bs.length ≤ 400 := by have := h.ok.1; simpa using this
theorem Vals.srt {bs : List B} (h : Vals bs) : Srt bs := by have := h.ok.srt; rwa [B.map_b] at this
theorem Vals.tok {bs : List B} (h : Vals bs) : ∀ b ∈ bs, b.to.ok := by have := h.ok.lift.2; rwa [B.map_b] at this
theorem Vals.var {bs : List B} (h : Vals bs) : ∀ b ∈ bs, 0 ≤ b.var ∧ b.var ≤ 100000 := fun b hb => by
  have hv_ := List.mem_iff_getElem?.1 hb
  obtain ⟨i, hi⟩ := hv_
  exact (h.ok.2 i b.bd (by simp [hi])).1
theorem valsOk.vals {l : List Bd} (h : valsOk l) : ∃ bs : List B, l = bs.map B.bd ∧ Vals bs := ⟨l.map Bd.b, h.lift.1.symm, ⟨by rw [h.lift.1]; exact h⟩⟩
structure Subst (bs : List B) : Prop where
  vals : Vals bs
  bnd : ∀ b ∈ bs, bndOk bs b
theorem substOk_iff (bs : List B) : substOk (bs.map B.bd) ↔ Subst bs := by
  unfold substOk
  rw [B.map_b]
  exact ⟨fun h => ⟨⟨h.1⟩, h.2⟩, fun h => ⟨h.1.1, h.2⟩⟩
theorem substOk.subst {l : List Bd} (h : substOk l) : ∃ bs : List B, l = bs.map B.bd ∧ Subst bs := by
  obtain ⟨bs, rfl, _⟩ := h.1.vals
  exact ⟨bs, rfl, (substOk_iff bs).1 h⟩
section
variable {μ : Mem}
/-- A cell of one's own beside other memory. -/
def boolOn (H : Mem) (r : Nat) (b : Bool) : Mem := H.set r (.cells #[.bool b] 4 (0, 0))
end
end Go.Vx

/- Contracts: programs without negation. -/
namespace Go.Vx
open Go.Proofs Classical
/-- No negation in a goal. -/
def Gl.Pos (g : Gl) : Prop := ∀ x ∈ g.all, x.kind ≠ 10
def Pg.Pos (p : Pg) : Prop := p.Ok ∧ ∀ r ∈ p.rels, r.body.Pos
section
variable {μ : Mem}
/-! ### The program's side -/
end
end Go.Vx

/- Contracts: what texts on substitutions share: rows out of slices, terms under a substitution, a bound variable replaced. -/
namespace Go.Vx
open Go.Proofs Classical
section
variable {μ : Mem}
theorem Rep.srcAll {es n cap : Nat} {base : Option Addr} {ds : List D} (h : RepV μ (.sl es ds) (.slice base n cap)) : ∃ vs, Rows μ es ds vs ∧ vs.length = n ∧ SrcAt μ base n es vs := by
  have hv_ := Rep.src h
  obtain ⟨vs, hrows, hvl, hcap, hsrc⟩ := hv_
  have := hsrc 0 n (Nat.zero_le _) (Nat.le_refl _)
  have e1 : (if cap = 0 then base else base.map (·.add (0 * es))) = base := by
    split
    · rfl
    · cases base with
      | none => rfl
      | some a => simp [Addr.add]
  rw [e1, Nat.sub_zero, List.drop_zero, List.take_of_length_le (by omega)] at this
  exact ⟨vs, hrows, hvl, this⟩
end
end Go.Vx

/- Contracts: the clauses of a goal, the reference's side. -/
namespace Go.Vx
open Go.Proofs Classical
/-! ### Plain -/
def prodC (a l : List (List Gl)) : List (List Gl) := a.flatMap fun x => l.map fun y => x ++ y
mutual
noncomputable def Gl.cl : Gl → Option (List (List Gl))
  | .mk k s ts gs => if k = 0 then some [[]] else if k = 1 then some [] else if k = 8 then Gl.clOr gs [] else if k = 7 then Gl.clAnd gs [[]] else some [[.mk k s ts gs]]
noncomputable def Gl.clOr : List Gl → List (List Gl) → Option (List (List Gl))
  | [], acc => some acc
  | g :: r, acc => (g.cl).bind fun l => if (acc ++ l).length ≤ 64 then Gl.clOr r (acc ++ l) else none
noncomputable def Gl.clAnd : List Gl → List (List Gl) → Option (List (List Gl))
  | [], acc => some acc
  | g :: r, acc => (g.cl).bind fun l => if (prodC acc l).length ≤ 64 then Gl.clAnd r (prodC acc l) else none
end
theorem Gl.cl_eq (g : Gl) : g.cl = if g.kind = 0 then some [[]] else if g.kind = 1 then some [] else if g.kind = 8 then Gl.clOr g.goals [] else if g.kind = 7 then Gl.clAnd g.goals [[]] else some [[g]] := by
  cases g; rw [Gl.cl]; rfl
theorem prodC_len (a l : List (List Gl)) : (prodC a l).length = a.length * l.length := by
  unfold prodC
  induction a with
  | nil => simp
  | cons x a ih => rw [List.flatMap_cons, List.length_append, ih, List.length_map, List.length_cons, Nat.succ_mul]; omega
theorem prodC_mem {a l : List (List Gl)} {z : List Gl} (h : z ∈ prodC a l) : ∃ x ∈ a, ∃ y ∈ l, z = x ++ y := by
  have hv_ := List.mem_flatMap.1 h
  obtain ⟨x, hx, h⟩ := hv_
  have hv_ := List.mem_map.1 h
  obtain ⟨y, hy, rfl⟩ := hv_
  exact ⟨x, hx, y, hy, rfl⟩
theorem prodC_step {a l : List (List Gl)} {j : Nat} {x : List Gl} (h : a[j]? = some x) : prodC (a.take (j + 1)) l = prodC (a.take j) l ++ l.map fun y => x ++ y := by
  rw [prodC, List.take_add_one, h, Option.toList_some, List.flatMap_append]
  simp [prodC]
/-- A clause as data. -/
def csD (c : List Gl) : D := .sl 4 (c.map Gl.d)
section
variable {μ : Mem}
abbrev Cls (μ : Mem) (L : List (List Gl)) (v : Value) : Prop := RepV μ (.sl 1 (L.map csD)) v
theorem csD_inv {c : List Gl} {v : Value} (h : RepV μ (csD c) v) : ∃ p : Option Addr × Nat, v = .slice p.1 c.length p.2 := by
  have hv_ := Rep.sl (xs := c.map Gl.d) h
  obtain ⟨b, k, rfl, _⟩ := hv_
  exact ⟨(b, k), by rw [List.length_map]⟩
theorem cls_elem {L : List (List Gl)} {base : Option Addr} {n : Nat} (h : Sl μ 1 base n (L.map csD)) {i : Nat} {c : List Gl} (hc : L[i]? = some c) :
    ∃ ad, ∃ p : Option Addr × Nat, ElemAt μ base n 1 i ad [.slice p.1 c.length p.2] ∧ RepV μ (csD c) (.slice p.1 c.length p.2) := by
  have hv_ := h.get i (csD c) (by simp [hc])
  obtain ⟨ad, cs, h1, h2⟩ := hv_
  have h3 : Rep μ (.sl 4 (c.map Gl.d)) cs := h2
  have hl := Rep.len _ _ h3
  match cs, hl with
  | [v], _ =>
    have hv_ := csD_inv (c := c) h3
    obtain ⟨p, rfl⟩ := hv_
    exact ⟨ad, p, h1, h3⟩
theorem Cls.sl {L : List (List Gl)} {b : Option Addr} {n c : Nat} (h : Cls μ L (.slice b n c)) : Sl μ 1 b L.length (L.map csD) ∧ n = L.length := by
  have hv_ := Rep.sl h
  obtain ⟨b', c', e1, hs⟩ := hv_
  have hv_ := Value.slice.inj e1
  obtain ⟨rfl, e2, _⟩ := hv_
  rw [List.length_map] at hs e2
  exact ⟨hs, e2⟩
theorem Cls.inv {L : List (List Gl)} {v : Value} (h : Cls μ L v) : ∃ p : Option Addr × Nat, v = .slice p.1 L.length p.2 := by
  have hv_ := Rep.sl h
  obtain ⟨b, k, rfl, _⟩ := hv_
  exact ⟨(b, k), by rw [List.length_map]⟩
theorem csD_src {c : List Gl} {p : Option Addr × Nat} (h : RepV μ (csD c) (.slice p.1 c.length p.2)) : ∃ vs, Rows μ 4 (c.map Gl.d) vs ∧ vs.length = c.length ∧ SrcAt μ p.1 c.length 4 vs := Rep.srcAll h
/-- What the reference answers: the clauses, or too many of something. -/
structure ClsOk (μ : Mem) (g : Gl) (v : Value) (L : List (List Gl)) : Prop where
  rep : Cls μ L v
  cl : g.cl = if L.length ≤ 64 then some L else none
  len : ∀ c ∈ L, c.length ≤ g.cnt
  max : L.length ≤ 4096
set_option maxHeartbeats 8000000 in
theorem l16Clauses_spec : ∀ (g : Gl) {μ : Mem} {v : Value}, RepV μ g.d v → g.Sh → g.cnt ≤ 80 → Spec Tryz.prog 219 [v] μ fun v μ' => ∃ L, ClsOk μ' g v L :=
  Gl.ind fun g ih μ v hv hS hcnt => by
    have hv0 := hv
    have hv_ := Gl.inv hv
    obtain ⟨p, rfl, hts, hgs⟩ := hv_
    have hg8 := hS.top.gl
    have hce := Gl.cnt_eq1 g
    refine Spec.mk Tryz.func219 (by kernel_rfl) ?_
    intro r1 r15
    refine ifd (fun h0 => ?_) (fun h0 => ?_)
    · intro r20 μ1 hle1 hno1 hat1 r21
      refine ret_frz [3] fun μ2 hle2 hno2 hat2 => .inl ⟨[[]], ?_, ?_, ?_, ?_⟩
      · exact Rows.sl hat2 (Rows.one (d := csD []) ((Rows.sl (μ := μ1) (ds := []) hat1 .nil (Nat.zero_le _)).mono hle2) rfl) (show 1 ≤ maxLen by decide)
      · rw [Gl.cl_eq, if_pos h0]; rfl
      · simp
      · simp
    refine ifd (fun h1 => ?_) (fun h1 => ?_)
    · refine ret_frz [1] fun μ2 hle2 hno2 hat2 => .inl ⟨[], ?_, ?_, ?_, ?_⟩
      · exact Rows.sl hat2 .nil (Nat.zero_le _)
      · rw [Gl.cl_eq, if_neg h0, if_pos h1]; rfl
      · simp
      · simp
    refine ifd (fun h8 => ?_) (fun h8 => ?_)
    · have hcl : g.cl = Gl.clOr g.goals [] := by rw [Gl.cl_eq, if_neg h0, if_neg h1, if_pos h8]
      refine loop_intro (fun q : Nat × List (List Gl) × Option Nat × Nat × List Value × Mem => q.1 ≤ g.goals.length ∧ μ.Le q.2.2.2.2.2 ∧ Rows q.2.2.2.2.2 1 (q.2.1.map csD) q.2.2.2.2.1 ∧ g.cl = (if q.2.1.length ≤ 64 then Gl.clOr (g.goals.drop q.1) q.2.1 else none) ∧ (∀ c ∈ q.2.1, c.length ≤ Gl.cnts (g.goals.take q.1)) ∧ q.2.1.length ≤ 64 * q.1)
        (fun (i, acc, b, c, ys, μ') => ⟨[(3, .row 1 b ys.length c), (28, .val (.slice p.2.1 g.goals.length p.2.2)), (29, .val (.int .i64 g.goals.length)), (30, .val (.int .i64 i))], [(1, some (.row b c 53 1 ys))], 2, μ', Mem.nil⟩) (fun q => g.goals.length - q.1)
        (0, [], some r15, 0, [], μ) ⟨Nat.zero_le _, Mem.Le.refl _, .nil, by rw [hcl]; rfl, by simp, by simp⟩ (fun (_, _, _, _, _, _) => ⟨rfl, rfl⟩) ⟨⟨rfl, rfl, rfl, rfl, trivial⟩, ⟨rfl, trivial⟩, rfl, rfl⟩ ?_
      rintro ⟨i, acc, b, c, ys, μ'⟩ ⟨hi, hle, hrows, hJ, hlen, hmax⟩
      dsimp only at hi hle hrows hJ hlen hmax
      have hyl := hrows.len
      rw [List.length_map] at hyl
      refine ifd (fun hlt => ?_) (fun hlt => ?_)
      · have hv_ := at_some (l := g.goals) (i := i) (by omega)
        obtain ⟨x, hx⟩ := hv_
        have hv_ := Gl.elem (hgs.mono hle) hx
        obtain ⟨ad, q, hel, hr⟩ := hv_
        have hxc := Gl.cnts_take hx
        have hxl := Gl.cnts_le g.goals (i + 1)
        refine elem_intro hel ?_
        intro r5
        refine call_plain (ih x (mem_at hx) hr (hS.sub x (mem_at hx)) (by omega)) fun v1 μ1 hle1 hR => ?_
        obtain ⟨L, hL⟩ := hR
        obtain ⟨pv, rfl⟩ := hL.rep.inv
        have hv_ := Rep.srcAll hL.rep
        obtain ⟨vs, hvr, hvl, hsrc⟩ := hv_
        have hLm := hL.max
        rw [drop_at hx, Gl.clOr, hL.cl] at hJ
        refine src_intro vs hsrc ?_
        refine grow_intro ?_ ?_ fun b9 c9 _ => ?_
        · show (ys.length + vs.length) * 24 ≤ _; omega
        · exact Nat.le_trans (m := 100000000) (show ys.length + vs.length ≤ _ by omega) (by decide)
        refine ifd (fun h64 => ?_) (fun h64 => ?_)
        · refine ret_plain ⟨L, hL.rep, ?_, fun c hc => Nat.le_trans (hL.len c hc) (by omega), hLm⟩
          rw [if_neg (show ¬ L.length ≤ 64 by omega)] at hJ ⊢
          rw [hJ]
          split <;> rfl
        · rw [if_pos (show L.length ≤ 64 by omega), Option.bind_some] at hJ
          refine num64 (by omega) (by omega) ⟨(i + 1, acc ++ L, b9, c9, _, μ1), ⟨by dsimp only; omega, hle.trans hle1, ?_, ?_, ?_, ?_⟩, by dsimp only; omega, ⟨⟨rfl, rfl, rfl, rfl, trivial⟩, ⟨rfl, trivial⟩, rfl, rfl⟩⟩
          · dsimp only
            rw [List.map_append]
            exact (hrows.mono hle1).append hvr
          · dsimp only
            rw [hJ]
            by_cases ha : acc.length ≤ 64
            · rw [if_pos ha]
            · rw [if_neg ha, if_neg (by rw [List.length_append]; omega)]
          · dsimp only
            intro c hc
            rcases List.mem_append.1 hc with hc | hc
            · have := hlen c hc; omega
            · have := hL.len c hc; omega
          · dsimp only
            rw [List.length_append]; omega
      · obtain rfl : i = g.goals.length := by omega
        rw [List.drop_length, Gl.clOr] at hJ
        rw [List.take_length] at hlen
        refine ret_frz [1] fun μ2 hle2 hno2 hat2 => .inl ⟨acc, ?_, hJ, fun c hc => by have := hlen c hc; omega, by omega⟩
        exact Rows.sl hat2 (hrows.mono hle2) (Nat.le_trans (m := 100000000) (by omega) (by decide))
    refine ifd (fun h7 => ?_) (fun h7 => ?_)
    rotate_left
    · intro r96 μ1 hle1 hno1 hat1 r97
      refine grow_intro ?_ ?_ fun b9 c9 _ => ?_
      · show (0 + 1) * 24 ≤ _; decide
      · show 0 + 1 ≤ maxLen; decide
      refine ret_frz [1] fun μ2 hle2 hno2 hat2 => .inl ⟨[[g]], ?_, ?_, ?_, ?_⟩
      · refine Rows.sl hat2 (Rows.one (d := csD [g]) ((Rows.sl (μ := μ1) (ds := [g.d]) hat1 (Rows.one (hv0.mono hle1) (Gl.d_n g)) (show 1 ≤ maxLen by decide)).mono hle2) rfl) (show 1 ≤ maxLen by decide)
      · rw [Gl.cl_eq, if_neg h0, if_neg h1, if_neg h8, if_neg h7]; rfl
      · intro c hc
        rw [List.mem_singleton.1 hc]
        have := g.cnt_pos
        simpa using this
      · simp
    have hcl : g.cl = Gl.clAnd g.goals [[]] := by rw [Gl.cl_eq, if_neg h0, if_neg h1, if_neg h8, if_pos h7]
    intro r48 μ1 hle1 hno1 hat1 r49
    refine grow_intro ?_ ?_ fun b9 c9 _ => ?_
    · show (0 + 1) * 24 ≤ _; decide
    · show 0 + 1 ≤ maxLen; decide
    refine loop_frz (fun q : Nat × List (List Gl) × Option Addr × Nat × Mem => q.1 ≤ g.goals.length ∧ μ.Le q.2.2.2.2 ∧ Cls q.2.2.2.2 q.2.1 (.slice q.2.2.1 q.2.1.length q.2.2.2.1) ∧ g.cl = Gl.clAnd (g.goals.drop q.1) q.2.1 ∧ (∀ c ∈ q.2.1, c.length ≤ Gl.cnts (g.goals.take q.1)) ∧ q.2.1.length ≤ 64)
      (fun (i, acc, b, c, μ') => ⟨[(3, .val (.slice b acc.length c)), (52, .val (.slice p.2.1 g.goals.length p.2.2)), (53, .val (.int .i64 g.goals.length)), (54, .val (.int .i64 i))], [], 0, μ', Mem.nil⟩) (fun q => g.goals.length - q.1) [1]
      (fun (_, _, _, _, _) => ⟨rfl, rfl⟩) (fun μ2 hle2 hno2 hat2 => ⟨(0, [[]], b9.map (fun r => ⟨r, 0, none⟩), c9, μ2), ⟨Nat.zero_le _, hle1.trans hle2, Rows.sl hat2 (Rows.one (d := csD []) ((Rows.sl (μ := μ1) (ds := []) hat1 .nil (Nat.zero_le _)).mono hle2) rfl) (show 1 ≤ maxLen by decide), hcl, by simp, by simp⟩, ⟨rfl, rfl, rfl, rfl, trivial⟩, trivial, rfl, rfl⟩) ?_
    rintro ⟨i, acc, b, c, μ'⟩ ⟨hi, hle, hacc, hJ, hlen, hmax⟩
    dsimp only at hi hle hacc hJ hlen hmax
    refine ifd (fun hlt => ?_) (fun hlt => ?_)
    rotate_left
    · obtain rfl : i = g.goals.length := by omega
      rw [List.drop_length, Gl.clAnd] at hJ
      rw [List.take_length] at hlen
      exact ret_plain ⟨acc, hacc, by rw [hJ, if_pos hmax], fun c hc => by have := hlen c hc; omega, by omega⟩
    have hv_ := at_some (l := g.goals) (i := i) (by omega)
    obtain ⟨x, hx⟩ := hv_
    have hv_ := Gl.elem (hgs.mono hle) hx
    obtain ⟨ad, q, hel, hr⟩ := hv_
    have hxc := Gl.cnts_take hx
    have hxl := Gl.cnts_le g.goals (i + 1)
    refine elem_intro hel ?_
    intro r8
    refine call_plain (ih x (mem_at hx) hr (hS.sub x (mem_at hx)) (by omega)) fun v3 μ3 hle3 hR => ?_
    obtain ⟨L, hL⟩ := hR
    obtain ⟨pv, rfl⟩ := hL.rep.inv
    have hLm := hL.max
    rw [drop_at hx, Gl.clAnd, hL.cl] at hJ
    refine ifd (fun h64 => ?_) (fun h64 => ?_)
    · refine ret_plain ⟨L, hL.rep, ?_, fun c hc => Nat.le_trans (hL.len c hc) (by omega), hLm⟩
      rw [if_neg (show ¬ L.length ≤ 64 by omega)] at hJ ⊢
      exact hJ
    rw [if_pos (show L.length ≤ 64 by omega), Option.bind_some] at hJ
    intro r64
    have hasl := (Cls.sl (RepV.mono hle3 hacc)).1
    refine loop_intro (fun q : Nat × Option Nat × Nat × List Value × Mem => q.1 ≤ acc.length ∧ μ3.Le q.2.2.2.2 ∧ Rows q.2.2.2.2 1 ((prodC (acc.take q.1) L).map csD) q.2.2.2.1)
      (fun (j, b1, c1, ys, μ4) => ⟨[(9, .val (.slice pv.1 L.length pv.2)), (10, .row 1 b1 ys.length c1), (52, .val (.slice p.2.1 g.goals.length p.2.2)), (53, .val (.int .i64 g.goals.length)), (54, .val (.int .i64 i)), (65, .val (.slice b acc.length c)), (66, .val (.int .i64 acc.length)), (67, .val (.int .i64 j))], [(1, some (.row b1 c1 53 1 ys))], 2, μ4, Mem.nil⟩) (fun q => acc.length - q.1)
      (0, some r64, 0, [], μ3) ⟨Nat.zero_le _, Mem.Le.refl _, .nil⟩ (fun (_, _, _, _, _) => ⟨rfl, rfl⟩) ⟨⟨rfl, rfl, rfl, rfl, rfl, rfl, rfl, rfl, trivial⟩, ⟨rfl, trivial⟩, rfl, rfl⟩ ?_
    rintro ⟨j, b1, c1, ys, μ4⟩ ⟨hj, hle4, hrows⟩
    dsimp only at hj hle4 hrows
    have hyl := hrows.len
    rw [List.length_map, prodC_len, List.length_take] at hyl
    have hmul : min j acc.length * L.length ≤ 64 * 64 := Nat.mul_le_mul (by omega) (by omega)
    refine ifd (fun hlt2 => ?_) (fun hlt2 => ?_)
    · have hv_ := at_some (l := acc) (i := j) (by omega)
      obtain ⟨xa, hxa⟩ := hv_
      have hv_ := cls_elem (hasl.mono hle4) hxa
      obtain ⟨ad2, pa, hel2, hra⟩ := hv_
      have hxal := hlen xa (mem_at hxa)
      have hmul2 : j * L.length ≤ 64 * 64 := Nat.mul_le_mul (by omega) (by omega)
      rw [Nat.min_eq_left (by omega)] at hyl
      refine elem_intro hel2 ?_
      refine loop_intro (fun q : Nat × Option Nat × Nat × List Value × Mem => q.1 ≤ L.length ∧ μ4.Le q.2.2.2.2 ∧ Rows q.2.2.2.2 1 ((prodC (acc.take j) L ++ (L.take q.1).map fun y => xa ++ y).map csD) q.2.2.2.1)
        (fun (k, b1, c1, ys, μ5) => ⟨[(9, .val (.slice pv.1 L.length pv.2)), (10, .row 1 b1 ys.length c1), (12, .val (.slice pa.1 xa.length pa.2)), (52, .val (.slice p.2.1 g.goals.length p.2.2)), (53, .val (.int .i64 g.goals.length)), (54, .val (.int .i64 i)), (65, .val (.slice b acc.length c)), (66, .val (.int .i64 acc.length)), (67, .val (.int .i64 j)), (71, .val (.slice pv.1 L.length pv.2)), (72, .val (.int .i64 L.length)), (73, .val (.int .i64 k))], [(1, some (.row b1 c1 53 1 ys))], 2, μ5, Mem.nil⟩) (fun q => L.length - q.1)
        (0, b1, c1, ys, μ4) ⟨Nat.zero_le _, Mem.Le.refl _, by simpa using hrows⟩ (fun (_, _, _, _, _) => ⟨rfl, rfl⟩) ⟨⟨rfl, rfl, rfl, rfl, rfl, rfl, rfl, rfl, rfl, rfl, rfl, rfl, trivial⟩, ⟨rfl, trivial⟩, rfl, rfl⟩ ?_
      clear hrows
      rintro ⟨k, b2, c2, zs, μ5⟩ ⟨hk, hle5, hrows2⟩
      dsimp only at hk hle5 hrows2
      have hzl := hrows2.len
      rw [List.length_map, List.length_append, prodC_len, List.length_map, List.length_take, List.length_take, Nat.min_eq_left (show j ≤ acc.length by omega), Nat.min_eq_left hk] at hzl
      refine ifd (fun hlt3 => ?_) (fun hlt3 => ?_)
      · have hv_ := at_some (l := L) (i := k) (by omega)
        obtain ⟨y, hy⟩ := hv_
        have hv_ := cls_elem (((Cls.sl hL.rep).1.mono hle4).mono hle5) hy
        obtain ⟨ad3, py, hel3, hry⟩ := hv_
        have hyl2 := hL.len y (mem_at hy)
        have hv_ := csD_src (hra.mono hle5)
        obtain ⟨vx, hvx, hvxl, hsx⟩ := hv_
        have hv_ := csD_src hry
        obtain ⟨vy, hvy, hvyl, hsy⟩ := hv_
        refine elem_intro hel3 ?_
        intro r78
        refine src_intro vx hsx ?_
        refine grow_intro ?_ ?_ fun b6 c6 _ => ?_
        · show (0 + vx.length) * 72 ≤ _; omega
        · exact Nat.le_trans (m := 100000000) (show 0 + vx.length ≤ _ by omega) (by decide)
        refine src_intro vy hsy ?_
        refine grow_intro ?_ ?_ fun b7 c7 _ => ?_
        · show ((([] : List Value) ++ vx).length + vy.length) * 72 ≤ _; simp; omega
        · exact Nat.le_trans (m := 100000000) (show (([] : List Value) ++ vx).length + vy.length ≤ _ by simp; omega) (by decide)
        intro μ6 hle6 hno6 hat6 r83
        refine grow_intro ?_ ?_ fun b8 c8 _ => ?_
        · show (zs.length + 1) * 24 ≤ _; omega
        · exact Nat.le_trans (m := 100000000) (show zs.length + 1 ≤ _ by omega) (by decide)
        have hrow : RepV μ6 (csD (xa ++ y)) (.slice (b7.map fun r => ⟨r, 0, none⟩) (([] : List Value) ++ vx ++ vy).length c7) := by
          have := Rows.sl hat6 ((hvx.append hvy).mono hle6) (Nat.le_trans (m := 100000000) (by simp; omega) (by decide))
          rw [← List.map_append] at this
          exact this
        refine num64 (by omega) (by omega) ⟨(k + 1, b8, c8, _, μ6), ⟨by dsimp only; omega, hle5.trans hle6, ?_⟩, by dsimp only; omega, ⟨⟨rfl, rfl, rfl, rfl, rfl, rfl, rfl, rfl, rfl, rfl, rfl, rfl, trivial⟩, ⟨rfl, trivial⟩, rfl, rfl⟩⟩
        dsimp only
        rw [List.take_add_one, hy, Option.toList_some, List.map_append (f := fun y => xa ++ y), ← List.append_assoc, List.map_append (f := csD)]
        exact (hrows2.mono hle6).append (Rows.one hrow rfl)
      · obtain rfl : k = L.length := by omega
        rw [List.take_length, ← prodC_step hxa] at hrows2
        exact num64 (by omega) (by omega) ⟨(j + 1, b2, c2, zs, μ5), ⟨by dsimp only; omega, hle4.trans hle5, hrows2⟩, by dsimp only; omega, ⟨⟨rfl, rfl, rfl, rfl, rfl, rfl, rfl, rfl, trivial⟩, ⟨rfl, trivial⟩, rfl, rfl⟩⟩
    · obtain rfl : j = acc.length := by omega
      rw [List.take_length] at hrows
      rw [Nat.min_self] at hyl hmul
      have hpl := prodC_len acc L
      have hzlen : ∀ c ∈ prodC acc L, c.length ≤ Gl.cnts (g.goals.take (i + 1)) := fun c hc => by
        have hv_ := prodC_mem hc
        obtain ⟨u, hu, w, hw, rfl⟩ := hv_
        have h1 := hlen u hu
        have h2 := hL.len w hw
        rw [List.length_append]; omega
      refine ifd (fun hb => ?_) (fun hb => ?_)
      · refine ret_frz [1] fun μ5 hle5 hno5 hat5 => .inl ⟨prodC acc L, ?_, ?_, fun c hc => by have := hzlen c hc; omega, by omega⟩
        · have := Rows.sl hat5 (hrows.mono hle5) (Nat.le_trans (m := 100000000) (by omega) (by decide))
          exact this
        · rw [if_neg (by omega)] at hJ ⊢
          exact hJ
      · rw [if_pos (by omega)] at hJ
        refine num64 (by omega) (by omega) ⟨[1], fun μ5 hle5 hno5 hat5 => ⟨(i + 1, prodC acc L, b1.map (fun r => ⟨r, 0, none⟩), c1, μ5), ⟨by dsimp only; omega, ((hle.trans hle3).trans hle4).trans hle5, ?_, hJ, hzlen, by dsimp only; omega⟩, by dsimp only; omega, ⟨⟨?_, rfl, rfl, rfl, trivial⟩, trivial, rfl, rfl⟩⟩⟩
        · have := Rows.sl hat5 (hrows.mono hle5) (Nat.le_trans (m := 100000000) (by omega) (by decide))
          rw [← hyl, ← hpl] at this
          exact this
        · show some (SV.val (.slice _ _ _)) = some (SV.val (.slice _ _ _))
          rw [hpl, hyl]
end
end Go.Vx

/- Contracts: the clauses of a goal, the program's side. -/
namespace Go.Vx
open Go.Proofs Classical
theorem prodC_size {a l : List (List Gl)} {m n : Nat} (h1 : ∀ c ∈ a, c.length ≤ m) (h2 : ∀ c ∈ l, c.length ≤ n) : ∀ c ∈ prodC a l, c.length ≤ m + n := fun c hc => by
  have hv_ := prodC_mem hc
  obtain ⟨u, hu, w, hw, rfl⟩ := hv_
  have := h1 u hu
  have := h2 w hw
  rw [List.length_append]; omega
mutual
theorem Gl.cl_bnd : ∀ (g : Gl) {L : List (List Gl)}, g.cl = some L → (∀ c ∈ L, c.length ≤ g.cnt) ∧ L.length ≤ 64
  | .mk k s ts gs, L, h => by
    rw [Gl.cl] at h
    rw [Gl.cnt]
    split at h
    · cases h; simp
    split at h
    · cases h; simp
    split at h
    · have := Gl.clOr_bnd gs (acc := []) (n := 0) (by simp) (by simp) h
      exact ⟨fun c hc => by have := this.1 c hc; omega, this.2⟩
    split at h
    · have := Gl.clAnd_bnd gs (acc := [[]]) (n := 0) (by simp) (by simp) h
      exact ⟨fun c hc => by have := this.1 c hc; omega, this.2⟩
    · cases h
      refine ⟨fun c hc => ?_, by simp⟩
      rw [List.mem_singleton.1 hc, List.length_singleton]; omega
theorem Gl.clOr_bnd : ∀ (gs : List Gl) {acc L : List (List Gl)} {n : Nat}, (∀ c ∈ acc, c.length ≤ n) → acc.length ≤ 64 → Gl.clOr gs acc = some L → (∀ c ∈ L, c.length ≤ n + Gl.cnts gs) ∧ L.length ≤ 64
  | [], acc, L, n, h1, h2, h => by
    rw [Gl.clOr] at h; cases h
    exact ⟨fun c hc => Nat.le_trans (h1 c hc) (Nat.le_add_right _ _), h2⟩
  | g :: gs, acc, L, n, h1, h2, h => by
    rw [Gl.clOr] at h
    cases e : g.cl with
    | none => rw [e] at h; cases h
    | some l =>
      rw [e, Option.bind_some] at h
      have hb := Gl.cl_bnd g e
      split at h
      · rename_i h64
        have := Gl.clOr_bnd gs (acc := acc ++ l) (n := n + g.cnt) (fun c hc => by
          rcases List.mem_append.1 hc with hc | hc
          · have := h1 c hc; omega
          · have := hb.1 c hc; omega) h64 h
        rw [Gl.cnts]
        exact ⟨fun c hc => by have := this.1 c hc; omega, this.2⟩
      · cases h
theorem Gl.clAnd_bnd : ∀ (gs : List Gl) {acc L : List (List Gl)} {n : Nat}, (∀ c ∈ acc, c.length ≤ n) → acc.length ≤ 64 → Gl.clAnd gs acc = some L → (∀ c ∈ L, c.length ≤ n + Gl.cnts gs) ∧ L.length ≤ 64
  | [], acc, L, n, h1, h2, h => by
    rw [Gl.clAnd] at h; cases h
    exact ⟨fun c hc => Nat.le_trans (h1 c hc) (Nat.le_add_right _ _), h2⟩
  | g :: gs, acc, L, n, h1, h2, h => by
    rw [Gl.clAnd] at h
    cases e : g.cl with
    | none => rw [e] at h; cases h
    | some l =>
      rw [e, Option.bind_some] at h
      have hb := Gl.cl_bnd g e
      split at h
      · rename_i h64
        have := Gl.clAnd_bnd gs (acc := prodC acc l) (n := n + g.cnt) (prodC_size h1 hb.1) h64 h
        rw [Gl.cnts]
        exact ⟨fun c hc => by have := this.1 c hc; omega, this.2⟩
      · cases h
end
/-- The clauses and whether there are not too many. -/
def optC (P : List (List Gl) → Value → Prop) (o : Option (List (List Gl))) (v : Value) : Prop := match o with
  | some L => ∃ tv, v = .tuple #[tv, .bool true] ∧ P L tv
  | none => v = .tuple #[.slice none 0 0, .bool false]
section
variable {μ : Mem}
set_option maxHeartbeats 8000000 in
theorem clausesOf_spec : ∀ (g : Gl) {μ : Mem} {v : Value}, RepV μ g.d v → g.Sh → g.cnt ≤ 80 → Spec Tryz.prog 150 [v] μ fun v μ' => optC (Cls μ') g.cl v :=
  Gl.ind fun g ih μ v hv hS hcnt => by
    have hv0 := hv
    have hv_ := Gl.inv hv
    obtain ⟨p, rfl, hts, hgs⟩ := hv_
    have hg8 := hS.top.gl
    have hce := Gl.cnt_eq1 g
    refine Spec.mk Tryz.func150 (by kernel_rfl) ?_
    intro r1 r19
    refine ifd (fun h0 => ?_) (fun h0 => ?_)
    · intro r27 μ1 hle1 hno1 hat1 r28
      refine ret_frz [3] fun μ2 hle2 hno2 hat2 => .inl ?_
      rw [Gl.cl_eq, if_pos h0]
      exact ⟨_, rfl, Rows.sl hat2 (Rows.one (d := csD []) ((Rows.sl (μ := μ1) (ds := []) hat1 .nil (Nat.zero_le _)).mono hle2) rfl) (show 1 ≤ maxLen by decide)⟩
    refine ifd (fun h1 => ?_) (fun h1 => ?_)
    · refine ret_frz [1] fun μ2 hle2 hno2 hat2 => .inl ?_
      rw [Gl.cl_eq, if_neg h0, if_pos h1]
      exact ⟨_, rfl, Rows.sl hat2 .nil (Nat.zero_le _)⟩
    refine ifd (fun h8 => ?_) (fun h8 => ?_)
    · have hcl : g.cl = Gl.clOr g.goals [] := by rw [Gl.cl_eq, if_neg h0, if_neg h1, if_pos h8]
      refine loop_intro (fun q : Nat × List (List Gl) × Option Nat × Nat × List Value × Mem => q.1 ≤ g.goals.length ∧ μ.Le q.2.2.2.2.2 ∧ Rows q.2.2.2.2.2 1 (q.2.1.map csD) q.2.2.2.2.1 ∧ g.cl = Gl.clOr (g.goals.drop q.1) q.2.1 ∧ q.2.1.length ≤ 64)
        (fun (i, acc, b, c, ys, μ') => ⟨[(4, .row 1 b ys.length c), (34, .val (.slice p.2.1 g.goals.length p.2.2)), (35, .val (.int .i64 g.goals.length)), (36, .val (.int .i64 i))], [(1, some (.row b c 53 1 ys))], 2, μ', Mem.nil⟩) (fun q => g.goals.length - q.1)
        (0, [], some r19, 0, [], μ) ⟨Nat.zero_le _, Mem.Le.refl _, .nil, hcl, by simp⟩ (fun (_, _, _, _, _, _) => ⟨rfl, rfl⟩) ⟨⟨rfl, rfl, rfl, rfl, trivial⟩, ⟨rfl, trivial⟩, rfl, rfl⟩ ?_
      rintro ⟨i, acc, b, c, ys, μ'⟩ ⟨hi, hle, hrows, hJ, hmax⟩
      dsimp only at hi hle hrows hJ hmax
      have hyl := hrows.len
      rw [List.length_map] at hyl
      refine ifd (fun hlt => ?_) (fun hlt => ?_)
      · have hv_ := at_some (l := g.goals) (i := i) (by omega)
        obtain ⟨x, hx⟩ := hv_
        have hv_ := Gl.elem (hgs.mono hle) hx
        obtain ⟨ad, q, hel, hr⟩ := hv_
        have hxc := Gl.cnts_take hx
        have hxl := Gl.cnts_le g.goals (i + 1)
        refine elem_intro hel ?_
        intro r5
        refine call_plain (ih x (mem_at hx) hr (hS.sub x (mem_at hx)) (by omega)) fun v1 μ1 hle1 hR => ?_
        rw [drop_at hx, Gl.clOr] at hJ
        cases e : x.cl with
        | none =>
          rw [e] at hR hJ
          obtain rfl := hR
          refine if_intro (fun _ => ?_) (fun h => nomatch h)
          exact ret_plain (by rw [hJ]; rfl)
        | some L =>
          rw [e] at hR
          rw [e, Option.bind_some] at hJ
          obtain ⟨tv, rfl, hLr⟩ := hR
          obtain ⟨pv, rfl⟩ := hLr.inv
          have hLb := Gl.cl_bnd x e
          have hv_ := Rep.srcAll hLr
          obtain ⟨vs, hvr, hvl, hsrc⟩ := hv_
          refine if_intro (fun h => nomatch h) (fun _ => ?_)
          refine src_intro vs hsrc ?_
          refine grow_intro ?_ ?_ fun b9 c9 _ => ?_
          · show (ys.length + vs.length) * 24 ≤ _; omega
          · exact Nat.le_trans (m := 100000000) (show ys.length + vs.length ≤ _ by omega) (by decide)
          have hal : (ys ++ vs).length = (acc ++ L).length := by rw [List.length_append, List.length_append]; omega
          refine ifd (fun h64 => ?_) (fun h64 => ?_)
          · rw [if_neg (by omega)] at hJ
            exact ret_plain (by rw [hJ]; rfl)
          · rw [if_pos (by omega)] at hJ
            refine num64 (by omega) (by omega) ⟨(i + 1, acc ++ L, b9, c9, _, μ1), ⟨by dsimp only; omega, hle.trans hle1, ?_, hJ, by dsimp only; omega⟩, by dsimp only; omega, ⟨⟨rfl, rfl, rfl, rfl, trivial⟩, ⟨rfl, trivial⟩, rfl, rfl⟩⟩
            dsimp only
            rw [List.map_append]
            exact (hrows.mono hle1).append hvr
      · obtain rfl : i = g.goals.length := by omega
        rw [List.drop_length, Gl.clOr] at hJ
        refine ret_frz [1] fun μ2 hle2 hno2 hat2 => .inl ?_
        rw [hJ]
        exact ⟨_, rfl, Rows.sl hat2 (hrows.mono hle2) (Nat.le_trans (m := 100000000) (by omega) (by decide))⟩
    refine ifd (fun h7 => ?_) (fun h7 => ?_)
    rotate_left
    · intro r23 μ1 hle1 hno1 hat1 r24
      refine ret_frz [3] fun μ2 hle2 hno2 hat2 => .inl ?_
      rw [Gl.cl_eq, if_neg h0, if_neg h1, if_neg h8, if_neg h7]
      exact ⟨_, rfl, Rows.sl hat2 (Rows.one (d := csD [g]) ((Rows.sl (μ := μ1) (ds := [g.d]) hat1 (Rows.one (hv0.mono hle1) (Gl.d_n g)) (show 1 ≤ maxLen by decide)).mono hle2) rfl) (show 1 ≤ maxLen by decide)⟩
    have hcl : g.cl = Gl.clAnd g.goals [[]] := by rw [Gl.cl_eq, if_neg h0, if_neg h1, if_neg h8, if_pos h7]
    intro r56 μ1 hle1 hno1 hat1 r57
    refine loop_frz (fun q : Nat × List (List Gl) × Option Addr × Nat × Mem => q.1 ≤ g.goals.length ∧ μ.Le q.2.2.2.2 ∧ Cls q.2.2.2.2 q.2.1 (.slice q.2.2.1 q.2.1.length q.2.2.2.1) ∧ g.cl = Gl.clAnd (g.goals.drop q.1) q.2.1 ∧ (∀ c ∈ q.2.1, c.length ≤ Gl.cnts (g.goals.take q.1)) ∧ q.2.1.length ≤ 64)
      (fun (i, acc, b, c, μ') => ⟨[(4, .val (.slice b acc.length c)), (9, .val (.bool false)), (59, .val (.slice p.2.1 g.goals.length p.2.2)), (60, .val (.int .i64 g.goals.length)), (61, .val (.int .i64 i))], [], 0, μ', Mem.nil⟩) (fun q => g.goals.length - q.1) [3]
      (fun (_, _, _, _, _) => ⟨rfl, rfl⟩) (fun μ2 hle2 hno2 hat2 => ⟨(0, [[]], some ⟨r57, 0, none⟩, 1, μ2), ⟨Nat.zero_le _, hle1.trans hle2, Rows.sl hat2 (Rows.one (d := csD []) ((Rows.sl (μ := μ1) (ds := []) hat1 .nil (Nat.zero_le _)).mono hle2) rfl) (show 1 ≤ maxLen by decide), hcl, by simp, by simp⟩, ⟨rfl, rfl, rfl, rfl, rfl, trivial⟩, trivial, rfl, rfl⟩) ?_
    rintro ⟨i, acc, b, c, μ'⟩ ⟨hi, hle, hacc, hJ, hlen, hmax⟩
    dsimp only at hi hle hacc hJ hlen hmax
    refine ifd (fun hlt => ?_) (fun hlt => ?_)
    rotate_left
    · obtain rfl : i = g.goals.length := by omega
      rw [List.drop_length, Gl.clAnd] at hJ
      exact ret_plain (by rw [hJ]; exact ⟨_, rfl, hacc⟩)
    have hv_ := at_some (l := g.goals) (i := i) (by omega)
    obtain ⟨x, hx⟩ := hv_
    have hv_ := Gl.elem (hgs.mono hle) hx
    obtain ⟨ad, q, hel, hr⟩ := hv_
    have hxc := Gl.cnts_take hx
    have hxl := Gl.cnts_le g.goals (i + 1)
    refine elem_intro hel ?_
    intro r11
    refine call_plain (ih x (mem_at hx) hr (hS.sub x (mem_at hx)) (by omega)) fun v3 μ3 hle3 hR => ?_
    rw [drop_at hx, Gl.clAnd] at hJ
    obtain ⟨o, e⟩ : ∃ o, x.cl = o := ⟨_, rfl⟩
    rw [e] at hR hJ
    match o, e, hR, hJ with
    | none, e, hR, hJ =>
    obtain rfl := hR
    refine if_intro (fun _ => ?_) (fun h => nomatch h)
    exact ret_plain (by rw [hJ]; rfl)
    | some L, e, hR, hJ =>
    obtain ⟨tv, rfl, hLr⟩ := hR
    obtain ⟨pv, rfl⟩ := hLr.inv
    have hLb := Gl.cl_bnd x e
    have hLl := hLb.1
    have hLm := hLb.2
    rw [Option.bind_some] at hJ
    refine if_intro (fun h => nomatch h) (fun _ => ?_)
    intro r64
    have hasl := (Cls.sl (RepV.mono hle3 hacc)).1
    refine loop_intro (fun q : Nat × Option Nat × Nat × List Value × Mem => q.1 ≤ acc.length ∧ μ3.Le q.2.2.2.2 ∧ Rows q.2.2.2.2 1 ((prodC (acc.take q.1) L).map csD) q.2.2.2.1)
      (fun (j, b1, c1, ys, μ4) => ⟨[(9, .val (.bool false)), (12, .val (.slice pv.1 L.length pv.2)), (14, .row 1 b1 ys.length c1), (59, .val (.slice p.2.1 g.goals.length p.2.2)), (60, .val (.int .i64 g.goals.length)), (61, .val (.int .i64 i)), (73, .val (.slice b acc.length c)), (74, .val (.int .i64 acc.length)), (75, .val (.int .i64 j))], [(1, some (.row b1 c1 53 1 ys))], 2, μ4, Mem.nil⟩) (fun q => acc.length - q.1)
      (0, some r64, 0, [], μ3) ⟨Nat.zero_le _, Mem.Le.refl _, .nil⟩ (fun (_, _, _, _, _) => ⟨rfl, rfl⟩) ⟨⟨rfl, rfl, rfl, rfl, rfl, rfl, rfl, rfl, rfl, trivial⟩, ⟨rfl, trivial⟩, rfl, rfl⟩ ?_
    rintro ⟨j, b1, c1, ys, μ4⟩ ⟨hj, hle4, hrows⟩
    dsimp only at hj hle4 hrows
    have hyl := hrows.len
    rw [List.length_map, prodC_len, List.length_take] at hyl
    have hmul : min j acc.length * L.length ≤ 64 * 64 := Nat.mul_le_mul (by omega) (by omega)
    refine ifd (fun hlt2 => ?_) (fun hlt2 => ?_)
    · have hv_ := at_some (l := acc) (i := j) (by omega)
      obtain ⟨xa, hxa⟩ := hv_
      have hv_ := cls_elem (hasl.mono hle4) hxa
      obtain ⟨ad2, pa, hel2, hra⟩ := hv_
      have hxal := hlen xa (mem_at hxa)
      have hmul2 : j * L.length ≤ 64 * 64 := Nat.mul_le_mul (by omega) (by omega)
      rw [Nat.min_eq_left (by omega)] at hyl
      refine elem_intro hel2 ?_
      refine loop_intro (fun q : Nat × Option Nat × Nat × List Value × Mem => q.1 ≤ L.length ∧ μ4.Le q.2.2.2.2 ∧ Rows q.2.2.2.2 1 ((prodC (acc.take j) L ++ (L.take q.1).map fun y => xa ++ y).map csD) q.2.2.2.1)
        (fun (k, b1, c1, ys, μ5) => ⟨[(9, .val (.bool false)), (12, .val (.slice pv.1 L.length pv.2)), (14, .row 1 b1 ys.length c1), (16, .val (.slice pa.1 xa.length pa.2)), (59, .val (.slice p.2.1 g.goals.length p.2.2)), (60, .val (.int .i64 g.goals.length)), (61, .val (.int .i64 i)), (73, .val (.slice b acc.length c)), (74, .val (.int .i64 acc.length)), (75, .val (.int .i64 j)), (79, .val (.slice pv.1 L.length pv.2)), (80, .val (.int .i64 L.length)), (81, .val (.int .i64 k))], [(1, some (.row b1 c1 53 1 ys))], 2, μ5, Mem.nil⟩) (fun q => L.length - q.1)
        (0, b1, c1, ys, μ4) ⟨Nat.zero_le _, Mem.Le.refl _, by simpa using hrows⟩ (fun (_, _, _, _, _) => ⟨rfl, rfl⟩) ⟨⟨rfl, rfl, rfl, rfl, rfl, rfl, rfl, rfl, rfl, rfl, rfl, rfl, rfl, trivial⟩, ⟨rfl, trivial⟩, rfl, rfl⟩ ?_
      clear hrows
      rintro ⟨k, b2, c2, zs, μ5⟩ ⟨hk, hle5, hrows2⟩
      dsimp only at hk hle5 hrows2
      have hzl := hrows2.len
      rw [List.length_map, List.length_append, prodC_len, List.length_map, List.length_take, List.length_take, Nat.min_eq_left (show j ≤ acc.length by omega), Nat.min_eq_left hk] at hzl
      refine ifd (fun hlt3 => ?_) (fun hlt3 => ?_)
      · have hv_ := at_some (l := L) (i := k) (by omega)
        obtain ⟨y, hy⟩ := hv_
        have hv_ := cls_elem (((Cls.sl hLr).1.mono hle4).mono hle5) hy
        obtain ⟨ad3, py, hel3, hry⟩ := hv_
        have hyl2 := hLl y (mem_at hy)
        have hv_ := csD_src (hra.mono hle5)
        obtain ⟨vx, hvx, hvxl, hsx⟩ := hv_
        have hv_ := csD_src hry
        obtain ⟨vy, hvy, hvyl, hsy⟩ := hv_
        refine elem_intro hel3 ?_
        intro r78
        refine src_intro vx hsx ?_
        refine grow_intro ?_ ?_ fun b6 c6 _ => ?_
        · show (0 + vx.length) * 72 ≤ _; omega
        · exact Nat.le_trans (m := 100000000) (show 0 + vx.length ≤ _ by omega) (by decide)
        refine src_intro vy hsy ?_
        refine grow_intro ?_ ?_ fun b7 c7 _ => ?_
        · show ((([] : List Value) ++ vx).length + vy.length) * 72 ≤ _; simp; omega
        · exact Nat.le_trans (m := 100000000) (show (([] : List Value) ++ vx).length + vy.length ≤ _ by simp; omega) (by decide)
        intro μ6 hle6 hno6 hat6 r83
        refine grow_intro ?_ ?_ fun b8 c8 _ => ?_
        · show (zs.length + 1) * 24 ≤ _; omega
        · exact Nat.le_trans (m := 100000000) (show zs.length + 1 ≤ _ by omega) (by decide)
        have hrow : RepV μ6 (csD (xa ++ y)) (.slice (b7.map fun r => ⟨r, 0, none⟩) (([] : List Value) ++ vx ++ vy).length c7) := by
          have := Rows.sl hat6 ((hvx.append hvy).mono hle6) (Nat.le_trans (m := 100000000) (by simp; omega) (by decide))
          rw [← List.map_append] at this
          exact this
        refine num64 (by omega) (by omega) ⟨(k + 1, b8, c8, _, μ6), ⟨by dsimp only; omega, hle5.trans hle6, ?_⟩, by dsimp only; omega, ⟨⟨rfl, rfl, rfl, rfl, rfl, rfl, rfl, rfl, rfl, rfl, rfl, rfl, rfl, trivial⟩, ⟨rfl, trivial⟩, rfl, rfl⟩⟩
        dsimp only
        rw [List.take_add_one, hy, Option.toList_some, List.map_append (f := fun y => xa ++ y), ← List.append_assoc, List.map_append (f := csD)]
        exact (hrows2.mono hle6).append (Rows.one hrow rfl)
      · obtain rfl : k = L.length := by omega
        rw [List.take_length, ← prodC_step hxa] at hrows2
        exact num64 (by omega) (by omega) ⟨(j + 1, b2, c2, zs, μ5), ⟨by dsimp only; omega, hle4.trans hle5, hrows2⟩, by dsimp only; omega, ⟨⟨rfl, rfl, rfl, rfl, rfl, rfl, rfl, rfl, rfl, trivial⟩, ⟨rfl, trivial⟩, rfl, rfl⟩⟩
    · obtain rfl : j = acc.length := by omega
      rw [List.take_length] at hrows
      rw [Nat.min_self] at hyl hmul
      have hpl := prodC_len acc L
      have hzlen : ∀ c ∈ prodC acc L, c.length ≤ Gl.cnts (g.goals.take (i + 1)) := fun c hc => by
        have hv_ := prodC_mem hc
        obtain ⟨u, hu, w, hw, rfl⟩ := hv_
        have h1 := hlen u hu
        have h2 := hLl w hw
        rw [List.length_append]; omega
      refine if_intro (fun h => nomatch h) (fun _ => ?_)
      refine ifd (fun hb => ?_) (fun hb => ?_)
      · rw [if_neg (by omega)] at hJ
        exact ret_plain (by rw [hJ]; rfl)
      · rw [if_pos (by omega)] at hJ
        refine num64 (by omega) (by omega) ⟨[1], fun μ5 hle5 hno5 hat5 => ⟨(i + 1, prodC acc L, b1.map (fun r => ⟨r, 0, none⟩), c1, μ5), ⟨by dsimp only; omega, ((hle.trans hle3).trans hle4).trans hle5, ?_, hJ, hzlen, by dsimp only; omega⟩, by dsimp only; omega, ⟨⟨?_, ?_, rfl, rfl, rfl, trivial⟩, trivial, rfl, rfl⟩⟩⟩
        · have := Rows.sl hat5 (hrows.mono hle5) (Nat.le_trans (m := 100000000) (by omega) (by decide))
          rw [← hyl, ← hpl] at this
          exact this
        · show some (SV.val (.slice _ _ _)) = some (SV.val (.slice _ _ _))
          rw [hpl, hyl]
        · show some (SV.val (.bool _)) = some (SV.val (.bool _))
          rw [decide_eq_false hb]
end
end Go.Vx

/- Contracts: goals copied, the reference's side. -/
namespace Go.Vx
open Go.Proofs Classical
section
variable {μ : Mem}
theorem l02CopyAll_spec {xs : List T} {base : Option Addr} {cap : Nat} (hsl : Sl μ 4 base xs.length ((xs.map T.tm).map Tm.d)) (hn : xs.length ≤ 10000000) :
    Spec Tryz.prog 187 [.slice base xs.length cap] μ fun v μ' => RepV μ' (.sl 4 ((xs.map T.tm).map Tm.d)) v := by
  refine Spec.mk Tryz.func187 (by kernel_rfl) ?_
  intro r6
  refine loop_intro (fun p : Nat × Option Nat × Nat × List Value × Mem => p.1 ≤ xs.length ∧ μ.Le p.2.2.2.2 ∧ Rows p.2.2.2.2 4 (((xs.take p.1).map T.tm).map Tm.d) p.2.2.2.1)
    (fun (i, b, c, ys, μ') => ⟨[(3, .row 0 b ys.length c), (7, .val (.slice base xs.length cap)), (8, .val (.int .i64 xs.length)), (9, .val (.int .i64 i))], [(0, some (.row b c 44 4 ys))], 1, μ', Mem.nil⟩) (fun p => xs.length - p.1)
    (0, some r6, 0, [], μ) ⟨by simp, Mem.Le.refl _, .nil⟩ (fun (_, _, _, _, _) => ⟨rfl, rfl⟩) ⟨⟨rfl, rfl, rfl, rfl, trivial⟩, ⟨rfl, trivial⟩, rfl, rfl⟩ ?_
  rintro ⟨i, b, c, ys, μ'⟩ ⟨hi, hle, hrows⟩
  dsimp only at hi hle hrows
  have hlen := hrows.len
  simp only [List.length_map, List.length_take] at hlen
  refine ifd (fun h => ?_) (fun h => ?_)
  · have hv_ := at_some (l := xs) (i := i) (by omega)
    obtain ⟨x, hx'⟩ := hv_
    have hv_ := Tm.elem (i := i) (t := x.tm) (hsl.mono hle) (by simp [hx'])
    obtain ⟨ad, p, hel, hto⟩ := hv_
    refine elem_intro hel ?_
    intro r
    refine call_plain (l02Copy_spec _ hto) fun v4 μ4 hle4 hR4 => ?_
    have hv_ := Tm.invV hR4
    obtain ⟨q, rfl⟩ := hv_
    intro r5
    refine grow_intro ?_ ?_ fun b' c' _ => ?_
    · show (ys.length + 1) * 56 ≤ _; omega
    · exact Nat.le_trans (m := 100000000) (show ys.length + 1 ≤ _ by omega) (by decide)
    refine num64 (by omega) (by omega) ⟨(i + 1, b', c', _, μ4), ⟨by dsimp only; omega, hle.trans hle4, ?_⟩, by dsimp only; omega, ⟨⟨rfl, rfl, rfl, rfl, trivial⟩, ⟨rfl, trivial⟩, rfl, rfl⟩⟩
    dsimp only
    rw [List.take_add_one, hx', Option.toList_some]
    simp only [List.map_append, List.map_cons, List.map_nil]
    exact (hrows.mono hle4).append (Rows.one hR4 (Tm.d_n _))
  · obtain rfl : i = xs.length := by omega
    rw [List.take_length] at hrows
    refine ret_frz [0] fun μ' hle' hno hrow => .inl ?_
    exact Rows.sl hrow (hrows.mono hle') (Nat.le_trans (m := 100000000) (by omega) (by decide))
theorem RepS.cons1 {d : D} {r : List D} {v : Value} {cs : List Value} (k1 : Rep μ d [v]) (k2 : RepS μ r cs) : RepS μ (d :: r) (v :: cs) := ⟨[v], cs, rfl, k1, k2⟩
theorem l13Copy_spec : ∀ (g : Gl) {μ : Mem} {v : Value}, RepV μ g.d v → g.Sh → Spec Tryz.prog 100 [v] μ fun v μ' => RepV μ' g.d v :=
  Gl.ind fun g ih μ v hv hS => by
    have hv_ := Gl.inv hv
    obtain ⟨p, rfl, hts, hgs⟩ := hv_
    have hv_ := lift_ok hS.top.tm
    obtain ⟨xs, hxs, hok⟩ := hv_
    have hg8 := hS.top.gl
    have hx4 : xs.length ≤ 4 := by
      have T := hS.top
      have e9 := T.ln9; have e2 := T.ln2; have e1 := T.ln1; have e0 := T.ln0; have k0 := T.k0; have k1 := T.k1
      have : g.terms.length = xs.length := by rw [hxs, List.length_map]
      omega
    rw [hxs, List.length_map] at hts ⊢
    refine Spec.mk Tryz.func100 (by kernel_rfl) ?_
    intro r1 r2
    refine call_plain (l02CopyAll_spec hts (by omega)) fun v1 μ1 hle1 hR1 => ?_
    have hv_ := Rep.sl hR1
    obtain ⟨b1, c1, rfl, hs1⟩ := hv_
    intro r3
    have hgs1 := hgs.mono hle1
    refine loop_nil (fun p : Nat × Option Nat × Nat × List Value × Mem => p.1 ≤ g.goals.length ∧ μ1.Le p.2.2.2.2 ∧ Rows p.2.2.2.2 4 ((g.goals.take p.1).map Gl.d) p.2.2.2.1)
      (fun (i, b, c, ys, μ') => ⟨[(2, .loc 1 r2 0), (3, .loc 2 r3 0), (15, .val (.slice p.2.1 g.goals.length p.2.2)), (16, .val (.int .i64 g.goals.length)), (17, .val (.int .i64 i))],
        [(1, some (.cells r2 [.val (.int .i64 0), .val (.string ⟨#[]⟩), .val (.slice none 0 0), .val (.slice none 0 0)] 55)), (2, some (.cells r3 [.val (.int .i64 g.kind), .val (.string g.name), .val (.slice b1 ((xs.map T.tm).map Tm.d).length c1), .row 3 b ys.length c] 55)), (3, some (.row b c 55 4 ys))], 4, μ', Mem.nil⟩) (fun p => g.goals.length - p.1)
      (0, none, 0, [], μ1) ⟨by simp, Mem.Le.refl _, .nil⟩ (fun (_, _, _, _, _) => ⟨rfl, rfl⟩) ⟨⟨⟨_, rfl, .inl rfl⟩, ⟨_, rfl, .inl rfl⟩, ⟨_, rfl, .inl rfl⟩, ⟨_, rfl, .inl rfl⟩, ⟨_, rfl, .inl rfl⟩, trivial⟩, ⟨.inl rfl, .inr (.inr ⟨_, _, _, _, rfl, rfl, .inl rfl, .inl rfl, .inl rfl, .inr ⟨3, rfl, rfl, Nat.le_refl _⟩, trivial⟩), .inr (.inl ⟨_, _, rfl, Nat.le_refl _⟩), trivial⟩, rfl, rfl⟩ ?_
    rintro ⟨i, b, c, ys, μ'⟩ ⟨hi, hle, hrows⟩
    dsimp only at hi hle hrows
    have hlen := hrows.len
    simp only [List.length_map, List.length_take] at hlen
    refine ifd (fun h => ?_) (fun h => ?_)
    · have hv_ := at_some (l := g.goals) (i := i) (by omega)
      obtain ⟨t, ht⟩ := hv_
      have hv_ := Gl.elem (hgs1.mono hle) ht
      obtain ⟨ad, p3, hel, hr⟩ := hv_
      refine elem_intro hel ?_
      intro r4
      refine call_plain (ih t (mem_at ht) hr (hS.sub t (mem_at ht))) fun v' μ'' hle2 hR => ?_
      have hv_ := Gl.invV hR
      obtain ⟨q, rfl⟩ := hv_
      intro r5
      refine grow_intro ?_ ?_ fun b' c' _ => ?_
      · show (ys.length + 1) * 72 ≤ _; omega
      · exact Nat.le_trans (m := 100000000) (show ys.length + 1 ≤ _ by omega) (by decide)
      have hsucc : (g.goals.take (i + 1)).map Gl.d = (g.goals.take i).map Gl.d ++ [t.d] := by
        rw [List.take_add_one, ht, Option.toList_some]; simp
      exact num64 (by omega) (by omega) ⟨(i + 1, b', c', _, μ''), ⟨by dsimp only; omega, hle.trans hle2, by rw [hsucc]; exact (hrows.mono hle2).append (Rows.one hR (Gl.d_n _))⟩, by dsimp only; omega, ⟨⟨rfl, rfl, rfl, rfl, rfl, trivial⟩, ⟨rfl, rfl, rfl, trivial⟩, rfl, rfl⟩⟩
    · obtain rfl : i = g.goals.length := by omega
      rw [List.take_length] at hrows
      refine ret_frz [3] fun μ2 hle2 hno hrow => .inl ?_
      rw [Gl.d_eq, hxs]
      exact ⟨_, rfl, RepS.int (RepS.str (RepS.cons1 ((hR1.mono hle).mono hle2) (RepS.last (Rows.sl hrow (hrows.mono hle2) (Nat.le_trans (m := 100000000) (by omega) (by decide))))))⟩
end
end Go.Vx

/- Contracts: rows of a program's relations. -/
namespace Go.Vx
open Go.Proofs Classical
/-- Rows fit a program. -/
structure RowsFit (p : Pg) (rows : List Int) : Prop where
  pos : p.Pos
  cls : ∀ r ∈ p.rels, r.body.cl ≠ none
  len : rows.length = p.rels.length
  rng : ∀ (i : Nat) n r, rows[i]? = some n → p.rels[i]? = some r → 0 ≤ n ∧ n < 2 ^ (2 ^ r.arity.toNat)
section
variable {μ : Mem}
theorem l16Copy_spec {c : List Gl} {base : Option Addr} {cap : Nat} (hsl : Sl μ 4 base c.length (c.map Gl.d)) (hn : c.length ≤ 1000000) (hS : ∀ x ∈ c, x.Sh) :
    Spec Tryz.prog 220 [.slice base c.length cap] μ fun v μ' => RepV μ' (csD c) v := by
  refine Spec.mk Tryz.func220 (by kernel_rfl) ?_
  intro r6
  refine loop_intro (fun p : Nat × Option Nat × Nat × List Value × Mem => p.1 ≤ c.length ∧ μ.Le p.2.2.2.2 ∧ Rows p.2.2.2.2 4 ((c.take p.1).map Gl.d) p.2.2.2.1)
    (fun (i, b, k, ys, μ') => ⟨[(3, .row 0 b ys.length k), (7, .val (.slice base c.length cap)), (8, .val (.int .i64 c.length)), (9, .val (.int .i64 i))], [(0, some (.row b k 55 4 ys))], 1, μ', Mem.nil⟩) (fun p => c.length - p.1)
    (0, some r6, 0, [], μ) ⟨by simp, Mem.Le.refl _, .nil⟩ (fun (_, _, _, _, _) => ⟨rfl, rfl⟩) ⟨⟨rfl, rfl, rfl, rfl, trivial⟩, ⟨rfl, trivial⟩, rfl, rfl⟩ ?_
  rintro ⟨i, b, k, ys, μ'⟩ ⟨hi, hle, hrows⟩
  dsimp only at hi hle hrows
  have hlen := hrows.len
  simp only [List.length_map, List.length_take] at hlen
  refine ifd (fun h => ?_) (fun h => ?_)
  · have hv_ := at_some (l := c) (i := i) (by omega)
    obtain ⟨x, hx⟩ := hv_
    have hv_ := Gl.elem (hsl.mono hle) hx
    obtain ⟨ad, p, hel, hr⟩ := hv_
    refine elem_intro hel ?_
    intro r5
    refine call_plain (l13Copy_spec x hr (hS x (mem_at hx))) fun v4 μ4 hle4 hR4 => ?_
    have hv_ := Gl.invV hR4
    obtain ⟨q, rfl⟩ := hv_
    intro r16
    refine grow_intro ?_ ?_ fun b' c' _ => ?_
    · show (ys.length + 1) * 72 ≤ _; omega
    · exact Nat.le_trans (m := 100000000) (show ys.length + 1 ≤ _ by omega) (by decide)
    refine num64 (by omega) (by omega) ⟨(i + 1, b', c', _, μ4), ⟨by dsimp only; omega, hle.trans hle4, ?_⟩, by dsimp only; omega, ⟨⟨rfl, rfl, rfl, rfl, trivial⟩, ⟨rfl, trivial⟩, rfl, rfl⟩⟩
    dsimp only
    rw [List.take_add_one, hx, Option.toList_some, List.map_append]
    exact (hrows.mono hle4).append (Rows.one hR4 (Gl.d_n _))
  · obtain rfl : i = c.length := by omega
    rw [List.take_length] at hrows
    refine ret_frz [0] fun μ' hle' hno hrow => .inl ?_
    exact Rows.sl hrow (hrows.mono hle') (Nat.le_trans (m := 100000000) (by omega) (by decide))
mutual
theorem Gl.cl_Sh : ∀ (g : Gl) {L : List (List Gl)}, g.Sh → g.cl = some L → ∀ c ∈ L, ∀ x ∈ c, x.Sh
  | .mk k s ts gs, L, hS, h => by
    have hsub : ∀ x ∈ gs, x.Sh := hS.sub
    rw [Gl.cl] at h
    split at h
    · cases h; simp
    split at h
    · cases h; simp
    split at h
    · exact Gl.clOr_Sh gs hsub (by simp) h
    split at h
    · exact Gl.clAnd_Sh gs hsub (by simp) h
    · cases h
      intro c hc x hx
      rw [List.mem_singleton.1 hc] at hx
      rw [List.mem_singleton.1 hx]; exact hS
theorem Gl.clOr_Sh : ∀ (gs : List Gl) {acc L : List (List Gl)}, (∀ x ∈ gs, x.Sh) → (∀ c ∈ acc, ∀ x ∈ c, x.Sh) → Gl.clOr gs acc = some L → ∀ c ∈ L, ∀ x ∈ c, x.Sh
  | [], acc, L, _, h1, h => by
    rw [Gl.clOr] at h; cases h; exact h1
  | g :: gs, acc, L, hS, h1, h => by
    rw [Gl.clOr] at h
    cases e : g.cl with
    | none => rw [e] at h; cases h
    | some l =>
      rw [e, Option.bind_some] at h
      have hb := Gl.cl_Sh g (hS g (by simp)) e
      split at h
      · exact Gl.clOr_Sh gs (acc := acc ++ l) (fun x hx => hS x (by simp [hx])) (fun c hc => by
          rcases List.mem_append.1 hc with hc | hc
          · exact h1 c hc
          · exact hb c hc) h
      · cases h
theorem Gl.clAnd_Sh : ∀ (gs : List Gl) {acc L : List (List Gl)}, (∀ x ∈ gs, x.Sh) → (∀ c ∈ acc, ∀ x ∈ c, x.Sh) → Gl.clAnd gs acc = some L → ∀ c ∈ L, ∀ x ∈ c, x.Sh
  | [], acc, L, _, h1, h => by
    rw [Gl.clAnd] at h; cases h; exact h1
  | g :: gs, acc, L, hS, h1, h => by
    rw [Gl.clAnd] at h
    cases e : g.cl with
    | none => rw [e] at h; cases h
    | some l =>
      rw [e, Option.bind_some] at h
      have hb := Gl.cl_Sh g (hS g (by simp)) e
      split at h
      · exact Gl.clAnd_Sh gs (acc := prodC acc l) (fun x hx => hS x (by simp [hx])) (fun c hc => by
          have hv_ := prodC_mem hc
          obtain ⟨u, hu, w, hw, rfl⟩ := hv_
          intro x hx
          rcases List.mem_append.1 hx with hx | hx
          · exact h1 u hu x hx
          · exact hb w hw x hx) h
      · cases h
end
theorem ClausesOf_spec {g : Gl} {v : Value} (hv : RepV μ g.d v) (hw : g.d.wd) (hok : g.Ok) : Spec Tryz.prog 138 [v] μ fun v μ' => optC (Cls μ') g.cl v := by
  have hv0 := hv
  have hv_ := Gl.inv hv
  obtain ⟨p, rfl, -, -⟩ := hv_
  refine Spec.mk Tryz.func138 (by kernel_rfl) ?_
  intro r1
  refine call_gives (spec_GoalOk_spec g hv0 hw) ?_
  refine ifnd (fun h => absurd hok h) (fun _ => ?_)
  refine call_plain (l16Clauses_spec g hv0 hok.1 hok.2) fun v1 μ1 hle1 hR => ?_
  obtain ⟨L, hL⟩ := hR
  obtain ⟨pv, rfl⟩ := hL.rep.inv
  have hcl := hL.cl
  refine ifd (fun h64 => ?_) (fun h64 => ?_)
  · rw [if_neg (by omega)] at hcl
    exact ret_plain (by rw [hcl]; rfl)
  rw [if_pos (by omega)] at hcl
  rw [hcl]
  have hSh := Gl.cl_Sh g hok.1 hcl
  have hbd := Gl.cl_bnd g hcl
  have h80 := hok.2
  have hsl := (Cls.sl hL.rep).1
  intro r16
  refine loop_intro (fun p : Nat × Option Nat × Nat × List Value × Mem => p.1 ≤ L.length ∧ μ1.Le p.2.2.2.2 ∧ Rows p.2.2.2.2 1 ((L.take p.1).map csD) p.2.2.2.1)
    (fun (i, b, k, ys, μ') => ⟨[(5, .row 1 b ys.length k), (17, .val (.slice pv.1 L.length pv.2)), (18, .val (.int .i64 L.length)), (19, .val (.int .i64 i))], [(1, some (.row b k 53 1 ys))], 2, μ', Mem.nil⟩) (fun p => L.length - p.1)
    (0, some r16, 0, [], μ1) ⟨by simp, Mem.Le.refl _, .nil⟩ (fun (_, _, _, _, _) => ⟨rfl, rfl⟩) ⟨⟨rfl, rfl, rfl, rfl, trivial⟩, ⟨rfl, trivial⟩, rfl, rfl⟩ ?_
  rintro ⟨i, b, k, ys, μ'⟩ ⟨hi, hle, hrows⟩
  dsimp only at hi hle hrows
  have hlen := hrows.len
  simp only [List.length_map, List.length_take] at hlen
  refine ifd (fun h => ?_) (fun h => ?_)
  · have hv_ := at_some (l := L) (i := i) (by omega)
    obtain ⟨c, hc⟩ := hv_
    have hv_ := cls_elem (hsl.mono hle) hc
    obtain ⟨ad, pc, hel, hrc⟩ := hv_
    have hcl2 := hbd.1 c (mem_at hc)
    have hcs : Sl μ' 4 pc.1 c.length (c.map Gl.d) := by
      have hv_ := Rep.sl (xs := c.map Gl.d) hrc
      obtain ⟨b', c', e1, hs⟩ := hv_
      have hv_ := Value.slice.inj e1
      obtain ⟨rfl, _, _⟩ := hv_
      simpa using hs
    refine elem_intro hel ?_
    refine call_plain (l16Copy_spec hcs (by omega) (hSh c (mem_at hc))) fun v4 μ4 hle4 hR4 => ?_
    have hv_ := csD_inv hR4
    obtain ⟨q, rfl⟩ := hv_
    intro r26
    refine grow_intro ?_ ?_ fun b' c' _ => ?_
    · show (ys.length + 1) * 24 ≤ _; omega
    · exact Nat.le_trans (m := 100000000) (show ys.length + 1 ≤ _ by omega) (by decide)
    refine num64 (by omega) (by omega) ⟨(i + 1, b', c', _, μ4), ⟨by dsimp only; omega, hle.trans hle4, ?_⟩, by dsimp only; omega, ⟨⟨rfl, rfl, rfl, rfl, trivial⟩, ⟨rfl, trivial⟩, rfl, rfl⟩⟩
    dsimp only
    rw [List.take_add_one, hc, Option.toList_some, List.map_append]
    exact (hrows.mono hle4).append (Rows.one hR4 rfl)
  · obtain rfl : i = L.length := by omega
    rw [List.take_length] at hrows
    refine ret_frz [1] fun μ' hle' hno hrow => .inl ⟨_, rfl, ?_⟩
    exact Rows.sl hrow (hrows.mono hle') (Nat.le_trans (m := 100000000) (by omega) (by decide))
end
end Go.Vx

/- Contracts: the laws' own functions on values of the type Mark: sizes, copies, equality, marks; what an argument reads. (By gen_types.py.) -/
namespace Go.Vx
open Go.Proofs Classical
structure Mk where
  var : Int
  tag : ByteArray
def Mk.d (x : Mk) : D := .st [.i x.var, .s x.tag]
theorem Mk.d_eq (x : Mk) : x.d = .st [.i x.var, .s x.tag] := rfl
theorem Mk.d_n (x : Mk) : x.d.n = 2 := by
  rw [Mk.d_eq]
  simp only [D.n, D.ns]
abbrev Mk.P := Unit
/-- The cells of a value. -/
def Mk.cs (x : Mk) (_p : Mk.P) : List Value := [.int .i64 x.var, .string x.tag]
section
variable {μ : Mem}
def Mk.At (_μ : Mem) (_x : Mk) (_p : Mk.P) : Prop := True
theorem Mk.invA {x : Mk} {cs : List Value} (h : Rep μ x.d cs) : ∃ p : Mk.P, cs = x.cs p ∧ Mk.At μ x p := by
  rw [Mk.d_eq] at h
  obtain ⟨a0, t0, rfl, h0, h⟩ := h
  have h0 : a0 = [.int .i64 x.var] := h0
  subst h0
  obtain ⟨a1, t1, rfl, h1, h⟩ := h
  have h1 : a1 = [.string x.tag] := h1
  subst h1
  obtain rfl : t1 = [] := h
  exact ⟨(), by simp [Mk.cs], trivial⟩
theorem Mk.rep {x : Mk} {cs : List Value} (h : Rep μ x.d cs) : RepV μ x.d (.agg cs.toArray) := by
  rw [Mk.d_eq] at h ⊢; exact ⟨cs, rfl, h⟩
theorem Mk.invR {x : Mk} {cs : List Value} (h : Rep μ x.d cs) : ∃ p : Mk.P, cs = x.cs p ∧ RepV μ x.d (.agg (x.cs p).toArray) := by
  have hv_ := Mk.invA h
  obtain ⟨p, e, _⟩ := hv_
  subst e
  exact ⟨p, rfl, Mk.rep h⟩
theorem Mk.inv {x : Mk} {v : Value} (h : RepV μ x.d v) : ∃ p : Mk.P, v = .agg #[.int .i64 x.var, .string x.tag] ∧ Mk.At μ x p := by
  have h2 : ∃ cs, v = .agg (List.toArray cs) ∧ Rep μ x.d cs := by rw [Mk.d_eq] at h ⊢; exact h
  obtain ⟨cs, rfl, h3⟩ := h2
  have hv_ := Mk.invA h3
  obtain ⟨p, rfl, hA⟩ := hv_
  exact ⟨p, rfl, hA⟩
theorem Mk.invV {x : Mk} {v : Value} (h : RepV μ x.d v) : ∃ _p : Mk.P, v = .agg #[.int .i64 x.var, .string x.tag] := by
  have hv_ := Mk.inv h
  obtain ⟨p, h, _⟩ := hv_
  exact ⟨p, h⟩
theorem Mk.elemA {l : List Mk} {base : Option Addr} {n : Nat} (h : Sl μ 2 base n (l.map Mk.d)) {i : Nat} {x : Mk} (hx : l[i]? = some x) : ∃ ad, ∃ p : Mk.P, ElemAt μ base n 2 i ad (x.cs p) ∧ RepV μ x.d (.agg (x.cs p).toArray) ∧ Mk.At μ x p := by
  have hv_ := h.get i x.d (by simp [hx])
  obtain ⟨ad, cs, h1, h2⟩ := hv_
  have hv_ := Mk.invA h2
  obtain ⟨p, rfl, hA⟩ := hv_
  exact ⟨ad, p, h1, Mk.rep h2, hA⟩
theorem Mk.elem {l : List Mk} {base : Option Addr} {n : Nat} (h : Sl μ 2 base n (l.map Mk.d)) {i : Nat} {x : Mk} (hx : l[i]? = some x) : ∃ ad, ∃ p : Mk.P, ElemAt μ base n 2 i ad (x.cs p) ∧ RepV μ x.d (.agg (x.cs p).toArray) := by
  have hv_ := Mk.elemA h hx
  obtain ⟨ad, p, h1, h2, _⟩ := hv_
  exact ⟨ad, p, h1, h2⟩
theorem Mk.sz_eq (x : Mk) : x.d.sz = x.tag.size := by
  rw [Mk.d_eq]
  simp [D.sz, D.szs]
end
end Go.Vx

/- Contracts: marks: which lists are well-formed; a mark asked of a term, the reference's side. -/
namespace Go.Vx
open Go.Proofs Classical
def Mk.v (k : Mk) : Value := .agg #[.int .i64 k.var, .string k.tag]
section
variable {μ : Mem}
end
end Go.Vx

/- Plain: facts in order, ground rules, what rules make of a base. -/
namespace Go.Vx
open Go.Proofs Classical
noncomputable abbrev cmpL : List T → List T → Int := cmpList T.cmp
theorem cmpL_ord : Ord3 cmpL := cmpList_ord T.cmp_ord
structure F where
  rel : ByteArray
  args : List T
def F.fc (f : F) : Fc := ⟨f.rel, f.args.map T.tm⟩
/-! ### Lists without repeats -/
/-! ### Rules -/
structure Ru where
  head : F
  clause : Int
  vals : List T
  pos : List F
  neg : List F
/-! ### Firing -/
/-- What rules make of a base. -/
inductive Der (rs : List Ru) (base : List F) : F → Prop
  | base {f : F} (h : f ∈ base) : Der rs base f
  | rule {r : Ru} (h : r ∈ rs) (hp : ∀ f ∈ r.pos, Der rs base f) : Der rs base r.head
end Go.Vx

/- Contracts: substitutions compared. -/
namespace Go.Vx
open Go.Proofs Classical
theorem cmpList_end {α : Type} {c : α → α → Int} {l m : List α} {i : Nat} (h : ¬ (i < l.length ∧ i < m.length)) (h2 : i ≤ l.length) (h3 : i ≤ m.length) (e : cmpList c (l.drop i) (m.drop i) = cmpList c l m) : cmpList c l m = cInt l.length m.length := by
  rw [← e]
  rcases Nat.lt_or_ge i l.length with k | k
  · obtain rfl : i = m.length := by omega
    rw [List.drop_length]
    have hv_ := at_some k
    obtain ⟨x, hx⟩ := hv_
    rw [drop_at hx, cmpList, cInt, if_neg (by omega), decide_eq_false (by omega)]
    rfl
  · obtain rfl : i = l.length := by omega
    rw [List.drop_length]
    rcases Nat.eq_or_lt_of_le h3 with k2 | k2
    · rw [k2, List.drop_length, cmpList, cInt, if_pos rfl]
    · have hv_ := at_some k2
      obtain ⟨x, hx⟩ := hv_
      rw [drop_at hx, cmpList, cInt, if_neg (by omega), decide_eq_true (by omega)]
      rfl
theorem lexI_ne {p q : Int} (h : p ≠ 0) : lexI p q = p := by rw [lexI, if_neg h]
theorem lexI_eq {p q : Int} (h : p = 0) : lexI p q = q := by rw [lexI, if_pos h]
section
variable {μ : Mem}
end
end Go.Vx

/- Contracts: lists of terms and facts compared, both sides. -/
namespace Go.Vx
open Go.Proofs Classical
section
variable {μ : Mem}
theorem T.elemL {xs : List T} {base : Option Addr} {n : Nat} (h : Sl μ 4 base n ((xs.map T.tm).map Tm.d)) {i : Nat} {x : T} (hx : xs[i]? = some x) : ∃ ad, ∃ p : Option Addr × Nat, ElemAt μ base n 4 i ad (x.tm.cs p) ∧ RepV μ x.tm.d (.agg (x.tm.cs p).toArray) :=
  Tm.elem h (by simp [hx])
theorem l02CmpAll_spec {xs ys : List T} {base base2 : Option Addr} {cap cap2 : Nat} (hsl : Sl μ 4 base xs.length ((xs.map T.tm).map Tm.d)) (hsl2 : Sl μ 4 base2 ys.length ((ys.map T.tm).map Tm.d)) :
    Gives Tryz.prog 230 [.slice base xs.length cap, .slice base2 ys.length cap2] μ (.int .i64 (cmpL xs ys)) := by
  refine Spec.mk Tryz.func230 (by kernel_rfl) ?_
  have hm1 := maxLen_le hsl.max
  have hm2 := maxLen_le hsl2.max
  refine loop_intro (fun i : Nat => i ≤ xs.length ∧ i ≤ ys.length ∧ cmpL (xs.drop i) (ys.drop i) = cmpL xs ys)
    (fun i => ⟨[(0, .val (.slice base xs.length cap)), (1, .val (.slice base2 ys.length cap2)), (5, .val (.int .i64 i))], [], 0, μ, Mem.nil⟩) (fun i => xs.length - i)
    0 ⟨Nat.zero_le _, Nat.zero_le _, rfl⟩ (fun _ => ⟨rfl, rfl⟩) ⟨⟨rfl, rfl, rfl, trivial⟩, trivial, rfl, rfl⟩ ?_
  rintro i ⟨hi, hj, hJ⟩
  have fin : ¬ (i < xs.length ∧ i < ys.length) → cmpL xs ys = cInt xs.length ys.length := fun h => cmpList_end h hi hj hJ
  refine ifd (fun h1 => ?_) (fun h1 => ?_)
  · refine ifd (fun h2 => ?_) (fun h2 => ?_)
    · have hv_ := at_some (l := xs) (i := i) (by omega)
      obtain ⟨x, hx⟩ := hv_
      have hv_ := at_some (l := ys) (i := i) (by omega)
      obtain ⟨y, hy⟩ := hv_
      have hv_ := T.elemL hsl hx
      obtain ⟨ad, p, hel, hto⟩ := hv_
      have hv_ := T.elemL hsl2 hy
      obtain ⟨ad2, p2, hel2, hto2⟩ := hv_
      rw [drop_at hx, drop_at hy, cmpL, cmpList] at hJ
      refine elem_intro hel (elem_intro hel2 ?_)
      refine call_gives (l02Cmp_spec _ _ hto hto2) ?_
      refine ifnd (fun h5 => ?_) (fun h5 => ?_)
      · rw [lexI_ne h5] at hJ
        exact ret_gives (congrArg (Value.int .i64) hJ) rfl
      · rw [lexI_eq h5] at hJ
        exact num64 (by omega) (by omega) ⟨i + 1, ⟨by omega, by omega, hJ⟩, by omega, ⟨⟨rfl, rfl, rfl, trivial⟩, trivial, rfl, rfl⟩⟩
    · have hf := fin (by omega)
      refine ifnd (fun h3 => ?_) (fun h3 => ?_)
      · refine call_gives (l02Sign_spec _) ?_
        exact ret_gives (by rw [hf, cInt, if_neg h3]) rfl
      · exact ret_gives (by rw [hf, cInt, if_pos h3]) rfl
  · have hf := fin (by omega)
    refine ifnd (fun h3 => ?_) (fun h3 => ?_)
    · refine call_gives (l02Sign_spec _) ?_
      exact ret_gives (by rw [hf, cInt, if_neg h3]) rfl
    · exact ret_gives (by rw [hf, cInt, if_pos h3]) rfl
/-! ### Facts -/
theorem F.inv {f : F} {v : Value} (h : RepV μ f.fc.d v) : ∃ p : Fc.P, v = .agg #[.string f.rel, .slice p.1 f.args.length p.2] ∧ Sl μ 4 p.1 f.args.length ((f.args.map T.tm).map Tm.d) := by
  have hv_ := Fc.inv h
  obtain ⟨p, rfl, hA⟩ := hv_
  have e : f.fc.args.length = f.args.length := List.length_map ..
  have hA : Sl μ 4 p.1 f.fc.args.length ((f.args.map T.tm).map Tm.d) := hA
  rw [e] at hA ⊢
  exact ⟨p, rfl, hA⟩
def F.cs (f : F) (p : Fc.P) : List Value := [.string f.rel, .slice p.1 f.args.length p.2]
theorem F.elem {l : List F} {base : Option Addr} {n : Nat} (h : Sl μ 2 base n ((l.map F.fc).map Fc.d)) {i : Nat} {f : F} (hf : l[i]? = some f) : ∃ ad, ∃ p : Fc.P, ElemAt μ base n 2 i ad (f.cs p) ∧ RepV μ f.fc.d (.agg (f.cs p).toArray) ∧ Sl μ 4 p.1 f.args.length ((f.args.map T.tm).map Tm.d) := by
  have hv_ := Fc.elemA h (i := i) (x := f.fc) (by simp [hf])
  obtain ⟨ad, p, h1, h2, h3⟩ := hv_
  have e : f.fc.cs p = f.cs p := by
    show [_, Value.slice p.1 (f.args.map T.tm).length p.2] = _
    rw [List.length_map]; rfl
  rw [e] at h1 h2
  have h3 : Sl μ 4 p.1 (f.args.map T.tm).length ((f.args.map T.tm).map Tm.d) := h3
  rw [List.length_map] at h3
  exact ⟨ad, p, h1, h2, h3⟩
end
end Go.Vx

/- Contracts: the program's canonical terms. -/
namespace Go.Vx
open Go.Proofs Classical
section
variable {μ : Mem}
theorem look_mem {μ h : Mem} {r : Nat} {ok : Value → Prop} {key : Value} {K : Option Value → Prop} (l : List (Value × Value)) (o : Option Value) (hm : μ r = some (mapO l)) (hk : MapOk ok l) (hok : ok key) (e : mget l key = o) (k : K o) : lookVC μ h r ok key K := ⟨⟨hok, l, .inl hm, hk, by rw [e]; exact k⟩⟩
/-- The map of names: what it holds for the first i variables. -/
def NameInv (rm : Nat) (vs : List Int) (i : Nat) (h : Mem) : Prop := ∃ r l, h rm = some (.cells #[.map (some r)] 269 (0, 0)) ∧ h r = some (mapO l) ∧ MapOk IntKey l ∧ ∀ n, mget l (.int .i64 n) = if n ∈ vs.take i then some (.int .i64 (vs.idxOf n)) else none
theorem Canonical1_looks {rm : Nat} {vs : List Int} {h : Mem} (H : NameInv rm vs vs.length h) (hl : h.Le μ) :
    Looks 305 [.pointer (some ⟨rm, 0, none⟩)] μ fun n => some (.var (if n ∈ vs then vs.idxOf n else 0)) := fun μ' hle n => by
  obtain ⟨r, l, h1, h2, hk, hg⟩ := H
  rw [List.take_length] at hg
  have g1 : μ' rm = _ := hle _ _ (hl _ _ h1)
  have g2 : μ' r = _ := hle _ _ (hl _ _ h2)
  refine Spec.mk Tryz.func305 (by kernel_rfl) ?_
  intro r0
  refine ext_intro [.map (some r)] rfl (box_at g1) ?_
  by_cases hn : n ∈ vs
  · refine look_mem l (some (.int .i64 (vs.idxOf n))) g2 (hk.weaken (by rintro _ ⟨n, rfl⟩; rfl)) rfl (by rw [hg, if_pos hn]) ?_
    refine call_gives (variable_spec _) ?_
    refine ret_plain ⟨_, rfl, ?_⟩
    rw [if_pos hn]
    exact varV_rep _
  · refine look_mem l none g2 (hk.weaken (by rintro _ ⟨n, rfl⟩; rfl)) rfl (by rw [hg, if_neg hn]) ?_
    refine call_gives (variable_spec _) ?_
    refine ret_plain ⟨_, rfl, ?_⟩
    rw [if_neg hn]
    exact varV_rep _
theorem impl_Canonical_spec {xs : List T} {base : Option Addr} {cap : Nat} (hsl : Sl μ 4 base xs.length ((xs.map T.tm).map Tm.d)) (hx : ∀ x ∈ xs, x.ok) (hn : xs.length ≤ 10000000) :
    Spec Tryz.prog 237 [.slice base xs.length cap] μ fun v μ' => Fresh μ μ' (.sl 4 (((canon xs).map T.tm).map Tm.d)) v := by
  refine Spec.mkO [3] Tryz.func237 (by kernel_rfl) ?_
  have hall := termsOk_spec (l := xs.map T.tm) (cap := cap) (by rw [List.length_map]; exact hsl)
  rw [List.length_map] at hall
  refine call_gives hall ?_
  refine ifnd (fun h => absurd (fun t ht => ?_) h) (fun _ => ?_)
  · have hv_ := List.mem_map.1 ht
    obtain ⟨x, hx', rfl⟩ := hv_
    exact (hx x hx').tm
  intro rM hmM hoM r3 hm3 ho3
  refine sto_intro [.map none] 269 (Mem.set_at _ _ _) rfl (Nat.le_refl _) ?_
  dsimp only at hmM hoM hm3 ho3
  have n1 : rM ≠ r3 := fun e => by subst e; simp [Mem.set_get] at ho3
  generalize hh : Mem.set (Mem.set _ r3 _) r3 _ = h0
  have A0 : Apart μ h0 := by subst hh; exact ((((apart_nil μ).set hmM).set hm3).set hm3)
  have vs0 := ordAll [] (xs.flatMap T.vars)
  generalize hvs : ordAll [] (xs.flatMap T.vars) = vs
  have hnd : vs.Nodup := by rw [← hvs]; exact ordAll_nodup _ (by simp)
  have hrange : vs.length ≤ 100001 := by rw [← hvs]; exact ordAll_range hx
  have hcov : ∀ x ∈ xs, ∀ n ∈ x.vars, n ∈ vs := fun x hx' n hnv => by
    rw [← hvs, ordAll_mem]; exact .inl (List.mem_flatMap.2 ⟨x, hx', hnv⟩)
  have H0 : NameInv r3 vs 0 h0 := by
    subst hh
    refine ⟨rM, [], ?_, ?_, MapOk.nil, fun n => by simp [mget]⟩
    · rw [Mem.set_at]; rfl
    · dsimp only; rw [Mem.set_ne n1, Mem.set_ne n1, Mem.set_at]
  refine call_data A0 (impl_orderedVars_spec hsl (fun x h => (hx x h).2) hn) fun v1 μ1 hle1 A1 hR1 => ?_
  rw [hvs] at hR1
  have hv_ := Rep.sl hR1
  obtain ⟨vb, vc, rfl, hvsl⟩ := hv_
  rw [List.length_map] at hvsl ⊢
  refine loop_intro (fun p : Nat × Mem => p.1 ≤ vs.length ∧ Apart μ1 p.2 ∧ NameInv r3 vs p.1 p.2)
    (fun (i, h) => ⟨[(0, .val (.slice base xs.length cap)), (3, .val (.pointer (some ⟨r3, 0, none⟩))), (14, .val (.slice vb vs.length vc)), (15, .val (.int .i64 vs.length)), (16, .val (.int .i64 i))], [], 0, μ1, h⟩) (fun p => vs.length - p.1)
    (0, h0) ⟨by simp, A1, H0⟩ (fun (_, _) => ⟨rfl, rfl⟩) ⟨⟨rfl, rfl, rfl, rfl, rfl, trivial⟩, trivial, rfl, rfl⟩ ?_
  rintro ⟨i, h⟩ ⟨hi, hap, hJ⟩
  dsimp only at hi hap hJ
  have hJ0 := hJ
  obtain ⟨r, l, h1, h2, hk, hg⟩ := hJ
  have e1 : r3 ≠ r := ne_of_obj h1 h2 (by simp [mapO])
  refine ifd (fun hlt => ?_) (fun hlt => ?_)
  · have hv_ := at_some (l := vs) (i := i) (by omega)
    obtain ⟨n, hn'⟩ := hv_
    have hv_ := Ints.elem hvsl hn'
    obtain ⟨ad, hel⟩ := hv_
    have hidx := idx_at hnd hn'
    refine elem_intro hel ?_
    refine own_intro [.map (some r)] rfl (box_at h1) ?_
    refine upd_intro l h2 (hk.weaken (by rintro _ ⟨n, rfl⟩; rfl)) rfl ?_
    refine num64 (by omega) (by omega) ⟨(i + 1, h.set r (mapO (mset l (.int .i64 n) (.int .i64 i)))), ⟨by dsimp only; omega, ?_, r, _, ?_, Mem.set_at _ _ _, hk.int _, fun m => ?_⟩, by dsimp only; omega, ⟨⟨rfl, rfl, rfl, rfl, rfl, trivial⟩, trivial, rfl, rfl⟩⟩
    · refine hap.set ?_
      cases h3 : μ1 r with
      | none => rfl
      | some o => have := hap r (by simp [h3]); rw [h2] at this; cases this
    · dsimp only; rw [Mem.set_ne e1]; exact h1
    · dsimp only
      rw [mget_int, hg, List.take_add_one, hn', Option.toList_some]
      by_cases e : m = n
      · subst e; rw [if_pos rfl, if_pos (by simp), hidx]
      · rw [if_neg e]
        by_cases h2 : m ∈ vs.take i
        · rw [if_pos h2, if_pos (by simp [h2])]
        · rw [if_neg h2, if_neg (by simp [h2, e])]
  · obtain rfl : i = vs.length := by omega
    clear h1 h2 hk hg e1 r l
    intro r25
    refine loop_intro (fun p : Nat × Option Nat × Nat × List Value × Mem => p.1 ≤ xs.length ∧ μ1.Le p.2.2.2.2 ∧ Apart p.2.2.2.2 h ∧ Grown 4 μ p.2.2.2.2 ((((xs.take p.1).map (·.subst (canonF vs))).map T.tm).map Tm.d) p.2.2.2.1)
      (fun (i, b, c, ys, μ') => ⟨[(3, .val (.pointer (some ⟨r3, 0, none⟩))), (6, .row 0 b ys.length c), (26, .val (.slice base xs.length cap)), (27, .val (.int .i64 xs.length)), (28, .val (.int .i64 i))], [(0, some (.row b c 44 4 ys))], 1, μ', h⟩) (fun p => xs.length - p.1)
      (0, some r25, 0, [], μ1) ⟨by simp, Mem.Le.refl _, hap, Grown.nil _ _ _⟩ (fun (_, _, _, _, _) => ⟨rfl, rfl⟩) ⟨⟨rfl, rfl, rfl, rfl, rfl, trivial⟩, ⟨rfl, trivial⟩, rfl, rfl⟩ ?_
    rintro ⟨i, b, c, ys, μ'⟩ ⟨hi, hle, hap', hrows⟩
    dsimp only at hi hle hap' hrows
    have hlen := hrows.len
    simp only [List.length_map, List.length_take] at hlen
    refine ifd (fun hlt => ?_) (fun hlt => ?_)
    · have hv_ := at_some (l := xs) (i := i) (by omega)
      obtain ⟨x, hx'⟩ := hv_
      have hv_ := Tm.elem (i := i) (t := x.tm) ((hsl.mono hle1).mono hle) (by simp [hx'])
      obtain ⟨ad, p, hel, hto⟩ := hv_
      refine elem_intro hel ?_
      intro r
      have hcall := mapVars_spec x (Canonical1_looks (μ := μ'.join h) hJ0 (Mem.le_join_right hap')) (hto.mono (Mem.le_join _ _))
      have hsub : x.subst (fun n => some (.var (if n ∈ vs then ((vs.idxOf n : Nat) : Int) else 0))) = x.subst (canonF vs) := T.subst_congr x fun n hnv => by
        have := hcov x (mem_at hx') n hnv
        rw [canonF, if_pos this, if_pos this]
      refine call_lend hap' hcall fun v3 μ3 hle3 hap3 hR3 => ?_
      have hv_ := Tm.invV hR3.rep
      obtain ⟨q, rfl⟩ := hv_
      intro r5
      refine grow_intro ?_ ?_ fun b' c' _ => ?_
      · show (ys.length + 1) * 56 ≤ _; omega
      · exact Nat.le_trans (m := 100000000) (show ys.length + 1 ≤ _ by omega) (by decide)
      refine num64 (by omega) (by omega) ⟨(i + 1, b', c', _, μ3), ⟨by dsimp only; omega, hle.trans hle3, hap3, ?_⟩, by dsimp only; omega, ⟨⟨rfl, rfl, rfl, rfl, rfl, trivial⟩, ⟨rfl, trivial⟩, rfl, rfl⟩⟩
      dsimp only
      rw [List.take_add_one, hx', Option.toList_some]
      simp only [List.map_append, List.map_cons, List.map_nil]
      exact hrows.snoc (hle1.trans hle) (by rw [← hsub]; exact hR3) hle3 (Tm.d_n _)
    · obtain rfl : i = xs.length := by omega
      rw [List.take_length] at hrows
      refine ret_frz [0] fun μ' hle' hno hrow => .inl ?_
      rw [canon, hvs]
      exact hrows.fresh (hle1.trans hle) hle' hno hrow (Nat.le_trans (m := 100000000) (by omega) (by decide))
end
end Go.Vx

/- Contracts: reified terms, both sides. -/
namespace Go.Vx
open Go.Proofs Classical
/-! ### Plain -/
noncomputable def fits (bs : List B) (x : T) : Option T := fit (x.subst (sub bs))
section
variable {μ : Mem}
end
end Go.Vx

/- Contracts: goals copied and instantiated, the reference's side. -/
namespace Go.Vx
open Go.Proofs Classical
/-! ### Plain -/
mutual
noncomputable def Gl.put (f : Int → Option T) : Gl → Gl
  | .mk k s ts gs => .mk k s (ts.map fun t => (t.toT.subst f).tm) (Gl.puts f gs)
noncomputable def Gl.puts (f : Int → Option T) : List Gl → List Gl
  | [] => []
  | g :: r => g.put f :: Gl.puts f r
end
theorem toTs_tm {xs : List T} : (xs.map T.tm).map Tm.toT = xs := by
  rw [List.map_map]
  exact (List.map_congr_left fun x _ => T.toT_tm x).trans (List.map_id _)
section
variable {μ : Mem}
end
end Go.Vx

/- Contracts: lists of terms that are the same, canonical lists, tables found, lists known: both sides. -/
namespace Go.Vx
open Go.Proofs Classical
theorem cutBase {es c : Nat} {base : Option Addr} : (if c = 0 then base else base.map (·.add (0 * es))) = base := by
  split
  · rfl
  · cases base with
    | none => rfl
    | some a => simp [Addr.add]
/-- The head of a slice. -/
theorem Sl.cut0 {μ : Mem} {es n c i : Nat} {base : Option Addr} {xs : List D} (h : Sl μ es base n xs) (hi : i ≤ n) : Sl μ es (if c = 0 then base else base.map (·.add (0 * es))) (i - 0) (xs.take i) := by
  rw [cutBase]
  have hl := h.len
  refine ⟨by rw [List.length_take]; omega, Nat.le_trans (by omega) h.max, fun j x hx => ?_⟩
  have hj := (List.getElem?_eq_some_iff.1 hx).1
  rw [List.length_take] at hj
  rw [List.getElem?_take, if_pos (by omega)] at hx
  have hv_ := h.get j x hx
  obtain ⟨a, cs, he, hr⟩ := hv_
  exact ⟨a, cs, ⟨he.lo, by omega, he.addr, he.len, he.cell⟩, hr⟩
theorem Tb.ansV {μ : Mem} {x : Tb} {p : Tb.P} (h : RepV μ x.d (.agg (x.cs p).toArray)) : RepV μ (.sl 1 (x.answers.map Ts.d)) (.slice p.2.1 x.answers.length p.2.2) := by
  rw [Tb.d_eq] at h
  obtain ⟨cs, e, h⟩ := h
  obtain ⟨a0, t0, rfl, h0, h⟩ := h
  obtain ⟨a1, t1, rfl, h1, h⟩ := h
  obtain ⟨a2, t2, rfl, h2, h⟩ := h
  obtain rfl : t2 = [] := h
  have h0 : a0 = [.string x.rel] := h0
  subst h0
  have hv_ := one_of (Rep.len _ _ h1)
  obtain ⟨v1, rfl⟩ := hv_
  have hv_ := one_of (Rep.len _ _ h2)
  obtain ⟨v2, rfl⟩ := hv_
  have e2 : x.cs p = [.string x.rel, v1, v2] := congrArg (fun v => match v with | Value.agg a => a.toList | _ => []) e
  have e3 : Value.slice p.2.1 x.answers.length p.2.2 = v2 := (List.cons.inj (List.cons.inj (List.cons.inj e2).2).2).1
  rw [e3]; exact h2
theorem tmL_inj {xs ys : List T} : xs = ys ↔ xs.map T.tm = ys.map T.tm :=
  ⟨fun e => by rw [e], fun e => by have := congrArg (List.map Tm.toT) e; rwa [toTs_tm, toTs_tm] at this⟩
theorem cmpTm_zero {l m : List Tm} (hl : ∀ t ∈ l, t.Ok) (hm : ∀ t ∈ m, t.Ok) : cmpL (l.map Tm.toT) (m.map Tm.toT) = 0 ↔ l = m := by
  have hv_ := lift_ok hl
  obtain ⟨xs, rfl, _⟩ := hv_
  have hv_ := lift_ok hm
  obtain ⟨ys, rfl, _⟩ := hv_
  rw [toTs_tm, toTs_tm, cmpL_ord.zero, tmL_inj]
/-- A canonical list of terms. -/
def CanL (l : List Tm) : Prop := (∀ t ∈ l, t.Ok) ∧ (canon (l.map Tm.toT)).map T.tm = l
section
variable {μ : Mem}
theorem sameTerms_spec {xs ys : List T} {base base2 : Option Addr} {cap cap2 : Nat} (hsl : Sl μ 4 base xs.length ((xs.map T.tm).map Tm.d)) (hsl2 : Sl μ 4 base2 ys.length ((ys.map T.tm).map Tm.d)) :
    Gives Tryz.prog 236 [.slice base xs.length cap, .slice base2 ys.length cap2] μ (.bool (decide (xs = ys))) := by
  have hn := maxLen_le hsl.max
  refine Spec.mk Tryz.func236 (by kernel_rfl) ?_
  refine ifnd (fun h => ret_gives (isF fun e => h (by rw [e])) rfl) (fun hlen => ?_)
  have hlen : xs.length = ys.length := by omega
  refine loop_intro (fun i : Nat => i ≤ xs.length ∧ xs.take i = ys.take i)
    (fun i => ⟨[(0, .val (.slice base xs.length cap)), (1, .val (.slice base2 ys.length cap2)), (12, .val (.int .i64 xs.length)), (13, .val (.int .i64 i))], [], 0, μ, Mem.nil⟩) (fun i => xs.length - i)
    0 ⟨Nat.zero_le _, rfl⟩ (fun _ => ⟨rfl, rfl⟩) ⟨⟨rfl, rfl, rfl, rfl, trivial⟩, trivial, rfl, rfl⟩ ?_
  rintro i ⟨hi, heq⟩
  refine ifd (fun hlt => ?_) (fun hlt => ?_)
  · have hv_ := at_some (l := xs) (i := i) (by omega)
    obtain ⟨x, hx⟩ := hv_
    have hv_ := at_some (l := ys) (i := i) (by omega)
    obtain ⟨y, hy⟩ := hv_
    have hv_ := T.elemL hsl hx
    obtain ⟨ad, p, hel, hr⟩ := hv_
    have hv_ := T.elemL hsl2 hy
    obtain ⟨ad2, p2, hel2, hr2⟩ := hv_
    refine elem_intro hel ?_
    refine elem_intro hel2 ?_
    refine call_gives (equalTerms_spec x y hr hr2) ?_
    refine ifnd (fun h => ret_gives (isF fun e => h ?_) rfl) (fun h => ?_)
    · rw [e, hy] at hx; cases hx; rfl
    · refine num64 (by omega) (by omega) ⟨i + 1, ⟨by omega, ?_⟩, by omega, ⟨⟨rfl, rfl, rfl, rfl, trivial⟩, trivial, rfl, rfl⟩⟩
      rw [List.take_add_one, List.take_add_one, heq, hx, hy, h]
  · obtain rfl : i = xs.length := by omega
    rw [List.take_length, hlen, List.take_length] at heq
    exact ret_gives (isT heq) rfl
theorem sameTm_spec {l m : List Tm} {b1 b2 : Option Addr} {c1 c2 : Nat} (hl : ∀ t ∈ l, t.Ok) (hm : ∀ t ∈ m, t.Ok) (h1 : Sl μ 4 b1 l.length (l.map Tm.d)) (h2 : Sl μ 4 b2 m.length (m.map Tm.d)) :
    Gives Tryz.prog 236 [.slice b1 l.length c1, .slice b2 m.length c2] μ (.bool (decide (l = m))) := by
  have hv_ := lift_ok hl
  obtain ⟨xs, rfl, _⟩ := hv_
  have hv_ := lift_ok hm
  obtain ⟨ys, rfl, _⟩ := hv_
  simp only [List.length_map] at h1 h2 ⊢
  have := sameTerms_spec (cap := c1) (cap2 := c2) h1 h2
  rwa [show decide (xs = ys) = decide (xs.map T.tm = ys.map T.tm) from decide_eq_decide.2 tmL_inj] at this
theorem cmpTm_spec {l m : List Tm} {b1 b2 : Option Addr} {c1 c2 : Nat} (hl : ∀ t ∈ l, t.Ok) (hm : ∀ t ∈ m, t.Ok) (h1 : Sl μ 4 b1 l.length (l.map Tm.d)) (h2 : Sl μ 4 b2 m.length (m.map Tm.d)) :
    Gives Tryz.prog 230 [.slice b1 l.length c1, .slice b2 m.length c2] μ (.int .i64 (cmpL (l.map Tm.toT) (m.map Tm.toT))) := by
  have hv_ := lift_ok hl
  obtain ⟨xs, rfl, _⟩ := hv_
  have hv_ := lift_ok hm
  obtain ⟨ys, rfl, _⟩ := hv_
  simp only [List.length_map] at h1 h2 ⊢
  rw [toTs_tm, toTs_tm]
  exact l02CmpAll_spec h1 h2
theorem canonicalOk_spec {l : List Tm} {base : Option Addr} {cap : Nat} (hsl : Sl μ 4 base l.length (l.map Tm.d)) (hn : l.length ≤ 10000000) :
    Gives Tryz.prog 152 [.slice base l.length cap] μ (.bool (decide (CanL l))) := by
  refine Spec.forget (Spec.mk Tryz.func152 (by kernel_rfl) ?_)
  refine call_gives (termsOk_spec hsl) ?_
  refine ifd (fun hok => ?_) (fun h => ret_plain (isF fun k => h k.1))
  have hv_ := lift_ok hok
  obtain ⟨xs, rfl, hx⟩ := hv_
  rw [List.length_map] at hsl hn ⊢
  refine call_plain (impl_Canonical_spec hsl hx hn) fun v1 μ1 hle1 hR => ?_
  have hv_ := Rep.sl hR.rep
  obtain ⟨b, c, rfl, s⟩ := hv_
  rw [List.length_map, List.length_map] at s ⊢
  refine call_gives (sameTerms_spec s (hsl.mono hle1)) ?_
  refine ret_plain (isI ?_)
  unfold CanL
  rw [toTs_tm, ← tmL_inj]
  exact ⟨fun e => ⟨hok, e⟩, fun k => k.2⟩
theorem l28Canonical_spec {l : List Tm} {base : Option Addr} {cap : Nat} (hsl : Sl μ 4 base l.length (l.map Tm.d)) (hw : D.wds (l.map Tm.d)) (hn : l.length ≤ 10000000) :
    Gives Tryz.prog 145 [.slice base l.length cap] μ (.bool (decide (CanL l))) := by
  refine Spec.forget (Spec.mk Tryz.func145 (by kernel_rfl) ?_)
  refine call_gives (l02AllOk_spec hsl hw) ?_
  refine ifd (fun hok => ?_) (fun h => ret_plain (isF fun k => h k.1))
  have hv_ := lift_ok hok
  obtain ⟨xs, rfl, hx⟩ := hv_
  rw [List.length_map] at hsl hn ⊢
  refine call_plain (spec_Canonical_spec hsl hw hx hn) fun v1 μ1 hle1 hR => ?_
  have hv_ := Rep.sl hR
  obtain ⟨b, c, rfl, s⟩ := hv_
  rw [List.length_map, List.length_map] at s ⊢
  refine call_gives (l02CmpAll_spec s (hsl.mono hle1)) ?_
  refine ret_plain (isI ?_)
  unfold CanL
  rw [toTs_tm, cmpL_ord.zero, ← tmL_inj]
  exact ⟨fun e => ⟨hok, e⟩, fun k => k.2⟩
theorem hasList_spec {l : List Ts} {x : List Tm} {n : Nat} {base b2 : Option Addr} {cap c2 : Nat} (hn : n = l.length) (hsl : Sl μ 1 base n (l.map Ts.d)) (hok : ∀ a ∈ l, ∀ t ∈ a.ts, t.Ok) (hx : Sl μ 4 b2 x.length (x.map Tm.d)) (hxo : ∀ t ∈ x, t.Ok) :
    Gives Tryz.prog 154 [.slice base n cap, .slice b2 x.length c2] μ (.bool (decide (∃ a ∈ l, a.ts = x))) := by
  have hm := maxLen_le hsl.max
  refine Spec.mk Tryz.func154 (by kernel_rfl) ?_
  refine loop_intro (fun i : Nat => i ≤ l.length ∧ ∀ a ∈ l.take i, a.ts ≠ x)
    (fun i => ⟨[(1, .val (.slice b2 x.length c2)), (7, .val (.slice base n cap)), (8, .val (.int .i64 n)), (9, .val (.int .i64 i))], [], 0, μ, Mem.nil⟩) (fun i => l.length - i)
    0 ⟨Nat.zero_le _, by simp⟩ (fun _ => ⟨rfl, rfl⟩) ⟨⟨rfl, rfl, rfl, rfl, trivial⟩, trivial, rfl, rfl⟩ ?_
  rintro i ⟨hi, hnot⟩
  refine ifd (fun hlt => ?_) (fun hlt => ?_)
  · have hv_ := at_some (l := l) (i := i) (by omega)
    obtain ⟨a, ha⟩ := hv_
    have hv_ := Ts.elem hsl ha
    obtain ⟨ad, p, hel, hr⟩ := hv_
    have hv_ := Ts.inv hr
    obtain ⟨p2, e2, hs⟩ := hv_
    have hb : p.1 = p2.1 := (Value.slice.inj e2).1
    rw [← hb] at hs
    have haok := hok a (mem_at ha)
    refine elem_intro hel ?_
    refine call_gives (sameTm_spec haok hxo hs hx) ?_
    refine ifd (fun h => ret_gives (isT ⟨a, mem_at ha, h⟩) rfl) (fun h => ?_)
    refine num64 (by omega) (by omega) ⟨i + 1, ⟨by omega, ?_⟩, by omega, ⟨⟨rfl, rfl, rfl, rfl, trivial⟩, trivial, rfl, rfl⟩⟩
    rw [List.take_add_one, ha, Option.toList_some]
    intro y hy
    rcases List.mem_append.1 hy with hy | hy
    · exact hnot y hy
    · rw [List.mem_singleton.1 hy]; exact fun e => h e
  · obtain rfl : i = l.length := by omega
    rw [List.take_length] at hnot
    exact ret_gives (isF fun ⟨a, ha, e⟩ => hnot a ha e) rfl
theorem l28Known_spec {l : List Ts} {x : List Tm} {n : Nat} {base b2 : Option Addr} {cap c2 : Nat} (hn : n = l.length) (hsl : Sl μ 1 base n (l.map Ts.d)) (hok : ∀ a ∈ l, ∀ t ∈ a.ts, t.Ok) (hx : Sl μ 4 b2 x.length (x.map Tm.d)) (hxo : ∀ t ∈ x, t.Ok) :
    Gives Tryz.prog 147 [.slice base n cap, .slice b2 x.length c2] μ (.bool (decide (∃ a ∈ l, a.ts = x))) := by
  have hm := maxLen_le hsl.max
  refine Spec.mk Tryz.func147 (by kernel_rfl) ?_
  refine loop_intro (fun i : Nat => i ≤ l.length ∧ ∀ a ∈ l.take i, a.ts ≠ x)
    (fun i => ⟨[(1, .val (.slice b2 x.length c2)), (7, .val (.slice base n cap)), (8, .val (.int .i64 n)), (9, .val (.int .i64 i))], [], 0, μ, Mem.nil⟩) (fun i => l.length - i)
    0 ⟨Nat.zero_le _, by simp⟩ (fun _ => ⟨rfl, rfl⟩) ⟨⟨rfl, rfl, rfl, rfl, trivial⟩, trivial, rfl, rfl⟩ ?_
  rintro i ⟨hi, hnot⟩
  refine ifd (fun hlt => ?_) (fun hlt => ?_)
  · have hv_ := at_some (l := l) (i := i) (by omega)
    obtain ⟨a, ha⟩ := hv_
    have hv_ := Ts.elem hsl ha
    obtain ⟨ad, p, hel, hr⟩ := hv_
    have hv_ := Ts.inv hr
    obtain ⟨p2, e2, hs⟩ := hv_
    have hb : p.1 = p2.1 := (Value.slice.inj e2).1
    rw [← hb] at hs
    have haok := hok a (mem_at ha)
    refine elem_intro hel ?_
    refine call_gives (cmpTm_spec hxo haok hx hs) ?_
    refine ifd (fun h => ret_gives (isT ⟨a, mem_at ha, ((cmpTm_zero hxo haok).1 h).symm⟩) rfl) (fun h => ?_)
    refine num64 (by omega) (by omega) ⟨i + 1, ⟨by omega, ?_⟩, by omega, ⟨⟨rfl, rfl, rfl, rfl, trivial⟩, trivial, rfl, rfl⟩⟩
    rw [List.take_add_one, ha, Option.toList_some]
    intro y hy
    rcases List.mem_append.1 hy with hy | hy
    · exact hnot y hy
    · rw [List.mem_singleton.1 hy]; exact fun e => h ((cmpTm_zero hxo haok).2 e.symm)
  · obtain rfl : i = l.length := by omega
    rw [List.take_length] at hnot
    exact ret_gives (isF fun ⟨a, ha, e⟩ => hnot a ha e) rfl
theorem tableOf_spec {l : List Tb} {rel : ByteArray} {x : List Tm} {n : Nat} {base b2 : Option Addr} {cap c2 : Nat} (hn : n = l.length) (hsl : Sl μ 3 base n (l.map Tb.d)) (hok : ∀ u ∈ l, ∀ t ∈ u.args, t.Ok) (hx : Sl μ 4 b2 x.length (x.map Tm.d)) (hxo : ∀ t ∈ x, t.Ok) :
    Spec Tryz.prog 153 [.slice base n cap, .string rel, .slice b2 x.length c2] μ fun r μ' => (∃ k : Int, r = .int .i64 k ∧ (0 ≤ k ↔ ∃ u ∈ l, u.rel = rel ∧ u.args = x)) ∧ μ' = μ := by
  have hm := maxLen_le hsl.max
  refine Spec.mk Tryz.func153 (by kernel_rfl) ?_
  refine loop_intro (fun i : Nat => i ≤ l.length ∧ ∀ u ∈ l.take i, ¬ (u.rel = rel ∧ u.args = x))
    (fun i => ⟨[(1, .val (.string rel)), (2, .val (.slice b2 x.length c2)), (9, .val (.slice base n cap)), (10, .val (.int .i64 n)), (11, .val (.int .i64 i))], [], 0, μ, Mem.nil⟩) (fun i => l.length - i)
    0 ⟨Nat.zero_le _, by simp⟩ (fun _ => ⟨rfl, rfl⟩) ⟨⟨rfl, rfl, rfl, rfl, rfl, trivial⟩, trivial, rfl, rfl⟩ ?_
  rintro i ⟨hi, hnot⟩
  refine ifd (fun hlt => ?_) (fun hlt => ?_)
  · have hv_ := at_some (l := l) (i := i) (by omega)
    obtain ⟨u, hu⟩ := hv_
    have hv_ := Tb.elemA hsl hu
    obtain ⟨ad, p, hel, hr, hs, _⟩ := hv_
    have huok := hok u (mem_at hu)
    have fin : ¬ (u.rel = rel ∧ u.args = x) → ∀ y ∈ l.take (i + 1), ¬ (y.rel = rel ∧ y.args = x) := fun h => by
      rw [List.take_add_one, hu, Option.toList_some]
      intro y hy
      rcases List.mem_append.1 hy with hy | hy
      · exact hnot y hy
      · rw [List.mem_singleton.1 hy]; exact h
    refine elem_intro hel ?_
    intro r8
    refine ifd (fun hrel => ?_) (fun hrel => ?_)
    · refine call_gives (sameTm_spec huok hxo hs hx) ?_
      refine ifd (fun h => ret_plain ⟨⟨_, rfl, fun _ => ⟨u, mem_at hu, hrel, h⟩, fun _ => by omega⟩, rfl⟩) (fun h => ?_)
      exact num64 (by omega) (by omega) ⟨i + 1, ⟨by omega, fin fun k => h k.2⟩, by omega, ⟨⟨rfl, rfl, rfl, rfl, rfl, trivial⟩, trivial, rfl, rfl⟩⟩
    · exact num64 (by omega) (by omega) ⟨i + 1, ⟨by omega, fin fun k => hrel k.1⟩, by omega, ⟨⟨rfl, rfl, rfl, rfl, rfl, trivial⟩, trivial, rfl, rfl⟩⟩
  · obtain rfl : i = l.length := by omega
    rw [List.take_length] at hnot
    exact ret_plain ⟨⟨_, rfl, fun h => absurd h (by decide), fun ⟨u, hu, k⟩ => absurd k (hnot u hu)⟩, rfl⟩
theorem l28Find_spec {l : List Tb} {t : Tb} {i0 : Nat} {base b2 : Option Addr} {cap c2 : Nat} (hsl : Sl μ 3 base l.length (l.map Tb.d)) (ht : l[i0]? = some t) (hok : ∀ u ∈ l.take (i0 + 1), ∀ a ∈ u.args, a.Ok) (hx : Sl μ 4 b2 t.args.length (t.args.map Tm.d)) :
    Spec Tryz.prog 146 [.slice base l.length cap, .string t.rel, .slice b2 t.args.length c2] μ fun r μ' => (∃ k : Nat, r = .int .i64 k ∧ (k = i0 ↔ ∀ u ∈ l.take i0, ¬ (u.rel = t.rel ∧ u.args = t.args))) ∧ μ' = μ := by
  have hm := maxLen_le hsl.max
  have hi0 := (List.getElem?_eq_some_iff.1 ht).1
  have htm : t ∈ l.take (i0 + 1) := by rw [List.take_add_one, ht]; simp
  have hxo := hok t htm
  refine Spec.mk Tryz.func146 (by kernel_rfl) ?_
  refine loop_intro (fun i : Nat => i ≤ i0 ∧ ∀ u ∈ l.take i, ¬ (u.rel = t.rel ∧ u.args = t.args))
    (fun i => ⟨[(1, .val (.string t.rel)), (2, .val (.slice b2 t.args.length c2)), (9, .val (.slice base l.length cap)), (10, .val (.int .i64 l.length)), (11, .val (.int .i64 i))], [], 0, μ, Mem.nil⟩) (fun i => l.length - i)
    0 ⟨Nat.zero_le _, by simp⟩ (fun _ => ⟨rfl, rfl⟩) ⟨⟨rfl, rfl, rfl, rfl, rfl, trivial⟩, trivial, rfl, rfl⟩ ?_
  rintro i ⟨hi, hnot⟩
  refine ifd (fun hlt => ?_) (fun hlt => by omega)
  have hv_ := at_some (l := l) (i := i) (by omega)
  obtain ⟨u, hu⟩ := hv_
  have hv_ := Tb.elemA hsl hu
  obtain ⟨ad, p, hel, hr, hs, _⟩ := hv_
  have hum : ∀ k, i < k → u ∈ l.take k := fun k hk => by
    rw [List.mem_iff_getElem?]
    exact ⟨i, by rw [List.getElem?_take, if_pos hk]; exact hu⟩
  have huok := hok u (hum _ (by omega))
  have next : ¬ (u.rel = t.rel ∧ u.args = t.args) → i + 1 ≤ i0 ∧ ∀ y ∈ l.take (i + 1), ¬ (y.rel = t.rel ∧ y.args = t.args) := fun h => by
    constructor
    · rcases Nat.lt_or_ge i i0 with h6 | h6
      · omega
      · obtain rfl : i = i0 := by omega
        rw [ht] at hu; cases hu
        exact absurd ⟨rfl, rfl⟩ h
    · rw [List.take_add_one, hu, Option.toList_some]
      intro y hy
      rcases List.mem_append.1 hy with hy | hy
      · exact hnot y hy
      · rw [List.mem_singleton.1 hy]; exact h
  refine elem_intro hel ?_
  intro r8
  refine ifd (fun hrel => ?_) (fun hrel => ?_)
  · refine call_gives (cmpTm_spec huok hxo hs hx) ?_
    refine ifd (fun h => ret_plain ⟨⟨i, rfl, ?_, ?_⟩, rfl⟩) (fun h => ?_)
    · rintro rfl; exact hnot
    · intro k
      rcases Nat.lt_or_ge i i0 with h6 | h6
      · exact absurd ⟨hrel, (cmpTm_zero huok hxo).1 h⟩ (k u (hum _ h6))
      · omega
    · have nx := next fun k => h ((cmpTm_zero huok hxo).2 k.2)
      exact num64 (by omega) (by omega) ⟨i + 1, ⟨nx.1, nx.2⟩, by omega, ⟨⟨rfl, rfl, rfl, rfl, rfl, trivial⟩, trivial, rfl, rfl⟩⟩
  · have nx := next fun k => hrel k.1
    exact num64 (by omega) (by omega) ⟨i + 1, ⟨nx.1, nx.2⟩, by omega, ⟨⟨rfl, rfl, rfl, rfl, rfl, trivial⟩, trivial, rfl, rfl⟩⟩
end
end Go.Vx

/- Contracts: programs without tests or negation. -/
namespace Go.Vx
open Go.Proofs Classical
/-- What the program holds to be impure. -/
def ImpK (n : Int) : Prop := n ≠ 0 ∧ n ≠ 1 ∧ n ≠ 2 ∧ n ≠ 7 ∧ n ≠ 8 ∧ n ≠ 9
def PureK (n : Int) : Prop := n ≠ 10 ∧ ¬ (3 ≤ n ∧ n ≤ 6)
/-- No test and no negation in a goal. -/
def Gl.Pure (g : Gl) : Prop := ∀ x ∈ g.all, PureK x.kind
theorem Gl.pure_eq (g : Gl) : g.Pure ↔ PureK g.kind ∧ ∀ x ∈ g.goals, x.Pure := by
  unfold Gl.Pure
  rw [Gl.all_eq]
  constructor
  · exact fun h => ⟨h g (by simp), fun x hx y hy => h y (List.mem_cons_of_mem _ (List.mem_flatMap.2 ⟨x, hx, hy⟩))⟩
  · rintro ⟨h1, h2⟩ x hx
    rcases List.mem_cons.1 hx with rfl | hx
    · exact h1
    · have hv_ := List.mem_flatMap.1 hx
      obtain ⟨y, hy, hx⟩ := hv_
      exact h2 y hy x hx
def Pg.Pure (p : Pg) : Prop := p.Ok ∧ ∀ r ∈ p.rels, r.body.Pure
theorem Gl.Sh.kinds : ∀ (g : Gl), g.Sh → ∀ x ∈ g.all, 0 ≤ x.kind ∧ x.kind ≤ 10 :=
  Gl.ind fun g ih h x hx => by
    rw [Gl.all_eq] at hx
    rcases List.mem_cons.1 hx with rfl | hx
    · exact ⟨h.top.k0, h.top.k1⟩
    · have hv_ := List.mem_flatMap.1 hx
      obtain ⟨y, hy, hx⟩ := hv_
      exact ih y hy (h.sub y hy) x hx
section
variable {μ : Mem}
theorem isN {p q : Prop} [Decidable p] (h : ¬ p ↔ q) : Value.bool (!decide p) = .bool (decide q) := by
  by_cases k : p
  · rw [decide_eq_true k, decide_eq_false fun hq => h.2 hq k]; rfl
  · rw [decide_eq_false k, decide_eq_true (h.1 k)]; rfl
theorem l14OnlyT_spec : ∀ (g : Gl) {v : Value}, RepV μ g.d v → Gives Tryz.prog 300 [v, .bool true] μ (.bool (decide g.Pure)) :=
  Gl.ind fun g ih v hv => by
    have hv_ := Gl.inv hv
    obtain ⟨p, rfl, hts, hgs⟩ := hv_
    have hn := maxLen_le hgs.max
    refine Spec.mk Tryz.func300 (by kernel_rfl) ?_
    intro r
    refine loop_intro (fun i : Nat => i ≤ g.goals.length ∧ ∀ (j : Nat) x, j < i → g.goals[j]? = some x → x.Pure)
      (fun i => ⟨[(1, .val (.bool true)), (2, .loc 0 r 0), (8, .val (.slice p.2.1 g.goals.length p.2.2)), (9, .val (.int .i64 g.goals.length)), (10, .val (.int .i64 i))], [(0, some (.cells r [.val (.int .i64 g.kind), .val (.string g.name), .val (.slice p.1.1 g.terms.length p.1.2), .val (.slice p.2.1 g.goals.length p.2.2)] 55))], 1, μ, Mem.nil⟩) (fun i => g.goals.length - i)
      0 ⟨Nat.zero_le _, fun j x h => by omega⟩ (fun _ => ⟨rfl, rfl⟩) ⟨⟨rfl, rfl, rfl, rfl, rfl, trivial⟩, ⟨rfl, trivial⟩, rfl, rfl⟩ ?_
    rintro i ⟨hi, hall⟩
    refine ifd (fun hlt => ?_) (fun hlt => ?_)
    · have hv_ := at_some (l := g.goals) (i := i) (by omega)
      obtain ⟨t, ht⟩ := hv_
      have hv_ := Gl.elem hgs ht
      obtain ⟨ad, p3, hel, hr⟩ := hv_
      refine elem_intro hel ?_
      intro r2
      refine call_gives (ih t (mem_at ht) hr) ?_
      refine ifnd (fun h => ret_gives ?_ rfl) (fun h => ?_)
      · rw [decide_eq_false fun k => h (((Gl.pure_eq g).1 k).2 t (mem_at ht))]
      · refine num64 (by omega) (by omega) ⟨i + 1, ⟨by omega, fun j y hj hy => ?_⟩, by omega, ⟨⟨rfl, rfl, rfl, rfl, rfl, trivial⟩, ⟨rfl, trivial⟩, rfl, rfl⟩⟩
        rcases Nat.lt_or_ge j i with h6 | h6
        · exact hall j y h6 hy
        · obtain rfl : j = i := by omega
          rw [ht] at hy; cases hy; exact h
    · obtain rfl : i = g.goals.length := by omega
      have hsub : ∀ x ∈ g.goals, x.Pure := fun x hx => by
        have hv_ := List.mem_iff_getElem?.1 hx
        obtain ⟨j, hj⟩ := hv_
        exact hall j x (List.getElem?_eq_some_iff.1 hj).1 hj
      refine ifnd (fun h => ?_) (fun h => ?_)
      · refine if_intro (fun _ => ?_) (fun h => nomatch h)
        refine call_gives (l01In_spec _ _ _ _) ?_
        refine ret_gives ?_ rfl
        refine isN ?_
        rw [Gl.pure_eq]
        exact ⟨fun k => ⟨⟨h, k⟩, hsub⟩, fun k => k.1.2⟩
      · exact ret_gives (by rw [decide_eq_false fun k => ((Gl.pure_eq g).1 k).1.1 h]) rfl
theorem l14AllT_spec {p : Pg} {v : Value} (hp : RepV μ p.d v) (hw : p.d.wd) : Spec Tryz.prog 228 [v, .bool true] μ fun r _ => r = .bool (decide p.Pure) := by
  have hv_ := Pg.inv hp
  obtain ⟨q, rfl, hrl⟩ := hv_
  refine Spec.mk Tryz.func228 (by kernel_rfl) ?_
  intro r1
  refine call_plain (spec_ProgramOk_spec hp hw) fun v1 μ1 hle1 hR => ?_
  obtain rfl := hR
  refine ifnd (fun h => ret_plain (isF fun k => h k.1)) (fun hok => ?_)
  have hn := hok.1
  refine loop_intro (fun i : Nat => i ≤ p.rels.length ∧ ∀ (j : Nat) x, j < i → p.rels[j]? = some x → x.body.Pure)
    (fun i => ⟨[(1, .val (.bool true)), (11, .val (.slice q.1 p.rels.length q.2)), (12, .val (.int .i64 p.rels.length)), (13, .val (.int .i64 i))], [], 1, μ1, Mem.nil⟩) (fun i => p.rels.length - i)
    0 ⟨Nat.zero_le _, fun j x h => by omega⟩ (fun _ => ⟨rfl, rfl⟩) ⟨⟨rfl, rfl, rfl, rfl, trivial⟩, trivial, rfl, rfl⟩ ?_
  rintro i ⟨hi, hall⟩
  refine ifd (fun hlt => ?_) (fun hlt => ?_)
  · have hv_ := at_some (l := p.rels) (i := i) (by omega)
    obtain ⟨x, hx⟩ := hv_
    have hv_ := Rl.elemA (hrl.mono hle1) hx
    obtain ⟨ad, q2, hel, hr, hb⟩ := hv_
    have hb : RepV μ1 x.body.d (.agg (x.body.cs q2).toArray) := hb
    refine elem_intro hel ?_
    intro r2
    refine call_gives (l14OnlyT_spec x.body hb) ?_
    refine ifnd (fun h => ret_plain (isF fun k => h (k.2 x (mem_at hx)))) (fun h => ?_)
    refine num64 (by omega) (by omega) ⟨i + 1, ⟨by omega, fun j y hj hy => ?_⟩, by omega, ⟨⟨rfl, rfl, rfl, rfl, trivial⟩, trivial, rfl, rfl⟩⟩
    rcases Nat.lt_or_ge j i with h6 | h6
    · exact hall j y h6 hy
    · obtain rfl : j = i := by omega
      rw [hx] at hy; cases hy; exact h
  · obtain rfl : i = p.rels.length := by omega
    exact ret_plain (isT ⟨hok, fun x hx => by
      have hv_ := List.mem_iff_getElem?.1 hx
      obtain ⟨j, hj⟩ := hv_
      exact hall j x (List.getElem?_eq_some_iff.1 hj).1 hj⟩)
theorem spec_IsPure_spec {p : Pg} {v : Value} (hp : RepV μ p.d v) (hw : p.d.wd) : Spec Tryz.prog 144 [v] μ fun r _ => r = .bool (decide p.Pure) := by
  have hv_ := Pg.inv hp
  obtain ⟨q, rfl, hrl⟩ := hv_
  refine Spec.mk Tryz.func144 (by kernel_rfl) ?_
  intro r1
  refine call_plain (l14AllT_spec hp hw) fun v1 μ1 hle1 hR => ?_
  obtain rfl := hR
  exact ret_plain rfl
/-! ### The program's side -/
theorem hasKindG1_spec {ff : FuncId} {K : Int → Prop} (hff : ∀ n, Gives Tryz.prog ff [.int .i64 n] μ (.bool (decide (K n)))) {H : Mem} {r3 : Nat} (r : Nat) (b : Bool) {g : Gl} {v : Value} (hv : RepV μ g.d v) (hne : r3 ≠ r) (h3 : H r3 = some (.cells #[.func (.func ff) #[] #[]] 238 (0, 0))) :
    SpecH Tryz.prog 303 [v, .pointer (some ⟨r, 0, none⟩), .pointer (some ⟨r3, 0, none⟩)] μ (boolOn H r b) fun r' μ' h' => r' = .tuple #[] ∧ μ' = μ ∧ h' = boolOn H r (b || decide (K g.kind)) := by
  have hv_ := Gl.inv hv
  obtain ⟨p, rfl, -, -⟩ := hv_
  refine SpecH.mk [] Tryz.func303 (by kernel_rfl) ?_
  intro r0
  refine own_intro [.bool b] rfl (box_at (set_self _ _ _)) ?_
  refine if_intro (fun hb => ?_) (fun hb => ?_)
  · refine sto_intro (h := boolOn H r b) (a := ⟨r, 0, none⟩) [.bool b] 4 (set_self _ _ _) rfl (Nat.le_refl _) ?_
    exact ret_plain ⟨rfl, rfl, by rw [hb]; exact Mem.set_set _ _ _ _⟩
  · refine own_intro [.func (.func ff) #[] #[]] rfl (box_at ((Mem.set_ne hne).trans h3)) ?_
    refine call_gives (hff _) ?_
    refine sto_intro (h := boolOn H r b) (a := ⟨r, 0, none⟩) [.bool b] 4 (set_self _ _ _) rfl (Nat.le_refl _) ?_
    exact ret_plain ⟨rfl, rfl, by rw [hb]; exact Mem.set_set _ _ _ _⟩
theorem or_foldG {K : Int → Prop} : ∀ (l : List Gl) (b : Bool), l.foldl (fun b g => b || decide (K g.kind)) b = (b || !decide (∀ x ∈ l, ¬ K x.kind))
  | [], b => by simp
  | a :: l, b => by
    rw [List.foldl_cons, or_foldG l]
    by_cases h : K a.kind <;> cases b <;> simp [h]
theorem hasKindG_spec {ff : FuncId} {K : Int → Prop} (hff : ∀ n, Gives Tryz.prog ff [.int .i64 n] μ (.bool (decide (K n)))) {g : Gl} {v : Value} (hv : RepV μ g.d v) : Spec Tryz.prog 233 [v, .func (.func ff) #[] #[]] μ fun r μ' => r = .bool (!decide (∀ x ∈ g.all, ¬ K x.kind)) ∧ μ' = μ := by
  have hv_ := Gl.inv hv
  obtain ⟨p, rfl, -, -⟩ := hv_
  refine Spec.mkO [3, 5] Tryz.func233 (by kernel_rfl) ?_
  intro r1 r3 hm3 ho3 r5 hm5 ho5
  have hne : r3 ≠ r5 := fun e => by
    subst e
    have h : Mem.set Mem.nil r3 _ r3 = none := ho5
    rw [Mem.set_at] at h; cases h
  refine sto_intro [.bool false] 4 (Mem.set_at _ _ _) rfl (Nat.le_refl _) ?_
  refine call_own (R := fun r μ' h' => r = .tuple #[] ∧ μ' = μ ∧ h' = boolOn (Mem.nil.set r3 (.cells #[.func (.func ff) #[] #[]] 238 (0, 0))) r5 (g.all.foldl (fun b g => b || decide (K g.kind)) false)) ?_ fun v μ' h' hle hap hR => ?_
  · have := eachGoal_rel (μ := μ) (fun b h => h = boolOn (Mem.nil.set r3 (.cells #[.func (.func ff) #[] #[]] 238 (0, 0))) r5 b) (fun b g => b || decide (K g.kind)) (fun _ => True) (k := 303) (caps := [.pointer (some ⟨r5, 0, none⟩), .pointer (some ⟨r3, 0, none⟩)])
      (fun s h x v _ hx hj => by subst hj; exact hasKindG1_spec hff r5 s hx hne (Mem.set_at _ _ _)) g false _ hv (fun _ _ => trivial) rfl
    have e : ∀ X : Mem, ((X.set r5 (.cells #[.bool false] 4 (0, 0))).set r5 (.cells #[.bool false] 4 (0, 0))) = boolOn X r5 false := fun X => Mem.set_set _ _ _ _
    rw [← e] at this
    exact this
  obtain ⟨rfl, e4, rfl⟩ := hR
  obtain rfl := e4.symm
  rw [or_foldG, Bool.false_or]
  refine own_intro [.bool (!decide (∀ x ∈ g.all, ¬ K x.kind))] rfl (box_at (set_self _ _ _)) ?_
  exact ret_plain ⟨congrArg (fun b => Value.bool (!b)) (decide_eq_decide.2 Iff.rfl), rfl⟩
theorem IsPure1_spec (n : Int) : Gives Tryz.prog 234 [.int .i64 n] μ (.bool (decide (ImpK n))) := by
  refine Spec.mk Tryz.func234 (by kernel_rfl) ?_
  refine ifnd (fun h0 => ?_) (fun h => ret_gives (isF fun k => k.1 h) rfl)
  refine ifnd (fun h1 => ?_) (fun h => ret_gives (isF fun k => k.2.1 h) rfl)
  refine ifnd (fun h2 => ?_) (fun h => ret_gives (isF fun k => k.2.2.1 h) rfl)
  refine ifnd (fun h7 => ?_) (fun h => ret_gives (isF fun k => k.2.2.2.1 h) rfl)
  refine ifnd (fun h8 => ?_) (fun h => ret_gives (isF fun k => k.2.2.2.2.1 h) rfl)
  refine ret_gives ?_ rfl
  refine isN (q := ImpK n) ⟨fun h9 => ⟨h0, h1, h2, h7, h8, h9⟩, fun k => k.2.2.2.2.2⟩
theorem impl_IsPure_spec {p : Pg} {v : Value} (hp : RepV μ p.d v) : Spec Tryz.prog 149 [v] μ fun r _ => r = .bool (decide p.Pure) := by
  have hp0 := hp
  have hv_ := Pg.inv hp
  obtain ⟨q, rfl, hrl⟩ := hv_
  have hn := maxLen_le hrl.max
  refine Spec.mk Tryz.func149 (by kernel_rfl) ?_
  intro r1
  refine call_plain (impl_ProgramOk_spec hp0) fun v1 μ1 hle1 hR => ?_
  obtain rfl := hR
  refine ifnd (fun hok => ret_plain (isF fun k => hok k.1)) (fun hok => ?_)
  have hkey : ∀ (i : Nat) r, p.rels[i]? = some r → ((∀ x ∈ r.body.all, ¬ ImpK x.kind) ↔ r.body.Pure) := fun i r hr => by
    have hsh := (hok.2 i r hr).body
    unfold ImpK
    constructor
    · intro k x hx
      have h1 := k x hx
      refine ⟨fun e => h1 (by omega), fun e => h1 (by omega)⟩
    · intro k x hx h1
      have h2 := k x hx
      have h3 := Gl.Sh.kinds _ hsh x hx
      unfold PureK at h2
      omega
  refine loop_intro (fun i : Nat => i ≤ p.rels.length ∧ ∀ (j : Nat) x, j < i → p.rels[j]? = some x → x.body.Pure)
    (fun i => ⟨[(9, .val (.slice q.1 p.rels.length q.2)), (10, .val (.int .i64 p.rels.length)), (11, .val (.int .i64 i))], [], 1, μ1, Mem.nil⟩) (fun i => p.rels.length - i)
    0 ⟨Nat.zero_le _, fun j x h => by omega⟩ (fun _ => ⟨rfl, rfl⟩) ⟨⟨rfl, rfl, rfl, trivial⟩, trivial, rfl, rfl⟩ ?_
  rintro i ⟨hi, hall⟩
  refine ifd (fun hlt => ?_) (fun hlt => ?_)
  · have hv_ := at_some (l := p.rels) (i := i) (by omega)
    obtain ⟨x, hx⟩ := hv_
    have hv_ := Rl.elemA (hrl.mono hle1) hx
    obtain ⟨ad, q2, hel, hr, hb⟩ := hv_
    have hb : RepV μ1 x.body.d (.agg (x.body.cs q2).toArray) := hb
    refine elem_intro hel ?_
    intro r2
    refine call_plain (hasKindG_spec (K := ImpK) IsPure1_spec hb) fun v1 μ2 hle2 hR => ?_
    obtain ⟨rfl, e⟩ := hR
    obtain rfl := e.symm
    refine if_intro (fun h => ret_plain (isF fun k => ?_)) (fun h => ?_)
    · have h2 := (hkey i x hx).2 (k.2 x (mem_at hx))
      rw [decide_eq_true h2] at h
      cases h
    · have hpos : x.body.Pure := (hkey i x hx).1 (Classical.byContradiction fun k => by rw [decide_eq_false k] at h; cases h)
      refine num64 (by omega) (by omega) ⟨i + 1, ⟨by omega, fun j y hj hy => ?_⟩, by omega, ⟨⟨rfl, rfl, rfl, trivial⟩, trivial, rfl, rfl⟩⟩
      rcases Nat.lt_or_ge j i with h6 | h6
      · exact hall j y h6 hy
      · obtain rfl : j = i := by omega
        rw [hx] at hy; cases hy; exact hpos
  · obtain rfl : i = p.rels.length := by omega
    exact ret_plain (isT ⟨hok, fun x hx => by
      have hv_ := List.mem_iff_getElem?.1 hx
      obtain ⟨j, hj⟩ := hv_
      exact hall j x (List.getElem?_eq_some_iff.1 hj).1 hj⟩)
end
end Go.Vx

