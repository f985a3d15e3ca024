/- Texts of the proof, part M4. -/
import Derived.Sort.AssemblyPlain
import Derived.Test.YtdkmmcmnffflaaaGreatM3
namespace Go.Vx
open Go.Proofs Classical
open Go.Sort
section
variable {h0 : Mem} {r : Nat} {ty : TypeId} {rest : List Value}
set_option maxHeartbeats 16000000 in
theorem pdqsort_spec {n cap : Nat} (hr : h0 r = none) (hn : n ≤ 1000000000000) : ∀ (m : Nat) (a b limit : Nat) (d : Array Int) (μ : Mem), b - a < m → a ≤ b → b ≤ n → d.size = n → limit ≤ 64 → Below ltInt a b d →
  SpecH Tryz.prog 260 [.slice (some ⟨r, 0, none⟩) n cap, .int .i64 a, .int .i64 b, .int .i64 limit] μ (RowI h0 r ty rest d) fun v _μ' h' => v = .tuple #[] ∧ ∃ d', PermIn a b d d' ∧ SortedIn ltInt a b d' ∧ h' = RowI h0 r ty rest d' := by
 intro m
 induction m with
 | zero => intro a b limit d μ h; omega
 | succ m ih =>
 intro a0 b0 limit0 d0 μ hm hab0 hb0 hd0 hl0 hB0
 refine SpecH.mk [] Tryz.func260 (by kernel_rfl) ?_
 refine lIn (fun p : Nat × Nat × Nat × Bool × Bool × Array Int × Mem => p.1 ≤ p.2.1 ∧ p.2.1 ≤ n ∧ p.2.1 - p.1 ≤ b0 - a0 ∧ p.2.2.1 ≤ 64 ∧ p.2.2.2.2.2.1.size = n ∧ Below ltInt p.1 p.2.1 p.2.2.2.2.2.1 ∧ μ.Le p.2.2.2.2.2.2 ∧ ∀ R, PermIn p.1 p.2.1 p.2.2.2.2.2.1 R → SortedIn ltInt p.1 p.2.1 R → PermIn a0 b0 d0 R ∧ SortedIn ltInt a0 b0 R)
  (fun (a, b, limit, wb, wp, d, μ') => ⟨[(0, .val (.slice (some ⟨r, 0, none⟩) n cap)), (1, .val (.int .i64 a)), (2, .val (.int .i64 b)), (3, .val (.int .i64 limit)), (8, .val (.bool wb)), (9, .val (.bool wp))], [], 0, μ', RowI h0 r ty rest d⟩) (fun p => p.2.1 - p.1)
  (a0, b0, limit0, true, true, d0, μ) ⟨hab0, hb0, Nat.le_refl _, hl0, hd0, hB0, Mem.Le.refl _, fun R h1 h2 => ⟨h1, h2⟩⟩ (fun (_, _, _, _, _, _, _) => ⟨rfl, rfl⟩) ⟨⟨rfl, rfl, rfl, rfl, rfl, rfl, trivial⟩, trivial, rfl, rfl⟩ ?_
 rintro ⟨a, b, limit, wb, wp, d, μ1⟩ ⟨hab, hb, hlen, hlim, hs, hB, hle, hfin⟩
 dsimp only at hab hb hlen hlim hs hB hle hfin
 refine nEq (x := ((b - a : Nat) : Int)) (by rw [wrap64 (by omega) (by omega)]; omega) ?_
 refine ifd (fun h12 => ?_) (fun h12 => ?_)
 ·refine cOw (insertionSort_spec hs hab hb hn) fun v μ' h' hle' hap hR => ?_
  obtain ⟨rfl, e1, rfl⟩ := hR
  have q := insertionSort_holds (lt := ltInt) swo_ltInt d a b hab (by omega)
  exact rPl ⟨rfl, _, (hfin _ q.1 q.2).1, (hfin _ q.1 q.2).2, rfl⟩
 refine ifd (fun hl => ?_) (fun hl => ?_)
 ·refine cOw (heapSort_spec hs (by omega) hb hn) fun v μ' h' hle' hap hR => ?_
  obtain ⟨rfl, e1, rfl⟩ := hR
  have q := heapSort_holds (lt := ltInt) swo_ltInt d a b hab (by omega)
  exact rPl ⟨rfl, _, (hfin _ q.1 q.2).1, (hfin _ q.1 q.2).2, rfl⟩
 cases wb with
 | false =>
  refine iIn (fun _ => ?_) (fun h => nomatch h)
  refine cOw (breakPatterns_spec hr hs (by omega) hb hn) fun v μ2 h' hle' hap hR => ?_
  obtain ⟨rfl, d1, p1, rfl⟩ := hR
  replace hB := hB.perm (by omega) p1
  replace hfin := fun R h1 h2 => hfin R (permIn_trans _ _ _ _ _ p1 h1) h2
  have hs1 : d1.size = n := p1.1.trans hs
  replace hle := hle.trans hle'
  clear hs p1 hle'
  refine nEq (x := ((limit - 1 : Nat) : Int)) (by rw [wrap64 (by omega) (by omega)]; omega) ?_
  refine cOw (choosePivot_spec hr hs1 (by omega) hb hn) fun v μ3 h' hle' hap hR => ?_
  obtain ⟨p, k, hp1, hp2, hk, rfl, rfl⟩ := hR
  replace hle := hle.trans hle'
  clear hle' hap
  refine ifd (fun hk2 => ?_) (fun hk2 => ?_)
  ·refine cOw (reverseRange_spec hs1 (by omega) hab hb hn) fun v μ4 h' hle' hap hR => ?_
   obtain ⟨rfl, e1, rfl⟩ := hR
   obtain rfl := e1.symm
   clear hle' hap
   have p2 := reverseRange_holds d1 a b hab (by omega)
   generalize reverseRange d1 a b = d2 at *
   replace hB := hB.perm (by omega) p2
   replace hfin := fun R h1 h2 => hfin R (permIn_trans _ _ _ _ _ p2 h1) h2
   have hs2 : d2.size = n := p2.1.trans hs1
   clear p2
   refine nEq (x := ((b - 1 : Nat) : Int)) (by rw [wrap64 (by omega) (by omega)]; omega) ?_
   refine nEq (x := ((p - a : Nat) : Int)) (by rw [wrap64 (by omega) (by omega)]; omega) ?_
   refine nEq (x := (((b - 1) - (p - a) : Nat) : Int)) (by rw [wrap64 (by omega) (by omega)]; omega) ?_
   refine iIn (fun h => nomatch h) (fun _ => ?_)
   refine ifd (fun ha0 => ?_) (fun ha0 => ?_)
   ·refine nEq (x := ((a - 1 : Nat) : Int)) (by rw [wrap64 (by omega) (by omega)]; omega) ?_
    refine idxI (a - 1) (by omega) (by omega) ?_
    refine rdI (by omega) ?_
    refine idxI ((b - 1) - (p - a)) (by omega) (by omega) ?_
    refine rdI (by omega) ?_
    refine cGv (Less_spec _ _) ?_
    refine iIn (fun hnl => ?_) (fun hnl => ?_)
    ·refine cOw (partitionEqual_spec (pivot := (b - 1) - (p - a)) hs2 (by omega) (by omega) hb hn) fun v μ6 h' hle' hap hR => ?_
     obtain ⟨rfl, e1, rfl⟩ := hR
     obtain rfl := e1.symm
     obtain ⟨mid, d4, hx⟩ : ∃ mid d4, partitionEqual ltInt d2 a b ((b - 1) - (p - a)) = (mid, d4) := ⟨_, _, rfl⟩
     rw [hx]
     have q := round_eq swo_ltInt (partitionEqual_holds ltInt) (by omega) (by omega) (by omega) (by omega) hB (by simpa using hnl) hx
     have qa := q.1
     exact ⟨(mid, b, limit - 1, false, wp, d4, _), ⟨q.2.1, hb, by dsimp only; omega, by dsimp only; omega, q.2.2.1.trans hs2, q.2.2.2.1, hle, fun R h1 h2 => hfin R (q.2.2.2.2 R h1 h2).1 (q.2.2.2.2 R h1 h2).2⟩, by dsimp only; omega, ⟨⟨rfl, rfl, rfl, rfl, rfl, rfl, trivial⟩, trivial, rfl, rfl⟩⟩
    ·refine cOw (partition_spec (pivot := (b - 1) - (p - a)) hs2 (by omega) (by omega) hb hn) fun v μ6 h' hle' hap hR => ?_
     obtain ⟨⟨ap, rfl⟩, e1, rfl⟩ := hR
     obtain rfl := e1.symm
     obtain ⟨mid, ap', d4, hx⟩ : ∃ mid ap' d4, partition ltInt d2 a b ((b - 1) - (p - a)) = (mid, ap', d4) := ⟨_, _, _, rfl⟩
     rw [hx]
     have w_ := round_part swo_ltInt (partition_holds ltInt) (by omega) (by omega) (by omega) hB hx
     obtain ⟨q1, q2, q3, q4, q5, q6, q7⟩ := w_
     refine nEq (x := ((mid - a : Nat) : Int)) (by rw [wrap64 (by omega) (by omega)]; omega) ?_
     refine nEq (x := ((b - mid : Nat) : Int)) (by rw [wrap64 (by omega) (by omega)]; omega) ?_
     refine need_intro (by decide) ?_
     refine nEq (x := (((b - a) / 8 : Nat) : Int)) (by rw [Int.tdiv_eq_ediv_of_nonneg (by omega), wrap64 (by omega) (by omega)]; omega) ?_
     refine ifd (fun hlt => ?_) (fun hlt => ?_)
     ·refine cOw (ih a mid (limit - 1) d4 _ (by omega) (by omega) (by omega) (q3.trans hs2) (by omega) q4) fun v μ7 h' hle7 hap hR => ?_
      obtain ⟨rfl, L, g1, g2, rfl⟩ := hR
      have w_ := q6 L g1 g2
      obtain ⟨g3, g4⟩ := w_
      refine nEq (x := ((mid + 1 : Nat) : Int)) (by rw [wrap64 (by omega) (by omega)]; omega) ?_
      exact ⟨(mid + 1, b, limit - 1, _, ap, L, μ7), ⟨by dsimp only; omega, hb, by dsimp only; omega, by dsimp only; omega, g1.1.trans (q3.trans hs2), g3, hle.trans hle7, fun R h1 h2 => hfin R (g4 R h1 h2).1 (g4 R h1 h2).2⟩, by dsimp only; omega, ⟨⟨rfl, rfl, rfl, rfl, rfl, rfl, trivial⟩, trivial, rfl, rfl⟩⟩
     ·refine nEq (x := ((mid + 1 : Nat) : Int)) (by rw [wrap64 (by omega) (by omega)]; omega) ?_
      refine cOw (ih (mid + 1) b (limit - 1) d4 _ (by omega) (by omega) (by omega) (q3.trans hs2) (by omega) q5) fun v μ7 h' hle7 hap hR => ?_
      obtain ⟨rfl, L, g1, g2, rfl⟩ := hR
      have w_ := q7 L g1 g2
      obtain ⟨g3, g4⟩ := w_
      exact ⟨(a, mid, limit - 1, _, ap, L, μ7), ⟨by dsimp only; omega, by dsimp only; omega, by dsimp only; omega, by dsimp only; omega, g1.1.trans (q3.trans hs2), g3, hle.trans hle7, fun R h1 h2 => hfin R (g4 R h1 h2).1 (g4 R h1 h2).2⟩, by dsimp only; omega, ⟨⟨rfl, rfl, rfl, rfl, rfl, rfl, trivial⟩, trivial, rfl, rfl⟩⟩
   ·refine cOw (partition_spec (pivot := (b - 1) - (p - a)) hs2 (by omega) (by omega) hb hn) fun v μ6 h' hle' hap hR => ?_
    obtain ⟨⟨ap, rfl⟩, e1, rfl⟩ := hR
    obtain rfl := e1.symm
    obtain ⟨mid, ap', d4, hx⟩ : ∃ mid ap' d4, partition ltInt d2 a b ((b - 1) - (p - a)) = (mid, ap', d4) := ⟨_, _, _, rfl⟩
    rw [hx]
    have w_ := round_part swo_ltInt (partition_holds ltInt) (by omega) (by omega) (by omega) hB hx
    obtain ⟨q1, q2, q3, q4, q5, q6, q7⟩ := w_
    refine nEq (x := ((mid - a : Nat) : Int)) (by rw [wrap64 (by omega) (by omega)]; omega) ?_
    refine nEq (x := ((b - mid : Nat) : Int)) (by rw [wrap64 (by omega) (by omega)]; omega) ?_
    refine need_intro (by decide) ?_
    refine nEq (x := (((b - a) / 8 : Nat) : Int)) (by rw [Int.tdiv_eq_ediv_of_nonneg (by omega), wrap64 (by omega) (by omega)]; omega) ?_
    refine ifd (fun hlt => ?_) (fun hlt => ?_)
    ·refine cOw (ih a mid (limit - 1) d4 _ (by omega) (by omega) (by omega) (q3.trans hs2) (by omega) q4) fun v μ7 h' hle7 hap hR => ?_
     obtain ⟨rfl, L, g1, g2, rfl⟩ := hR
     have w_ := q6 L g1 g2
     obtain ⟨g3, g4⟩ := w_
     refine nEq (x := ((mid + 1 : Nat) : Int)) (by rw [wrap64 (by omega) (by omega)]; omega) ?_
     exact ⟨(mid + 1, b, limit - 1, _, ap, L, μ7), ⟨by dsimp only; omega, hb, by dsimp only; omega, by dsimp only; omega, g1.1.trans (q3.trans hs2), g3, hle.trans hle7, fun R h1 h2 => hfin R (g4 R h1 h2).1 (g4 R h1 h2).2⟩, by dsimp only; omega, ⟨⟨rfl, rfl, rfl, rfl, rfl, rfl, trivial⟩, trivial, rfl, rfl⟩⟩
    ·refine nEq (x := ((mid + 1 : Nat) : Int)) (by rw [wrap64 (by omega) (by omega)]; omega) ?_
     refine cOw (ih (mid + 1) b (limit - 1) d4 _ (by omega) (by omega) (by omega) (q3.trans hs2) (by omega) q5) fun v μ7 h' hle7 hap hR => ?_
     obtain ⟨rfl, L, g1, g2, rfl⟩ := hR
     have w_ := q7 L g1 g2
     obtain ⟨g3, g4⟩ := w_
     exact ⟨(a, mid, limit - 1, _, ap, L, μ7), ⟨by dsimp only; omega, by dsimp only; omega, by dsimp only; omega, by dsimp only; omega, g1.1.trans (q3.trans hs2), g3, hle.trans hle7, fun R h1 h2 => hfin R (g4 R h1 h2).1 (g4 R h1 h2).2⟩, by dsimp only; omega, ⟨⟨rfl, rfl, rfl, rfl, rfl, rfl, trivial⟩, trivial, rfl, rfl⟩⟩
  ·refine iIn (fun h => nomatch h) (fun _ => ?_)
   refine ifd (fun ha0 => ?_) (fun ha0 => ?_)
   ·refine nEq (x := ((a - 1 : Nat) : Int)) (by rw [wrap64 (by omega) (by omega)]; omega) ?_
    refine idxI (a - 1) (by omega) (by omega) ?_
    refine rdI (by omega) ?_
    refine idxI (p) (by omega) (by omega) ?_
    refine rdI (by omega) ?_
    refine cGv (Less_spec _ _) ?_
    refine iIn (fun hnl => ?_) (fun hnl => ?_)
    ·refine cOw (partitionEqual_spec (pivot := p) hs1 (by omega) (by omega) hb hn) fun v μ6 h' hle' hap hR => ?_
     obtain ⟨rfl, e1, rfl⟩ := hR
     obtain rfl := e1.symm
     obtain ⟨mid, d4, hx⟩ : ∃ mid d4, partitionEqual ltInt d1 a b (p) = (mid, d4) := ⟨_, _, rfl⟩
     rw [hx]
     have q := round_eq swo_ltInt (partitionEqual_holds ltInt) (by omega) (by omega) (by omega) (by omega) hB (by simpa using hnl) hx
     have qa := q.1
     exact ⟨(mid, b, limit - 1, false, wp, d4, _), ⟨q.2.1, hb, by dsimp only; omega, by dsimp only; omega, q.2.2.1.trans hs1, q.2.2.2.1, hle, fun R h1 h2 => hfin R (q.2.2.2.2 R h1 h2).1 (q.2.2.2.2 R h1 h2).2⟩, by dsimp only; omega, ⟨⟨rfl, rfl, rfl, rfl, rfl, rfl, trivial⟩, trivial, rfl, rfl⟩⟩
    ·refine cOw (partition_spec (pivot := p) hs1 (by omega) (by omega) hb hn) fun v μ6 h' hle' hap hR => ?_
     obtain ⟨⟨ap, rfl⟩, e1, rfl⟩ := hR
     obtain rfl := e1.symm
     obtain ⟨mid, ap', d4, hx⟩ : ∃ mid ap' d4, partition ltInt d1 a b (p) = (mid, ap', d4) := ⟨_, _, _, rfl⟩
     rw [hx]
     have w_ := round_part swo_ltInt (partition_holds ltInt) (by omega) (by omega) (by omega) hB hx
     obtain ⟨q1, q2, q3, q4, q5, q6, q7⟩ := w_
     refine nEq (x := ((mid - a : Nat) : Int)) (by rw [wrap64 (by omega) (by omega)]; omega) ?_
     refine nEq (x := ((b - mid : Nat) : Int)) (by rw [wrap64 (by omega) (by omega)]; omega) ?_
     refine need_intro (by decide) ?_
     refine nEq (x := (((b - a) / 8 : Nat) : Int)) (by rw [Int.tdiv_eq_ediv_of_nonneg (by omega), wrap64 (by omega) (by omega)]; omega) ?_
     refine ifd (fun hlt => ?_) (fun hlt => ?_)
     ·refine cOw (ih a mid (limit - 1) d4 _ (by omega) (by omega) (by omega) (q3.trans hs1) (by omega) q4) fun v μ7 h' hle7 hap hR => ?_
      obtain ⟨rfl, L, g1, g2, rfl⟩ := hR
      have w_ := q6 L g1 g2
      obtain ⟨g3, g4⟩ := w_
      refine nEq (x := ((mid + 1 : Nat) : Int)) (by rw [wrap64 (by omega) (by omega)]; omega) ?_
      exact ⟨(mid + 1, b, limit - 1, _, ap, L, μ7), ⟨by dsimp only; omega, hb, by dsimp only; omega, by dsimp only; omega, g1.1.trans (q3.trans hs1), g3, hle.trans hle7, fun R h1 h2 => hfin R (g4 R h1 h2).1 (g4 R h1 h2).2⟩, by dsimp only; omega, ⟨⟨rfl, rfl, rfl, rfl, rfl, rfl, trivial⟩, trivial, rfl, rfl⟩⟩
     ·refine nEq (x := ((mid + 1 : Nat) : Int)) (by rw [wrap64 (by omega) (by omega)]; omega) ?_
      refine cOw (ih (mid + 1) b (limit - 1) d4 _ (by omega) (by omega) (by omega) (q3.trans hs1) (by omega) q5) fun v μ7 h' hle7 hap hR => ?_
      obtain ⟨rfl, L, g1, g2, rfl⟩ := hR
      have w_ := q7 L g1 g2
      obtain ⟨g3, g4⟩ := w_
      exact ⟨(a, mid, limit - 1, _, ap, L, μ7), ⟨by dsimp only; omega, by dsimp only; omega, by dsimp only; omega, by dsimp only; omega, g1.1.trans (q3.trans hs1), g3, hle.trans hle7, fun R h1 h2 => hfin R (g4 R h1 h2).1 (g4 R h1 h2).2⟩, by dsimp only; omega, ⟨⟨rfl, rfl, rfl, rfl, rfl, rfl, trivial⟩, trivial, rfl, rfl⟩⟩
   ·refine cOw (partition_spec (pivot := p) hs1 (by omega) (by omega) hb hn) fun v μ6 h' hle' hap hR => ?_
    obtain ⟨⟨ap, rfl⟩, e1, rfl⟩ := hR
    obtain rfl := e1.symm
    obtain ⟨mid, ap', d4, hx⟩ : ∃ mid ap' d4, partition ltInt d1 a b (p) = (mid, ap', d4) := ⟨_, _, _, rfl⟩
    rw [hx]
    have w_ := round_part swo_ltInt (partition_holds ltInt) (by omega) (by omega) (by omega) hB hx
    obtain ⟨q1, q2, q3, q4, q5, q6, q7⟩ := w_
    refine nEq (x := ((mid - a : Nat) : Int)) (by rw [wrap64 (by omega) (by omega)]; omega) ?_
    refine nEq (x := ((b - mid : Nat) : Int)) (by rw [wrap64 (by omega) (by omega)]; omega) ?_
    refine need_intro (by decide) ?_
    refine nEq (x := (((b - a) / 8 : Nat) : Int)) (by rw [Int.tdiv_eq_ediv_of_nonneg (by omega), wrap64 (by omega) (by omega)]; omega) ?_
    refine ifd (fun hlt => ?_) (fun hlt => ?_)
    ·refine cOw (ih a mid (limit - 1) d4 _ (by omega) (by omega) (by omega) (q3.trans hs1) (by omega) q4) fun v μ7 h' hle7 hap hR => ?_
     obtain ⟨rfl, L, g1, g2, rfl⟩ := hR
     have w_ := q6 L g1 g2
     obtain ⟨g3, g4⟩ := w_
     refine nEq (x := ((mid + 1 : Nat) : Int)) (by rw [wrap64 (by omega) (by omega)]; omega) ?_
     exact ⟨(mid + 1, b, limit - 1, _, ap, L, μ7), ⟨by dsimp only; omega, hb, by dsimp only; omega, by dsimp only; omega, g1.1.trans (q3.trans hs1), g3, hle.trans hle7, fun R h1 h2 => hfin R (g4 R h1 h2).1 (g4 R h1 h2).2⟩, by dsimp only; omega, ⟨⟨rfl, rfl, rfl, rfl, rfl, rfl, trivial⟩, trivial, rfl, rfl⟩⟩
    ·refine nEq (x := ((mid + 1 : Nat) : Int)) (by rw [wrap64 (by omega) (by omega)]; omega) ?_
     refine cOw (ih (mid + 1) b (limit - 1) d4 _ (by omega) (by omega) (by omega) (q3.trans hs1) (by omega) q5) fun v μ7 h' hle7 hap hR => ?_
     obtain ⟨rfl, L, g1, g2, rfl⟩ := hR
     have w_ := q7 L g1 g2
     obtain ⟨g3, g4⟩ := w_
     exact ⟨(a, mid, limit - 1, _, ap, L, μ7), ⟨by dsimp only; omega, by dsimp only; omega, by dsimp only; omega, by dsimp only; omega, g1.1.trans (q3.trans hs1), g3, hle.trans hle7, fun R h1 h2 => hfin R (g4 R h1 h2).1 (g4 R h1 h2).2⟩, by dsimp only; omega, ⟨⟨rfl, rfl, rfl, rfl, rfl, rfl, trivial⟩, trivial, rfl, rfl⟩⟩
 | true =>
  refine iIn (fun h => nomatch h) (fun _ => ?_)
  have hs1 := hs
  refine cOw (choosePivot_spec hr hs1 (by omega) hb hn) fun v μ3 h' hle' hap hR => ?_
  obtain ⟨p, k, hp1, hp2, hk, rfl, rfl⟩ := hR
  replace hle := hle.trans hle'
  clear hle' hap
  refine ifd (fun hk2 => ?_) (fun hk2 => ?_)
  ·refine cOw (reverseRange_spec hs1 (by omega) hab hb hn) fun v μ4 h' hle' hap hR => ?_
   obtain ⟨rfl, e1, rfl⟩ := hR
   obtain rfl := e1.symm
   clear hle' hap
   have p2 := reverseRange_holds d a b hab (by omega)
   generalize reverseRange d a b = d2 at *
   replace hB := hB.perm (by omega) p2
   replace hfin := fun R h1 h2 => hfin R (permIn_trans _ _ _ _ _ p2 h1) h2
   have hs2 : d2.size = n := p2.1.trans hs1
   clear p2
   refine nEq (x := ((b - 1 : Nat) : Int)) (by rw [wrap64 (by omega) (by omega)]; omega) ?_
   refine nEq (x := ((p - a : Nat) : Int)) (by rw [wrap64 (by omega) (by omega)]; omega) ?_
   refine nEq (x := (((b - 1) - (p - a) : Nat) : Int)) (by rw [wrap64 (by omega) (by omega)]; omega) ?_
   refine iIn (fun _ => ?_) (fun h => nomatch h)
   refine iIn (fun hwp => ?_) (fun hwp => ?_)
   ·refine ifd (fun _ => ?_) (fun h => absurd rfl h)
    refine cOw (partialInsertionSort_spec hs2 (by omega) hb hn) fun v μ5 h' hle' hap hR => ?_
    obtain ⟨rfl, e1, rfl⟩ := hR
    obtain rfl := e1.symm
    clear hle' hap
    have q := partialInsertionSort_holds (lt := ltInt) swo_ltInt d2 a b (by omega) (by omega) hB
    refine iIn (fun hok => ?_) (fun hok => ?_)
    ·exact rPl ⟨rfl, _, (hfin _ q.1 (q.2 hok)).1, (hfin _ q.1 (q.2 hok)).2, rfl⟩
    ·have q1 := q.1
     clear q hok
     generalize (partialInsertionSort ltInt d2 a b).1 = d3 at *
     replace hB := hB.perm (by omega) q1
     replace hfin := fun R h1 h2 => hfin R (permIn_trans _ _ _ _ _ q1 h1) h2
     have hs3 : d3.size = n := q1.1.trans hs2
     clear q1
     refine ifd (fun ha0 => ?_) (fun ha0 => ?_)
     ·refine nEq (x := ((a - 1 : Nat) : Int)) (by rw [wrap64 (by omega) (by omega)]; omega) ?_
      refine idxI (a - 1) (by omega) (by omega) ?_
      refine rdI (by omega) ?_
      refine idxI ((b - 1) - (p - a)) (by omega) (by omega) ?_
      refine rdI (by omega) ?_
      refine cGv (Less_spec _ _) ?_
      refine iIn (fun hnl => ?_) (fun hnl => ?_)
      ·refine cOw (partitionEqual_spec (pivot := (b - 1) - (p - a)) hs3 (by omega) (by omega) hb hn) fun v μ6 h' hle' hap hR => ?_
       obtain ⟨rfl, e1, rfl⟩ := hR
       obtain rfl := e1.symm
       obtain ⟨mid, d4, hx⟩ : ∃ mid d4, partitionEqual ltInt d3 a b ((b - 1) - (p - a)) = (mid, d4) := ⟨_, _, rfl⟩
       rw [hx]
       have q := round_eq swo_ltInt (partitionEqual_holds ltInt) (by omega) (by omega) (by omega) (by omega) hB (by simpa using hnl) hx
       have qa := q.1
       exact ⟨(mid, b, limit, true, wp, d4, _), ⟨q.2.1, hb, by dsimp only; omega, by dsimp only; omega, q.2.2.1.trans hs3, q.2.2.2.1, hle, fun R h1 h2 => hfin R (q.2.2.2.2 R h1 h2).1 (q.2.2.2.2 R h1 h2).2⟩, by dsimp only; omega, ⟨⟨rfl, rfl, rfl, rfl, rfl, rfl, trivial⟩, trivial, rfl, rfl⟩⟩
      ·refine cOw (partition_spec (pivot := (b - 1) - (p - a)) hs3 (by omega) (by omega) hb hn) fun v μ6 h' hle' hap hR => ?_
       obtain ⟨⟨ap, rfl⟩, e1, rfl⟩ := hR
       obtain rfl := e1.symm
       obtain ⟨mid, ap', d4, hx⟩ : ∃ mid ap' d4, partition ltInt d3 a b ((b - 1) - (p - a)) = (mid, ap', d4) := ⟨_, _, _, rfl⟩
       rw [hx]
       have w_ := round_part swo_ltInt (partition_holds ltInt) (by omega) (by omega) (by omega) hB hx
       obtain ⟨q1, q2, q3, q4, q5, q6, q7⟩ := w_
       refine nEq (x := ((mid - a : Nat) : Int)) (by rw [wrap64 (by omega) (by omega)]; omega) ?_
       refine nEq (x := ((b - mid : Nat) : Int)) (by rw [wrap64 (by omega) (by omega)]; omega) ?_
       refine need_intro (by decide) ?_
       refine nEq (x := (((b - a) / 8 : Nat) : Int)) (by rw [Int.tdiv_eq_ediv_of_nonneg (by omega), wrap64 (by omega) (by omega)]; omega) ?_
       refine ifd (fun hlt => ?_) (fun hlt => ?_)
       ·refine cOw (ih a mid (limit) d4 _ (by omega) (by omega) (by omega) (q3.trans hs3) (by omega) q4) fun v μ7 h' hle7 hap hR => ?_
        obtain ⟨rfl, L, g1, g2, rfl⟩ := hR
        have w_ := q6 L g1 g2
        obtain ⟨g3, g4⟩ := w_
        refine nEq (x := ((mid + 1 : Nat) : Int)) (by rw [wrap64 (by omega) (by omega)]; omega) ?_
        exact ⟨(mid + 1, b, limit, _, ap, L, μ7), ⟨by dsimp only; omega, hb, by dsimp only; omega, by dsimp only; omega, g1.1.trans (q3.trans hs3), g3, hle.trans hle7, fun R h1 h2 => hfin R (g4 R h1 h2).1 (g4 R h1 h2).2⟩, by dsimp only; omega, ⟨⟨rfl, rfl, rfl, rfl, rfl, rfl, trivial⟩, trivial, rfl, rfl⟩⟩
       ·refine nEq (x := ((mid + 1 : Nat) : Int)) (by rw [wrap64 (by omega) (by omega)]; omega) ?_
        refine cOw (ih (mid + 1) b (limit) d4 _ (by omega) (by omega) (by omega) (q3.trans hs3) (by omega) q5) fun v μ7 h' hle7 hap hR => ?_
        obtain ⟨rfl, L, g1, g2, rfl⟩ := hR
        have w_ := q7 L g1 g2
        obtain ⟨g3, g4⟩ := w_
        exact ⟨(a, mid, limit, _, ap, L, μ7), ⟨by dsimp only; omega, by dsimp only; omega, by dsimp only; omega, by dsimp only; omega, g1.1.trans (q3.trans hs3), g3, hle.trans hle7, fun R h1 h2 => hfin R (g4 R h1 h2).1 (g4 R h1 h2).2⟩, by dsimp only; omega, ⟨⟨rfl, rfl, rfl, rfl, rfl, rfl, trivial⟩, trivial, rfl, rfl⟩⟩
     ·refine cOw (partition_spec (pivot := (b - 1) - (p - a)) hs3 (by omega) (by omega) hb hn) fun v μ6 h' hle' hap hR => ?_
      obtain ⟨⟨ap, rfl⟩, e1, rfl⟩ := hR
      obtain rfl := e1.symm
      obtain ⟨mid, ap', d4, hx⟩ : ∃ mid ap' d4, partition ltInt d3 a b ((b - 1) - (p - a)) = (mid, ap', d4) := ⟨_, _, _, rfl⟩
      rw [hx]
      have w_ := round_part swo_ltInt (partition_holds ltInt) (by omega) (by omega) (by omega) hB hx
      obtain ⟨q1, q2, q3, q4, q5, q6, q7⟩ := w_
      refine nEq (x := ((mid - a : Nat) : Int)) (by rw [wrap64 (by omega) (by omega)]; omega) ?_
      refine nEq (x := ((b - mid : Nat) : Int)) (by rw [wrap64 (by omega) (by omega)]; omega) ?_
      refine need_intro (by decide) ?_
      refine nEq (x := (((b - a) / 8 : Nat) : Int)) (by rw [Int.tdiv_eq_ediv_of_nonneg (by omega), wrap64 (by omega) (by omega)]; omega) ?_
      refine ifd (fun hlt => ?_) (fun hlt => ?_)
      ·refine cOw (ih a mid (limit) d4 _ (by omega) (by omega) (by omega) (q3.trans hs3) (by omega) q4) fun v μ7 h' hle7 hap hR => ?_
       obtain ⟨rfl, L, g1, g2, rfl⟩ := hR
       have w_ := q6 L g1 g2
       obtain ⟨g3, g4⟩ := w_
       refine nEq (x := ((mid + 1 : Nat) : Int)) (by rw [wrap64 (by omega) (by omega)]; omega) ?_
       exact ⟨(mid + 1, b, limit, _, ap, L, μ7), ⟨by dsimp only; omega, hb, by dsimp only; omega, by dsimp only; omega, g1.1.trans (q3.trans hs3), g3, hle.trans hle7, fun R h1 h2 => hfin R (g4 R h1 h2).1 (g4 R h1 h2).2⟩, by dsimp only; omega, ⟨⟨rfl, rfl, rfl, rfl, rfl, rfl, trivial⟩, trivial, rfl, rfl⟩⟩
      ·refine nEq (x := ((mid + 1 : Nat) : Int)) (by rw [wrap64 (by omega) (by omega)]; omega) ?_
       refine cOw (ih (mid + 1) b (limit) d4 _ (by omega) (by omega) (by omega) (q3.trans hs3) (by omega) q5) fun v μ7 h' hle7 hap hR => ?_
       obtain ⟨rfl, L, g1, g2, rfl⟩ := hR
       have w_ := q7 L g1 g2
       obtain ⟨g3, g4⟩ := w_
       exact ⟨(a, mid, limit, _, ap, L, μ7), ⟨by dsimp only; omega, by dsimp only; omega, by dsimp only; omega, by dsimp only; omega, g1.1.trans (q3.trans hs3), g3, hle.trans hle7, fun R h1 h2 => hfin R (g4 R h1 h2).1 (g4 R h1 h2).2⟩, by dsimp only; omega, ⟨⟨rfl, rfl, rfl, rfl, rfl, rfl, trivial⟩, trivial, rfl, rfl⟩⟩
   ·refine ifd (fun ha0 => ?_) (fun ha0 => ?_)
    ·refine nEq (x := ((a - 1 : Nat) : Int)) (by rw [wrap64 (by omega) (by omega)]; omega) ?_
     refine idxI (a - 1) (by omega) (by omega) ?_
     refine rdI (by omega) ?_
     refine idxI ((b - 1) - (p - a)) (by omega) (by omega) ?_
     refine rdI (by omega) ?_
     refine cGv (Less_spec _ _) ?_
     refine iIn (fun hnl => ?_) (fun hnl => ?_)
     ·refine cOw (partitionEqual_spec (pivot := (b - 1) - (p - a)) hs2 (by omega) (by omega) hb hn) fun v μ6 h' hle' hap hR => ?_
      obtain ⟨rfl, e1, rfl⟩ := hR
      obtain rfl := e1.symm
      obtain ⟨mid, d4, hx⟩ : ∃ mid d4, partitionEqual ltInt d2 a b ((b - 1) - (p - a)) = (mid, d4) := ⟨_, _, rfl⟩
      rw [hx]
      have q := round_eq swo_ltInt (partitionEqual_holds ltInt) (by omega) (by omega) (by omega) (by omega) hB (by simpa using hnl) hx
      have qa := q.1
      exact ⟨(mid, b, limit, true, wp, d4, _), ⟨q.2.1, hb, by dsimp only; omega, by dsimp only; omega, q.2.2.1.trans hs2, q.2.2.2.1, hle, fun R h1 h2 => hfin R (q.2.2.2.2 R h1 h2).1 (q.2.2.2.2 R h1 h2).2⟩, by dsimp only; omega, ⟨⟨rfl, rfl, rfl, rfl, rfl, rfl, trivial⟩, trivial, rfl, rfl⟩⟩
     ·refine cOw (partition_spec (pivot := (b - 1) - (p - a)) hs2 (by omega) (by omega) hb hn) fun v μ6 h' hle' hap hR => ?_
      obtain ⟨⟨ap, rfl⟩, e1, rfl⟩ := hR
      obtain rfl := e1.symm
      obtain ⟨mid, ap', d4, hx⟩ : ∃ mid ap' d4, partition ltInt d2 a b ((b - 1) - (p - a)) = (mid, ap', d4) := ⟨_, _, _, rfl⟩
      rw [hx]
      have w_ := round_part swo_ltInt (partition_holds ltInt) (by omega) (by omega) (by omega) hB hx
      obtain ⟨q1, q2, q3, q4, q5, q6, q7⟩ := w_
      refine nEq (x := ((mid - a : Nat) : Int)) (by rw [wrap64 (by omega) (by omega)]; omega) ?_
      refine nEq (x := ((b - mid : Nat) : Int)) (by rw [wrap64 (by omega) (by omega)]; omega) ?_
      refine need_intro (by decide) ?_
      refine nEq (x := (((b - a) / 8 : Nat) : Int)) (by rw [Int.tdiv_eq_ediv_of_nonneg (by omega), wrap64 (by omega) (by omega)]; omega) ?_
      refine ifd (fun hlt => ?_) (fun hlt => ?_)
      ·refine cOw (ih a mid (limit) d4 _ (by omega) (by omega) (by omega) (q3.trans hs2) (by omega) q4) fun v μ7 h' hle7 hap hR => ?_
       obtain ⟨rfl, L, g1, g2, rfl⟩ := hR
       have w_ := q6 L g1 g2
       obtain ⟨g3, g4⟩ := w_
       refine nEq (x := ((mid + 1 : Nat) : Int)) (by rw [wrap64 (by omega) (by omega)]; omega) ?_
       exact ⟨(mid + 1, b, limit, _, ap, L, μ7), ⟨by dsimp only; omega, hb, by dsimp only; omega, by dsimp only; omega, g1.1.trans (q3.trans hs2), g3, hle.trans hle7, fun R h1 h2 => hfin R (g4 R h1 h2).1 (g4 R h1 h2).2⟩, by dsimp only; omega, ⟨⟨rfl, rfl, rfl, rfl, rfl, rfl, trivial⟩, trivial, rfl, rfl⟩⟩
      ·refine nEq (x := ((mid + 1 : Nat) : Int)) (by rw [wrap64 (by omega) (by omega)]; omega) ?_
       refine cOw (ih (mid + 1) b (limit) d4 _ (by omega) (by omega) (by omega) (q3.trans hs2) (by omega) q5) fun v μ7 h' hle7 hap hR => ?_
       obtain ⟨rfl, L, g1, g2, rfl⟩ := hR
       have w_ := q7 L g1 g2
       obtain ⟨g3, g4⟩ := w_
       exact ⟨(a, mid, limit, _, ap, L, μ7), ⟨by dsimp only; omega, by dsimp only; omega, by dsimp only; omega, by dsimp only; omega, g1.1.trans (q3.trans hs2), g3, hle.trans hle7, fun R h1 h2 => hfin R (g4 R h1 h2).1 (g4 R h1 h2).2⟩, by dsimp only; omega, ⟨⟨rfl, rfl, rfl, rfl, rfl, rfl, trivial⟩, trivial, rfl, rfl⟩⟩
    ·refine cOw (partition_spec (pivot := (b - 1) - (p - a)) hs2 (by omega) (by omega) hb hn) fun v μ6 h' hle' hap hR => ?_
     obtain ⟨⟨ap, rfl⟩, e1, rfl⟩ := hR
     obtain rfl := e1.symm
     obtain ⟨mid, ap', d4, hx⟩ : ∃ mid ap' d4, partition ltInt d2 a b ((b - 1) - (p - a)) = (mid, ap', d4) := ⟨_, _, _, rfl⟩
     rw [hx]
     have w_ := round_part swo_ltInt (partition_holds ltInt) (by omega) (by omega) (by omega) hB hx
     obtain ⟨q1, q2, q3, q4, q5, q6, q7⟩ := w_
     refine nEq (x := ((mid - a : Nat) : Int)) (by rw [wrap64 (by omega) (by omega)]; omega) ?_
     refine nEq (x := ((b - mid : Nat) : Int)) (by rw [wrap64 (by omega) (by omega)]; omega) ?_
     refine need_intro (by decide) ?_
     refine nEq (x := (((b - a) / 8 : Nat) : Int)) (by rw [Int.tdiv_eq_ediv_of_nonneg (by omega), wrap64 (by omega) (by omega)]; omega) ?_
     refine ifd (fun hlt => ?_) (fun hlt => ?_)
     ·refine cOw (ih a mid (limit) d4 _ (by omega) (by omega) (by omega) (q3.trans hs2) (by omega) q4) fun v μ7 h' hle7 hap hR => ?_
      obtain ⟨rfl, L, g1, g2, rfl⟩ := hR
      have w_ := q6 L g1 g2
      obtain ⟨g3, g4⟩ := w_
      refine nEq (x := ((mid + 1 : Nat) : Int)) (by rw [wrap64 (by omega) (by omega)]; omega) ?_
      exact ⟨(mid + 1, b, limit, _, ap, L, μ7), ⟨by dsimp only; omega, hb, by dsimp only; omega, by dsimp only; omega, g1.1.trans (q3.trans hs2), g3, hle.trans hle7, fun R h1 h2 => hfin R (g4 R h1 h2).1 (g4 R h1 h2).2⟩, by dsimp only; omega, ⟨⟨rfl, rfl, rfl, rfl, rfl, rfl, trivial⟩, trivial, rfl, rfl⟩⟩
     ·refine nEq (x := ((mid + 1 : Nat) : Int)) (by rw [wrap64 (by omega) (by omega)]; omega) ?_
      refine cOw (ih (mid + 1) b (limit) d4 _ (by omega) (by omega) (by omega) (q3.trans hs2) (by omega) q5) fun v μ7 h' hle7 hap hR => ?_
      obtain ⟨rfl, L, g1, g2, rfl⟩ := hR
      have w_ := q7 L g1 g2
      obtain ⟨g3, g4⟩ := w_
      exact ⟨(a, mid, limit, _, ap, L, μ7), ⟨by dsimp only; omega, by dsimp only; omega, by dsimp only; omega, by dsimp only; omega, g1.1.trans (q3.trans hs2), g3, hle.trans hle7, fun R h1 h2 => hfin R (g4 R h1 h2).1 (g4 R h1 h2).2⟩, by dsimp only; omega, ⟨⟨rfl, rfl, rfl, rfl, rfl, rfl, trivial⟩, trivial, rfl, rfl⟩⟩
  ·refine iIn (fun _ => ?_) (fun h => nomatch h)
   refine iIn (fun hwp => ?_) (fun hwp => ?_)
   ·refine ifd (fun hk1 => ?_) (fun hk1 => ?_)
    ·refine cOw (partialInsertionSort_spec hs1 (by omega) hb hn) fun v μ5 h' hle' hap hR => ?_
     obtain ⟨rfl, e1, rfl⟩ := hR
     obtain rfl := e1.symm
     clear hle' hap
     have q := partialInsertionSort_holds (lt := ltInt) swo_ltInt d a b (by omega) (by omega) hB
     refine iIn (fun hok => ?_) (fun hok => ?_)
     ·exact rPl ⟨rfl, _, (hfin _ q.1 (q.2 hok)).1, (hfin _ q.1 (q.2 hok)).2, rfl⟩
     ·have q1 := q.1
      clear q hok
      generalize (partialInsertionSort ltInt d a b).1 = d3 at *
      replace hB := hB.perm (by omega) q1
      replace hfin := fun R h1 h2 => hfin R (permIn_trans _ _ _ _ _ q1 h1) h2
      have hs3 : d3.size = n := q1.1.trans hs1
      clear q1
      refine ifd (fun ha0 => ?_) (fun ha0 => ?_)
      ·refine nEq (x := ((a - 1 : Nat) : Int)) (by rw [wrap64 (by omega) (by omega)]; omega) ?_
       refine idxI (a - 1) (by omega) (by omega) ?_
       refine rdI (by omega) ?_
       refine idxI (p) (by omega) (by omega) ?_
       refine rdI (by omega) ?_
       refine cGv (Less_spec _ _) ?_
       refine iIn (fun hnl => ?_) (fun hnl => ?_)
       ·refine cOw (partitionEqual_spec (pivot := p) hs3 (by omega) (by omega) hb hn) fun v μ6 h' hle' hap hR => ?_
        obtain ⟨rfl, e1, rfl⟩ := hR
        obtain rfl := e1.symm
        obtain ⟨mid, d4, hx⟩ : ∃ mid d4, partitionEqual ltInt d3 a b (p) = (mid, d4) := ⟨_, _, rfl⟩
        rw [hx]
        have q := round_eq swo_ltInt (partitionEqual_holds ltInt) (by omega) (by omega) (by omega) (by omega) hB (by simpa using hnl) hx
        have qa := q.1
        exact ⟨(mid, b, limit, true, wp, d4, _), ⟨q.2.1, hb, by dsimp only; omega, by dsimp only; omega, q.2.2.1.trans hs3, q.2.2.2.1, hle, fun R h1 h2 => hfin R (q.2.2.2.2 R h1 h2).1 (q.2.2.2.2 R h1 h2).2⟩, by dsimp only; omega, ⟨⟨rfl, rfl, rfl, rfl, rfl, rfl, trivial⟩, trivial, rfl, rfl⟩⟩
       ·refine cOw (partition_spec (pivot := p) hs3 (by omega) (by omega) hb hn) fun v μ6 h' hle' hap hR => ?_
        obtain ⟨⟨ap, rfl⟩, e1, rfl⟩ := hR
        obtain rfl := e1.symm
        obtain ⟨mid, ap', d4, hx⟩ : ∃ mid ap' d4, partition ltInt d3 a b (p) = (mid, ap', d4) := ⟨_, _, _, rfl⟩
        rw [hx]
        have w_ := round_part swo_ltInt (partition_holds ltInt) (by omega) (by omega) (by omega) hB hx
        obtain ⟨q1, q2, q3, q4, q5, q6, q7⟩ := w_
        refine nEq (x := ((mid - a : Nat) : Int)) (by rw [wrap64 (by omega) (by omega)]; omega) ?_
        refine nEq (x := ((b - mid : Nat) : Int)) (by rw [wrap64 (by omega) (by omega)]; omega) ?_
        refine need_intro (by decide) ?_
        refine nEq (x := (((b - a) / 8 : Nat) : Int)) (by rw [Int.tdiv_eq_ediv_of_nonneg (by omega), wrap64 (by omega) (by omega)]; omega) ?_
        refine ifd (fun hlt => ?_) (fun hlt => ?_)
        ·refine cOw (ih a mid (limit) d4 _ (by omega) (by omega) (by omega) (q3.trans hs3) (by omega) q4) fun v μ7 h' hle7 hap hR => ?_
         obtain ⟨rfl, L, g1, g2, rfl⟩ := hR
         have w_ := q6 L g1 g2
         obtain ⟨g3, g4⟩ := w_
         refine nEq (x := ((mid + 1 : Nat) : Int)) (by rw [wrap64 (by omega) (by omega)]; omega) ?_
         exact ⟨(mid + 1, b, limit, _, ap, L, μ7), ⟨by dsimp only; omega, hb, by dsimp only; omega, by dsimp only; omega, g1.1.trans (q3.trans hs3), g3, hle.trans hle7, fun R h1 h2 => hfin R (g4 R h1 h2).1 (g4 R h1 h2).2⟩, by dsimp only; omega, ⟨⟨rfl, rfl, rfl, rfl, rfl, rfl, trivial⟩, trivial, rfl, rfl⟩⟩
        ·refine nEq (x := ((mid + 1 : Nat) : Int)) (by rw [wrap64 (by omega) (by omega)]; omega) ?_
         refine cOw (ih (mid + 1) b (limit) d4 _ (by omega) (by omega) (by omega) (q3.trans hs3) (by omega) q5) fun v μ7 h' hle7 hap hR => ?_
         obtain ⟨rfl, L, g1, g2, rfl⟩ := hR
         have w_ := q7 L g1 g2
         obtain ⟨g3, g4⟩ := w_
         exact ⟨(a, mid, limit, _, ap, L, μ7), ⟨by dsimp only; omega, by dsimp only; omega, by dsimp only; omega, by dsimp only; omega, g1.1.trans (q3.trans hs3), g3, hle.trans hle7, fun R h1 h2 => hfin R (g4 R h1 h2).1 (g4 R h1 h2).2⟩, by dsimp only; omega, ⟨⟨rfl, rfl, rfl, rfl, rfl, rfl, trivial⟩, trivial, rfl, rfl⟩⟩
      ·refine cOw (partition_spec (pivot := p) hs3 (by omega) (by omega) hb hn) fun v μ6 h' hle' hap hR => ?_
       obtain ⟨⟨ap, rfl⟩, e1, rfl⟩ := hR
       obtain rfl := e1.symm
       obtain ⟨mid, ap', d4, hx⟩ : ∃ mid ap' d4, partition ltInt d3 a b (p) = (mid, ap', d4) := ⟨_, _, _, rfl⟩
       rw [hx]
       have w_ := round_part swo_ltInt (partition_holds ltInt) (by omega) (by omega) (by omega) hB hx
       obtain ⟨q1, q2, q3, q4, q5, q6, q7⟩ := w_
       refine nEq (x := ((mid - a : Nat) : Int)) (by rw [wrap64 (by omega) (by omega)]; omega) ?_
       refine nEq (x := ((b - mid : Nat) : Int)) (by rw [wrap64 (by omega) (by omega)]; omega) ?_
       refine need_intro (by decide) ?_
       refine nEq (x := (((b - a) / 8 : Nat) : Int)) (by rw [Int.tdiv_eq_ediv_of_nonneg (by omega), wrap64 (by omega) (by omega)]; omega) ?_
       refine ifd (fun hlt => ?_) (fun hlt => ?_)
       ·refine cOw (ih a mid (limit) d4 _ (by omega) (by omega) (by omega) (q3.trans hs3) (by omega) q4) fun v μ7 h' hle7 hap hR => ?_
        obtain ⟨rfl, L, g1, g2, rfl⟩ := hR
        have w_ := q6 L g1 g2
        obtain ⟨g3, g4⟩ := w_
        refine nEq (x := ((mid + 1 : Nat) : Int)) (by rw [wrap64 (by omega) (by omega)]; omega) ?_
        exact ⟨(mid + 1, b, limit, _, ap, L, μ7), ⟨by dsimp only; omega, hb, by dsimp only; omega, by dsimp only; omega, g1.1.trans (q3.trans hs3), g3, hle.trans hle7, fun R h1 h2 => hfin R (g4 R h1 h2).1 (g4 R h1 h2).2⟩, by dsimp only; omega, ⟨⟨rfl, rfl, rfl, rfl, rfl, rfl, trivial⟩, trivial, rfl, rfl⟩⟩
       ·refine nEq (x := ((mid + 1 : Nat) : Int)) (by rw [wrap64 (by omega) (by omega)]; omega) ?_
        refine cOw (ih (mid + 1) b (limit) d4 _ (by omega) (by omega) (by omega) (q3.trans hs3) (by omega) q5) fun v μ7 h' hle7 hap hR => ?_
        obtain ⟨rfl, L, g1, g2, rfl⟩ := hR
        have w_ := q7 L g1 g2
        obtain ⟨g3, g4⟩ := w_
        exact ⟨(a, mid, limit, _, ap, L, μ7), ⟨by dsimp only; omega, by dsimp only; omega, by dsimp only; omega, by dsimp only; omega, g1.1.trans (q3.trans hs3), g3, hle.trans hle7, fun R h1 h2 => hfin R (g4 R h1 h2).1 (g4 R h1 h2).2⟩, by dsimp only; omega, ⟨⟨rfl, rfl, rfl, rfl, rfl, rfl, trivial⟩, trivial, rfl, rfl⟩⟩
    ·refine ifd (fun ha0 => ?_) (fun ha0 => ?_)
     ·refine nEq (x := ((a - 1 : Nat) : Int)) (by rw [wrap64 (by omega) (by omega)]; omega) ?_
      refine idxI (a - 1) (by omega) (by omega) ?_
      refine rdI (by omega) ?_
      refine idxI (p) (by omega) (by omega) ?_
      refine rdI (by omega) ?_
      refine cGv (Less_spec _ _) ?_
      refine iIn (fun hnl => ?_) (fun hnl => ?_)
      ·refine cOw (partitionEqual_spec (pivot := p) hs1 (by omega) (by omega) hb hn) fun v μ6 h' hle' hap hR => ?_
       obtain ⟨rfl, e1, rfl⟩ := hR
       obtain rfl := e1.symm
       obtain ⟨mid, d4, hx⟩ : ∃ mid d4, partitionEqual ltInt d a b (p) = (mid, d4) := ⟨_, _, rfl⟩
       rw [hx]
       have q := round_eq swo_ltInt (partitionEqual_holds ltInt) (by omega) (by omega) (by omega) (by omega) hB (by simpa using hnl) hx
       have qa := q.1
       exact ⟨(mid, b, limit, true, wp, d4, _), ⟨q.2.1, hb, by dsimp only; omega, by dsimp only; omega, q.2.2.1.trans hs1, q.2.2.2.1, hle, fun R h1 h2 => hfin R (q.2.2.2.2 R h1 h2).1 (q.2.2.2.2 R h1 h2).2⟩, by dsimp only; omega, ⟨⟨rfl, rfl, rfl, rfl, rfl, rfl, trivial⟩, trivial, rfl, rfl⟩⟩
      ·refine cOw (partition_spec (pivot := p) hs1 (by omega) (by omega) hb hn) fun v μ6 h' hle' hap hR => ?_
       obtain ⟨⟨ap, rfl⟩, e1, rfl⟩ := hR
       obtain rfl := e1.symm
       obtain ⟨mid, ap', d4, hx⟩ : ∃ mid ap' d4, partition ltInt d a b (p) = (mid, ap', d4) := ⟨_, _, _, rfl⟩
       rw [hx]
       have w_ := round_part swo_ltInt (partition_holds ltInt) (by omega) (by omega) (by omega) hB hx
       obtain ⟨q1, q2, q3, q4, q5, q6, q7⟩ := w_
       refine nEq (x := ((mid - a : Nat) : Int)) (by rw [wrap64 (by omega) (by omega)]; omega) ?_
       refine nEq (x := ((b - mid : Nat) : Int)) (by rw [wrap64 (by omega) (by omega)]; omega) ?_
       refine need_intro (by decide) ?_
       refine nEq (x := (((b - a) / 8 : Nat) : Int)) (by rw [Int.tdiv_eq_ediv_of_nonneg (by omega), wrap64 (by omega) (by omega)]; omega) ?_
       refine ifd (fun hlt => ?_) (fun hlt => ?_)
       ·refine cOw (ih a mid (limit) d4 _ (by omega) (by omega) (by omega) (q3.trans hs1) (by omega) q4) fun v μ7 h' hle7 hap hR => ?_
        obtain ⟨rfl, L, g1, g2, rfl⟩ := hR
        have w_ := q6 L g1 g2
        obtain ⟨g3, g4⟩ := w_
        refine nEq (x := ((mid + 1 : Nat) : Int)) (by rw [wrap64 (by omega) (by omega)]; omega) ?_
        exact ⟨(mid + 1, b, limit, _, ap, L, μ7), ⟨by dsimp only; omega, hb, by dsimp only; omega, by dsimp only; omega, g1.1.trans (q3.trans hs1), g3, hle.trans hle7, fun R h1 h2 => hfin R (g4 R h1 h2).1 (g4 R h1 h2).2⟩, by dsimp only; omega, ⟨⟨rfl, rfl, rfl, rfl, rfl, rfl, trivial⟩, trivial, rfl, rfl⟩⟩
       ·refine nEq (x := ((mid + 1 : Nat) : Int)) (by rw [wrap64 (by omega) (by omega)]; omega) ?_
        refine cOw (ih (mid + 1) b (limit) d4 _ (by omega) (by omega) (by omega) (q3.trans hs1) (by omega) q5) fun v μ7 h' hle7 hap hR => ?_
        obtain ⟨rfl, L, g1, g2, rfl⟩ := hR
        have w_ := q7 L g1 g2
        obtain ⟨g3, g4⟩ := w_
        exact ⟨(a, mid, limit, _, ap, L, μ7), ⟨by dsimp only; omega, by dsimp only; omega, by dsimp only; omega, by dsimp only; omega, g1.1.trans (q3.trans hs1), g3, hle.trans hle7, fun R h1 h2 => hfin R (g4 R h1 h2).1 (g4 R h1 h2).2⟩, by dsimp only; omega, ⟨⟨rfl, rfl, rfl, rfl, rfl, rfl, trivial⟩, trivial, rfl, rfl⟩⟩
     ·refine cOw (partition_spec (pivot := p) hs1 (by omega) (by omega) hb hn) fun v μ6 h' hle' hap hR => ?_
      obtain ⟨⟨ap, rfl⟩, e1, rfl⟩ := hR
      obtain rfl := e1.symm
      obtain ⟨mid, ap', d4, hx⟩ : ∃ mid ap' d4, partition ltInt d a b (p) = (mid, ap', d4) := ⟨_, _, _, rfl⟩
      rw [hx]
      have w_ := round_part swo_ltInt (partition_holds ltInt) (by omega) (by omega) (by omega) hB hx
      obtain ⟨q1, q2, q3, q4, q5, q6, q7⟩ := w_
      refine nEq (x := ((mid - a : Nat) : Int)) (by rw [wrap64 (by omega) (by omega)]; omega) ?_
      refine nEq (x := ((b - mid : Nat) : Int)) (by rw [wrap64 (by omega) (by omega)]; omega) ?_
      refine need_intro (by decide) ?_
      refine nEq (x := (((b - a) / 8 : Nat) : Int)) (by rw [Int.tdiv_eq_ediv_of_nonneg (by omega), wrap64 (by omega) (by omega)]; omega) ?_
      refine ifd (fun hlt => ?_) (fun hlt => ?_)
      ·refine cOw (ih a mid (limit) d4 _ (by omega) (by omega) (by omega) (q3.trans hs1) (by omega) q4) fun v μ7 h' hle7 hap hR => ?_
       obtain ⟨rfl, L, g1, g2, rfl⟩ := hR
       have w_ := q6 L g1 g2
       obtain ⟨g3, g4⟩ := w_
       refine nEq (x := ((mid + 1 : Nat) : Int)) (by rw [wrap64 (by omega) (by omega)]; omega) ?_
       exact ⟨(mid + 1, b, limit, _, ap, L, μ7), ⟨by dsimp only; omega, hb, by dsimp only; omega, by dsimp only; omega, g1.1.trans (q3.trans hs1), g3, hle.trans hle7, fun R h1 h2 => hfin R (g4 R h1 h2).1 (g4 R h1 h2).2⟩, by dsimp only; omega, ⟨⟨rfl, rfl, rfl, rfl, rfl, rfl, trivial⟩, trivial, rfl, rfl⟩⟩
      ·refine nEq (x := ((mid + 1 : Nat) : Int)) (by rw [wrap64 (by omega) (by omega)]; omega) ?_
       refine cOw (ih (mid + 1) b (limit) d4 _ (by omega) (by omega) (by omega) (q3.trans hs1) (by omega) q5) fun v μ7 h' hle7 hap hR => ?_
       obtain ⟨rfl, L, g1, g2, rfl⟩ := hR
       have w_ := q7 L g1 g2
       obtain ⟨g3, g4⟩ := w_
       exact ⟨(a, mid, limit, _, ap, L, μ7), ⟨by dsimp only; omega, by dsimp only; omega, by dsimp only; omega, by dsimp only; omega, g1.1.trans (q3.trans hs1), g3, hle.trans hle7, fun R h1 h2 => hfin R (g4 R h1 h2).1 (g4 R h1 h2).2⟩, by dsimp only; omega, ⟨⟨rfl, rfl, rfl, rfl, rfl, rfl, trivial⟩, trivial, rfl, rfl⟩⟩
   ·refine ifd (fun ha0 => ?_) (fun ha0 => ?_)
    ·refine nEq (x := ((a - 1 : Nat) : Int)) (by rw [wrap64 (by omega) (by omega)]; omega) ?_
     refine idxI (a - 1) (by omega) (by omega) ?_
     refine rdI (by omega) ?_
     refine idxI (p) (by omega) (by omega) ?_
     refine rdI (by omega) ?_
     refine cGv (Less_spec _ _) ?_
     refine iIn (fun hnl => ?_) (fun hnl => ?_)
     ·refine cOw (partitionEqual_spec (pivot := p) hs1 (by omega) (by omega) hb hn) fun v μ6 h' hle' hap hR => ?_
      obtain ⟨rfl, e1, rfl⟩ := hR
      obtain rfl := e1.symm
      obtain ⟨mid, d4, hx⟩ : ∃ mid d4, partitionEqual ltInt d a b (p) = (mid, d4) := ⟨_, _, rfl⟩
      rw [hx]
      have q := round_eq swo_ltInt (partitionEqual_holds ltInt) (by omega) (by omega) (by omega) (by omega) hB (by simpa using hnl) hx
      have qa := q.1
      exact ⟨(mid, b, limit, true, wp, d4, _), ⟨q.2.1, hb, by dsimp only; omega, by dsimp only; omega, q.2.2.1.trans hs1, q.2.2.2.1, hle, fun R h1 h2 => hfin R (q.2.2.2.2 R h1 h2).1 (q.2.2.2.2 R h1 h2).2⟩, by dsimp only; omega, ⟨⟨rfl, rfl, rfl, rfl, rfl, rfl, trivial⟩, trivial, rfl, rfl⟩⟩
     ·refine cOw (partition_spec (pivot := p) hs1 (by omega) (by omega) hb hn) fun v μ6 h' hle' hap hR => ?_
      obtain ⟨⟨ap, rfl⟩, e1, rfl⟩ := hR
      obtain rfl := e1.symm
      obtain ⟨mid, ap', d4, hx⟩ : ∃ mid ap' d4, partition ltInt d a b (p) = (mid, ap', d4) := ⟨_, _, _, rfl⟩
      rw [hx]
      have w_ := round_part swo_ltInt (partition_holds ltInt) (by omega) (by omega) (by omega) hB hx
      obtain ⟨q1, q2, q3, q4, q5, q6, q7⟩ := w_
      refine nEq (x := ((mid - a : Nat) : Int)) (by rw [wrap64 (by omega) (by omega)]; omega) ?_
      refine nEq (x := ((b - mid : Nat) : Int)) (by rw [wrap64 (by omega) (by omega)]; omega) ?_
      refine need_intro (by decide) ?_
      refine nEq (x := (((b - a) / 8 : Nat) : Int)) (by rw [Int.tdiv_eq_ediv_of_nonneg (by omega), wrap64 (by omega) (by omega)]; omega) ?_
      refine ifd (fun hlt => ?_) (fun hlt => ?_)
      ·refine cOw (ih a mid (limit) d4 _ (by omega) (by omega) (by omega) (q3.trans hs1) (by omega) q4) fun v μ7 h' hle7 hap hR => ?_
       obtain ⟨rfl, L, g1, g2, rfl⟩ := hR
       have w_ := q6 L g1 g2
       obtain ⟨g3, g4⟩ := w_
       refine nEq (x := ((mid + 1 : Nat) : Int)) (by rw [wrap64 (by omega) (by omega)]; omega) ?_
       exact ⟨(mid + 1, b, limit, _, ap, L, μ7), ⟨by dsimp only; omega, hb, by dsimp only; omega, by dsimp only; omega, g1.1.trans (q3.trans hs1), g3, hle.trans hle7, fun R h1 h2 => hfin R (g4 R h1 h2).1 (g4 R h1 h2).2⟩, by dsimp only; omega, ⟨⟨rfl, rfl, rfl, rfl, rfl, rfl, trivial⟩, trivial, rfl, rfl⟩⟩
      ·refine nEq (x := ((mid + 1 : Nat) : Int)) (by rw [wrap64 (by omega) (by omega)]; omega) ?_
       refine cOw (ih (mid + 1) b (limit) d4 _ (by omega) (by omega) (by omega) (q3.trans hs1) (by omega) q5) fun v μ7 h' hle7 hap hR => ?_
       obtain ⟨rfl, L, g1, g2, rfl⟩ := hR
       have w_ := q7 L g1 g2
       obtain ⟨g3, g4⟩ := w_
       exact ⟨(a, mid, limit, _, ap, L, μ7), ⟨by dsimp only; omega, by dsimp only; omega, by dsimp only; omega, by dsimp only; omega, g1.1.trans (q3.trans hs1), g3, hle.trans hle7, fun R h1 h2 => hfin R (g4 R h1 h2).1 (g4 R h1 h2).2⟩, by dsimp only; omega, ⟨⟨rfl, rfl, rfl, rfl, rfl, rfl, trivial⟩, trivial, rfl, rfl⟩⟩
    ·refine cOw (partition_spec (pivot := p) hs1 (by omega) (by omega) hb hn) fun v μ6 h' hle' hap hR => ?_
     obtain ⟨⟨ap, rfl⟩, e1, rfl⟩ := hR
     obtain rfl := e1.symm
     obtain ⟨mid, ap', d4, hx⟩ : ∃ mid ap' d4, partition ltInt d a b (p) = (mid, ap', d4) := ⟨_, _, _, rfl⟩
     rw [hx]
     have w_ := round_part swo_ltInt (partition_holds ltInt) (by omega) (by omega) (by omega) hB hx
     obtain ⟨q1, q2, q3, q4, q5, q6, q7⟩ := w_
     refine nEq (x := ((mid - a : Nat) : Int)) (by rw [wrap64 (by omega) (by omega)]; omega) ?_
     refine nEq (x := ((b - mid : Nat) : Int)) (by rw [wrap64 (by omega) (by omega)]; omega) ?_
     refine need_intro (by decide) ?_
     refine nEq (x := (((b - a) / 8 : Nat) : Int)) (by rw [Int.tdiv_eq_ediv_of_nonneg (by omega), wrap64 (by omega) (by omega)]; omega) ?_
     refine ifd (fun hlt => ?_) (fun hlt => ?_)
     ·refine cOw (ih a mid (limit) d4 _ (by omega) (by omega) (by omega) (q3.trans hs1) (by omega) q4) fun v μ7 h' hle7 hap hR => ?_
      obtain ⟨rfl, L, g1, g2, rfl⟩ := hR
      have w_ := q6 L g1 g2
      obtain ⟨g3, g4⟩ := w_
      refine nEq (x := ((mid + 1 : Nat) : Int)) (by rw [wrap64 (by omega) (by omega)]; omega) ?_
      exact ⟨(mid + 1, b, limit, _, ap, L, μ7), ⟨by dsimp only; omega, hb, by dsimp only; omega, by dsimp only; omega, g1.1.trans (q3.trans hs1), g3, hle.trans hle7, fun R h1 h2 => hfin R (g4 R h1 h2).1 (g4 R h1 h2).2⟩, by dsimp only; omega, ⟨⟨rfl, rfl, rfl, rfl, rfl, rfl, trivial⟩, trivial, rfl, rfl⟩⟩
     ·refine nEq (x := ((mid + 1 : Nat) : Int)) (by rw [wrap64 (by omega) (by omega)]; omega) ?_
      refine cOw (ih (mid + 1) b (limit) d4 _ (by omega) (by omega) (by omega) (q3.trans hs1) (by omega) q5) fun v μ7 h' hle7 hap hR => ?_
      obtain ⟨rfl, L, g1, g2, rfl⟩ := hR
      have w_ := q7 L g1 g2
      obtain ⟨g3, g4⟩ := w_
      exact ⟨(a, mid, limit, _, ap, L, μ7), ⟨by dsimp only; omega, by dsimp only; omega, by dsimp only; omega, by dsimp only; omega, g1.1.trans (q3.trans hs1), g3, hle.trans hle7, fun R h1 h2 => hfin R (g4 R h1 h2).1 (g4 R h1 h2).2⟩, by dsimp only; omega, ⟨⟨rfl, rfl, rfl, rfl, rfl, rfl, trivial⟩, trivial, rfl, rfl⟩⟩
end
end Go.Vx
namespace Go.Vx
open Go.Proofs Classical
open Go.Sort
section
variable {h0 μ : Mem} {r : Nat} {ty : TypeId} {rest : List Value}
theorem Sort_spec {n cap : Nat} {d : Array Int} (hr : h0 r = none) (hd : d.size = n) (hn : n ≤ 1000000000000) :
  SpecH Tryz.prog 252 [.slice (some ⟨r, 0, none⟩) n cap] μ (RowI h0 r ty rest d) fun v _μ' h' => v = .tuple #[] ∧ h' = RowI h0 r ty rest (d.toList.mergeSort fun x y => decide (x ≤ y)).toArray := by
 refine SpecH.mk [] Tryz.func252 (by kernel_rfl) ?_
 refine nEq (x := (n : Int)) (by
  show (n : Int) % 18446744073709551616 = _
  omega) ?_
 refine cGv (Len_spec (by omega)) ?_
 have hL : bitsLen n ≤ 40 := (bitsLen_le_iff n 40).2 (by omega)
 refine cOw (pdqsort_spec hr hn (n + 1) 0 n (bitsLen n) d μ (by omega) (by omega) (Nat.le_refl _) hd (by omega) (.inl rfl)) fun v μ' h' hle hap hR => ?_
 obtain ⟨rfl, d', p1, p2, rfl⟩ := hR
 have e := sorted_unique_holds (lt := ltInt) swo_ltInt (fun x y h1 h2 => by
  simp only [ltInt, decide_eq_false_iff_not] at h1 h2
  omega) d d' (by rw [hd]; exact p1) (by rw [hd]; exact p2)
 have e2 : (fun x y => !ltInt y x) = fun x y : Int => decide (x ≤ y) := by
  funext x y
  simp only [ltInt]
  by_cases h : x ≤ y
  ·rw [decide_eq_true h, decide_eq_false (by omega)]; rfl
  ·rw [decide_eq_false h, decide_eq_true (by omega)]; rfl
 rw [e2] at e
 refine rPl ⟨rfl, ?_⟩
 rw [← e]
theorem Ints_spec {n cap : Nat} {d : Array Int} (hr : h0 r = none) (hd : d.size = n) (hn : n ≤ 1000000000000) :
  SpecH Tryz.prog 238 [.slice (some ⟨r, 0, none⟩) n cap] μ (RowI h0 r ty rest d) fun v _μ' h' => v = .tuple #[] ∧ h' = RowI h0 r ty rest (d.toList.mergeSort fun x y => decide (x ≤ y)).toArray := by
 refine SpecH.mk [] Tryz.func238 (by kernel_rfl) ?_
 refine cOw (Sort_spec hr hd hn) fun v μ' h' hle hap hR => ?_
 obtain ⟨rfl, rfl⟩ := hR
 exact rPl ⟨rfl, rfl⟩
end
end Go.Vx
namespace Go.Vx
open Go.Proofs Classical
open Go.Sort
theorem keys_ints {l : List (Value × Value)} (h : MapOk IntKey l) : ∃ ks : List Int, l.map Prod.fst = ints ks ∧ ks.Nodup := by
 have h1 : ∀ (l : List (Value × Value)), (∀ p ∈ l, IntKey p.1) → ∃ ks : List Int, l.map Prod.fst = ints ks := fun l => by
  induction l with
  | nil => intro _; exact ⟨[], rfl⟩
  | cons p l ih =>
   intro h
   have w_ := ih fun q hq => h q (by simp [hq])
   obtain ⟨ks, hks⟩ := w_
   have w_ := h p (by simp)
   obtain ⟨n, hn⟩ := w_
   exact ⟨n :: ks, by rw [List.map_cons, hks, hn]; rfl⟩
 have w_ := h1 l h.keys
 obtain ⟨ks, hks⟩ := w_
 refine ⟨ks, hks, ?_⟩
 have hn := h.nodup
 rw [hks, ints] at hn
 exact List.Pairwise.of_map (S := fun a b => a ≠ b) _ (fun a b hab e => hab (by rw [e])) hn
theorem mget_keys {l : List (Value × Value)} {ks : List Int} (h : l.map Prod.fst = ints ks) (n : Int) : (mget l (.int .i64 n)).isSome ↔ n ∈ ks := by
 have e : n ∈ ks ↔ Value.int .i64 n ∈ l.map Prod.fst := by
  rw [h, ints, List.mem_map]
  exact ⟨fun k => ⟨n, k, rfl⟩, fun ⟨m, k, e⟩ => by cases e; exact k⟩
 rw [e]
 clear e h
 induction l with
 | nil => simp [mget]
 | cons p l ih =>
  obtain ⟨a, v⟩ := p
  rw [mget]
  by_cases h : a = .int .i64 n
  ·rw [if_pos h]; simp [h]
  ·rw [if_neg h]
   refine ih.trans ?_
   simp only [List.map_cons, List.mem_cons]
   exact ⟨.inr, fun k => k.elim (fun e => absurd e.symm h) id⟩
theorem nodup_len {N : Nat} {l : List Nat} (h : l.Nodup) (hb : ∀ j ∈ l, j < N) : l.length ≤ N := by
 have h1 : (l.map fun j : Nat => (j : Int)).Nodup := List.Pairwise.map (S := fun a b => a ≠ b) _ (fun a b hab e => hab (by omega)) h
 have := nodup_range (N := N) h1 fun n hn => by
  have w_ := List.mem_map.1 hn
  obtain ⟨j, hj, rfl⟩ := w_
  have := hb j hj; omega
 rwa [List.length_map] at this
theorem ints_own : ∀ l : List Int, OwnRows 1 (l.map D.i) (ints l) Mem.nil
 | [] => OwnRows.nil 1
 | n :: l => ⟨by
   have := (ints_own l).own
   exact OwnS.int this, by
   intro x hx
   have w_ := List.mem_map.1 hx
   obtain ⟨m, _, rfl⟩ := w_
   rfl, by simp [ints]⟩
theorem srt_lt (D : List Int) (h : D.Nodup) : (D.mergeSort fun x y => decide (x ≤ y)).Pairwise (· < ·) := by
 have h1 := List.pairwise_mergeSort (le := fun x y : Int => decide (x ≤ y)) (fun a b c h1 h2 => by simp at *; omega) (fun a b => by simp; omega) D
 have h2 : (D.mergeSort fun x y => decide (x ≤ y)).Nodup := ((List.mergeSort_perm D _).nodup_iff).2 h
 rw [List.nodup_iff_pairwise_ne] at h2
 exact List.Pairwise.imp (fun ⟨a, b⟩ => by simp at a; omega) (h1.and h2)
theorem getD_at {ks : List Int} {j : Nat} (h : j < ks.length) : ks[j]? = some (ks.getD j 0) := by
 rw [List.getD_eq_getElem?_getD, List.getElem?_eq_getElem h]; rfl
theorem picked {ks : List Int} (hnd : ks.Nodup) {seen : List Nat} (hsn : seen.Nodup) (hsl : ∀ j ∈ seen, j < ks.length) : (seen.map fun j => ks.getD j 0).Nodup := by
 rw [List.nodup_iff_pairwise_ne, List.pairwise_map]
 rw [List.nodup_iff_pairwise_ne] at hsn
 refine hsn.imp_of_mem fun {a b} ha hb hab e => hab ?_
 have h1 := idx_at hnd (getD_at (hsl a ha))
 have h2 := idx_at hnd (getD_at (hsl b hb))
 rw [e] at h1
 omega
theorem picked_mem {ks : List Int} {seen : List Nat} (hsl : ∀ j ∈ seen, j < ks.length) (hall : ∀ j, j < ks.length → j ∈ seen) (n : Int) : n ∈ (seen.map fun j => ks.getD j 0) ↔ n ∈ ks := by
 rw [List.mem_map]
 constructor
 ·rintro ⟨j, hj, rfl⟩
  exact List.mem_of_getElem? (getD_at (hsl j hj))
 ·intro h
  have w_ := List.mem_iff_getElem?.1 h
  obtain ⟨j, hj⟩ := w_
  have hjl := (List.getElem?_eq_some_iff.1 hj).1
  refine ⟨j, hall j hjl, ?_⟩
  rw [getD_at hjl] at hj
  exact Option.some.inj hj
section
variable {μ h : Mem}
theorem sortedInts_spec {m : Nat} {l : List (Value × Value)} (hm : h m = some (mapO l)) (hk : MapOk IntKey l) (hn : l.length ≤ 1000000) :
  SpecH Tryz.prog 217 [.map (some m)] μ h fun v μ' h' => h' = h ∧ ∃ xs : List Int, (∀ n, n ∈ xs ↔ (mget l (.int .i64 n)).isSome) ∧ xs.Pairwise (· < ·) ∧ Fresh μ μ' (.sl 1 (xs.map D.i)) v := by
 have w_ := keys_ints hk
 obtain ⟨ks, hks, hnd⟩ := w_
 have hkl : ks.length = l.length := by
  have := congrArg List.length hks
  simpa [ints] using this.symm
 refine SpecH.mk [] Tryz.func217 (by kernel_rfl) ?_
 intro r5
 refine mlen_intro l hm ?_
 intro ri hmi hoi
 have hne : m ≠ ri := ne_of_none hm hoi
 refine lIn (fun p : List Nat × Option Nat × Nat × List Value => p.2.1 ≠ none ∧ p.1.Nodup ∧ (∀ j ∈ p.1, j < l.length) ∧ p.2.2.2 = ints (p.1.map fun j => ks.getD j 0))
  (fun (seen, b, c, ys) => ⟨[(3, .row 0 b ys.length c), (7, .val (.pointer (some ⟨ri, 0, none⟩)))], [(0, some (.row b c 3 1 ys))], 1, μ, h.set ri (iterO m l.length seen l.length)⟩) (fun p => l.length - p.1.length)
  ([], some r5, 0, []) ⟨by simp, by simp, by simp, rfl⟩ (fun (_, _, _, _) => ⟨rfl, rfl⟩) ⟨⟨rfl, rfl, trivial⟩, ⟨rfl, trivial⟩, rfl, rfl⟩ ?_
 rintro ⟨seen, b, c, ys⟩ ⟨hb, hsn, hsl, hys⟩
 dsimp only at hb hsn hsl hys
 have hslen := nodup_len hsn hsl
 refine next_intro m seen l.length l (Mem.set_at _ _ _) ((Mem.set_ne hne).trans hm) (Nat.le_refl _) (fun hall => ?_) (fun j k v hj hns => ?_)
 rotate_left
 ·have hjl := (List.getElem?_eq_some_iff.1 hj).1
  have hkj : k = .int .i64 (ks.getD j 0) := by
   have h1 : (l.map Prod.fst)[j]? = some k := by simp [hj]
   rw [hks, ints, List.getElem?_map] at h1
   have h2 : j < ks.length := by omega
   rw [List.getElem?_eq_getElem h2] at h1
   simp only [Option.map_some, Option.some.injEq] at h1
   rw [← h1, List.getD_eq_getElem?_getD, List.getElem?_eq_getElem h2]; rfl
  subst hkj
  rw [Mem.set_set]
  refine iIn (fun _ => ?_) (fun h => nomatch h)
  refine ent_intro m l.length seen j l _ v (Mem.set_at _ _ _) ((Mem.set_ne hne).trans hm) hj ?_
  intro r6
  have hyl : ys.length = seen.length := by rw [hys]; simp [ints]
  refine gIn ?_ ?_ fun b' c' hb' => ?_
  ·show (ys.length + 1) * 8 ≤ _; omega
  ·exact Nat.le_trans (m := 100000000) (show ys.length + 1 ≤ _ by omega) (by decide)
  have hsl2 : ∀ i ∈ seen ++ [j], i < l.length := fun i hi => by
   rcases List.mem_append.1 hi with hi | hi
   ·exact hsl i hi
   ·rw [List.mem_singleton] at hi; subst hi; exact hjl
  have hsn2 : (seen ++ [j]).Nodup := by
   rw [List.nodup_append]
   refine ⟨hsn, by simp, fun a ha b hb e => ?_⟩
   rw [List.mem_singleton] at hb
   subst hb; subst e; exact hns ha
  have hs3 := nodup_len hsn2 hsl2
  rw [List.length_append, List.length_singleton] at hs3
  exact ⟨(seen ++ [j], b', c', ys ++ [.int .i64 (ks.getD j 0)]), ⟨by
   dsimp only
   intro e
   have := hb' e
   simp at this, hsn2, hsl2, by dsimp only; rw [List.map_append, ints, List.map_append, hys]; rfl⟩, by dsimp only; rw [List.length_append, List.length_singleton]; omega, ⟨⟨rfl, rfl, trivial⟩, ⟨rfl, trivial⟩, rfl, rfl⟩⟩
 ·refine iIn (fun h => nomatch h) (fun _ => ?_)
  have hp := picked hnd hsn (by rw [hkl]; exact hsl)
  have hpm := picked_mem (by rw [hkl]; exact hsl) (by rw [hkl]; exact hall) (ks := ks) (seen := seen)
  have hDs : (seen.map (fun j => ks.getD j 0)).length = seen.length := by simp
  generalize seen.map (fun j => ks.getD j 0) = D at *
  subst hys
  have w_ := Option.ne_none_iff_exists'.1 hb
  obtain ⟨b0, rfl⟩ := w_
  have hDl : (ints D).length = D.length := by simp [ints]
  refine call_gen [] [0] (fun h => nomatch h) ?_
  intro h' hmem hgiven
  obtain ⟨hb0, hlen, hcap, hone, cs, rfl, hcs, htake⟩ := hgiven
  replace hb0 : (Mem.set h ri (iterO m l.length seen l.length)) b0 = none := hb0
  replace hmem : μ b0 = none := hmem b0 rfl
  obtain ⟨rest, rfl⟩ : ∃ rest, cs = ints D ++ rest := by
   refine ⟨cs.drop ((ints D).length * 1), ?_⟩
   rw [ints_flat] at htake
   conv => lhs; rw [← List.take_append_drop ((ints D).length * 1) cs, htake]
  have hD6 : D.length ≤ 1000000000000 := by omega
  refine own_go (Ints_spec (h0 := h.set ri (iterO m l.length seen l.length)) (r := b0) (ty := 3) (rest := rest) (d := D.toArray) hb0 (by simp [ints]) (by omega)) fun v μ' h'' hle hap hR => ?_
  obtain ⟨rfl, rfl⟩ := hR
  have f1 : (D.toArray.toList.mergeSort fun x y => decide (x ≤ y)).Pairwise (· < ·) := srt_lt D hp
  have f2 : ∀ n, n ∈ (D.toArray.toList.mergeSort fun x y => decide (x ≤ y)) ↔ n ∈ D := fun n => (List.mergeSort_perm D _).mem_iff
  have f3 : (D.toArray.toList.mergeSort fun x y => decide (x ≤ y)).length = D.length := (List.mergeSort_perm D _).length_eq
  generalize (D.toArray.toList.mergeSort fun x y => decide (x ≤ y)) = S at *
  have hbr : b0 ≠ ri := fun e => by subst e; rw [Mem.set_at] at hb0; cases hb0
  have hhb : h b0 = none := by rwa [Mem.set_ne hbr] at hb0
  have hb1 : μ' b0 = none := by
   cases e : μ' b0 with
   | none => rfl
   | some o => have := hap b0 (by simp [e]); rw [RowI, Mem.set_at] at this; cases this
  have hSl : (ints S).length = S.length := by simp [ints]
  refine ret_own ((Mem.nil.set ri (iterO m l.length seen l.length)).set b0 (.cells (List.toArray ([] ++ (S.toArray.toList.map (Value.int .i64) ++ rest))) 3 (0, 0))) h ?_ ⟨rfl, S, fun n => (f2 n).trans ((hpm n).trans (mget_keys hks n).symm), f1, ?_⟩
  ·show Parts (RowI (h.set ri (iterO m l.length seen l.length)) b0 3 rest S.toArray) _ h
   replace hoi : h ri = none := hoi
   intro x
   by_cases h1 : x = b0
   ·subst h1; exact .inl ⟨by rw [RowI, Mem.set_at, Mem.set_at], hhb⟩
   ·by_cases h2 : x = ri
    ·subst h2; exact .inl ⟨by rw [RowI, Mem.set_ne h1, Mem.set_ne h1, Mem.set_at, Mem.set_at], hoi⟩
    ·exact .inr ⟨by rw [RowI, Mem.set_ne h1, Mem.set_ne h2], by rw [Mem.set_ne h1, Mem.set_ne h2]; rfl⟩
  ·have F := Fresh.ofRow (μ := μ) (μ1 := μ) (μ' := μ'.join ((Mem.nil.set ri (iterO m l.length seen l.length)).set b0 (.cells (List.toArray ([] ++ (S.toArray.toList.map (Value.int .i64) ++ rest))) 3 (0, 0)))) (b := some b0) (cap := c) (ints_own S) (fun _ _ h => nomatch h) (fun _ h => absurd rfl h) (Mem.Le.refl _) (hle.trans (Mem.le_join _ _)) (fun r e => by cases e; exact hmem)
    ⟨by omega, fun x hx => by
     have w_ := List.mem_map.1 hx
     obtain ⟨n, _, rfl⟩ := w_
     exact ⟨rfl, by simp [vcells, Value.oneCell']⟩, _, _, by rw [Mem.join_get, hb1, Mem.set_at], by
      simp only [List.length_append, ints, List.length_map] at hcs
      simp [f3]; omega, by rw [ints_flat]; simp [ints]⟩ (Nat.le_trans (m := 1000000) (by omega) (by decide))
   have e : (ints D).length = (ints S).length := by omega
   show Fresh μ _ (.sl 1 (S.map Go.Vx.D.i)) (.slice _ (ints D).length c)
   rw [e]; exact F
end
end Go.Vx
namespace Go.Vx
open Go.Proofs Classical
mutual
def Gl.all : Gl → List Gl
 | .mk k s ts gs => .mk k s ts gs :: Gl.alls gs
def Gl.alls : List Gl → List Gl
 | [] => []
 | g :: r => g.all ++ Gl.alls r
end
theorem Gl.alls_map : ∀ l : List Gl, Gl.alls l = l.flatMap Gl.all
 | [] => rfl
 | g :: r => by simp [Gl.alls, Gl.alls_map r]
theorem Gl.all_eq (g : Gl) : g.all = g :: g.goals.flatMap Gl.all := by
 cases g
 rw [Gl.all, Gl.alls_map]
 rfl
theorem Gl.Sh.all : ∀ (g : Gl), g.Sh → ∀ x ∈ g.all, x.Sh :=
 Gl.ind fun g ih h x hx => by
  rw [Gl.all_eq] at hx
  rcases List.mem_cons.1 hx with rfl | hx
  ·exact h
  ·have w_ := List.mem_flatMap.1 hx
   obtain ⟨y, hy, hx⟩ := w_
   exact ih y hy (h.sub y hy) x hx
noncomputable def Gl.tvars (g : Gl) : List Int := (g.terms.map Tm.toT).flatMap T.vars
noncomputable def Gl.vars (g : Gl) : List Int := g.all.flatMap Gl.tvars
theorem toTs_tm' {xs : List T} : (xs.map T.tm).map Tm.toT = xs := by
 rw [List.map_map]
 exact (List.map_congr_left fun x _ => T.toT_tm x).trans (List.map_id _)
section
variable {μ : Mem}
theorem Gl.vars_range {g : Gl} (h : g.Sh) : ∀ n ∈ g.vars, 0 ≤ n ∧ n ≤ 100000 := fun n hn => by
 have w_ := List.mem_flatMap.1 hn
 obtain ⟨x, hx, hn⟩ := w_
 have w_ := lift_ok (h.all g x hx).top.tm
 obtain ⟨xs, hxs, hxo⟩ := w_
 rw [Gl.tvars, hxs, toTs_tm'] at hn
 have w_ := List.mem_flatMap.1 hn
 obtain ⟨t, ht, hn⟩ := w_
 exact T.vars_range (hxo t ht).1 n hn
end
end Go.Vx
namespace Go.Vx
open Go.Proofs Classical
noncomputable def relFrom : List Rl → Nat → ByteArray → Int
 | [], _, _ => -1
 | r :: l, i, s => if r.name = s then i else relFrom l (i + 1) s
noncomputable def relAt (p : Pg) (s : ByteArray) : Int := relFrom p.rels 0 s
def CallFits (p : Pg) (g : Gl) : Prop := g.kind = 9 → ∃ (i : Nat) (r : Rl), relAt p g.name = i ∧ p.rels[i]? = some r ∧ r.arity = g.terms.length
section
variable {μ : Mem}
inductive FitAll (p : Pg) : Gl → Prop
 | mk {g : Gl} (top : CallFits p g) (sub : ∀ x ∈ g.goals, FitAll p x) : FitAll p g
theorem FitAll.top {p : Pg} {g : Gl} (h : FitAll p g) : CallFits p g := by cases h; assumption
theorem FitAll.sub {p : Pg} {g : Gl} (h : FitAll p g) : ∀ x ∈ g.goals, FitAll p x := by cases h; assumption
end
end Go.Vx
namespace Go.Vx
open Go.Proofs Classical
theorem FitAll.all {p : Pg} : ∀ {g : Gl}, FitAll p g → ∀ x ∈ g.all, CallFits p x := fun {g} => by
 refine Gl.ind (q := fun g => FitAll p g → ∀ x ∈ g.all, CallFits p x) (fun g ih h x hx => ?_) g
 rw [Gl.all_eq] at hx
 rcases List.mem_cons.1 hx with rfl | hx
 ·exact h.top
 ·have w_ := List.mem_flatMap.1 hx
  obtain ⟨y, hy, hx⟩ := w_
  exact ih y hy (h.sub y hy) x hx
theorem FitAll.of {p : Pg} : ∀ {g : Gl}, (∀ x ∈ g.all, CallFits p x) → FitAll p g := fun {g} => by
 refine Gl.ind (q := fun g => (∀ x ∈ g.all, CallFits p x) → FitAll p g) (fun g ih h => ?_) g
 rw [Gl.all_eq] at h
 exact .mk (h g (by simp)) fun y hy => ih y hy fun x hx => h x (List.mem_cons_of_mem _ (List.mem_flatMap.2 ⟨y, hy, hx⟩))
section
variable {μ : Mem}
end
end Go.Vx
namespace Go.Vx
open Go.Proofs Classical
structure RelOk (p : Pg) (i : Nat) (r : Rl) : Prop where
 at_ : relAt p r.name = i
 name : IsRel r.name
 ar0 : 0 ≤ r.arity
 ar4 : r.arity ≤ 4
 lo0 : 0 ≤ r.locals
 lo8 : r.locals ≤ 8
 body : r.body.Sh
 size : r.body.cnt ≤ 60
 vars : ∀ n ∈ r.body.vars, n < r.arity + r.locals
 calls : FitAll p r.body
def Pg.Ok (p : Pg) : Prop := p.rels.length ≤ 8 ∧ ∀ (i : Nat) (r : Rl), p.rels[i]? = some r → RelOk p i r
section
variable {μ : Mem}
end
end Go.Vx
namespace Go.Vx
open Go.Proofs Classical
theorem srt_get {l : List Int} (hs : l.Pairwise (· < ·)) {i j : Nat} {x y : Int} (h : i < j) (hx : l[i]? = some x) (hy : l[j]? = some y) : x < y := by
 have w_ := List.getElem?_eq_some_iff.1 hx
 obtain ⟨h1, rfl⟩ := w_
 have w_ := List.getElem?_eq_some_iff.1 hy
 obtain ⟨h2, rfl⟩ := w_
 exact List.pairwise_iff_getElem.1 hs i j h1 h2 h
section
variable {μ : Mem}
structure VL (l : List Int) : Prop where
 srt : l.Pairwise (· < ·)
 rng : ∀ x ∈ l, 0 ≤ x ∧ x ≤ 100000
theorem VL.len {l : List Int} (h : VL l) : l.length ≤ 100001 := by
 refine nodup_range (N := 100001) ?_ fun n hn => by have := h.rng n hn; omega
 rw [List.nodup_iff_pairwise_ne]
 exact h.srt.imp fun hab e => by omega
end
end Go.Vx
namespace Go.Vx
open Go.Proofs Classical
section
variable {μ : Mem}
theorem VL.last {l : List Int} (h : VL l) {n x : Int} (hx : l[l.length - 1]? = some x) : (∀ y ∈ l, y < n) ↔ x < n := by
 constructor
 ·intro k; exact k x (List.mem_of_getElem? hx)
 ·intro k y hy
  have w_ := List.mem_iff_getElem?.1 hy
  obtain ⟨i, hi⟩ := w_
  have hil := (List.getElem?_eq_some_iff.1 hi).1
  rcases Nat.lt_or_ge i (l.length - 1) with h1 | h1
  ·have := srt_get h.srt h1 hi hx; omega
  ·obtain rfl : i = l.length - 1 := by omega
   rw [hx] at hi; cases hi; exact k
end
end Go.Vx
namespace Go.Vx
open Go.Proofs Classical
section
variable {μ : Mem}
theorem Rep.srcAll {es n cap : Nat} {base : Option Addr} {ds : List D} (h : RepV μ (.sl es ds) (.slice base n cap)) : ∃ vs, Rows μ es ds vs ∧ vs.length = n ∧ SrcAt μ base n es vs := by
 have w_ := Rep.src h
 obtain ⟨vs, hrows, hvl, hcap, hsrc⟩ := w_
 have := hsrc 0 n (Nat.zero_le _) (Nat.le_refl _)
 have e1 : (if cap = 0 then base else base.map (·.add (0 * es))) = base := by
  split
  ·rfl
  ·cases base with
   | none => rfl
   | some a => simp [Addr.add]
 rw [e1, Nat.sub_zero, List.drop_zero, List.take_of_length_le (by omega)] at this
 exact ⟨vs, hrows, hvl, this⟩
end
end Go.Vx
namespace Go.Vx
open Go.Proofs Classical
def T.hasSym (s : ByteArray) : T → Prop
 | .sym a => a = s
 | .pair a b => a.hasSym s ∨ b.hasSym s
 | .nil => False
 | .var _ => False
 | .num _ => False
theorem T.hasSym_args (s : ByteArray) (x : T) : x.hasSym s ↔ (x.tm.kind = 2 ∧ x.tm.name = s) ∨ ∃ y ∈ x.args, y.hasSym s := by
 cases x <;> simp [T.hasSym, T.tm, Tm.kind, Tm.name, T.args]
section
variable {μ : Mem}
theorem Fresh.bd {μ' : Mem} {n : Int} {x : T} {q : Option Addr × Nat} (h : Fresh μ μ' x.tm.d (.agg (x.tm.cs q).toArray)) (hle : μ.Le μ') : Fresh μ μ' (B.bd ⟨n, x⟩).d (.agg (Value.int .i64 n :: x.tm.cs q).toArray) := by
 have := (FreshS.int (n := n) (FreshS.cons h hle (Mem.Le.refl _) FreshS.nil)).st
 have e : vcells (.agg (x.tm.cs q).toArray) ++ [] = x.tm.cs q := by simp [vcells]
 rw [e] at this
 exact this
set_option maxHeartbeats 4000000 in
theorem RepV.bd {n : Int} {x : T} {q : Option Addr × Nat} (h : RepV μ x.tm.d (.agg (x.tm.cs q).toArray)) : RepV μ (B.bd ⟨n, x⟩).d (.agg (Value.int .i64 n :: x.tm.cs q).toArray) := by
 have hc := RepV.cells h
 have e : vcells (.agg (x.tm.cs q).toArray) = x.tm.cs q := by simp [vcells]
 rw [e] at hc
 exact ⟨_, rfl, RepS.int (RepS.last hc)⟩
theorem l10Contains_spec (s : ByteArray) : ∀ (x : T) {v : Value}, RepV μ x.tm.d v → Gives Tryz.prog 166 [v, .string s] μ (.bool (decide (x.hasSym s))) :=
 T.ind fun x ih v hv => by
  have w_ := T.inv hv
  obtain ⟨base, cap, rfl, hsl⟩ := w_
  have hn := maxLen_le hsl.max
  refine Spec.mk Tryz.func166 (by kernel_rfl) ?_
  intro r
  refine lIn (fun i : Nat => i ≤ x.args.length ∧ ∀ j y, j < i → x.args[j]? = some y → ¬ y.hasSym s)
   (fun i => ⟨[(1, .val (.string s)), (2, .loc 0 r 0), (8, .val (.slice base x.args.length cap)), (9, .val (.int .i64 x.args.length)), (10, .val (.int .i64 i))], [(0, some (.cells r [.val (.int .i64 x.tm.kind), .val (.int .i64 x.tm.num), .val (.string x.tm.name), .val (.slice base x.args.length cap)] 50))], 1, μ, Mem.nil⟩) (fun i => x.args.length - i)
   0 ⟨by omega, fun j y hj => by omega⟩ (fun _ => ⟨rfl, rfl⟩) ⟨⟨rfl, rfl, rfl, rfl, rfl, trivial⟩, ⟨rfl, trivial⟩, rfl, rfl⟩ ?_
  rintro i ⟨hi, hno⟩
  refine ifd (fun h => ?_) (fun h => ?_)
  ·have w_ := aSo (l := x.args) (i := i) (by omega)
   obtain ⟨t, ht⟩ := w_
   have w_ := T.arg hsl ht
   obtain ⟨ad, p, hel, hto⟩ := w_
   refine eIn hel ?_
   intro r2
   refine cGv (ih t (mAt ht) hto) ?_
   refine ifd (fun hy => rGv (isT ((T.hasSym_args s x).2 (.inr ⟨t, mAt ht, hy⟩))) rfl) (fun hy => ?_)
   refine num64 (by omega) (by omega) ⟨i + 1, ⟨by omega, fun j y hj hy2 => ?_⟩, by omega, ⟨⟨rfl, rfl, rfl, rfl, rfl, trivial⟩, ⟨rfl, trivial⟩, rfl, rfl⟩⟩
   rcases Nat.lt_or_ge j i with h6 | h6
   ·exact hno j y h6 hy2
   ·obtain rfl : j = i := by omega
    rw [ht] at hy2; cases hy2; exact hy
  ·obtain rfl : i = x.args.length := by omega
   have hn2 : ¬ ∃ y ∈ x.args, y.hasSym s := fun ⟨y, hy, h2⟩ => by
    have w_ := List.mem_iff_getElem?.1 hy
    obtain ⟨j, hj⟩ := w_
    exact hno j y (List.getElem?_eq_some_iff.1 hj).1 hj h2
   refine ifd (fun h2 => ?_) (fun h2 => rGv (isF fun k => ((T.hasSym_args s x).1 k).elim (fun k => h2 k.1) hn2) rfl)
   refine rGv ?_ rfl
   congr 1
   rw [Bool.eq_iff_iff, decide_eq_true_eq, decide_eq_true_eq]
   exact ⟨fun k => (T.hasSym_args s x).2 (.inl ⟨h2, k⟩), fun k => ((T.hasSym_args s x).1 k).elim (fun k => k.2) fun k => absurd k hn2⟩
theorem hasSymbol_spec (s : ByteArray) : ∀ (x : T) {v : Value}, RepV μ x.tm.d v → Gives Tryz.prog 120 [v, .string s] μ (.bool (decide (x.hasSym s))) :=
 T.ind fun x ih v hv => by
  have w_ := T.inv hv
  obtain ⟨b1, c1, rfl, hs1⟩ := w_
  refine Spec.mk Tryz.func120 (by kernel_rfl) ?_
  intro r
  refine ifd (fun h4 => ?_) (fun h4 => ?_)
  ·have w_ := T.kind4 h4
   obtain ⟨a, b, rfl⟩ := w_
   have w_ := T.arg hs1 (i := 0) rfl
   obtain ⟨ad1, p1, e1, g1⟩ := w_
   have w_ := T.arg hs1 (i := 1) rfl
   obtain ⟨ad3, p3, e3, g3⟩ := w_
   refine eIn e1 (cGv (ih a (by simp [T.args]) g1) ?_)
   refine ifd (fun h => rGv (isT (.inl h)) rfl) (fun h => ?_)
   refine eIn e3 (cGv (ih b (by simp [T.args]) g3) (rGv ?_ rfl))
   congr 1
   rw [Bool.eq_iff_iff, decide_eq_true_eq, decide_eq_true_eq]
   exact ⟨.inr, fun k => k.elim (fun k => absurd k h) id⟩
  ·have hno : ¬ ∃ y ∈ x.args, y.hasSym s := fun ⟨y, hy, _⟩ => by
    cases x <;> first | (simp [T.args] at hy; done) | exact h4 rfl
   refine ifd (fun h2 => rGv ?_ rfl) (fun h2 => rGv (isF fun k => ((T.hasSym_args s x).1 k).elim (fun k => h2 k.1) hno) rfl)
   congr 1
   rw [Bool.eq_iff_iff, decide_eq_true_eq, decide_eq_true_eq]
   exact ⟨fun k => (T.hasSym_args s x).2 (.inl ⟨h2, k⟩), fun k => ((T.hasSym_args s x).1 k).elim (fun k => k.2) fun k => absurd k hno⟩
end
end Go.Vx
namespace Go.Vx
open Go.Sort
section
variable {α : Type} {lt : α → α → Bool}
end
section
variable {α : Type} [Inhabited α] {lt : α → α → Bool} {d c R : Array α}
structure Sw (a b n : Nat) (d d' : Array α) : Prop where
 size : d'.size = d.size
 fst : ∀ t, t < n → d'[a + t]! = d[b + t]!
 snd : ∀ t, t < n → d'[b + t]! = d[a + t]!
 out : ∀ k, k < a ∨ a + n ≤ k → k < b ∨ b + n ≤ k → d'[k]! = d[k]!
theorem Sw.nil (a b : Nat) (d : Array α) : Sw a b 0 d d := ⟨rfl, fun t h => by omega, fun t h => by omega, fun _ _ _ => rfl⟩
theorem Sw.step {a b n : Nat} (h : Sw a b n d c) (h1 : a + n < b) (h2 : b + n < d.size) : Sw a b (n + 1) d (swp c (a + n) (b + n)) := by
 have g : ∀ k, (swp c (a + n) (b + n))[k]! = if k = b + n then c[a + n]! else if k = a + n then c[b + n]! else c[k]! := fun k => swp_get c (by rw [h.size]; omega) (by rw [h.size]; omega) k
 refine ⟨by rw [Go.Sort.swp_size, h.size], fun t ht => ?_, fun t ht => ?_, fun k hk1 hk2 => ?_⟩
 ·rw [g, if_neg (by omega)]
  by_cases e : t = n
  ·subst e; rw [if_pos rfl, h.out _ (by omega) (by omega)]
  ·rw [if_neg (by omega), h.fst t (by omega)]
 ·rw [g]
  by_cases e : t = n
  ·subst e; rw [if_pos rfl, h.out _ (by omega) (by omega)]
  ·rw [if_neg (by omega), if_neg (by omega), h.snd t (by omega)]
 ·rw [g, if_neg (by omega), if_neg (by omega), h.out k (by omega) (by omega)]
structure Rot (a m b : Nat) (d d' : Array α) : Prop where
 size : d'.size = d.size
 out : ∀ k, k < a ∨ b ≤ k → d'[k]! = d[k]!
 lo : ∀ t, t < b - m → d'[a + t]! = d[m + t]!
 hi : ∀ t, t < m - a → d'[a + (b - m) + t]! = d[a + t]!
theorem Rot.same {m i : Nat} (hi : i ≤ m) (s : Sw (m - i) m i d R) : Rot (m - i) m (m + i) d R where
 size := s.size
 out k hk := s.out k (by omega) (by omega)
 lo t ht := s.fst t (by omega)
 hi t ht := by rw [show m - i + (m + i - m) + t = m + t by omega]; exact s.snd t (by omega)
section
variable {s m e : Nat}
theorem SortedIn.sub {a b a' b' : Nat} (h : SortedIn lt a b d) (h1 : a ≤ a') (h2 : b' ≤ b) : SortedIn lt a' b' d := fun i j hi hij hj => h i j (by omega) hij (by omega)
structure Cut (lt : α → α → Bool) (a s m e b : Nat) (d : Array α) : Prop where
 sa : a ≤ s
 sm : s ≤ m
 me : m ≤ e
 eb : e ≤ b
 lo : ∀ x y, a ≤ x → x < s → e ≤ y → y < b → lt d[y]! d[x]! = false
 hi : ∀ x y, s ≤ x → x < m → m ≤ y → y < e → lt d[x]! d[y]! = false
theorem Rot.up {a i : Nat} (h : Rot a (a + 1) (i + 1) d c) (ha : a ≤ i) (hi : i + 1 < d.size) : Rot a (a + 1) (i + 2) d (swp c i (i + 1)) := by
 have g : ∀ k, (swp c i (i + 1))[k]! = if k = i + 1 then c[i]! else if k = i then c[i + 1]! else c[k]! := fun k => swp_get c (by rw [h.size]; omega) (by rw [h.size]; omega) k
 refine ⟨by rw [Go.Sort.swp_size, h.size], fun k hk => ?_, fun t ht => ?_, fun t ht => ?_⟩
 ·rw [g, if_neg (by omega), if_neg (by omega), h.out k (by omega)]
 ·rw [g, if_neg (by omega)]
  by_cases e : a + t = i
  ·rw [if_pos e, h.out _ (by omega), show a + 1 + t = i + 1 by omega]
  ·rw [if_neg e, h.lo t (by omega)]
 ·obtain rfl : t = 0 := by omega
  rw [g, if_pos (by omega)]
  have := h.hi 0 (by omega)
  rwa [show a + (i + 1 - (a + 1)) + 0 = i by omega] at this
end
end
end Go.Vx
namespace Go.Vx
open Go.Proofs Classical
structure Ord3 {α : Type} (c : α → α → Int) : Prop where
 zero : ∀ x y, c x y = 0 ↔ x = y
 anti : ∀ x y, c x y < 0 ↔ 0 < c y x
 trans : ∀ x y z, c x y < 0 → c y z < 0 → c x z < 0
def lexI (p q : Int) : Int := if p = 0 then q else p
def cInt (a b : Int) : Int := if a = b then 0 else sgn (decide (a < b))
noncomputable def B.cmp (x y : B) : Int := lexI (cInt x.var y.var) (x.to.cmp y.to)
end Go.Vx
namespace Go.Vx
open Go.Proofs Classical
section
variable {α : Type} {c : α → α → Int}
def Asc3 (c : α → α → Int) (l : List α) : Prop := l.Pairwise fun a b => c a b < 0
theorem Ord3.irrefl (h : Ord3 c) (x : α) : ¬ c x x < 0 := by have := (h.zero x x).2 rfl; omega
theorem Asc3.nodup (h : Ord3 c) {l : List α} (hl : Asc3 c l) : l.Nodup := hl.imp fun {a b} k e => by subst e; exact h.irrefl _ k
theorem Asc3.uniq (h : Ord3 c) {l m : List α} (hl : Asc3 c l) (hm : Asc3 c m) (e : ∀ x, x ∈ l ↔ x ∈ m) : l = m := by
 have hp : l.Perm m := (List.perm_ext_iff_of_nodup (hl.nodup h) (hm.nodup h)).2 e
 refine List.Perm.eq_of_pairwise (le := fun a b => c a b < 0) (fun a b _ _ h1 h2 => ?_) hl hm hp
 have := (h.anti a b).1 h1
 omega
end
end Go.Vx
namespace Go.Vx
open Go.Proofs Classical
def Gl.Pos (g : Gl) : Prop := ∀ x ∈ g.all, x.kind ≠ 10
def Pg.Pos (p : Pg) : Prop := p.Ok ∧ ∀ r ∈ p.rels, r.body.Pos
section
variable {μ : Mem}
end
end Go.Vx
namespace Go.Vx
open Go.Proofs Classical
def prodC (a l : List (List Gl)) : List (List Gl) := a.flatMap fun x => l.map fun y => x ++ y
mutual
noncomputable def Gl.cl : Gl → Option (List (List Gl))
 | .mk k s ts gs => if k = 0 then some [[]] else if k = 1 then some [] else if k = 8 then Gl.clOr gs [] else if k = 7 then Gl.clAnd gs [[]] else some [[.mk k s ts gs]]
noncomputable def Gl.clOr : List Gl → List (List Gl) → Option (List (List Gl))
 | [], acc => some acc
 | g :: r, acc => (g.cl).bind fun l => if (acc ++ l).length ≤ 64 then Gl.clOr r (acc ++ l) else none
noncomputable def Gl.clAnd : List Gl → List (List Gl) → Option (List (List Gl))
 | [], acc => some acc
 | g :: r, acc => (g.cl).bind fun l => if (prodC acc l).length ≤ 64 then Gl.clAnd r (prodC acc l) else none
end
def csD (c : List Gl) : D := .sl 4 (c.map Gl.d)
section
variable {μ : Mem}
abbrev Cls (μ : Mem) (L : List (List Gl)) (v : Value) : Prop := RepV μ (.sl 1 (L.map csD)) v
theorem Cls.sl {L : List (List Gl)} {b : Option Addr} {n c : Nat} (h : Cls μ L (.slice b n c)) : Sl μ 1 b L.length (L.map csD) ∧ n = L.length := by
 have w_ := Rep.sl h
 obtain ⟨b', c', e1, hs⟩ := w_
 have w_ := Value.slice.inj e1
 obtain ⟨rfl, e2, _⟩ := w_
 rw [List.length_map] at hs e2
 exact ⟨hs, e2⟩
theorem Cls.inv {L : List (List Gl)} {v : Value} (h : Cls μ L v) : ∃ p : Option Addr × Nat, v = .slice p.1 L.length p.2 := by
 have w_ := Rep.sl h
 obtain ⟨b, k, rfl, _⟩ := w_
 exact ⟨(b, k), by rw [List.length_map]⟩
structure ClsOk (μ : Mem) (g : Gl) (v : Value) (L : List (List Gl)) : Prop where
 rep : Cls μ L v
 cl : g.cl = if L.length ≤ 64 then some L else none
 len : ∀ c ∈ L, c.length ≤ g.cnt
 max : L.length ≤ 4096
end
end Go.Vx
namespace Go.Vx
open Go.Proofs Classical
structure RowsFit (p : Pg) (rows : List Int) : Prop where
 pos : p.Pos
 cls : ∀ r ∈ p.rels, r.body.cl ≠ none
 len : rows.length = p.rels.length
 rng : ∀ (i : Nat) n r, rows[i]? = some n → p.rels[i]? = some r → 0 ≤ n ∧ n < 2 ^ (2 ^ r.arity.toNat)
section
variable {μ : Mem}
end
end Go.Vx
namespace Go.Vx
open Go.Proofs Classical
noncomputable def T.ap (s : Int → T) : T → T
 | .nil => .nil
 | .var n => s n
 | .sym x => .sym x
 | .num n => .num n
 | .pair a b => .pair (a.ap s) (b.ap s)
def T.occ (n : Int) : T → Prop
 | .var m => m = n
 | .pair a b => a.occ n ∨ b.occ n
 | _ => False
theorem T.ap_congr {s t : Int → T} : ∀ {x : T}, (∀ n, x.occ n → s n = t n) → x.ap s = x.ap t
 | .nil, _ => rfl
 | .var n, h => h n rfl
 | .sym _, _ => rfl
 | .num _, _ => rfl
 | .pair a b, h => by rw [T.ap, T.ap, T.ap_congr fun n k => h n (.inl k), T.ap_congr fun n k => h n (.inr k)]
theorem T.ap_var : ∀ x : T, x.ap T.var = x
 | .nil => rfl
 | .var _ => rfl
 | .sym _ => rfl
 | .num _ => rfl
 | .pair a b => by rw [T.ap, T.ap_var a, T.ap_var b]
theorem T.ap_ap (s t : Int → T) : ∀ x : T, (x.ap s).ap t = x.ap fun n => (s n).ap t
 | .nil => rfl
 | .var _ => rfl
 | .sym _ => rfl
 | .num _ => rfl
 | .pair a b => by rw [T.ap, T.ap, T.ap, T.ap_ap s t a, T.ap_ap s t b]
theorem T.ap_fix {s : Int → T} : ∀ {x : T}, x.ap s = x → ∀ n, x.occ n → s n = .var n
 | .var m, h, n, k => by
  have k : m = n := k
  subst k; exact h
 | .pair a b, h, n, k => by
  rw [T.ap, T.pair.injEq] at h
  rcases k with k | k
  ·exact T.ap_fix h.1 n k
  ·exact T.ap_fix h.2 n k
 | .nil, _, n, k => k.elim
 | .sym _, _, n, k => k.elim
 | .num _, _, n, k => k.elim
def SolvesE (s : Int → T) (E : List (T × T)) : Prop := ∀ e ∈ E, e.1.ap s = e.2.ap s
structure Solved (s : Int → T) (E : List (T × T)) : Prop where
 sol : SolvesE s E
 gen : ∀ t : Int → T, SolvesE t E → ∀ n, (s n).ap t = t n
 least : ∀ n m, s n = .var m → m ≤ n
theorem Solved.idem {s : Int → T} {E : List (T × T)} (h : Solved s E) (n : Int) : (s n).ap s = s n := h.gen s h.sol n
theorem Solved.self {s : Int → T} {E : List (T × T)} (h : Solved s E) {n m : Int} (k : (s n).occ m) : s m = .var m := T.ap_fix (h.idem n) m k
theorem Solved.uniq {s t : Int → T} {E : List (T × T)} (hs : Solved s E) (ht : Solved t E) : s = t := funext fun n => by
 have key : ∀ u, (s n).occ u → t u = .var u := fun u hu => by
  have h1 := hs.self hu
  have h2 := ht.gen s hs.sol u
  rw [h1] at h2
  cases e : t u with
  | var w =>
   rw [e] at h2
   have h3 : s w = .var u := h2
   have h4 := ht.least u w e
   have h5 := hs.least w u h3
   rw [show w = u by omega]
  | _ => rw [e] at h2; cases h2
 have h1 := hs.gen t ht.sol n
 rw [← h1]
 refine ((T.ap_congr (t := T.var) key).trans (T.ap_var _)).symm
theorem Solved.nil : Solved T.var [] := ⟨fun e h => by simp at h, fun t _ n => rfl, fun n m h => by cases h; exact Int.le_refl _⟩
noncomputable def T.one (v : Int) (x : T) (n : Int) : T := if n = v then x else .var n
theorem T.one_fix {v : Int} {x : T} : ∀ {y : T}, ¬ y.occ v → y.ap (T.one v x) = y := fun {y} h => by
 refine (T.ap_congr (t := T.var) fun n k => ?_).trans (T.ap_var _)
 rw [T.one, if_neg fun e => by subst e; exact h k]
theorem Solved.bind {s : Int → T} {E : List (T × T)} (h : Solved s E) {a b : T} {v : Int} {x : T} (ha : a.ap s = .var v) (hb : b.ap s = x) (ho : ¬ x.occ v) (hl : ∀ m, x = .var m → m < v) : Solved (fun n => (s n).ap (T.one v x)) ((a, b) :: E) := by
 have hx : ∀ y : T, y.ap (fun n => (s n).ap (T.one v x)) = (y.ap s).ap (T.one v x) := fun y => (T.ap_ap _ _ y).symm
 refine ⟨fun e he => ?_, fun t ht n => ?_, fun n m hm => ?_⟩
 ·rcases List.mem_cons.1 he with rfl | he
  ·rw [hx, hx, ha, hb, T.one_fix ho]
   show T.one v x v = x
   rw [T.one, if_pos rfl]
  ·rw [hx, hx, h.sol e he]
 ·have hE : SolvesE t E := fun e he => ht e (List.mem_cons_of_mem _ he)
  have hg := h.gen t hE
  have hap : ∀ y : T, (y.ap s).ap t = y.ap t := fun y => by rw [T.ap_ap]; exact T.ap_congr fun n _ => hg n
  have h1 : t v = x.ap t := by
   have h2 := ht (a, b) (by simp)
   rw [← hap a, ← hap b, ha, hb] at h2
   exact h2
  rw [T.ap_ap, ← hg n]
  refine T.ap_congr fun m _ => ?_
  rw [T.one]
  split
  ·rename_i e; rw [e]; exact h1.symm
  ·rfl
 ·cases e : s n with
  | var w =>
   rw [e] at hm
   have hm : T.one v x w = .var m := hm
   have h1 := h.least n w e
   rw [T.one] at hm
   split at hm
   ·have := hl m hm; omega
   ·cases hm; omega
  | _ => rw [e] at hm; cases hm
theorem T.size_occ {s : Int → T} {v : Int} : ∀ {x : T}, x.occ v → (s v).size ≤ (x.ap s).size
 | .var m, h => by
  have h : m = v := h
  subst h; exact Nat.le_refl _
 | .pair a b, h => by
  rw [T.ap]
  rcases h with h | h
  ·have := T.size_occ (s := s) h; simp only [T.size]; omega
  ·have := T.size_occ (s := s) h; simp only [T.size]; omega
 | .nil, h => h.elim
 | .sym _, h => h.elim
 | .num _, h => h.elim
theorem Solved.occurs {s : Int → T} {E : List (T × T)} (h : Solved s E) {a b : T} {v : Int} {x : T} (ha : a.ap s = .var v) (hb : b.ap s = x) (ho : x.occ v) (hne : x ≠ .var v) (t : Int → T) : ¬ SolvesE t ((a, b) :: E) := fun ht => by
 have hE : SolvesE t E := fun e he => ht e (List.mem_cons_of_mem _ he)
 have hg := h.gen t hE
 have hap : ∀ y : T, (y.ap s).ap t = y.ap t := fun y => by rw [T.ap_ap]; exact T.ap_congr fun n _ => hg n
 have h2 := ht (a, b) (by simp)
 rw [← hap a, ← hap b, ha, hb] at h2
 have h2 : t v = x.ap t := h2
 cases x with
 | var m => exact hne (by have ho : m = v := ho; rw [ho])
 | pair p q =>
  have h3 : (t v).size < ((T.pair p q).ap t).size := by
   rw [T.ap]
   rcases ho with ho | ho
   ·have := T.size_occ (s := t) ho; simp only [T.size]; omega
   ·have := T.size_occ (s := t) ho; simp only [T.size]; omega
  rw [h2] at h3; omega
 | _ => exact ho.elim
theorem T.size_pos1 (x : T) : 1 ≤ x.size := by cases x <;> simp [T.size] <;> omega
theorem T.size_ap (s : Int → T) : ∀ x : T, x.size ≤ (x.ap s).size
 | .nil => Nat.le_refl _
 | .var n => by
  rw [T.ap]
  have := T.size_pos1 (s n)
  simp only [T.size]; omega
 | .sym _ => Nat.le_refl _
 | .num _ => Nat.le_refl _
 | .pair a b => by
  have h1 := T.size_ap s a
  have h2 := T.size_ap s b
  rw [T.ap]
  simp only [T.size]; omega
theorem Solved.grows {s t : Int → T} {E F : List (T × T)} (hs : Solved s E) (ht : Solved t F) (h : ∀ e ∈ E, e ∈ F) (n : Int) : (s n).size ≤ (t n).size := by
 have hE : SolvesE t E := fun e he => ht.sol e (h e he)
 rw [← hs.gen t hE n]
 exact T.size_ap _ _
theorem Solved.stays {s t : Int → T} {E F : List (T × T)} (hs : Solved s E) (ht : Solved t F) (h : ∀ e ∈ E, e ∈ F) {n : Int} (k : s n ≠ .var n) : t n ≠ .var n := fun e => by
 have hE : SolvesE t E := fun e he => ht.sol e (h e he)
 have h1 := hs.gen t hE n
 rw [e] at h1
 cases e2 : s n with
 | var w =>
  rw [e2] at h1
  have h3 : t w = .var n := h1
  have h4 := hs.least n w e2
  have h5 := ht.least w n h3
  exact k (by rw [e2, show w = n by omega])
 | _ => rw [e2] at h1; cases h1
theorem solvesE_pair {t : Int → T} {a b c d : T} {E : List (T × T)} : SolvesE t ((.pair a b, .pair c d) :: E) ↔ SolvesE t ((b, d) :: (a, c) :: E) := by
 constructor
 ·intro h e he
  have h0 := h (.pair a b, .pair c d) (by simp)
  have h0 : T.pair (a.ap t) (b.ap t) = T.pair (c.ap t) (d.ap t) := h0
  rw [T.pair.injEq] at h0
  rcases List.mem_cons.1 he with rfl | he
  ·exact h0.2
  ·rcases List.mem_cons.1 he with rfl | he
   ·exact h0.1
   ·exact h e (List.mem_cons_of_mem _ he)
 ·intro h e he
  rcases List.mem_cons.1 he with rfl | he
  ·show T.pair (a.ap t) (b.ap t) = T.pair (c.ap t) (d.ap t)
   rw [show a.ap t = c.ap t from h (a, c) (by simp), show b.ap t = d.ap t from h (b, d) (by simp)]
  ·exact h e (List.mem_cons_of_mem _ (List.mem_cons_of_mem _ he))
theorem Solved.same {s : Int → T} {E F : List (T × T)} (h : Solved s E) (k : ∀ t, SolvesE t E ↔ SolvesE t F) : Solved s F := ⟨(k s).1 h.sol, fun t ht => h.gen t ((k t).2 ht), h.least⟩
theorem Solved.walk {s : Int → T} {E : List (T × T)} (h : Solved s E) {a b a' b' : T} (ha : a.ap s = a'.ap s) (hb : b.ap s = b'.ap s) (t : Int → T) : SolvesE t ((a, b) :: E) ↔ SolvesE t ((a', b') :: E) := by
 have key : SolvesE t E → ∀ y : T, (y.ap s).ap t = y.ap t := fun hE y => by rw [T.ap_ap]; exact T.ap_congr fun n _ => h.gen t hE n
 constructor
 ·intro k e he
  have hE : SolvesE t E := fun e he => k e (List.mem_cons_of_mem _ he)
  rcases List.mem_cons.1 he with rfl | he
  ·show a'.ap t = b'.ap t
   rw [← key hE a', ← key hE b', ← ha, ← hb, key hE, key hE]
   exact k (a, b) (by simp)
  ·exact hE e he
 ·intro k e he
  have hE : SolvesE t E := fun e he => k e (List.mem_cons_of_mem _ he)
  rcases List.mem_cons.1 he with rfl | he
  ·show a.ap t = b.ap t
   rw [← key hE a, ← key hE b, ha, hb, key hE, key hE]
   exact k (a', b') (by simp)
  ·exact hE e he
end Go.Vx
namespace Go.Vx
open Go.Proofs Classical
theorem filter_le {α : Type} {p q : α → Bool} : ∀ {l : List α}, (∀ n ∈ l, p n = true → q n = true) → (l.filter p).length ≤ (l.filter q).length
 | [], _ => Nat.le_refl _
 | a :: l, h => by
  have ih := filter_le (l := l) fun n hn => h n (List.mem_cons_of_mem _ hn)
  have ha := h a (by simp)
  cases e : p a with
  | true => rw [List.filter_cons_of_pos e, List.filter_cons_of_pos (ha e), List.length_cons, List.length_cons]; omega
  | false =>
   rw [List.filter_cons_of_neg (by simp [e])]
   cases e2 : q a with
   | true => rw [List.filter_cons_of_pos e2, List.length_cons]; omega
   | false => rw [List.filter_cons_of_neg (by simp [e2])]; exact ih
theorem filter_lt {α : Type} {p q : α → Bool} : ∀ {l : List α}, (∀ n ∈ l, p n = true → q n = true) → ∀ v ∈ l, p v = false → q v = true → (l.filter p).length < (l.filter q).length
 | [], _, v, hv, _, _ => by simp at hv
 | a :: l, h, v, hv, h1, h2 => by
  have hle := filter_le (l := l) fun n hn => h n (List.mem_cons_of_mem _ hn)
  rcases List.mem_cons.1 hv with rfl | hv
  ·rw [List.filter_cons_of_neg (by simp [h1]), List.filter_cons_of_pos h2, List.length_cons]; omega
  ·have ih := filter_lt (l := l) (fun n hn => h n (List.mem_cons_of_mem _ hn)) v hv h1 h2
   have ha := h a (by simp)
   cases e : p a with
   | true => rw [List.filter_cons_of_pos e, List.filter_cons_of_pos (ha e), List.length_cons, List.length_cons]; omega
   | false =>
    rw [List.filter_cons_of_neg (by simp [e])]
    cases e2 : q a with
    | true => rw [List.filter_cons_of_pos e2, List.length_cons]; omega
    | false => rw [List.filter_cons_of_neg (by simp [e2])]; exact ih
noncomputable def freeN (N : List Int) (s : Int → T) : Nat := (N.filter fun n => decide (s n = .var n)).length
theorem freeN_lt {s t : Int → T} {E F : List (T × T)} (hs : Solved s E) (ht : Solved t F) (h : ∀ e ∈ E, e ∈ F) {N : List Int} {v : Int} (hv : v ∈ N) (h1 : s v = .var v) (h2 : t v ≠ .var v) : freeN N t < freeN N s :=
 filter_lt (fun n _ k => by
  simp only [decide_eq_true_eq] at k ⊢
  exact Classical.byContradiction fun g => hs.stays ht h g k) v hv (decide_eq_false h2) (decide_eq_true h1)
noncomputable def asF (bs : List B) (n : Int) : T := (sub bs n).getD (.var n)
theorem subst_ap (f : Int → Option T) : ∀ x : T, x.subst f = x.ap fun n => (f n).getD (.var n)
 | .nil => rfl
 | .var _ => rfl
 | .sym _ => rfl
 | .num _ => rfl
 | .pair a b => by rw [T.subst, T.ap, subst_ap f a, subst_ap f b]
theorem subst_asF (bs : List B) (x : T) : x.subst (sub bs) = x.ap (asF bs) := subst_ap _ x
theorem sub_mapTo (g : T → T) : ∀ (bs : List B) (n : Int), sub (bs.map fun b => ⟨b.var, g b.to⟩) n = (sub bs n).map g
 | [], n => rfl
 | b :: r, n => by
  rw [List.map_cons, sub, sub, sub_mapTo g r]
  split <;> rfl
theorem asF_bind {bs : List B} {v : Int} {x : T} {k : Nat} (hv : sub bs v = none) : asF (insAt (bs.map fun b => ⟨b.var, b.to.ap (T.one v x)⟩) ⟨v, x⟩ k) = fun n => (asF bs n).ap (T.one v x) := funext fun n => by
 have e1 : sub (bs.map fun b => (⟨b.var, b.to.ap (T.one v x)⟩ : B)) n = (sub bs n).map fun y => y.ap (T.one v x) := sub_mapTo (fun y => y.ap (T.one v x)) bs n
 have e2 : sub ((bs.map fun b => (⟨b.var, b.to.ap (T.one v x)⟩ : B)).take k) n = none ∨ v ≠ n := by
  by_cases e : v = n
  ·left
   subst e
   have h3 : sub (bs.map fun b => (⟨b.var, b.to.ap (T.one v x)⟩ : B)) v = none := by rw [e1, hv]; rfl
   rw [← List.take_append_drop k (bs.map _), sub_append] at h3
   cases h4 : sub ((bs.map fun b => (⟨b.var, b.to.ap (T.one v x)⟩ : B)).take k) v with
   | none => rfl
   | some y => rw [h4] at h3; cases h3
  ·exact .inr e
 have e3 : sub (insAt (bs.map fun b => (⟨b.var, b.to.ap (T.one v x)⟩ : B)) ⟨v, x⟩ k) n = if v = n then some x else (sub bs n).map fun y => y.ap (T.one v x) := by
  rw [insAt, sub_append, sub_append]
  by_cases e : v = n
  ·rw [if_pos e, e2.resolve_right (fun h => h e)]
   simp [sub, e]
  ·have h5 : sub [(⟨v, x⟩ : B)] n = none := by simp [sub, e]
   rw [if_neg e, h5, Option.none_or, ← sub_append, List.take_append_drop, e1]
 rw [asF, e3, asF]
 by_cases e : v = n
 ·rw [if_pos e, ← e, hv]
  show x = T.one v x v
  rw [T.one, if_pos rfl]
 ·rw [if_neg e]
  cases sub bs n with
  | none =>
   show T.var n = T.one v x n
   rw [T.one, if_neg fun h => e h.symm]
  | some y => rfl
end Go.Vx
namespace Go.Vx
open Go.Proofs Classical
theorem nodup_sub : ∀ {l m : List Int}, l.Nodup → (∀ x ∈ l, x ∈ m) → l.length ≤ m.length
 | [], _, _, _ => Nat.zero_le _
 | a :: l, m, hn, h => by
  have w_ := List.nodup_cons.1 hn
  obtain ⟨h1, h2⟩ := w_
  have ha := h a (by simp)
  have ih := nodup_sub (l := l) (m := m.erase a) h2 fun x hx => (List.mem_erase_of_ne fun e => by subst e; exact h1 hx).2 (h x (List.mem_cons_of_mem _ hx))
  have hl := List.length_erase_of_mem ha
  have := List.length_pos_of_mem ha
  rw [List.length_cons]; omega
theorem sub_in {bs : List B} {n : Int} {x : T} (h : sub bs n = some x) : (⟨n, x⟩ : B) ∈ bs := by
 induction bs with
 | nil => cases h
 | cons b r ih =>
  rw [sub] at h
  split at h
  ·rename_i e
   cases h
   rw [← e]
   exact List.mem_cons_self ..
  ·exact List.mem_cons_of_mem _ (ih h)
theorem Srt.pw {bs : List B} (h : Srt bs) : bs.Pairwise fun a b => a.var < b.var := by
 rw [List.pairwise_iff_getElem]
 intro i j hi hj hij
 exact h i j _ _ hij (by simp) (by simp)
theorem sub_of_mem {bs : List B} (h : bs.Pairwise fun a b => a.var < b.var) {b : B} (hb : b ∈ bs) : sub bs b.var = some b.to := by
 induction bs with
 | nil => simp at hb
 | cons a r ih =>
  have w_ := List.pairwise_cons.1 h
  obtain ⟨h1, h2⟩ := w_
  rw [sub]
  rcases List.mem_cons.1 hb with rfl | hb
  ·rw [if_pos rfl]
  ·have := h1 b hb
   rw [if_neg (by omega)]
   exact ih h2 hb
def Proper (bs : List B) : Prop := ∀ b ∈ bs, b.to ≠ .var b.var
theorem asF_inj {bs bt : List B} (hs : Srt bs) (ht : Srt bt) (h1 : Proper bs) (h2 : Proper bt) (e : asF bs = asF bt) : bs = bt := by
 have half : ∀ {bs bt : List B}, Srt bs → Proper bs → asF bs = asF bt → ∀ b ∈ bs, b ∈ bt := fun {bs bt} hs h1 e b hb => by
  have k1 : asF bs b.var = b.to := by rw [asF, sub_of_mem hs.pw hb]; rfl
  rw [e, asF] at k1
  cases k2 : sub bt b.var with
  | none => rw [k2] at k1; exact absurd k1.symm (h1 b hb)
  | some x =>
   rw [k2] at k1
   have k1 : x = b.to := k1
   subst k1
   exact sub_in k2
 have hp : bs.Perm bt := (List.perm_ext_iff_of_nodup (hs.pw.imp fun h e => by subst e; omega) (ht.pw.imp fun h e => by subst e; omega)).2 fun b => ⟨half hs h1 e b, half ht h2 e.symm b⟩
 refine List.Perm.eq_of_pairwise (le := fun a b : B => a.var < b.var) (fun a b _ _ h3 h4 => by omega) hs.pw ht.pw hp
def FitsL (bs : List B) : Prop := (∀ b ∈ bs, b.to.size ≤ 5000) ∧ bs.length ≤ 400
structure SolL (bs : List B) (E : List (T × T)) : Prop where
 srt : Srt bs
 proper : Proper bs
 sol : Solved (asF bs) E
theorem SolL.uniq {bs bt : List B} {E : List (T × T)} (h : SolL bs E) (k : SolL bt E) : bs = bt := asF_inj h.srt k.srt h.proper k.proper (h.sol.uniq k.sol)
noncomputable def unifL (E : List (T × T)) : Option (List B) := if h : ∃ bs, SolL bs E ∧ FitsL bs then some h.choose else none
theorem unifL_some {E : List (T × T)} {bs : List B} (h : SolL bs E) (k : FitsL bs) : unifL E = some bs := by
 have hx : ∃ bs, SolL bs E ∧ FitsL bs := ⟨bs, h, k⟩
 rw [unifL, dif_pos hx, hx.choose_spec.1.uniq h]
theorem unifL_none {E : List (T × T)} (h : ∀ bs, SolL bs E → ¬ FitsL bs) : unifL E = none := by
 rw [unifL, dif_neg]
 rintro ⟨bs, h1, h2⟩
 exact h bs h1 h2
theorem SolL.nil : SolL [] [] := ⟨fun i j b c _ h => by simp at h, fun b h => by simp at h, Solved.nil⟩
theorem asF_bound {bs : List B} (hs : Srt bs) (hp : Proper bs) {n : Int} : asF bs n ≠ .var n ↔ ∃ b ∈ bs, b.var = n := by
 constructor
 ·intro h
  cases k : sub bs n with
  | none => rw [asF, k] at h; exact absurd rfl h
  | some x => exact ⟨_, sub_in k, rfl⟩
 ·rintro ⟨b, hb, rfl⟩
  rw [asF, sub_of_mem hs.pw hb]
  exact hp b hb
theorem SolL.fits_of {bs bt : List B} {E F : List (T × T)} (h : SolL bs E) (k : SolL bt F) (hEF : ∀ e ∈ E, e ∈ F) (hf : FitsL bt) : FitsL bs := by
 refine ⟨fun b hb => ?_, ?_⟩
 ·have h1 := h.sol.grows k.sol hEF b.var
  have h2 : asF bs b.var = b.to := by rw [asF, sub_of_mem h.srt.pw hb]; rfl
  have h3 : asF bt b.var ≠ .var b.var := h.sol.stays k.sol hEF ((asF_bound h.srt h.proper).2 ⟨b, hb, rfl⟩)
  have w_ := (asF_bound k.srt k.proper).1 h3
  obtain ⟨c, hc, e⟩ := w_
  have h4 : asF bt b.var = c.to := by rw [← e, asF, sub_of_mem k.srt.pw hc]; rfl
  rw [h2, h4] at h1
  exact Nat.le_trans h1 (hf.1 c hc)
 ·have hsub : ∀ n ∈ bs.map B.var, n ∈ bt.map B.var := fun n hn => by
   have w_ := List.mem_map.1 hn
   obtain ⟨b, hb, rfl⟩ := w_
   have w_ := (asF_bound k.srt k.proper).1 (h.sol.stays k.sol hEF ((asF_bound h.srt h.proper).2 ⟨b, hb, rfl⟩))
   obtain ⟨c, hc, e⟩ := w_
   exact List.mem_map.2 ⟨c, hc, e⟩
  have hnd : (bs.map B.var).Nodup := by
   rw [List.Nodup, List.pairwise_map]
   exact h.srt.pw.imp fun h => by omega
  have hle := nodup_sub hnd hsub
  simp only [List.length_map] at hle
  exact Nat.le_trans hle hf.2
end Go.Vx
namespace Go.Vx
open Go.Proofs Classical
theorem srt_of_pw {bs : List B} (h : bs.Pairwise fun a b => a.var < b.var) : Srt bs := fun i j b c hij hb hc => by
 rw [List.pairwise_iff_getElem] at h
 have w_ := List.getElem?_eq_some_iff.1 hb
 obtain ⟨hi, rfl⟩ := w_
 have w_ := List.getElem?_eq_some_iff.1 hc
 obtain ⟨hj, rfl⟩ := w_
 exact h i j hi hj hij
noncomputable def bindL (bs : List B) (v : Int) (x : T) (k : Nat) : List B := insAt (bs.map fun b => ⟨b.var, b.to.ap (T.one v x)⟩) ⟨v, x⟩ k
theorem bindL_mem {bs : List B} {v : Int} {x : T} {k : Nat} {c : B} : c ∈ bindL bs v x k ↔ c = ⟨v, x⟩ ∨ ∃ b ∈ bs, c = ⟨b.var, b.to.ap (T.one v x)⟩ := by
 rw [bindL, insAt_mem, List.mem_map]
 constructor
 ·rintro (h | ⟨b, hb, rfl⟩)
  ·exact .inl h
  ·exact .inr ⟨b, hb, rfl⟩
 ·rintro (h | ⟨b, hb, rfl⟩)
  ·exact .inl h
  ·exact .inr ⟨b, hb, rfl⟩
theorem bindL_len {bs : List B} {v : Int} {x : T} {k : Nat} : (bindL bs v x k).length = bs.length + 1 := by
 rw [bindL, insAt_length, List.length_map]
structure PlaceOf (bs : List B) (v : Int) (k : Nat) : Prop where
 lo : ∀ b ∈ bs.take k, b.var < v
 hi : ∀ b ∈ bs.drop k, v < b.var
theorem bindL_srt {bs : List B} {v : Int} {x : T} {k : Nat} (hs : Srt bs) (hk : PlaceOf bs v k) : Srt (bindL bs v x k) := by
 refine srt_of_pw ?_
 have hp := hs.pw
 rw [← List.take_append_drop k bs, List.pairwise_append] at hp
 rw [bindL, insAt, ← List.map_take, ← List.map_drop, List.pairwise_append, List.pairwise_map]
 refine ⟨hp.1, ?_, fun a ha b hb => ?_⟩
 ·refine List.pairwise_cons.2 ⟨fun b hb => ?_, ?_⟩
  rotate_left
  ·show List.Pairwise _ (List.map _ _)
   rw [List.pairwise_map]; exact hp.2.1
  have w_ := List.mem_map.1 hb
  obtain ⟨c, hc, rfl⟩ := w_
  exact hk.hi c hc
 ·have w_ := List.mem_map.1 ha
  obtain ⟨c, hc, rfl⟩ := w_
  rcases List.mem_cons.1 hb with rfl | hb
  ·exact hk.lo c hc
  ·have w_ := List.mem_map.1 hb
   obtain ⟨d, hd, rfl⟩ := w_
   exact hp.2.2 c hc d hd
theorem SolL.bind {bs : List B} {E : List (T × T)} (h : SolL bs E) {a b : T} {v : Int} {x : T} {k : Nat} (ha : a.ap (asF bs) = .var v) (hb : b.ap (asF bs) = x) (ho : ¬ x.occ v) (hl : ∀ m, x = .var m → m < v) (hk : PlaceOf bs v k) (hv : asF bs v = .var v) :
  SolL (bindL bs v x k) ((a, b) :: E) := by
 have hn : sub bs v = none := by
  cases e : sub bs v with
  | none => rfl
  | some y =>
   have h1 := h.proper _ (sub_in e)
   rw [asF, e] at hv
   exact absurd hv h1
 have e : asF (bindL bs v x k) = fun n => (asF bs n).ap (T.one v x) := asF_bind hn
 have hS := h.sol.bind ha hb ho hl
 refine ⟨bindL_srt h.srt hk, fun c hc => ?_, by rw [e]; exact hS⟩
 rcases bindL_mem.1 hc with rfl | ⟨d, hd, rfl⟩
 ·intro k2
  have k2 : x = .var v := k2
  exact ho (by rw [k2]; rfl)
 ·have h1 := h.sol.stays hS (fun e he => List.mem_cons_of_mem _ he) ((asF_bound h.srt h.proper).2 ⟨d, hd, rfl⟩)
  have h2 : asF bs d.var = d.to := by rw [asF, sub_of_mem h.srt.pw hd]; rfl
  have h1 : (asF bs d.var).ap (T.one v x) ≠ .var d.var := h1
  rwa [h2] at h1
theorem exists_place {v : Int} : ∀ {bs : List B}, Srt bs → (∀ b ∈ bs, b.var ≠ v) → ∃ k, k ≤ bs.length ∧ PlaceOf bs v k
 | [], _, _ => ⟨0, Nat.le_refl _, by simp, by simp⟩
 | b :: r, hs, hne => by
  have w_ := List.pairwise_cons.1 hs.pw
  obtain ⟨h1, h2⟩ := w_
  have w_ := exists_place (srt_of_pw h2) fun c hc => hne c (List.mem_cons_of_mem _ hc)
  obtain ⟨k, hk, hp⟩ := w_
  have hb := hne b (by simp)
  by_cases h : b.var < v
  ·refine ⟨k + 1, by rw [List.length_cons]; omega, fun c hc => ?_, fun c hc => hp.hi c (by simpa using hc)⟩
   rw [List.take_succ_cons] at hc
   rcases List.mem_cons.1 hc with rfl | hc
   ·exact h
   ·exact hp.lo c hc
  ·refine ⟨0, Nat.zero_le _, by simp, fun c hc => ?_⟩
   rw [List.drop_zero] at hc
   rcases List.mem_cons.1 hc with rfl | hc
   ·omega
   ·have := h1 c hc; omega
end Go.Vx
namespace Go.Vx
open Go.Proofs Classical
theorem SolL.more {bt : List B} {E F : List (T × T)} (k : SolL bt F) (h : SolvesE (asF bt) E) : SolL bt (E ++ F) :=
 ⟨k.srt, k.proper, fun e he => (List.mem_append.1 he).elim (h e) (k.sol.sol e), fun t ht => k.sol.gen t fun e he => ht e (List.mem_append_right _ he), k.sol.least⟩
theorem SolL.fits_imp {bs bt : List B} {E F : List (T × T)} (h : SolL bs E) (k : SolL bt F) (hE : SolvesE (asF bt) E) (hf : FitsL bt) : FitsL bs :=
 h.fits_of (k.more hE) (fun _e he => List.mem_append_left _ he) hf
def Out (E : List (T × T)) : Option (List B) → Prop
 | some bs => SolL bs E
 | none => ∀ F bt, SolL bt F → SolvesE (asF bt) E → ¬ FitsL bt
theorem Out.none_mono {E E' : List (T × T)} (h : Out E none) (k : ∀ t, SolvesE t E' → SolvesE t E) : Out E' none := fun F bt hb hE => h F bt hb (k _ hE)
theorem Out.same {E E' : List (T × T)} {o : Option (List B)} (h : Out E o) (k : ∀ t, SolvesE t E ↔ SolvesE t E') : Out E' o := by
 cases o with
 | none => exact Out.none_mono h fun t => (k t).2
 | some bs => exact ⟨h.srt, h.proper, h.sol.same k⟩
theorem Out.never {E : List (T × T)} (h : ∀ t, ¬ SolvesE t E) : Out E none := fun _F _bt _ hE => absurd hE (h _)
theorem Out.big {E : List (T × T)} {bs : List B} (h : SolL bs E) (k : ¬ FitsL bs) : Out E none := fun _F _bt hb hE hf => k (h.fits_imp hb hE hf)
theorem Out.unifL {E : List (T × T)} {o : Option (List B)} (h : Out E o) (k : ∀ bs, o = some bs → FitsL bs) : o = unifL E := by
 cases o with
 | none => exact (unifL_none fun bs hb hf => h E bs hb hb.sol.sol hf).symm
 | some bs => exact (unifL_some h (k bs rfl)).symm
theorem SolL.again {bs : List B} {E : List (T × T)} (h : SolL bs E) {a b : T} (e : a.ap (asF bs) = b.ap (asF bs)) : SolL bs ((a, b) :: E) := by
 refine ⟨h.srt, h.proper, fun x hx => ?_, fun t ht => h.sol.gen t fun x hx => ht x (List.mem_cons_of_mem _ hx), h.sol.least⟩
 rcases List.mem_cons.1 hx with rfl | hx
 ·exact e
 ·exact h.sol.sol x hx
end Go.Vx
namespace Go.Vx
open Go.Proofs Classical
theorem fits_bindL {bs : List B} {v : Int} {x : T} {k : Nat} : FitsL (bindL bs v x k) ↔ x.size ≤ 5000 ∧ (∀ b ∈ bs, (b.to.ap (T.one v x)).size ≤ 5000) ∧ bs.length < 400 := by
 unfold FitsL
 rw [bindL_len]
 constructor
 ·rintro ⟨h1, h2⟩
  exact ⟨h1 ⟨v, x⟩ (bindL_mem.2 (.inl rfl)), fun b hb => h1 ⟨b.var, b.to.ap (T.one v x)⟩ (bindL_mem.2 (.inr ⟨b, hb, rfl⟩)), by omega⟩
 ·rintro ⟨h1, h2, h3⟩
  refine ⟨fun c hc => ?_, by omega⟩
  rcases bindL_mem.1 hc with rfl | ⟨b, hb, rfl⟩
  ·exact h1
  ·exact h2 b hb
theorem SolL.occ_out {bs : List B} {E : List (T × T)} (h : SolL bs E) {a b : T} {v : Int} {x : T} (ha : a.ap (asF bs) = .var v) (hb : b.ap (asF bs) = x) (hne : x ≠ .var v) (ho : x.occ v) : Out ((a, b) :: E) none :=
 Out.never fun t => h.sol.occurs ha hb ho hne t
theorem SolL.bind_out {bs : List B} {E : List (T × T)} (h : SolL bs E) {a b : T} {v : Int} {x : T} {k : Nat} (ha : a.ap (asF bs) = .var v) (hb : b.ap (asF bs) = x) (ho : ¬ x.occ v) (hl : ∀ m, x = .var m → m < v) (hk : PlaceOf bs v k) (hv : asF bs v = .var v) :
  Out ((a, b) :: E) (if FitsL (bindL bs v x k) then some (bindL bs v x k) else none) := by
 have hS := h.bind ha hb ho hl hk hv
 by_cases hf : FitsL (bindL bs v x k)
 ·rw [if_pos hf]; exact hS
 ·rw [if_neg hf]; exact Out.big hS hf
theorem solvesE_swap {t : Int → T} {a b : T} {E : List (T × T)} : SolvesE t ((a, b) :: E) ↔ SolvesE t ((b, a) :: E) := by
 constructor
 ·intro h e he
  rcases List.mem_cons.1 he with rfl | he
  ·exact (h (a, b) (by simp)).symm
  ·exact h e (List.mem_cons_of_mem _ he)
 ·intro h e he
  rcases List.mem_cons.1 he with rfl | he
  ·exact (h (b, a) (by simp)).symm
  ·exact h e (List.mem_cons_of_mem _ he)
theorem top_out {a b : T} {E : List (T × T)} (h : a.tm.kind ≠ b.tm.kind ∨ a.tm.num ≠ b.tm.num ∨ a.tm.name ≠ b.tm.name) (h1 : a.tm.kind ≠ 1) (h2 : b.tm.kind ≠ 1) : Out ((a, b) :: E) none :=
 Out.never fun t ht => by
  have e : a.ap t = b.ap t := ht (a, b) (by simp)
  cases a <;> cases b <;> simp_all [T.ap, T.tm, Tm.kind, Tm.num, Tm.name]
end Go.Vx
namespace Go.Vx
open Go.Proofs Classical
theorem same_of_free {s t : Int → T} {E F : List (T × T)} (hs : Solved s E) (ht : Solved t F) (h : ∀ e ∈ E, e ∈ F) {N : List Int} (hN : ∀ n, t n ≠ .var n → n ∈ N) (e : freeN N s ≤ freeN N t) : t = s := by
 have h1 : ∀ n, s n = .var n → t n = .var n := fun n k => Classical.byContradiction fun g => by
  have := freeN_lt hs ht h (hN n g) k g
  omega
 have hE : SolvesE t E := fun x hx => ht.sol x (h x hx)
 funext n
 rw [← hs.gen t hE n]
 exact (T.ap_congr (t := T.var) fun m k => h1 m (hs.self k)).trans (T.ap_var _)
def T.inN (N : List Int) (x : T) : Prop := ∀ n, x.occ n → n ∈ N
def InN (N : List Int) (bs : List B) : Prop := ∀ b ∈ bs, b.var ∈ N ∧ b.to.inN N
theorem T.inN_pair {N : List Int} {a b : T} : (T.pair a b).inN N ↔ a.inN N ∧ b.inN N := ⟨fun h => ⟨fun n k => h n (.inl k), fun n k => h n (.inr k)⟩, fun h n k => k.elim (h.1 n) (h.2 n)⟩
theorem T.occ_ap {s : Int → T} {n : Int} : ∀ {x : T}, (x.ap s).occ n → ∃ m, x.occ m ∧ (s m).occ n
 | .var m, h => ⟨m, rfl, h⟩
 | .pair a b, h => by
  rcases h with h | h
  ·obtain ⟨m, h1, h2⟩ := T.occ_ap (x := a) h; exact ⟨m, .inl h1, h2⟩
  ·obtain ⟨m, h1, h2⟩ := T.occ_ap (x := b) h; exact ⟨m, .inr h1, h2⟩
 | .nil, h => h.elim
 | .sym _, h => h.elim
 | .num _, h => h.elim
theorem InN.asF {N : List Int} {bs : List B} (h : InN N bs) {n m : Int} (hn : n ∈ N) (k : (asF bs n).occ m) : m ∈ N := by
 rw [Go.Vx.asF] at k
 cases e : sub bs n with
 | none =>
  rw [e] at k
  have k : n = m := k
  rw [← k]; exact hn
 | some x =>
  rw [e] at k
  exact (h _ (sub_in e)).2 m k
theorem InN.ap {N : List Int} {bs : List B} (h : InN N bs) {x : T} (hx : x.inN N) : (x.ap (Go.Vx.asF bs)).inN N := fun n k => by
 have w_ := T.occ_ap k
 obtain ⟨m, h1, h2⟩ := w_
 exact h.asF (hx m h1) h2
theorem InN.bind {N : List Int} {bs : List B} (h : InN N bs) {v : Int} {x : T} {k : Nat} (hv : v ∈ N) (hx : x.inN N) : InN N (bindL bs v x k) := fun c hc => by
 rcases bindL_mem.1 hc with rfl | ⟨b, hb, rfl⟩
 ·exact ⟨hv, hx⟩
 ·refine ⟨(h b hb).1, fun n hn => ?_⟩
  have w_ := T.occ_ap hn
  obtain ⟨m, h1, h2⟩ := w_
  rw [T.one] at h2
  split at h2
  ·exact hx n h2
  ·have h2 : m = n := h2
   rw [← h2]; exact (h b hb).2 m h1
theorem InN.bound {N : List Int} {bs : List B} (h : InN N bs) (hs : Srt bs) (hp : Proper bs) (n : Int) (k : Go.Vx.asF bs n ≠ .var n) : n ∈ N := by
 have w_ := (asF_bound hs hp).1 k
 obtain ⟨b, hb, rfl⟩ := w_
 exact (h b hb).1
theorem SolL.step {bs bt : List B} {E F : List (T × T)} (h : SolL bs E) (k : SolL bt F) (hEF : ∀ e ∈ E, e ∈ F) {N : List Int} (hN : InN N bt) : freeN N (asF bt) < freeN N (asF bs) ∨ bt = bs := by
 by_cases e : freeN N (asF bs) ≤ freeN N (asF bt)
 ·right
  exact asF_inj k.srt h.srt k.proper h.proper (same_of_free h.sol k.sol hEF (hN.bound k.srt k.proper) e)
 ·left; omega
end Go.Vx
namespace Go.Vx
open Go.Proofs Classical
section
variable {μ : Mem}
theorem pairR_spec {a b : T} {va vb : Value} (ha : RepV μ a.tm.d va) (hb : RepV μ b.tm.d vb) : Spec Tryz.prog 184 [va, vb] μ fun v μ' => RepV μ' (T.pair a b).tm.d v := by
 have w_ := Tm.invV ha
 obtain ⟨p, rfl⟩ := w_
 have w_ := Tm.invV hb
 obtain ⟨q, rfl⟩ := w_
 refine Spec.mk Tryz.func184 (by kernel_rfl) ?_
 intro r1 r2 r3 r4
 refine rFz [3] fun μ' hle hno hrow => .inl ?_
 rw [T.tm, Tm.d_mk]
 exact ⟨_, rfl, RepS.int (RepS.int (RepS.str (RepS.last (Rows.sl hrow (.cons (ha.mono hle) (Tm.d_n _) (.cons (hb.mono hle) (Tm.d_n _) .nil)) (show 2 ≤ maxLen by decide)))))⟩
theorem mapVars_rel {k : FuncId} {caps : List Value} {f : Int → Option T} (J : Mem → Mem → Prop) (hJ : ∀ {μ' μ'' h' : Mem}, μ'.Le μ'' → J μ' h' → J μ'' h') : ∀ (x : T) {μ h : Mem} {v : Value},
  (∀ μ' h', μ.Le μ' → J μ' h' → ∀ n ∈ x.vars, SpecH Tryz.prog k (.int .i64 n :: caps) μ' h' fun v μ'' h'' => optV (fun y tv => RepV μ'' y.tm.d tv) (f n) v ∧ J μ'' h'') → J μ h → RepV μ x.tm.d v →
  SpecH Tryz.prog 135 [v, .func (.func k) #[] caps.toArray] μ h fun v μ' h' => RepV μ' (x.subst f).tm.d v ∧ J μ' h' := by
 intro x
 induction x with
 | var n =>
  intro μ h v hk hj hv
  have w_ := Tm.invV hv
  obtain ⟨p, rfl⟩ := w_
  refine SpecH.mk [] Tryz.func135 (by kernel_rfl) ?_
  intro r1 r2
  refine ifd (fun _ => ?_) (fun h => absurd rfl h)
  refine cOw (hk μ h (Mem.Le.refl μ) hj n (by simp [T.vars])) fun v' μ' h' hle hap hR => ?_
  obtain ⟨hR, hj'⟩ := hR
  simp only [T.subst]
  cases hs : f n with
  | some y =>
   rw [hs] at hR
   obtain ⟨tv, rfl, htv⟩ := hR
   have w_ := Tm.invV htv
   obtain ⟨q, rfl⟩ := w_
   intro r3
   refine iIn (fun _ => ?_) (fun h => nomatch h)
   refine cPl (copyTerm_spec y htv) fun v2 μ2 hle2 hR2 => ?_
   have w_ := Tm.invV hR2.rep
   obtain ⟨q2, rfl⟩ := w_
   exact rPl ⟨hR2.rep, hJ hle2 hj'⟩
  | none =>
   rw [hs] at hR
   obtain rfl := hR
   intro r3
   refine iIn (fun h => nomatch h) (fun _ => ?_)
   exact rPl ⟨hv.mono hle, hj'⟩
 | pair a b iha ihb =>
  intro μ h v hk hj hv
  have w_ := Tm.inv hv
  obtain ⟨base', cap', rfl, hsa⟩ := w_
  have w_ := T.parts hsa
  obtain ⟨ad, ad', p, p', h1, h2, hra, hrb⟩ := w_
  refine SpecH.mk [] Tryz.func135 (by kernel_rfl) ?_
  intro r1 r2
  refine ifd (fun h => absurd h (by simp)) (fun _ => ?_)
  refine ifd (fun _ => ?_) (fun h => absurd rfl h)
  refine eIn h1 ?_
  refine eIn h2 ?_
  refine cOw (iha (fun μ' h' g1 g2 n hn => hk μ' h' g1 g2 n (by simp [T.vars, hn])) hj hra) fun v1 μ1 h1' hle1 hap1 hR1 => ?_
  obtain ⟨hR1, hj1⟩ := hR1
  refine cOw (ihb (fun μ' h' g1 g2 n hn => hk μ' h' (hle1.trans g1) g2 n (by simp [T.vars, hn])) hj1 (hrb.mono hle1)) fun v2 μ2 h2' hle2 hap2 hR2 => ?_
  obtain ⟨hR2, hj2⟩ := hR2
  refine cPl (pairR_spec (hR1.mono hle2) hR2) fun v3 μ3 hle3 hR3 => ?_
  have w_ := Tm.invV hR3
  obtain ⟨q, rfl⟩ := w_
  exact rPl ⟨hR3, hJ hle3 hj2⟩
 | _ =>
  intro μ h v hk hj hv
  have w_ := Tm.invV hv
  obtain ⟨p, rfl⟩ := w_
  refine SpecH.mk [] Tryz.func135 (by kernel_rfl) ?_
  intro r1 r2
  refine ifd (fun h => absurd h (by simp [T.tm, Tm.kind])) (fun _ => ?_)
  refine ifd (fun h => absurd h (by simp [T.tm, Tm.kind])) (fun _ => ?_)
  exact rPl ⟨hv, hj⟩
end
end Go.Vx
namespace Go.Vx
open Go.Proofs Classical
structure Cl where
 rep : Int → Int
 shp : Int → Option T
structure Cl.Ok (c : Cl) (rank : Int → Nat) : Prop where
 idem : ∀ v, c.rep (c.rep v) = c.rep v
 le : ∀ v, c.rep v ≤ v
 root : ∀ x t, c.shp x = some t → c.rep x = x
 nv : ∀ x t, c.shp x = some t → ∀ m, t ≠ .var m
 acy : ∀ x t, c.shp x = some t → ∀ v, t.occ v → rank (c.rep v) < rank x
def Cl.IsVal (c : Cl) (val : Int → T) : Prop := ∀ v, val v = match c.shp (c.rep v) with | some t => t.ap val | none => .var (c.rep v)
noncomputable def Cl.unroll (c : Cl) : Nat → Int → T
 | 0, v => .var (c.rep v)
 | n + 1, v => match c.shp (c.rep v) with | some t => t.ap (c.unroll n) | none => .var (c.rep v)
section
variable {c : Cl} {rank : Int → Nat}
theorem Cl.Ok.stable (h : c.Ok rank) : ∀ (n m : Nat) (v : Int), rank (c.rep v) < n → rank (c.rep v) < m → c.unroll n v = c.unroll m v
 | 0, _, _, h1, _ => by omega
 | _, 0, _, _, h2 => by omega
 | n + 1, m + 1, v, h1, h2 => by
  rw [Cl.unroll, Cl.unroll]
  cases e : c.shp (c.rep v) with
  | none => rfl
  | some t =>
   refine T.ap_congr fun u hu => h.stable n m u ?_ ?_
   ·have := h.acy _ _ e u hu; omega
   ·have := h.acy _ _ e u hu; omega
theorem Cl.Ok.has_val (h : c.Ok rank) : ∃ val, c.IsVal val := by
 refine ⟨fun v => c.unroll (rank (c.rep v) + 1) v, fun v => ?_⟩
 show c.unroll (rank (c.rep v) + 1) v = _
 rw [Cl.unroll]
 cases e : c.shp (c.rep v) with
 | none => rfl
 | some t => exact T.ap_congr fun u hu => h.stable _ _ u (h.acy _ _ e u hu) (Nat.lt_succ_self _)
variable {val : Int → T}
theorem Cl.IsVal.shaped (hv : c.IsVal val) {v : Int} {t : T} (e : c.shp (c.rep v) = some t) : val v = t.ap val := by have := hv v; rwa [e] at this
theorem Cl.IsVal.plain (hv : c.IsVal val) {v : Int} (e : c.shp (c.rep v) = none) : val v = .var (c.rep v) := by have := hv v; rwa [e] at this
theorem Cl.IsVal.rep (h : c.Ok rank) (hv : c.IsVal val) (v : Int) : val (c.rep v) = val v := by
 rw [hv v, hv (c.rep v), h.idem]
theorem nv_ap {t : T} (h : ∀ m, t ≠ .var m) (s : Int → T) : ∀ m, t.ap s ≠ .var m := fun m => by
 cases t with
 | var n => exact absurd rfl (h n)
 | _ => exact (fun k => nomatch k)
def Cl.Sol (c : Cl) (θ : Int → T) : Prop := (∀ v, θ (c.rep v) = θ v) ∧ ∀ x t, c.shp x = some t → θ x = t.ap θ
theorem Cl.IsVal.sol (h : c.Ok rank) (hv : c.IsVal val) : c.Sol val := ⟨hv.rep h, fun x t e => hv.shaped (by rw [h.root x t e]; exact e)⟩
theorem Cl.IsVal.gen (h : c.Ok rank) (hv : c.IsVal val) {θ : Int → T} (hθ : c.Sol θ) : ∀ (n : Nat) (v : Int), rank (c.rep v) < n → (val v).ap θ = θ v
 | 0, _, h1 => by omega
 | n + 1, v, h1 => by
  cases e : c.shp (c.rep v) with
  | none => rw [hv.plain e]; exact hθ.1 v
  | some t =>
   rw [hv.shaped e, T.ap_ap, T.ap_congr (t := θ) fun u hu => Cl.IsVal.gen h hv hθ n u (by have := h.acy _ _ e u hu; omega), ← hθ.2 _ _ e, hθ.1]
theorem Cl.IsVal.solved (h : c.Ok rank) (hv : c.IsVal val) {E : List (T × T)} (hE : ∀ θ, c.Sol θ ↔ SolvesE θ E) : Solved val E where
 sol := (hE _).1 (hv.sol h)
 gen t ht n := Cl.IsVal.gen h hv ((hE t).2 ht) _ n (Nat.lt_succ_self _)
 least n m e := by
  cases k : c.shp (c.rep n) with
  | none =>
   rw [hv.plain k] at e
   cases e
   exact h.le n
  | some t => rw [hv.shaped k] at e; exact absurd e (nv_ap (h.nv _ _ k) val m)
noncomputable def Cl.merge (c : Cl) (x y : Int) : Cl := ⟨fun v => if c.rep v = y then x else c.rep v, fun v => if v = x ∨ v = y then none else c.shp v⟩
theorem Cl.merge_ok (h : c.Ok rank) {x y : Int} (hx : c.rep x = x) (_hy : c.rep y = y) (hlt : x < y) : (c.merge x y).Ok fun v => if v = x then 0 else rank v + 1 where
 idem v := by
  simp only [Cl.merge]
  by_cases k : c.rep v = y
  ·rw [if_pos k, hx, if_neg (by omega)]
  ·rw [if_neg k, h.idem, if_neg k]
 le v := by
  have := h.le v
  simp only [Cl.merge]
  split
  ·omega
  ·exact this
 root z t e := by
  simp only [Cl.merge] at e ⊢
  split at e
  ·cases e
  ·rename_i k
   have := h.root z t e
   rw [this, if_neg (fun k2 => k (.inr k2))]
 nv z t e := by
  simp only [Cl.merge] at e
  split at e
  ·cases e
  ·exact h.nv z t e
 acy z t e v hv := by
  simp only [Cl.merge] at e
  split at e
  ·cases e
  ·rename_i k
   have := h.acy z t e v hv
   have hw : (c.merge x y).rep v = x ∨ (c.merge x y).rep v = c.rep v := by
    simp only [Cl.merge]
    split
    ·exact .inl rfl
    ·exact .inr rfl
   generalize (c.merge x y).rep v = w at hw
   rw [if_neg (show ¬ z = x from fun k2 => k (.inl k2))]
   split
   ·omega
   ·rcases hw with hw | hw
    ·contradiction
    ·rw [hw]; omega
theorem Cl.merge_sol {x y : Int} (hy : c.rep y = y) (hne : x ≠ y) (θ : Int → T) :
  (c.Sol θ ∧ θ x = θ y) ↔ (c.merge x y).Sol θ ∧ (∀ t, c.shp x = some t → θ x = t.ap θ) ∧ (∀ t, c.shp y = some t → θ x = t.ap θ) := by
 constructor
 ·rintro ⟨⟨h1, h2⟩, h3⟩
  refine ⟨⟨fun v => ?_, fun z t e => ?_⟩, fun t e => h2 x t e, fun t e => h3.trans (h2 y t e)⟩
  ·simp only [Cl.merge]
   split
   ·rename_i k; rw [h3, ← k]; exact h1 v
   ·exact h1 v
  ·simp only [Cl.merge] at e
   split at e
   ·cases e
   ·exact h2 z t e
 ·rintro ⟨⟨h1, h2⟩, h3, h4⟩
  have hxy : θ x = θ y := by
   have := h1 y
   simp only [Cl.merge] at this
   rwa [if_pos hy] at this
  refine ⟨⟨fun v => ?_, fun z t e => ?_⟩, hxy⟩
  ·have := h1 v
   simp only [Cl.merge] at this
   split at this
   ·rename_i k; rw [k, ← hxy]; exact this
   ·exact this
  ·by_cases k1 : z = x
   ·subst k1; exact h3 t e
   ·by_cases k2 : z = y
    ·subst k2; rw [← hxy]; exact h4 t e
    ·exact h2 z t (by simp only [Cl.merge]; rw [if_neg (fun k => k.elim k1 k2)]; exact e)
noncomputable def Cl.shape (c : Cl) (x : Int) (t : T) : Cl := ⟨c.rep, fun v => if v = x then some t else c.shp v⟩
theorem rank_bound (f : Int → Nat) : ∀ t : T, ∃ M, ∀ v, t.occ v → f v < M
 | .var n => ⟨f n + 1, fun v h => by have h : n = v := h; subst h; omega⟩
 | .pair a b => by
  have w_ := rank_bound f a
  obtain ⟨A, hA⟩ := w_
  have w_ := rank_bound f b
  obtain ⟨B, hB⟩ := w_
  exact ⟨A + B, fun v h => h.elim (fun h => by have := hA v h; omega) (fun h => by have := hB v h; omega)⟩
 | .nil => ⟨0, fun v h => h.elim⟩
 | .sym _ => ⟨0, fun v h => h.elim⟩
 | .num _ => ⟨0, fun v h => h.elim⟩
theorem T.occ_of_ap {s : Int → T} {x n : Int} : ∀ {t : T}, t.occ n → (s n).occ x → (t.ap s).occ x
 | .var m, h, k => by have h : m = n := h; subst h; exact k
 | .pair a b, h, k => h.elim (fun h => .inl (T.occ_of_ap h k)) (fun h => .inr (T.occ_of_ap h k))
 | .nil, h, _ => h.elim
 | .sym _, h, _ => h.elim
 | .num _, h, _ => h.elim
theorem Cl.shape_ok (h : c.Ok rank) (hv : c.IsVal val) {x : Int} {t : T} (hx : c.rep x = x) (hs : c.shp x = none) (ht : ∀ m, t ≠ .var m) (ho : ¬ (t.ap val).occ x) : ∃ rank', (c.shape x t).Ok rank' := by
 have w_ := rank_bound (fun v => rank (c.rep v)) t
 obtain ⟨M, hM⟩ := w_
 have vx : (val x).occ x := by rw [hv.plain (by rw [hx]; exact hs), hx]; rfl
 refine ⟨fun z => if (val z).occ x then rank z + M else rank z, h.idem, h.le, fun z u e => ?_, fun z u e => ?_, fun z u e v hu => ?_⟩
 ·simp only [Cl.shape] at e
  split at e
  ·rename_i k; subst k; exact hx
  ·exact h.root z u e
 ·simp only [Cl.shape] at e
  split at e
  ·cases e; exact ht
  ·exact h.nv z u e
 ·simp only [Cl.shape] at e
  show (if (val (c.rep v)).occ x then rank (c.rep v) + M else rank (c.rep v)) < (if (val z).occ x then rank z + M else rank z)
  have e2 : (val (c.rep v)).occ x ↔ (val v).occ x := by rw [hv.rep h]
  split at e
  ·rename_i k
   subst k
   cases e
   rw [if_neg (fun k => ho (T.occ_of_ap hu (e2.1 k))), if_pos vx]
   have := hM v hu
   omega
  ·have h1 := h.acy z u e v hu
   have h2 : val z = u.ap val := hv.shaped (by rw [h.root z u e]; exact e)
   by_cases k : (val v).occ x
   ·rw [if_pos (e2.2 k), if_pos (by rw [h2]; exact T.occ_of_ap hu k)]; omega
   ·rw [if_neg (fun k2 => k (e2.1 k2))]
    split <;> omega
theorem Cl.shape_sol {x : Int} {t : T} (hs : c.shp x = none) (θ : Int → T) : (c.shape x t).Sol θ ↔ c.Sol θ ∧ θ x = t.ap θ := by
 constructor
 ·rintro ⟨h1, h2⟩
  refine ⟨⟨h1, fun z u e => h2 z u ?_⟩, h2 x t (by simp [Cl.shape])⟩
  simp only [Cl.shape]
  rw [if_neg (fun k => by subst k; rw [hs] at e; cases e)]
  exact e
 ·rintro ⟨⟨h1, h2⟩, h3⟩
  refine ⟨h1, fun z u e => ?_⟩
  simp only [Cl.shape] at e
  split at e
  ·rename_i k; cases e; subst k; exact h3
  ·exact h2 z u e
theorem Cl.shape_never (h : c.Ok rank) (hv : c.IsVal val) {x : Int} {t : T} (_hx : c.rep x = x) (_hs : c.shp x = none) (ht : ∀ m, t ≠ .var m) (ho : (t.ap val).occ x) (θ : Int → T) : ¬ (c.Sol θ ∧ θ x = t.ap θ) := by
 rintro ⟨h1, h2⟩
 have hg : ∀ y : T, (y.ap val).ap θ = y.ap θ := fun y => by rw [T.ap_ap]; exact T.ap_congr fun n _ => Cl.IsVal.gen h hv h1 _ n (Nat.lt_succ_self _)
 rw [← hg t] at h2
 have hn := nv_ap ht val
 generalize t.ap val = y at *
 cases y with
 | var m => exact hn m rfl
 | pair p q =>
  have h3 : (θ x).size < ((T.pair p q).ap θ).size := by
   rw [T.ap]
   rcases ho with ho | ho
   ·have := T.size_occ (s := θ) ho; simp only [T.size]; omega
   ·have := T.size_occ (s := θ) ho; simp only [T.size]; omega
  rw [h2] at h3; omega
 | _ => exact ho.elim
def Cl.Closed (c : Cl) (x : Int) (S : Int → Prop) : Prop := ∀ r, S r → ∀ t, c.shp r = some t → ∀ u, t.occ u → c.rep u ≠ x ∧ (c.shp (c.rep u) ≠ none → S (c.rep u))
theorem Cl.Closed.not_occ (h : c.Ok rank) (hv : c.IsVal val) {x : Int} {S : Int → Prop} (hc : c.Closed x S) : ∀ (n : Nat) (u : Int), rank (c.rep u) < n → c.rep u ≠ x → (c.shp (c.rep u) ≠ none → S (c.rep u)) → ¬ (val u).occ x
 | 0, _, h1, _, _ => by omega
 | n + 1, u, h1, h2, h3 => by
  cases e : c.shp (c.rep u) with
  | none => rw [hv.plain e]; exact h2
  | some t =>
   rw [hv.shaped e]
   intro k
   have w_ := T.occ_ap k
   obtain ⟨m, hm, hk⟩ := w_
   have h4 := hc _ (h3 (by rw [e]; exact (fun k => nomatch k))) t e m hm
   exact Cl.Closed.not_occ h hv hc n m (by have := h.acy _ _ e m hm; omega) h4.1 h4.2 hk
end
def Cl.start : Cl := ⟨id, fun _ => none⟩
theorem Cl.start_ok : Cl.start.Ok fun _ => 0 := ⟨fun _ => rfl, fun _ => Int.le_refl _, fun _ _ h => (nomatch h), fun _ _ h => (nomatch h), fun _ _ h => (nomatch h)⟩
theorem Cl.start_sol (θ : Int → T) : Cl.start.Sol θ ↔ SolvesE θ [] := ⟨fun _ e h => by simp at h, fun _ => ⟨fun _ => rfl, fun _ _ h => (nomatch h)⟩⟩
end Go.Vx
namespace Go.Vx
open Go.Proofs Classical
structure F where
 rel : ByteArray
 args : List T
def F.fc (f : F) : Fc := ⟨f.rel, f.args.map T.tm⟩
structure Ru where
 head : F
 clause : Int
 vals : List T
 pos : List F
 neg : List F
inductive Der (rs : List Ru) (base : List F) : F → Prop
 | base {f : F} (h : f ∈ base) : Der rs base f
 | rule {r : Ru} (h : r ∈ rs) (hp : ∀ f ∈ r.pos, Der rs base f) : Der rs base r.head
end Go.Vx
namespace Go.Vx
open Go.Proofs Classical
section
variable {μ : Mem}
theorem T.elemL {xs : List T} {base : Option Addr} {n : Nat} (h : Sl μ 4 base n ((xs.map T.tm).map Tm.d)) {i : Nat} {x : T} (hx : xs[i]? = some x) : ∃ ad, ∃ p : Option Addr × Nat, ElemAt μ base n 4 i ad (x.tm.cs p) ∧ RepV μ x.tm.d (.agg (x.tm.cs p).toArray) :=
 Tm.elem h (by simp [hx])
theorem F.inv {f : F} {v : Value} (h : RepV μ f.fc.d v) : ∃ p : Fc.P, v = .agg #[.string f.rel, .slice p.1 f.args.length p.2] ∧ Sl μ 4 p.1 f.args.length ((f.args.map T.tm).map Tm.d) := by
 have w_ := Fc.inv h
 obtain ⟨p, rfl, hA⟩ := w_
 have e : f.fc.args.length = f.args.length := List.length_map ..
 have hA : Sl μ 4 p.1 f.fc.args.length ((f.args.map T.tm).map Tm.d) := hA
 rw [e] at hA ⊢
 exact ⟨p, rfl, hA⟩
def F.cs (f : F) (p : Fc.P) : List Value := [.string f.rel, .slice p.1 f.args.length p.2]
theorem F.elem {l : List F} {base : Option Addr} {n : Nat} (h : Sl μ 2 base n ((l.map F.fc).map Fc.d)) {i : Nat} {f : F} (hf : l[i]? = some f) : ∃ ad, ∃ p : Fc.P, ElemAt μ base n 2 i ad (f.cs p) ∧ RepV μ f.fc.d (.agg (f.cs p).toArray) ∧ Sl μ 4 p.1 f.args.length ((f.args.map T.tm).map Tm.d) := by
 have w_ := Fc.elemA h (i := i) (x := f.fc) (by simp [hf])
 obtain ⟨ad, p, h1, h2, h3⟩ := w_
 have e : f.fc.cs p = f.cs p := by
  show [_, Value.slice p.1 (f.args.map T.tm).length p.2] = _
  rw [List.length_map]; rfl
 rw [e] at h1 h2
 have h3 : Sl μ 4 p.1 (f.args.map T.tm).length ((f.args.map T.tm).map Tm.d) := h3
 rw [List.length_map] at h3
 exact ⟨ad, p, h1, h2, h3⟩
end
end Go.Vx
namespace Go.Vx
open Go.Proofs Classical
def Tm.Is (t : Tm) : Prop := ∃ x : T, t = x.tm
theorem lift_is : ∀ {l : List Tm}, (∀ t ∈ l, t.Is) → ∃ xs : List T, l = xs.map T.tm
 | [], _ => ⟨[], rfl⟩
 | t :: l, h => by
  have w_ := h t (by simp)
  obtain ⟨x, rfl⟩ := w_
  have w_ := lift_is (l := l) fun t ht => h t (by simp [ht])
  obtain ⟨xs, rfl⟩ := w_
  exact ⟨x :: xs, rfl⟩
def Gl.Mild (g : Gl) : Prop := ∀ x ∈ g.all, (∀ t ∈ x.terms, t.Is) ∧ x.terms.length ≤ 100000 ∧ x.goals.length ≤ 100000
theorem Gl.Mild.top {g : Gl} (h : g.Mild) : (∀ t ∈ g.terms, t.Is) ∧ g.terms.length ≤ 100000 ∧ g.goals.length ≤ 100000 := h g (by rw [Gl.all_eq]; simp)
theorem Gl.Mild.sub {g : Gl} (h : g.Mild) (x : Gl) (hx : x ∈ g.goals) : x.Mild := fun y hy => h y (by rw [Gl.all_eq]; exact List.mem_cons_of_mem _ (List.mem_flatMap.2 ⟨x, hx, hy⟩))
theorem Gl.mild_mk {g : Gl} (h1 : ∀ t ∈ g.terms, t.Is) (h2 : g.terms.length ≤ 100000) (h3 : g.goals.length ≤ 100000) (h4 : ∀ x ∈ g.goals, x.Mild) : g.Mild := fun y hy => by
 rw [Gl.all_eq] at hy
 rcases List.mem_cons.1 hy with rfl | hy
 ·exact ⟨h1, h2, h3⟩
 ·have w_ := List.mem_flatMap.1 hy
  obtain ⟨x, hx, hy⟩ := w_
  exact h4 x hx y hy
theorem Gl.Sh.mild : ∀ (g : Gl), g.Sh → g.Mild :=
 Gl.ind fun g ih hS => by
  refine Gl.mild_mk (fun t ht => by have w_ := (hS.top.tm t ht).lift; obtain ⟨x, _, rfl⟩ := w_; exact ⟨x, rfl⟩) ?_ (by have := hS.top.gl; omega) fun x hx => ih x hx (hS.sub x hx)
  have T := hS.top
  have e9 := T.ln9; have e2 := T.ln2; have e1 := T.ln1; have e0 := T.ln0; have k0 := T.k0; have k1 := T.k1
  omega
section
variable {μ : Mem}
theorem copyTerms_spec {xs : List T} {base : Option Addr} {cap : Nat} (hsl : Sl μ 4 base xs.length ((xs.map T.tm).map Tm.d)) (hn : xs.length ≤ 1000000) :
  Spec Tryz.prog 95 [.slice base xs.length cap] μ fun v μ' => Fresh μ μ' (.sl 4 ((xs.map T.tm).map Tm.d)) v := by
 refine Spec.mk Tryz.func95 (by kernel_rfl) ?_
 intro r6
 refine lIn (fun p : Nat × Option Nat × Nat × List Value × Mem => p.1 ≤ xs.length ∧ μ.Le p.2.2.2.2 ∧ Grown 4 μ p.2.2.2.2 (((xs.take p.1).map T.tm).map Tm.d) p.2.2.2.1)
  (fun (i, b, c, ys, μ') => ⟨[(3, .row 0 b ys.length c), (7, .val (.slice base xs.length cap)), (8, .val (.int .i64 xs.length)), (9, .val (.int .i64 i))], [(0, some (.row b c 50 4 ys))], 1, μ', Mem.nil⟩) (fun p => xs.length - p.1)
  (0, some r6, 0, [], μ) ⟨Nat.zero_le _, Mem.Le.refl _, Grown.nil _ _ _⟩ (fun (_, _, _, _, _) => ⟨rfl, rfl⟩) ⟨⟨rfl, rfl, rfl, rfl, trivial⟩, ⟨rfl, trivial⟩, rfl, rfl⟩ ?_
 rintro ⟨i, b, c, ys, μ'⟩ ⟨hi, hle, hrows⟩
 dsimp only at hi hle hrows
 have hlen := hrows.len
 simp only [List.length_map, List.length_take] at hlen
 refine ifd (fun hlt => ?_) (fun hlt => ?_)
 ·have w_ := aSo (l := xs) (i := i) (by omega)
  obtain ⟨x, hx⟩ := w_
  have w_ := T.elemL (hsl.mono hle) hx
  obtain ⟨ad, p, hel, hr⟩ := w_
  refine eIn hel ?_
  intro r5
  refine cPl (copyTerm_spec x hr) fun v1 μ1 hle1 hR => ?_
  have w_ := Tm.invV hR.rep
  obtain ⟨q, rfl⟩ := w_
  intro r16
  refine gIn ?_ ?_ fun b' c' _ => ?_
  ·show (ys.length + 1) * 56 ≤ _; omega
  ·exact Nat.le_trans (m := 100000000) (show ys.length + 1 ≤ _ by omega) (by decide)
  refine num64 (by omega) (by omega) ⟨(i + 1, b', c', _, μ1), ⟨by dsimp only; omega, hle.trans hle1, ?_⟩, by dsimp only; omega, ⟨⟨rfl, rfl, rfl, rfl, trivial⟩, ⟨rfl, trivial⟩, rfl, rfl⟩⟩
  dsimp only
  rw [List.take_add_one, hx, Option.toList_some]
  simp only [List.map_append, List.map_cons, List.map_nil]
  exact hrows.snoc hle hR hle1 (Tm.d_n _)
 ·obtain rfl : i = xs.length := by omega
  rw [List.take_length] at hrows
  refine rFz [0] fun μ2 hle2 hno hrow => .inl ?_
  exact hrows.fresh hle hle2 hno hrow (Nat.le_trans (m := 1000000) (by omega) (by decide))
theorem copyGoal_mild : ∀ (g : Gl) {μ : Mem} {v : Value}, RepV μ g.d v → g.Mild → Spec Tryz.prog 53 [v] μ fun v μ' => Fresh μ μ' g.d v :=
 Gl.ind fun g ih μ v hv hS => by
  have w_ := Gl.inv hv
  obtain ⟨p, rfl, hts, hgs⟩ := w_
  have w_ := lift_is hS.top.1
  obtain ⟨xs, hxs⟩ := w_
  have hg8 := hS.top.2.2
  have hx4 : xs.length ≤ 100000 := by
   have h := hS.top.2.1
   rwa [hxs, List.length_map] at h
  rw [hxs, List.length_map] at hts ⊢
  refine Spec.mk Tryz.func53 (by kernel_rfl) ?_
  intro r1 r2
  refine cPl (copyTerms_spec hts (by omega)) fun v1 μ1 hle1 hR1 => ?_
  have w_ := Rep.sl hR1.rep
  obtain ⟨bt, ct, rfl, _⟩ := w_
  rw [List.length_map, List.length_map] at hR1 ⊢
  intro r3
  have hgs1 := hgs.mono hle1
  refine loop_nil (fun p : Nat × Option Nat × Nat × List Value × Mem => p.1 ≤ g.goals.length ∧ μ1.Le p.2.2.2.2 ∧ Grown 4 μ1 p.2.2.2.2 ((g.goals.take p.1).map Gl.d) p.2.2.2.1)
   (fun (i, b, c, us, μ') => ⟨[(2, .loc 1 r2 0), (3, .loc 2 r3 0), (15, .val (.slice p.2.1 g.goals.length p.2.2)), (16, .val (.int .i64 g.goals.length)), (17, .val (.int .i64 i))],
    [(1, some (.cells r2 [.val (.int .i64 0), .val (.string ⟨#[]⟩), .val (.slice none 0 0), .val (.slice none 0 0)] 30)), (2, some (.cells r3 [.val (.int .i64 g.kind), .val (.string g.name), .val (.slice bt xs.length ct), .row 3 b us.length c] 30)), (3, some (.row b c 30 4 us))], 4, μ', Mem.nil⟩) (fun p => g.goals.length - p.1)
   (0, none, 0, [], μ1) ⟨Nat.zero_le _, Mem.Le.refl _, Grown.nil _ _ _⟩ (fun (_, _, _, _, _) => ⟨rfl, rfl⟩) ⟨⟨⟨_, rfl, .inl rfl⟩, ⟨_, rfl, .inl rfl⟩, ⟨_, rfl, .inl rfl⟩, ⟨_, rfl, .inl rfl⟩, ⟨_, rfl, .inl rfl⟩, trivial⟩, ⟨.inl rfl, .inr (.inr ⟨_, _, _, _, rfl, rfl, .inl rfl, .inl rfl, .inl rfl, .inr ⟨3, rfl, rfl, Nat.le_refl _⟩, trivial⟩), .inr (.inl ⟨_, _, rfl, Nat.le_refl _⟩), trivial⟩, rfl, rfl⟩ ?_
  rintro ⟨i, b, c, us, μ'⟩ ⟨hi, hle, hrows⟩
  dsimp only at hi hle hrows
  have hlen := hrows.len
  simp only [List.length_map, List.length_take] at hlen
  refine ifd (fun hlt => ?_) (fun hlt => ?_)
  ·have w_ := aSo (l := g.goals) (i := i) (by omega)
   obtain ⟨x, hx⟩ := w_
   have w_ := Gl.elem (hgs1.mono hle) hx
   obtain ⟨ad, p3, hel, hr⟩ := w_
   refine eIn hel ?_
   intro r5
   refine cPl (ih x (mAt hx) hr (hS.sub x (mAt hx))) fun v2 μ2 hle2 hR => ?_
   have w_ := Gl.invV hR.rep
   obtain ⟨q, rfl⟩ := w_
   intro r25
   refine gIn ?_ ?_ fun b' c' _ => ?_
   ·show (us.length + 1) * 72 ≤ _; omega
   ·exact Nat.le_trans (m := 100000000) (show us.length + 1 ≤ _ by omega) (by decide)
   refine num64 (by omega) (by omega) ⟨(i + 1, b', c', _, μ2), ⟨by dsimp only; omega, hle.trans hle2, ?_⟩, by dsimp only; omega, ⟨⟨rfl, rfl, rfl, rfl, rfl, trivial⟩, ⟨rfl, rfl, rfl, trivial⟩, rfl, rfl⟩⟩
   dsimp only
   rw [List.take_add_one, hx, Option.toList_some]
   simp only [List.map_append, List.map_cons, List.map_nil]
   exact hrows.snoc hle hR hle2 (Gl.d_n _)
  ·obtain rfl : i = g.goals.length := by omega
   rw [List.take_length] at hrows
   refine rFz [3] fun μ2 hle2 hno hrow => .inl ?_
   rw [Gl.d_eq, hxs]
   have k := hrows.fresh hle hle2 hno hrow (Nat.le_trans (m := 1000000) (by omega) (by decide))
   exact FreshS.st (FreshS.int (FreshS.str (FreshS.cons hR1 hle1 (hle.trans hle2) (FreshS.cons k (hle.trans hle2) (Mem.Le.refl _) FreshS.nil))))
theorem copyGoal_spec (g : Gl) {μ : Mem} {v : Value} (hv : RepV μ g.d v) (hS : g.Sh) : Spec Tryz.prog 53 [v] μ fun v μ' => Fresh μ μ' g.d v := copyGoal_mild g hv (Gl.Sh.mild _ hS)
end
end Go.Vx
namespace Go.Vx
open Go.Proofs Classical
theorem RowO.cut {h : Mem} {r cap : Nat} {ty : TypeId} {es : Nat} {xs : List Value} {cs : List Value} {k j : Nat} {x x' : Value} {vs : List Value} (h1 : xs.length ≤ cap) (h2 : xs.length ≤ maxLen) (h3 : ∀ x ∈ xs, (vcells x).length = es ∧ ∀ u ∈ vcells x, u.oneCell' = true) (h4 : cs.length = cap * es) (h5 : cs.take (xs.length * es) = xs.flatMap vcells)
  (hx : xs[k]? = some x) (hv : vcells x' = (vcells x).take j ++ vs ++ (vcells x).drop (j + vs.length)) (hj : j + vs.length ≤ es) (ho : ∀ u ∈ vs, u.oneCell' = true) :
  RowO (h.set r (.cells (List.toArray (cs.take (k * es + j) ++ vs ++ cs.drop (k * es + j + vs.length))) ty (0, 0))) r cap ty es (xs.set k x') := by
 have hk := (List.getElem?_eq_some_iff.1 hx).1
 have hxm := List.mem_of_getElem? hx
 have hxl := (h3 x hxm).1
 obtain ⟨A, B, rfl, hA⟩ : ∃ A B, xs = A ++ x :: B ∧ A.length = k := ⟨xs.take k, xs.drop (k + 1), by
  rw [← (List.getElem?_eq_some_iff.1 hx).2]
  rw [List.getElem_cons_drop, List.take_append_drop], by rw [List.length_take]; omega⟩
 subst hA
 have fA : (A.flatMap vcells).length = A.length * es := flat_len A fun y hy => (h3 y (by simp [hy])).1
 have fB : (B.flatMap vcells).length = B.length * es := flat_len B fun y hy => (h3 y (by simp [hy])).1
 obtain ⟨rest, hrest⟩ : ∃ rest, cs = A.flatMap vcells ++ vcells x ++ B.flatMap vcells ++ rest := ⟨cs.drop ((A ++ x :: B).length * es), by
  have h6 := List.take_append_drop ((A ++ x :: B).length * es) cs
  rw [h5] at h6
  refine h6.symm.trans ?_
  simp⟩
 have e1 : cs.take (A.length * es + j) = A.flatMap vcells ++ (vcells x).take j := by
  rw [hrest, List.append_assoc, List.append_assoc, ← fA, List.take_length_add_append, List.take_append_of_le_length (by omega)]
 have e2 : cs.drop (A.length * es + j + vs.length) = (vcells x).drop (j + vs.length) ++ B.flatMap vcells ++ rest := by
  rw [hrest, List.append_assoc, List.append_assoc, ← fA, Nat.add_assoc, List.drop_length_add_append, List.drop_append_of_le_length (by omega), List.append_assoc]
 have e3 : (A ++ x :: B).set A.length x' = A ++ x' :: B := by simp
 rw [e3]
 have hx'l : (vcells x').length = es := by
  rw [hv]; simp only [List.length_append, List.length_take, List.length_drop]; omega
 refine ⟨_, Mem.set_at _ _ _, by simpa using h1, by simpa using h2, fun y hy => ?_, ?_, ?_⟩
 ·rcases List.mem_append.1 hy with hy | hy
  ·exact h3 y (by simp [hy])
  rcases List.mem_cons.1 hy with rfl | hy
  ·refine ⟨hx'l, fun u hu => ?_⟩
   rw [hv] at hu
   simp only [List.mem_append] at hu
   rcases hu with (hu | hu) | hu
   ·exact (h3 x hxm).2 u (List.mem_of_mem_take hu)
   ·exact ho u hu
   ·exact (h3 x hxm).2 u (List.mem_of_mem_drop hu)
  ·exact h3 y (by simp [hy])
 ·have h4' := h4
  rw [hrest] at h4'
  rw [e1, e2]
  simp only [List.length_append, List.length_take, List.length_drop] at h4' ⊢
  omega
 ·rw [e1, e2]
  have : A.flatMap vcells ++ (vcells x).take j ++ vs ++ ((vcells x).drop (j + vs.length) ++ B.flatMap vcells ++ rest) = (A ++ x' :: B).flatMap vcells ++ rest := by
   simp [hv]
  rw [this]
  have hfl : ((A ++ x' :: B).flatMap vcells).length = (A ++ x' :: B).length * es := flat_len _ fun y hy => by
   rcases List.mem_append.1 hy with hy | hy
   ·exact (h3 y (by simp [hy])).1
   rcases List.mem_cons.1 hy with rfl | hy
   ·exact hx'l
   ·exact (h3 y (by simp [hy])).1
  rw [← hfl, List.take_left]
theorem sto_row {h : Mem} {ad : Addr} {vs : List Value} {K : Mem → Prop} {r cap : Nat} {ty : TypeId} {es : Nat} {xs : List Value} {k j : Nat} {x : Value} (x' : Value) (hr : RowO h r cap ty es xs) (hx : xs[k]? = some x) (ha : ad = ⟨r, k * es + j, none⟩) (hv : vcells x' = (vcells x).take j ++ vs ++ (vcells x).drop (j + vs.length)) (hj : j + vs.length ≤ es) (ho : ∀ u ∈ vs, u.oneCell' = true)
  (hK : ∀ o, RowO (h.set r o) r cap ty es (xs.set k x') → K (h.set r o)) : stoVC h ad vs K := by
 subst ha
 obtain ⟨cs, hc, h1, h2, h3, h4, h5⟩ := hr
 have hk := (List.getElem?_eq_some_iff.1 hx).1
 refine sIn cs ty hc rfl ?_ (hK _ (RowO.cut h1 h2 h3 h4 h5 hx hv hj ho))
 show k * es + j + vs.length ≤ cs.length
 rw [h4]
 have := Nat.mul_le_mul_right es (show k + 1 ≤ cap by omega)
 rw [Nat.succ_mul] at this
 omega
theorem RowO.cell {h : Mem} {r cap : Nat} {ty : TypeId} {es : Nat} {xs : List Value} {k j : Nat} {x u : Value} (hr : RowO h r cap ty es xs) (hx : xs[k]? = some x) (hu : (vcells x)[j]? = some u) : h.cell ⟨r, k * es + j, none⟩ = some u := by
 obtain ⟨cs, hc, h1, h2, h3, h4, h5⟩ := hr
 obtain ⟨A, B, rfl, hA⟩ : ∃ A B, xs = A ++ x :: B ∧ A.length = k := ⟨xs.take k, xs.drop (k + 1), by
  rw [← (List.getElem?_eq_some_iff.1 hx).2]
  rw [List.getElem_cons_drop, List.take_append_drop], by rw [List.length_take]; have := (List.getElem?_eq_some_iff.1 hx).1; omega⟩
 subst hA
 have fA : (A.flatMap vcells).length = A.length * es := flat_len A fun y hy => (h3 y (by simp [hy])).1
 have hj := (List.getElem?_eq_some_iff.1 hu).1
 obtain ⟨rest, hrest⟩ : ∃ rest, cs = A.flatMap vcells ++ (vcells x ++ rest) := ⟨B.flatMap vcells ++ cs.drop ((A ++ x :: B).length * es), by
  have h6 := List.take_append_drop ((A ++ x :: B).length * es) cs
  rw [h5] at h6
  refine h6.symm.trans ?_
  simp⟩
 have e : cs[A.length * es + j]? = some u := by
  rw [hrest, List.getElem?_append_right (by omega), fA, show A.length * es + j - A.length * es = j by omega, List.getElem?_append_left hj, hu]
 simp [Mem.cell, hc, e]
theorem RowO.own1 {h : Mem} {r cap : Nat} {ty : TypeId} {es : Nat} {xs : List Value} {k j : Nat} {x u : Value} {ad : Addr} (hr : RowO h r cap ty es xs) (hx : xs[k]? = some x) (hu : (vcells x)[j]? = some u) (ha : ad = ⟨r, k * es + j, none⟩) : ∀ i v, [u][i]? = some v → h.cell (ad.add i) = some v := fun i v hi => by
 match i, hi with
 | 0, hi =>
  cases hi
  rw [ha]
  have := hr.cell hx hu
  simpa [Addr.add_lit'] using this
theorem apartO {μ h : Mem} {r r' cap es : Nat} {ty : TypeId} {ys : List Value} (hb : RowO h r cap ty es ys) (hap : Apart μ h) (hor : r' = r ∨ (h r' = none ∧ μ r' = none)) : μ r' = none := by
 rcases hor with rfl | ⟨_, h2⟩
 ·obtain ⟨cs, h1, _⟩ := hb
  cases e : μ r' with
  | none => rfl
  | some o => have := hap r' (by simp [e]); rw [h1] at this; cases this
 ·exact h2
theorem Rows.of_at' {μ : Mem} {es : Nat} : ∀ {ds : List D} {xs : List Value}, ds.length = xs.length → (∀ (j : Nat) d v, ds[j]? = some d → xs[j]? = some v → RepV μ d v ∧ d.n = es) → Rows μ es ds xs
 | [], [], _, _ => .nil
 | [], _ :: _, h, _ => by simp at h
 | _ :: _, [], h, _ => by simp at h
 | d :: ds, v :: xs, h, k => by
  have := k 0 d v rfl rfl
  exact .cons this.1 this.2 (Rows.of_at' (by simpa using h) fun j d' v' h1 h2 => k (j + 1) d' v' (by simpa using h1) (by simpa using h2))
end Go.Vx
namespace Go.Vx
open Go.Proofs Classical
noncomputable def valL (val : Int → T) (l : List Int) : List B := l.filterMap fun v => if val v = .var v then none else some ⟨v, val v⟩
section
variable {val : Int → T} {l : List Int}
theorem mem_valL {b : B} : b ∈ valL val l ↔ b.var ∈ l ∧ b.to = val b.var ∧ val b.var ≠ .var b.var := by
 rw [valL, List.mem_filterMap]
 constructor
 ·rintro ⟨v, h1, h2⟩
  split at h2
  ·cases h2
  ·rename_i h3
   cases h2
   exact ⟨h1, rfl, h3⟩
 ·rintro ⟨h1, h2, h3⟩
  refine ⟨b.var, h1, ?_⟩
  rw [if_neg h3, ← h2]
theorem valL_pw (hl : l.Pairwise (· < ·)) : (valL val l).Pairwise fun a b => a.var < b.var := by
 rw [valL, List.pairwise_filterMap]
 refine hl.imp fun {v w} h b hb c hc => ?_
 split at hb
 ·cases hb
 ·split at hc
  ·cases hc
  ·cases hb; cases hc; exact h
theorem valL_asF (hl : l.Pairwise (· < ·)) (hout : ∀ v, v ∉ l → val v = .var v) : asF (valL val l) = val := funext fun n => by
 rw [asF]
 cases k : sub (valL val l) n with
 | some x => exact (mem_valL.1 (sub_in k)).2.1
 | none =>
  by_cases h : val n = .var n
  ·exact h.symm
  ·have hn : n ∈ l := Classical.byContradiction fun e => h (hout n e)
   have hm : (⟨n, val n⟩ : B) ∈ valL val l := mem_valL.2 ⟨hn, rfl, h⟩
   have := sub_of_mem (valL_pw hl) hm
   rw [k] at this; cases this
theorem valL_sol {E : List (T × T)} (hS : Solved val E) (hl : l.Pairwise (· < ·)) (hout : ∀ v, v ∉ l → val v = .var v) : SolL (valL val l) E :=
 ⟨srt_of_pw (valL_pw hl), fun b hb => by
  have := mem_valL.1 hb
  rw [this.2.1]; exact this.2.2, by rw [valL_asF hl hout]; exact hS⟩
end
end Go.Vx
namespace Go.Vx
open Go.Proofs Classical
inductive Cl.Reach (c : Cl) (x : Int) : Int → Prop
 | here : Cl.Reach c x x
 | step {r : Int} {t : T} {u : Int} : r ≠ x → c.shp r = some t → t.occ u → Cl.Reach c x (c.rep u) → Cl.Reach c x r
def Cl.TReach (c : Cl) (x : Int) (t : T) : Prop := ∃ u, t.occ u ∧ c.Reach x (c.rep u)
theorem Cl.Reach.unshape {c : Cl} {x : Int} {t : T} {r : Int} (h : (c.shape x t).Reach x r) : c.Reach x r := by
 induction h with
 | here => exact .here
 | step h1 h2 h3 _ ih =>
  refine .step h1 ?_ h3 ih
  simp only [Cl.shape] at h2
  rwa [if_neg h1] at h2
theorem Cl.TReach.unshape {c : Cl} {x : Int} {t y : T} (h : (c.shape x t).TReach x y) : c.TReach x y := by
 obtain ⟨u, h1, h2⟩ := h
 exact ⟨u, h1, h2.unshape⟩
section
variable {c : Cl} {rank : Int → Nat} {val : Int → T}
theorem Cl.Reach.root (h : c.Ok rank) {x r : Int} (hx : c.rep x = x) (k : c.Reach x r) : c.rep r = r := by
 cases k with
 | here => exact hx
 | step _ h2 _ _ => exact h.root _ _ h2
theorem Cl.Reach.occ (h : c.Ok rank) (hv : c.IsVal val) {x : Int} (hx : c.rep x = x) (hs : c.shp x = none) {r : Int} (k : c.Reach x r) : (val r).occ x := by
 induction k with
 | here => rw [hv.plain (by rw [hx]; exact hs), hx]; rfl
 | step h1 h2 h3 _ ih =>
  rw [hv.shaped (by rw [h.root _ _ h2]; exact h2)]
  exact T.occ_of_ap h3 (by rw [← hv.rep h]; exact ih)
theorem Cl.TReach.occ (h : c.Ok rank) (hv : c.IsVal val) {x : Int} (hx : c.rep x = x) (hs : c.shp x = none) {t : T} (k : c.TReach x t) : (t.ap val).occ x := by
 obtain ⟨u, h1, h2⟩ := k
 exact T.occ_of_ap h1 (by rw [← hv.rep h]; exact h2.occ h hv hx hs)
def Cl.Shut (c : Cl) (x : Int) (t : T) : Prop := ∃ S : Int → Prop, c.Closed x S ∧ (∀ r, S r → r ≠ x) ∧ ∀ u, t.occ u → c.rep u ≠ x ∧ (c.shp (c.rep u) ≠ none → S (c.rep u))
theorem Cl.Shut.unshape {x : Int} {t y : T} (hs : c.shp x = none) (k : (c.shape x t).Shut x y) : c.Shut x y := by
 obtain ⟨S, h1, h2, h3⟩ := k
 have e : ∀ r, r ≠ x → (c.shape x t).shp r = c.shp r := fun r hr => by simp only [Cl.shape]; rw [if_neg hr]
 have e2 : ∀ r, c.shp r ≠ none → (c.shape x t).shp r ≠ none := fun r hr => by
  rw [e r fun k => hr (by rw [k]; exact hs)]; exact hr
 refine ⟨S, fun r hr t' ht' u hu => ?_, h2, fun u hu => ⟨(h3 u hu).1, fun k => (h3 u hu).2 (e2 _ k)⟩⟩
 have := h1 r hr t' (by rw [e r (h2 r hr)]; exact ht') u hu
 exact ⟨this.1, fun k => this.2 (e2 _ k)⟩
theorem Cl.Shut.not_occ (h : c.Ok rank) (hv : c.IsVal val) {x : Int} {t : T} (k : c.Shut x t) : ¬ (t.ap val).occ x := fun ho => by
 obtain ⟨S, h1, _, h3⟩ := k
 have w_ := T.occ_ap ho
 obtain ⟨m, hm, hk⟩ := w_
 exact Cl.Closed.not_occ h hv h1 _ m (Nat.lt_succ_self _) (h3 m hm).1 (h3 m hm).2 hk
end
structure Cl.In (N : List Int) (P : T → Prop) (c : Cl) : Prop where
 rep : ∀ v ∈ N, c.rep v ∈ N
 out : ∀ v, v ∉ N → c.rep v = v
 shp : ∀ x t, c.shp x = some t → x ∈ N ∧ P t
def Cl.Good (c : Cl) : Prop := ∃ rank, c.Ok rank
noncomputable def Cl.M (N : List Int) (c : Cl) : Nat := (N.filter fun v => decide (c.rep v = v)).length + (N.filter fun v => decide (c.rep v = v ∧ c.shp v = none)).length
def EqR (N : List Int) (P : T → Prop) (c : Cl) (a b : T) : Bool → Cl → Prop
 | true, c' => c'.Good ∧ c'.In N P ∧ (∀ θ, c'.Sol θ ↔ c.Sol θ ∧ a.ap θ = b.ap θ) ∧ (c' = c ∨ c'.M N < c.M N)
 | false, _ => ∀ θ, ¬ (c.Sol θ ∧ a.ap θ = b.ap θ)
section
variable {N : List Int} {P : T → Prop} {c c1 c2 : Cl} {a b : T} {o : Bool}
theorem Cl.Good.same (hg : c.Good) (hi : c.In N P) (h : ∀ θ, c.Sol θ → a.ap θ = b.ap θ) : EqR N P c a b true c := ⟨hg, hi, fun θ => ⟨fun k => ⟨k, h θ k⟩, fun k => k.1⟩, .inl rfl⟩
theorem EqR.swap (h : EqR N P c b a o c1) : EqR N P c a b o c1 := by
 cases o with
 | true => exact ⟨h.1, h.2.1, fun θ => (h.2.2.1 θ).trans ⟨fun k => ⟨k.1, k.2.symm⟩, fun k => ⟨k.1, k.2.symm⟩⟩, h.2.2.2⟩
 | false => exact fun θ k => h θ ⟨k.1, k.2.symm⟩
theorem EqR.walk {n : Int} {t : T} (hs : c.shp (c.rep n) = some t) (h : EqR N P c t b o c1) : EqR N P c (.var n) b o c1 := by
 have key : ∀ θ, c.Sol θ → (T.var n).ap θ = t.ap θ := fun θ k => by
  show θ n = _
  rw [← k.1 n]; exact k.2 _ _ hs
 cases o with
 | true =>
  refine ⟨h.1, h.2.1, fun θ => (h.2.2.1 θ).trans ⟨fun k => ⟨k.1, ?_⟩, fun k => ⟨k.1, ?_⟩⟩, h.2.2.2⟩
  ·rw [key θ k.1]; exact k.2
  ·rw [← key θ k.1]; exact k.2
 | false => exact fun θ k => h θ ⟨k.1, by rw [← key θ k.1]; exact k.2⟩
theorem EqR.pair_false {a' b' : T} (h : EqR N P c a b false c1) : EqR N P c (.pair a a') (.pair b b') false c2 := fun θ k => by
 have k2 : T.pair (a.ap θ) (a'.ap θ) = T.pair (b.ap θ) (b'.ap θ) := k.2
 rw [T.pair.injEq] at k2
 exact h θ ⟨k.1, k2.1⟩
theorem EqR.pair {a' b' : T} (h : EqR N P c a b true c1) (h2 : EqR N P c1 a' b' o c2) : EqR N P c (.pair a a') (.pair b b') o c2 := by
 have key : ∀ θ, (T.pair a a').ap θ = (T.pair b b').ap θ ↔ a.ap θ = b.ap θ ∧ a'.ap θ = b'.ap θ := fun θ => by
  rw [T.ap, T.ap, T.pair.injEq]
 cases o with
 | true =>
  refine ⟨h2.1, h2.2.1, fun θ => (h2.2.2.1 θ).trans ?_, ?_⟩
  ·rw [h.2.2.1 θ, key, and_assoc]
  ·rcases h.2.2.2 with rfl | h3
   ·exact h2.2.2.2
   ·rcases h2.2.2.2 with rfl | h4
    ·exact .inr h3
    ·exact .inr (by omega)
 | false =>
  intro θ k
  have k2 := (key θ).1 k.2
  exact h2 θ ⟨(h.2.2.1 θ).2 ⟨k.1, k2.1⟩, k2.2⟩
theorem Cl.merge_in (hi : c.In N P) {x y : Int} (hx : x ∈ N) (hy : y ∈ N) (_hy2 : c.rep y = y) : (c.merge x y).In N P where
 rep v hv := by
  simp only [Cl.merge]
  split
  ·exact hx
  ·exact hi.rep v hv
 out v hv := by
  simp only [Cl.merge]
  rw [hi.out v hv, if_neg fun e => hv (by rw [e]; exact hy)]
 shp z t e := by
  simp only [Cl.merge] at e
  split at e
  ·cases e
  ·exact hi.shp z t e
theorem Cl.shape_in (hi : c.In N P) {x : Int} {t : T} (hx : x ∈ N) (ht : P t) : (c.shape x t).In N P where
 rep := hi.rep
 out := hi.out
 shp z u e := by
  simp only [Cl.shape] at e
  split at e
  ·rename_i k; subst k; cases e; exact ⟨hx, ht⟩
  ·exact hi.shp z u e
theorem Cl.merge_M {x y : Int} (hx : x ∈ N) (hy : y ∈ N) (hx2 : c.rep x = x) (hy2 : c.rep y = y) (hlt : x ≠ y) (d : Cl) (hd : d.rep = (c.merge x y).rep) (hd2 : ∀ v, v ≠ x → v ≠ y → d.shp v = c.shp v) (hd3 : d.shp x = none → c.shp x = none) : d.M N < c.M N := by
 have h1 : (N.filter fun v => decide (d.rep v = v)).length < (N.filter fun v => decide (c.rep v = v)).length := by
  refine filter_lt (fun v _ k => ?_) y hy ?_ (decide_eq_true hy2)
  ·simp only [decide_eq_true_eq] at k ⊢
   rw [hd] at k
   simp only [Cl.merge] at k
   split at k
   ·rw [← k]; exact hx2
   ·exact k
  ·refine decide_eq_false fun k => ?_
   rw [hd] at k
   simp only [Cl.merge] at k
   rw [if_pos hy2] at k
   exact hlt k
 have h2 : (N.filter fun v => decide (d.rep v = v ∧ d.shp v = none)).length ≤ (N.filter fun v => decide (c.rep v = v ∧ c.shp v = none)).length := by
  refine filter_le fun v _ k => ?_
  simp only [decide_eq_true_eq] at k ⊢
  obtain ⟨k, k2⟩ := k
  rw [hd] at k
  simp only [Cl.merge] at k
  by_cases e : v = x
  ·subst e; exact ⟨hx2, hd3 k2⟩
  ·split at k
   ·exact absurd k.symm e
   ·rename_i k3
    refine ⟨k, ?_⟩
    rw [← hd2 v e fun e2 => k3 (by rw [e2]; exact hy2)]
    exact k2
 unfold Cl.M
 omega
theorem Cl.shape_M {x : Int} {t : T} (hx : x ∈ N) (hx2 : c.rep x = x) (hs : c.shp x = none) : (c.shape x t).M N < c.M N := by
 have h2 : (N.filter fun v => decide ((c.shape x t).rep v = v ∧ (c.shape x t).shp v = none)).length < (N.filter fun v => decide (c.rep v = v ∧ c.shp v = none)).length := by
  refine filter_lt (fun v _ k => ?_) x hx ?_ (decide_eq_true ⟨hx2, hs⟩)
  ·rw [decide_eq_true_eq] at k ⊢
   obtain ⟨k, k2⟩ := k
   have k2 : (if v = x then some t else c.shp v) = none := k2
   split at k2
   ·cases k2
   ·exact ⟨k, k2⟩
  ·refine decide_eq_false fun k => ?_
   have := k.2
   simp [Cl.shape] at this
 show (N.filter fun v => decide (c.rep v = v)).length + _ < _
 unfold Cl.M
 omega
section
variable {x y : Int}
theorem EqR.merge (hg : c.Good) (hi : c.In N P) {n m : Int} (hn : n ∈ N) (hm : m ∈ N) (h : (c.rep n = x ∧ c.rep m = y) ∨ (c.rep n = y ∧ c.rep m = x)) (hlt : x < y) (h1 : c.shp x = none) (h2 : c.shp y = none) : EqR N P c (.var n) (.var m) true (c.merge x y) := by
 obtain ⟨rank, hok⟩ := hg
 have hx2 : c.rep x = x := by rcases h with ⟨rfl, _⟩ | ⟨_, rfl⟩ <;> exact hok.idem _
 have hy2 : c.rep y = y := by rcases h with ⟨_, rfl⟩ | ⟨rfl, _⟩ <;> exact hok.idem _
 have hx : x ∈ N := by rcases h with ⟨rfl, _⟩ | ⟨_, rfl⟩ <;> exact hi.rep _ ‹_›
 have hy : y ∈ N := by rcases h with ⟨_, rfl⟩ | ⟨rfl, _⟩ <;> exact hi.rep _ ‹_›
 refine ⟨⟨_, Cl.merge_ok hok hx2 hy2 hlt⟩, Cl.merge_in hi hx hy hy2, fun θ => ?_, .inr (Cl.merge_M hx hy hx2 hy2 (by omega) _ rfl (fun v a b => ?_) (fun _ => h1))⟩
 ·have key : c.Sol θ → ((T.var n).ap θ = (T.var m).ap θ ↔ θ x = θ y) := fun k => by
   show θ n = θ m ↔ _
   rw [← k.1 n, ← k.1 m]
   rcases h with ⟨rfl, rfl⟩ | ⟨rfl, rfl⟩
   ·exact Iff.rfl
   ·exact eq_comm
  refine Iff.trans ?_ (and_congr_right key).symm
  rw [Cl.merge_sol hy2 (by omega)]
  exact ⟨fun k => ⟨k, ⟨fun t e => (by rw [h1] at e; cases e), fun t e => (by rw [h2] at e; cases e)⟩⟩, fun k => k.1⟩
 ·simp only [Cl.merge]; rw [if_neg (fun k => k.elim a b)]
structure OneShape (c : Cl) (x y : Int) (t : T) : Prop where
 have_ : (c.shp x = some t ∧ c.shp y = none) ∨ (c.shp x = none ∧ c.shp y = some t)
theorem Cl.merge1 (hg : c.Good) (hi : c.In N P) {n m : Int} (hn : n ∈ N) (hm : m ∈ N) (h : (c.rep n = x ∧ c.rep m = y) ∨ (c.rep n = y ∧ c.rep m = x)) (hlt : x < y) {t : T} (h1 : OneShape c x y t) :
  (((c.merge x y).shape x t).TReach x t → EqR N P c (.var n) (.var m) false c2) ∧ (((c.merge x y).shape x t).Shut x t → EqR N P c (.var n) (.var m) true ((c.merge x y).shape x t)) := by
 obtain ⟨rank, hok⟩ := hg
 have hx2 : c.rep x = x := by rcases h with ⟨rfl, _⟩ | ⟨_, rfl⟩ <;> exact hok.idem _
 have hy2 : c.rep y = y := by rcases h with ⟨_, rfl⟩ | ⟨rfl, _⟩ <;> exact hok.idem _
 have hx : x ∈ N := by rcases h with ⟨rfl, _⟩ | ⟨_, rfl⟩ <;> exact hi.rep _ ‹_›
 have hy : y ∈ N := by rcases h with ⟨_, rfl⟩ | ⟨rfl, _⟩ <;> exact hi.rep _ ‹_›
 have hm1 := Cl.merge_ok hok hx2 hy2 hlt
 have hmx : (c.merge x y).rep x = x := by simp only [Cl.merge]; rw [hx2, if_neg (by omega)]
 have hms : (c.merge x y).shp x = none := by simp [Cl.merge]
 have hnv : ∀ k, t ≠ .var k := by
  rcases h1.have_ with ⟨e, _⟩ | ⟨_, e⟩
  ·exact hok.nv _ _ e
  ·exact hok.nv _ _ e
 have hin : P t := by
  rcases h1.have_ with ⟨e, _⟩ | ⟨_, e⟩
  ·exact (hi.shp _ _ e).2
  ·exact (hi.shp _ _ e).2
 have w_ := hm1.has_val
 obtain ⟨val, hval⟩ := w_
 have key : ∀ θ, (c.Sol θ ∧ (T.var n).ap θ = (T.var m).ap θ) ↔ (c.merge x y).Sol θ ∧ θ x = t.ap θ := fun θ => by
  have key : c.Sol θ → ((T.var n).ap θ = (T.var m).ap θ ↔ θ x = θ y) := fun k => by
   show θ n = θ m ↔ _
   rw [← k.1 n, ← k.1 m]
   rcases h with ⟨rfl, rfl⟩ | ⟨rfl, rfl⟩
   ·exact Iff.rfl
   ·exact eq_comm
  refine (and_congr_right key).trans ?_
  rw [Cl.merge_sol hy2 (by omega)]
  rcases h1.have_ with ⟨e1, e2⟩ | ⟨e1, e2⟩
  ·exact ⟨fun k => ⟨k.1, k.2.1 _ e1⟩, fun k => ⟨k.1, fun u e => by rw [e1] at e; cases e; exact k.2, fun u e => by rw [e2] at e; cases e⟩⟩
  ·exact ⟨fun k => ⟨k.1, k.2.2 _ e2⟩, fun k => ⟨k.1, fun u e => (by rw [e1] at e; cases e), fun u e => by rw [e2] at e; cases e; exact k.2⟩⟩
 constructor
 ·intro hr θ k
  exact Cl.shape_never hm1 hval hmx hms hnv (hr.unshape.occ hm1 hval hmx hms) θ ((key θ).1 k)
 ·intro hs
  have ho := (hs.unshape hms).not_occ hm1 hval
  refine ⟨Cl.shape_ok hm1 hval hmx hms hnv ho, Cl.shape_in (Cl.merge_in hi hx hy hy2) hx hin, fun θ => (Cl.shape_sol hms θ).trans (key θ).symm, .inr (Cl.merge_M hx hy hx2 hy2 (by omega) _ rfl (fun v a b => ?_) (fun e => ?_))⟩
  ·simp only [Cl.shape, Cl.merge]; rw [if_neg a, if_neg (fun k => k.elim a b)]
  ·simp [Cl.shape] at e
theorem Cl.merge2 (hg : c.Good) (hi : c.In N P) {n m : Int} (hn : n ∈ N) (hm : m ∈ N) (h : (c.rep n = x ∧ c.rep m = y) ∨ (c.rep n = y ∧ c.rep m = x)) (hlt : x < y) {t u : T} (h1 : c.shp x = some t) (h2 : c.shp y = some u) :
  (((c.merge x y).shape x t).TReach x u → EqR N P c (.var n) (.var m) false c2) ∧ (((c.merge x y).shape x t).TReach x t → EqR N P c (.var n) (.var m) false c2) ∧
  (((c.merge x y).shape x t).Shut x t → ((c.merge x y).shape x t).Good ∧ ((c.merge x y).shape x t).In N P ∧ ((c.merge x y).shape x t).M N < c.M N ∧ ∀ o c2, EqR N P ((c.merge x y).shape x t) t u o c2 → EqR N P c (.var n) (.var m) o c2) := by
 obtain ⟨rank, hok⟩ := hg
 have hx2 : c.rep x = x := by rcases h with ⟨rfl, _⟩ | ⟨_, rfl⟩ <;> exact hok.idem _
 have hy2 : c.rep y = y := by rcases h with ⟨_, rfl⟩ | ⟨rfl, _⟩ <;> exact hok.idem _
 have hx : x ∈ N := by rcases h with ⟨rfl, _⟩ | ⟨_, rfl⟩ <;> exact hi.rep _ ‹_›
 have hy : y ∈ N := by rcases h with ⟨_, rfl⟩ | ⟨rfl, _⟩ <;> exact hi.rep _ ‹_›
 have hm1 := Cl.merge_ok hok hx2 hy2 hlt
 have hmx : (c.merge x y).rep x = x := by simp only [Cl.merge]; rw [hx2, if_neg (by omega)]
 have hms : (c.merge x y).shp x = none := by simp [Cl.merge]
 have hnv := hok.nv _ _ h1
 have hnu := hok.nv _ _ h2
 have hin := (hi.shp _ _ h1).2
 have w_ := hm1.has_val
 obtain ⟨val, hval⟩ := w_
 have key : ∀ θ, (c.Sol θ ∧ (T.var n).ap θ = (T.var m).ap θ) ↔ (c.merge x y).Sol θ ∧ θ x = t.ap θ ∧ θ x = u.ap θ := fun θ => by
  have key : c.Sol θ → ((T.var n).ap θ = (T.var m).ap θ ↔ θ x = θ y) := fun k => by
   show θ n = θ m ↔ _
   rw [← k.1 n, ← k.1 m]
   rcases h with ⟨rfl, rfl⟩ | ⟨rfl, rfl⟩
   ·exact Iff.rfl
   ·exact eq_comm
  refine (and_congr_right key).trans ?_
  rw [Cl.merge_sol hy2 (by omega)]
  exact ⟨fun k => ⟨k.1, k.2.1 _ h1, k.2.2 _ h2⟩, fun k => ⟨k.1, fun w e => by rw [h1] at e; cases e; exact k.2.1, fun w e => by rw [h2] at e; cases e; exact k.2.2⟩⟩
 refine ⟨fun hr θ k => ?_, fun hr θ k => ?_, fun hs => ?_⟩
 ·have := (key θ).1 k
  exact Cl.shape_never hm1 hval hmx hms hnu (hr.unshape.occ hm1 hval hmx hms) θ ⟨this.1, this.2.2⟩
 ·have := (key θ).1 k
  exact Cl.shape_never hm1 hval hmx hms hnv (hr.unshape.occ hm1 hval hmx hms) θ ⟨this.1, this.2.1⟩
 ·have ho := (hs.unshape hms).not_occ hm1 hval
  have hM : ((c.merge x y).shape x t).M N < c.M N := Cl.merge_M hx hy hx2 hy2 (by omega) _ rfl (fun v a b => by simp only [Cl.shape, Cl.merge]; rw [if_neg a, if_neg (fun k => k.elim a b)]) (fun e => by simp [Cl.shape] at e)
  have hiff : ∀ θ, (((c.merge x y).shape x t).Sol θ ∧ t.ap θ = u.ap θ) ↔ c.Sol θ ∧ (T.var n).ap θ = (T.var m).ap θ := fun θ => by
   rw [Cl.shape_sol hms, key]
   exact ⟨fun k => ⟨k.1.1, k.1.2, k.1.2.trans k.2⟩, fun k => ⟨⟨k.1, k.2.1⟩, k.2.1.symm.trans k.2.2⟩⟩
  refine ⟨Cl.shape_ok hm1 hval hmx hms hnv ho, Cl.shape_in (Cl.merge_in hi hx hy hy2) hx hin, hM, fun o c2 hE => ?_⟩
  cases o with
  | true =>
   refine ⟨hE.1, hE.2.1, fun θ => (hE.2.2.1 θ).trans (hiff θ), ?_⟩
   rcases hE.2.2.2 with rfl | h4
   ·exact .inr hM
   ·exact .inr (by omega)
  | false => exact fun θ k => hE θ ((hiff θ).2 k)
theorem Cl.shape1 (hg : c.Good) (hi : c.In N P) {n : Int} (hn : n ∈ N) (h : c.rep n = x) (hs : c.shp x = none) (hb : ∀ m, b ≠ .var m) (hin : P b) :
  ((c.shape x b).TReach x b → EqR N P c (.var n) b false c2) ∧ ((c.shape x b).Shut x b → EqR N P c (.var n) b true (c.shape x b)) := by
 obtain ⟨rank, hok⟩ := hg
 have hx2 : c.rep x = x := by rw [← h]; exact hok.idem _
 have hx : x ∈ N := by rw [← h]; exact hi.rep _ hn
 have w_ := hok.has_val
 obtain ⟨val, hval⟩ := w_
 have key : ∀ θ, (c.Sol θ ∧ (T.var n).ap θ = b.ap θ) ↔ c.Sol θ ∧ θ x = b.ap θ := fun θ => and_congr_right fun k => by
  show θ n = _ ↔ _
  rw [← k.1 n, h]
 constructor
 ·intro hr θ k
  exact Cl.shape_never hok hval hx2 hs hb (hr.unshape.occ hok hval hx2 hs) θ ((key θ).1 k)
 ·intro hsh
  have ho := (hsh.unshape hs).not_occ hok hval
  exact ⟨Cl.shape_ok hok hval hx2 hs hb ho, Cl.shape_in hi hx hin, fun θ => (Cl.shape_sol hs θ).trans (key θ).symm, .inr (Cl.shape_M hx hx2 hs)⟩
end
theorem EqR.clash (h : a.tm.kind ≠ b.tm.kind ∨ a.tm.num ≠ b.tm.num ∨ a.tm.name ≠ b.tm.name) (h1 : a.tm.kind ≠ 1) (h2 : b.tm.kind ≠ 1) : EqR N P c a b false c1 := fun θ k => by
 have e := k.2
 cases a <;> cases b <;> simp_all [T.ap, T.tm, Tm.kind, Tm.num, Tm.name]
end
end Go.Vx
namespace Go.Vx
open Go.Proofs Classical
theorem Cl.val_self {c : Cl} {rank : Int → Nat} {val : Int → T} (h : c.Ok rank) (hv : c.IsVal val) (v : Int) : val v = .var v ↔ c.rep v = v ∧ c.shp v = none := by
 cases e : c.shp (c.rep v) with
 | none =>
  rw [hv.plain e, T.var.injEq]
  exact ⟨fun k => ⟨k, by rw [k] at e; exact e⟩, fun k => k.1⟩
 | some t =>
  rw [hv.shaped e]
  constructor
  ·intro k; exact absurd k (nv_ap (h.nv _ _ e) val v)
  ·rintro ⟨k1, k2⟩; rw [k1, k2] at e; cases e
theorem Cl.unifL {c : Cl} {N l : List Int} {P : T → Prop} {E : List (T × T)} {val : Int → T} (hg : c.Good) (hi : c.In N P) (hE : ∀ θ, c.Sol θ ↔ SolvesE θ E) (hv : c.IsVal val) (hl : l.Pairwise (· < ·)) (hN : ∀ n, n ∈ l ↔ n ∈ N) :
  Go.Vx.unifL E = if FitsL (valL val l) then some (valL val l) else none := by
 obtain ⟨rank, hok⟩ := hg
 have hS := valL_sol (hv.solved hok hE) hl fun v hn => (Cl.val_self hok hv v).2 ⟨hi.out v fun k => hn ((hN v).2 k), by
  cases e : c.shp v with
  | none => rfl
  | some t => exact absurd ((hN v).2 (hi.shp _ _ e).1) hn⟩
 by_cases hf : FitsL (valL val l)
 ·rw [if_pos hf]; exact unifL_some hS hf
 ·rw [if_neg hf]; exact unifL_none fun bs hb hf2 => hf (by rw [hS.uniq hb]; exact hf2)
theorem unifL_never {E : List (T × T)} (h : ∀ t, ¬ SolvesE t E) : Go.Vx.unifL E = none := unifL_none fun _ hb _ => h _ hb.sol.sol
noncomputable def eqsB (bs : List B) : List (T × T) := bs.map fun b => (.var b.var, b.to)
theorem solves_append {θ : Int → T} {E F : List (T × T)} : SolvesE θ (E ++ F) ↔ SolvesE θ E ∧ SolvesE θ F := by
 unfold SolvesE
 constructor
 ·intro h; exact ⟨fun e he => h e (List.mem_append_left _ he), fun e he => h e (List.mem_append_right _ he)⟩
 ·rintro ⟨h1, h2⟩ e he
  exact (List.mem_append.1 he).elim (h1 e) (h2 e)
theorem solves_cons {θ : Int → T} {E : List (T × T)} {a b : T} : SolvesE θ ((a, b) :: E) ↔ a.ap θ = b.ap θ ∧ SolvesE θ E := by
 unfold SolvesE
 simp
theorem T.occ_vars {n : Int} : ∀ {x : T}, x.occ n ↔ n ∈ x.vars
 | .var m => by
  show m = n ↔ n ∈ [m]
  rw [List.mem_singleton]; exact eq_comm
 | .pair a b => by
  show a.occ n ∨ b.occ n ↔ n ∈ a.vars ++ b.vars
  rw [List.mem_append, T.occ_vars (x := a), T.occ_vars (x := b)]
 | .nil => ⟨fun h => h.elim, fun h => by simp [T.vars] at h⟩
 | .sym _ => ⟨fun h => h.elim, fun h => by simp [T.vars] at h⟩
 | .num _ => ⟨fun h => h.elim, fun h => by simp [T.vars] at h⟩
theorem valsOk_of {bs : List B} (h : Srt bs) (hl : bs.length ≤ 400) (hb : ∀ b ∈ bs, (0 ≤ b.var ∧ b.var ≤ 100000) ∧ b.to.good ∧ b.to.size ≤ 5000) : valsOk (bs.map B.bd) := by
 refine ⟨by rw [List.length_map]; exact hl, fun i b hi => ?_⟩
 rw [List.getElem?_map] at hi
 cases e : bs[i]? with
 | none => rw [e] at hi; cases hi
 | some c =>
  rw [e] at hi
  cases hi
  have h1 := hb c (mAt e)
  refine ⟨h1.1, T.ok.tm ⟨h1.2.1, h1.2.2⟩, fun j d hj hd => ?_⟩
  rw [List.getElem?_map] at hd
  cases e2 : bs[j]? with
  | none => rw [e2] at hd; cases hd
  | some c2 =>
   rw [e2] at hd
   cases hd
   exact h j i c2 c (by omega) e2 e
theorem Vals.fits {bs : List B} (h : Vals bs) : FitsL bs := ⟨fun b hb => (h.tok b hb).2, h.len⟩
theorem SolL.subst {bs : List B} {E : List (T × T)} (h : SolL bs E) (hf : FitsL bs) (hg : ∀ b ∈ bs, b.to.good ∧ 0 ≤ b.var ∧ b.var ≤ 100000) : Subst bs := by
 refine ⟨⟨?_⟩, fun b hb => ⟨fun k => ?_, fun n hn => ?_⟩⟩
 ·refine valsOk_of h.srt hf.2 fun b hb => ⟨(hg b hb).2, (hg b hb).1, hf.1 b hb⟩
 ·obtain ⟨k1, k2⟩ := k
  have h1 : asF bs b.var = b.to := by rw [asF, sub_of_mem h.srt.pw hb]; rfl
  cases e : b.to with
  | var m =>
   rw [e] at h1 k2
   have := h.sol.least _ _ h1
   have k2 : b.var ≤ m := k2
   exact h.proper b hb (by rw [e, show m = b.var by omega])
  | _ => rw [e] at k1; simp [T.tm, Tm.kind] at k1
 ·have h1 : asF bs b.var = b.to := by rw [asF, sub_of_mem h.srt.pw hb]; rfl
  have h2 := h.sol.self (n := b.var) (m := n) (by rw [h1]; exact T.occ_vars.2 hn)
  cases k : sub bs n with
  | none => rfl
  | some x =>
   rw [asF, k] at h2
   exact absurd h2 (h.proper _ (sub_in k))
end Go.Vx
namespace Go.Vx
open Go.Proofs Classical
def Fr (l : List Nat) (h h' : Mem) : Prop := ∀ b, h b ≠ none → b ∉ l → h' b = h b
theorem Fr.refl (l : List Nat) (h : Mem) : Fr l h h := fun _ _ _ => rfl
theorem Fr.trans {l : List Nat} {h h' h'' : Mem} (a : Fr l h h') (b : Fr l h' h'') : Fr l h h'' := fun x hx hl => by
 have e := a x hx hl
 rw [b x (by rw [e]; exact hx) hl, e]
theorem Fr.weaken {l m : List Nat} {h h' : Mem} (a : Fr l h h') (k : ∀ x ∈ l, x ∈ m) : Fr m h h' := fun x hx hl => a x hx fun e => hl (k x e)
theorem Fr.set {l : List Nat} {h : Mem} {r : Nat} {o : Obj} (k : r ∈ l) : Fr l h (h.set r o) := fun x _ hl => Mem.set_ne fun e => hl (by rw [e]; exact k)
theorem Fr.new {l : List Nat} {h : Mem} {r : Nat} {o : Obj} (k : h r = none) : Fr l h (h.set r o) := fun x hx _ => Mem.set_ne fun e => hx (by rw [e]; exact k)
theorem Fr.at {l : List Nat} {h h' : Mem} (a : Fr l h h') {b : Nat} {o : Obj} (hb : h b = some o) (hl : b ∉ l) : h' b = some o := by
 rw [a b (by rw [hb]; exact fun k => nomatch k) hl, hb]
structure ClRefs where
 c : Nat
 u : Nat
 s : Nat
 d : Nat
 k : Nat
 z : Nat
 f : Nat
def ClRefs.l (R : ClRefs) : List Nat := [R.c, R.u, R.s, R.d, R.k, R.z, R.f]
structure ClAt (R : ClRefs) (h : Mem) (lu ls ld lk lz lf : List (Value × Value)) : Prop where
 nd : R.l.Nodup
 c : h R.c = some (.cells #[.map (some R.u), .map (some R.s), .map (some R.d), .map (some R.k), .map (some R.z), .map (some R.f)] 215 (0, 0))
 u : h R.u = some (mapO lu)
 s : h R.s = some (mapO ls)
 d : h R.d = some (mapO ld)
 k : h R.k = some (mapO lk)
 z : h R.z = some (mapO lz)
 f : h R.f = some (mapO lf)
section
variable {R : ClRefs} {h h' : Mem} {lu ls ld lk lz lf l : List (Value × Value)}
theorem ClAt.fr (a : ClAt R h lu ls ld lk lz lf) (k : ∀ b ∈ R.l, h' b = h b) : ClAt R h' lu ls ld lk lz lf :=
 ⟨a.nd, by rw [k _ (by simp [ClRefs.l])]; exact a.c, by rw [k _ (by simp [ClRefs.l])]; exact a.u, by rw [k _ (by simp [ClRefs.l])]; exact a.s, by rw [k _ (by simp [ClRefs.l])]; exact a.d, by rw [k _ (by simp [ClRefs.l])]; exact a.k, by rw [k _ (by simp [ClRefs.l])]; exact a.z, by rw [k _ (by simp [ClRefs.l])]; exact a.f⟩
theorem ClAt.dom (a : ClAt R h lu ls ld lk lz lf) : ∀ b ∈ R.l, h b ≠ none := fun b hb => by
 simp only [ClRefs.l, List.mem_cons, List.not_mem_nil, or_false] at hb
 rcases hb with rfl | rfl | rfl | rfl | rfl | rfl | rfl
 ·rw [a.c]; exact fun k => nomatch k
 ·rw [a.u]; exact fun k => nomatch k
 ·rw [a.s]; exact fun k => nomatch k
 ·rw [a.d]; exact fun k => nomatch k
 ·rw [a.k]; exact fun k => nomatch k
 ·rw [a.z]; exact fun k => nomatch k
 ·rw [a.f]; exact fun k => nomatch k
theorem ClAt.off (a : ClAt R h lu ls ld lk lz lf) {L : List Nat} (k : Fr L h h') (hL : ∀ b ∈ L, b ∉ R.l) : ClAt R h' lu ls ld lk lz lf :=
 a.fr fun b hb => k b (a.dom b hb) fun e => hL b e hb
theorem ClAt.ne (a : ClAt R h lu ls ld lk lz lf) : (R.c ≠ R.u ∧ R.c ≠ R.s ∧ R.c ≠ R.d ∧ R.c ≠ R.k ∧ R.c ≠ R.z ∧ R.c ≠ R.f) ∧ (R.u ≠ R.s ∧ R.u ≠ R.d ∧ R.u ≠ R.k ∧ R.u ≠ R.z ∧ R.u ≠ R.f) ∧ (R.s ≠ R.d ∧ R.s ≠ R.k ∧ R.s ≠ R.z ∧ R.s ≠ R.f) ∧ (R.d ≠ R.k ∧ R.d ≠ R.z ∧ R.d ≠ R.f) ∧ (R.k ≠ R.z ∧ R.k ≠ R.f) ∧ R.z ≠ R.f := by
 have := a.nd
 simp only [ClRefs.l, List.nodup_cons, List.mem_cons, List.not_mem_nil, or_false, not_or, List.nodup_nil, not_false_eq_true, and_true] at this
 exact this
theorem ClAt.setU (a : ClAt R h lu ls ld lk lz lf) : ClAt R (h.set R.u (mapO l)) l ls ld lk lz lf := by
 have n := a.ne
 refine ⟨a.nd, ?_, Mem.set_at _ _ _, ?_, ?_, ?_, ?_, ?_⟩
 ·rw [Mem.set_ne n.1.1]; exact a.c
 ·rw [Mem.set_ne n.2.1.1.symm]; exact a.s
 ·rw [Mem.set_ne n.2.1.2.1.symm]; exact a.d
 ·rw [Mem.set_ne n.2.1.2.2.1.symm]; exact a.k
 ·rw [Mem.set_ne n.2.1.2.2.2.1.symm]; exact a.z
 ·rw [Mem.set_ne n.2.1.2.2.2.2.symm]; exact a.f
theorem ClAt.setS (a : ClAt R h lu ls ld lk lz lf) : ClAt R (h.set R.s (mapO l)) lu l ld lk lz lf := by
 have n := a.ne
 refine ⟨a.nd, ?_, ?_, Mem.set_at _ _ _, ?_, ?_, ?_, ?_⟩
 ·rw [Mem.set_ne n.1.2.1]; exact a.c
 ·rw [Mem.set_ne n.2.1.1]; exact a.u
 ·rw [Mem.set_ne n.2.2.1.1.symm]; exact a.d
 ·rw [Mem.set_ne n.2.2.1.2.1.symm]; exact a.k
 ·rw [Mem.set_ne n.2.2.1.2.2.1.symm]; exact a.z
 ·rw [Mem.set_ne n.2.2.1.2.2.2.symm]; exact a.f
theorem ClAt.setD (a : ClAt R h lu ls ld lk lz lf) : ClAt R (h.set R.d (mapO l)) lu ls l lk lz lf := by
 have n := a.ne
 refine ⟨a.nd, ?_, ?_, ?_, Mem.set_at _ _ _, ?_, ?_, ?_⟩
 ·rw [Mem.set_ne n.1.2.2.1]; exact a.c
 ·rw [Mem.set_ne n.2.1.2.1]; exact a.u
 ·rw [Mem.set_ne n.2.2.1.1]; exact a.s
 ·rw [Mem.set_ne n.2.2.2.1.1.symm]; exact a.k
 ·rw [Mem.set_ne n.2.2.2.1.2.1.symm]; exact a.z
 ·rw [Mem.set_ne n.2.2.2.1.2.2.symm]; exact a.f
theorem ClAt.setK (a : ClAt R h lu ls ld lk lz lf) : ClAt R (h.set R.k (mapO l)) lu ls ld l lz lf := by
 have n := a.ne
 refine ⟨a.nd, ?_, ?_, ?_, ?_, Mem.set_at _ _ _, ?_, ?_⟩
 ·rw [Mem.set_ne n.1.2.2.2.1]; exact a.c
 ·rw [Mem.set_ne n.2.1.2.2.1]; exact a.u
 ·rw [Mem.set_ne n.2.2.1.2.1]; exact a.s
 ·rw [Mem.set_ne n.2.2.2.1.1]; exact a.d
 ·rw [Mem.set_ne n.2.2.2.2.1.1.symm]; exact a.z
 ·rw [Mem.set_ne n.2.2.2.2.1.2.symm]; exact a.f
theorem ClAt.setZ (a : ClAt R h lu ls ld lk lz lf) : ClAt R (h.set R.z (mapO l)) lu ls ld lk l lf := by
 have n := a.ne
 refine ⟨a.nd, ?_, ?_, ?_, ?_, ?_, Mem.set_at _ _ _, ?_⟩
 ·rw [Mem.set_ne n.1.2.2.2.2.1]; exact a.c
 ·rw [Mem.set_ne n.2.1.2.2.2.1]; exact a.u
 ·rw [Mem.set_ne n.2.2.1.2.2.1]; exact a.s
 ·rw [Mem.set_ne n.2.2.2.1.2.1]; exact a.d
 ·rw [Mem.set_ne n.2.2.2.2.1.1]; exact a.k
 ·rw [Mem.set_ne n.2.2.2.2.2.symm]; exact a.f
theorem ClAt.setF (a : ClAt R h lu ls ld lk lz lf) : ClAt R (h.set R.f (mapO l)) lu ls ld lk lz l := by
 have n := a.ne
 refine ⟨a.nd, ?_, ?_, ?_, ?_, ?_, ?_, Mem.set_at _ _ _⟩
 ·rw [Mem.set_ne n.1.2.2.2.2.2]; exact a.c
 ·rw [Mem.set_ne n.2.1.2.2.2.2]; exact a.u
 ·rw [Mem.set_ne n.2.2.1.2.2.2]; exact a.s
 ·rw [Mem.set_ne n.2.2.2.1.2.2]; exact a.d
 ·rw [Mem.set_ne n.2.2.2.2.1.2]; exact a.k
 ·rw [Mem.set_ne n.2.2.2.2.2]; exact a.z
end
structure UF (p rep : Int → Int) : Prop where
 le : ∀ v, p v ≤ v
 up : ∀ v, rep (p v) = rep v
 top : ∀ v, p v = v → rep v = v
theorem UF.halve {p rep : Int → Int} (h : UF p rep) (v : Int) : UF (fun n => if n = v then p (p v) else p n) rep where
 le n := by
  show (if n = v then p (p v) else p n) ≤ n
  split
  ·rename_i e; subst e; exact Int.le_trans (h.le _) (h.le _)
  ·exact h.le n
 up n := by
  show rep (if n = v then p (p v) else p n) = rep n
  split
  ·rename_i e; subst e; rw [h.up, h.up]
  ·exact h.up n
 top n k := by
  have k : (if n = v then p (p v) else p n) = n := k
  split at k
  ·rename_i e
   subst e
   have h1 := h.le n
   have h2 := h.le (p n)
   exact h.top n (by omega)
  ·exact h.top n k
def ShpAt (μ : Mem) (c : Cl) (ls ld : List (Value × Value)) : Prop := ∀ x, c.rep x = x → match c.shp x with
 | some t => mget ld (.int .i64 x) = some (.bool true) ∧ ∃ v, mget ls (.int .i64 x) = some v ∧ RepV μ t.tm.d v
 | none => mget ld (.int .i64 x) = none
theorem ShpAt.some {μ : Mem} {c : Cl} {ls ld : List (Value × Value)} (h : ShpAt μ c ls ld) {x : Int} {t : T} (hx : c.rep x = x) (e : c.shp x = some t) : mget ld (.int .i64 x) = some (.bool true) ∧ ∃ v, mget ls (.int .i64 x) = some v ∧ RepV μ t.tm.d v := by
 have := h x hx
 rwa [e] at this
theorem ShpAt.none {μ : Mem} {c : Cl} {ls ld : List (Value × Value)} (h : ShpAt μ c ls ld) {x : Int} (hx : c.rep x = x) (e : c.shp x = .none) : mget ld (.int .i64 x) = .none := by
 have := h x hx
 rwa [e] at this
theorem ShpAt.mono {μ μ' : Mem} {c : Cl} {ls ld : List (Value × Value)} (h : ShpAt μ c ls ld) (hle : μ.Le μ') : ShpAt μ' c ls ld := fun x hx => by
 cases e : c.shp x with
 | none => exact h.none hx e
 | some t =>
  have w_ := h.some hx e
  obtain ⟨h1, v, h2, h3⟩ := w_
  exact ⟨h1, v, h2, h3.mono hle⟩
structure UpAt (c : Cl) (K : List Int) (lu : List (Value × Value)) : Prop where
 ok : MapOk IntKey lu
 at_ : ∃ p : Int → Int, UF p c.rep ∧ (∀ n, mget lu (.int .i64 n) = if n ∈ K then some (.int .i64 (p n)) else none) ∧ (∀ n, n ∉ K → p n = n) ∧ ∀ n ∈ K, p n ∈ K
structure ClInv (μ : Mem) (R : ClRefs) (c : Cl) (K : List Int) (lk lz lf : List (Value × Value)) (h : Mem) : Prop where
 ex : ∃ lu ls ld, ClAt R h lu ls ld lk lz lf ∧ UpAt c K lu ∧ MapOk IntKey ls ∧ MapOk IntKey ld ∧ ShpAt μ c ls ld
section
variable {μ : Mem} {R : ClRefs} {c : Cl} {K : List Int} {lk lz lf : List (Value × Value)} {h h' : Mem}
theorem ClInv.mono {μ' : Mem} (a : ClInv μ R c K lk lz lf h) (hle : μ.Le μ') : ClInv μ' R c K lk lz lf h := by
 obtain ⟨lu, ls, ld, h1, h2, h3, h4, h5⟩ := a.ex
 exact ⟨lu, ls, ld, h1, h2, h3, h4, h5.mono hle⟩
theorem ClInv.off (a : ClInv μ R c K lk lz lf h) {L : List Nat} (k : Fr L h h') (hL : ∀ b ∈ L, b ∉ R.l) : ClInv μ R c K lk lz lf h' := by
 obtain ⟨lu, ls, ld, h1, h2, h3, h4, h5⟩ := a.ex
 exact ⟨lu, ls, ld, h1.off k hL, h2, h3, h4, h5⟩
theorem ClInv.dom (a : ClInv μ R c K lk lz lf h) : ∀ b ∈ R.l, h b ≠ none := by
 obtain ⟨lu, ls, ld, h1, _⟩ := a.ex
 exact h1.dom
end
theorem ord_of_mem {K : List Int} {n : Int} (h : n ∈ K) : ord K n = K := by rw [ord, if_pos h]
theorem fld_at {h : Mem} {r i : Nat} {cs : List Value} {x : Value} {ty : TypeId} (hc : h r = some (.cells cs.toArray ty (0, 0))) (hi : cs[i]? = some x) : ∀ j v, [x][j]? = some v → h.cell ((⟨r, i, none⟩ : Addr).add j) = some v := fun j v hj => by
 match j, hj with
 | 0, hj => cases hj; simp [Mem.cell, Addr.add_lit', hc, hi]
section
variable {μ : Mem}
theorem root_spec {R : ClRefs} {c : Cl} {K : List Int} {lk lz lf : List (Value × Value)} {h : Mem} (v : Int) (hle : ∀ v, c.rep v ≤ v) (H : ClInv μ R c K lk lz lf h) :
  SpecH Tryz.prog 169 [.pointer (some ⟨R.c, 0, none⟩), .int .i64 v] μ h fun r μ' h' => r = .int .i64 (c.rep v) ∧ μ' = μ ∧ ClInv μ R c (ord K v) lk lz lf h' ∧ Fr [R.u] h h' := by
 have w_ := H.ex
 obtain ⟨lu, ls, ld, hat, hup, hs, hd, hsh⟩ := w_
 have w_ := hup.at_
 obtain ⟨p, hp, hget, hout, hin⟩ := w_
 refine SpecH.mk [] Tryz.func169 (by kernel_rfl) ?_
 refine oIn [.map (some R.u)] rfl (fld_at hat.c rfl) ?_
 by_cases hv : v ∈ K
 ·refine look_intro lu (some (.int .i64 (p v))) hat.u (hup.ok.weaken (by rintro _ ⟨n, rfl⟩; rfl)) rfl (by rw [hget, if_pos hv]) ?_
  refine iIn (fun h => nomatch h) (fun _ => ?_)
  have I0 : ∃ lu p, ClAt R h lu ls ld lk lz lf ∧ MapOk IntKey lu ∧ UF p c.rep ∧ (∀ n, mget lu (.int .i64 n) = if n ∈ ord K v then some (.int .i64 (p n)) else none) ∧ (∀ n, n ∉ ord K v → p n = n) ∧ (∀ n ∈ ord K v, p n ∈ ord K v) ∧ Fr [R.u] h h := by
   rw [ord_of_mem hv]
   exact ⟨lu, p, hat, hup.ok, hp, hget, hout, hin, Fr.refl _ _⟩
  obtain ⟨lu1, p1, a1, a2, a3, a4, a5, a6, a7⟩ := I0
  refine lIn (fun q : Int × Mem => ∃ lu p, ClAt R q.2 lu ls ld lk lz lf ∧ MapOk IntKey lu ∧ UF p c.rep ∧ (∀ n, mget lu (.int .i64 n) = if n ∈ ord K v then some (.int .i64 (p n)) else none) ∧ (∀ n, n ∉ ord K v → p n = n) ∧ (∀ n ∈ ord K v, p n ∈ ord K v) ∧ q.1 ∈ ord K v ∧ c.rep q.1 = c.rep v ∧ Fr [R.u] h q.2)
   (fun (w, h') => ⟨[(0, .val (.pointer (some ⟨R.c, 0, none⟩))), (1, .val (.int .i64 w))], [], 0, μ, h'⟩) (fun q => (q.1 - c.rep q.1).toNat)
   (v, _) ⟨lu1, p1, a1, a2, a3, a4, a5, a6, (ord_mem _ _ _).2 (.inl rfl), rfl, a7⟩ (fun (_, _) => ⟨rfl, rfl⟩) ⟨⟨rfl, rfl, trivial⟩, trivial, rfl, rfl⟩ ?_
  clear a1 a2 a3 a4 a5 a6 a7
  rintro ⟨w, h1⟩ ⟨lu2, p2, a1, a2, a3, a4, a5, a6, a7, a8, a9⟩
  dsimp only at a1 a7 a8 a9
  refine oIn [.map (some R.u)] rfl (fld_at a1.c rfl) ?_
  refine look_intro lu2 (some (.int .i64 (p2 w))) a1.u (a2.weaken (by rintro _ ⟨n, rfl⟩; rfl)) rfl (by rw [a4, if_pos a7]) ?_
  refine ifnd (fun hne => ?_) (fun heq => ?_)
  ·have hw1 := a6 w a7
   have hw2 := a6 _ hw1
   have l1 := a3.le w
   have l2 := a3.le (p2 w)
   have l3 := hle (p2 (p2 w))
   have e3 : c.rep (p2 (p2 w)) = c.rep w := by rw [a3.up, a3.up]
   refine oIn [.map (some R.u)] rfl (fld_at a1.c rfl) ?_
   refine oIn [.map (some R.u)] rfl (fld_at a1.c rfl) ?_
   refine oIn [.map (some R.u)] rfl (fld_at a1.c rfl) ?_
   refine look_intro lu2 (some (.int .i64 (p2 w))) a1.u (a2.weaken (by rintro _ ⟨n, rfl⟩; rfl)) rfl (by rw [a4, if_pos a7]) ?_
   refine look_intro lu2 (some (.int .i64 (p2 (p2 w)))) a1.u (a2.weaken (by rintro _ ⟨n, rfl⟩; rfl)) rfl (by rw [a4, if_pos hw1]) ?_
   refine upd_intro lu2 a1.u (a2.weaken (by rintro _ ⟨n, rfl⟩; rfl)) rfl ?_
   have b1 := a1.setU (l := mset lu2 (.int .i64 w) (.int .i64 (p2 (p2 w))))
   refine oIn [.map (some R.u)] rfl (fld_at b1.c rfl) ?_
   refine look_intro _ (some (.int .i64 (p2 (p2 w)))) b1.u ((a2.int _).weaken (by rintro _ ⟨n, rfl⟩; rfl)) rfl (by rw [mget_int, if_pos rfl]) ?_
   refine ⟨(p2 (p2 w), _), ⟨_, _, b1, a2.int _, a3.halve w, fun n => ?_, fun n hn => ?_, fun n hn => ?_, hw2, e3.trans a8, a9.trans (Fr.set (by simp))⟩, ?_, ⟨⟨rfl, rfl, trivial⟩, trivial, rfl, rfl⟩⟩
   ·rw [mget_int, a4]
    by_cases e : n = w
    ·subst e; rw [if_pos rfl, if_pos a7, if_pos rfl]
    ·rw [if_neg e, if_neg e]
   ·rw [if_neg (fun e => hn (by rw [e]; exact a7))]; exact a5 n hn
   ·split
    ·exact hw2
    ·exact a6 n hn
   ·dsimp only
    omega
  ·refine rPl ⟨?_, rfl, ⟨lu2, ls, ld, a1, ⟨a2, p2, a3, a4, a5, a6⟩, hs, hd, hsh⟩, a9⟩
   rw [← a8, a3.top w (by omega)]
 ·refine look_intro lu none hat.u (hup.ok.weaken (by rintro _ ⟨n, rfl⟩; rfl)) rfl (by rw [hget, if_neg hv]) ?_
  refine iIn (fun _ => ?_) (fun h => nomatch h)
  refine oIn [.map (some R.u)] rfl (fld_at hat.c rfl) ?_
  refine upd_intro lu hat.u (hup.ok.weaken (by rintro _ ⟨n, rfl⟩; rfl)) rfl ?_
  have ev : p v = v := hout v hv
  have I0 : ∃ lu' p, ClAt R (h.set R.u (mapO (mset lu (.int .i64 v) (.int .i64 v)))) lu' ls ld lk lz lf ∧ MapOk IntKey lu' ∧ UF p c.rep ∧ (∀ n, mget lu' (.int .i64 n) = if n ∈ ord K v then some (.int .i64 (p n)) else none) ∧ (∀ n, n ∉ ord K v → p n = n) ∧ (∀ n ∈ ord K v, p n ∈ ord K v) ∧ Fr [R.u] h (h.set R.u (mapO (mset lu (.int .i64 v) (.int .i64 v)))) := by
   refine ⟨_, p, hat.setU, hup.ok.int _, hp, fun n => ?_, fun n hn => hout n fun k => hn ((ord_mem _ _ _).2 (.inr k)), fun n hn => ?_, Fr.set (by simp)⟩
   ·rw [mget_int, hget]
    by_cases e : n = v
    ·subst e; rw [if_pos rfl, if_pos ((ord_mem _ _ _).2 (.inl rfl)), ev]
    ·rw [if_neg e]
     by_cases k : n ∈ K
     ·rw [if_pos k, if_pos ((ord_mem _ _ _).2 (.inr k))]
     ·rw [if_neg k, if_neg (fun k2 => ((ord_mem _ _ _).1 k2).elim e k)]
   ·rcases (ord_mem _ _ _).1 hn with e | k
    ·subst e; rw [ev]; exact hn
    ·exact (ord_mem _ _ _).2 (.inr (hin n k))
  obtain ⟨lu1, p1, a1, a2, a3, a4, a5, a6, a7⟩ := I0
  refine lIn (fun q : Int × Mem => ∃ lu p, ClAt R q.2 lu ls ld lk lz lf ∧ MapOk IntKey lu ∧ UF p c.rep ∧ (∀ n, mget lu (.int .i64 n) = if n ∈ ord K v then some (.int .i64 (p n)) else none) ∧ (∀ n, n ∉ ord K v → p n = n) ∧ (∀ n ∈ ord K v, p n ∈ ord K v) ∧ q.1 ∈ ord K v ∧ c.rep q.1 = c.rep v ∧ Fr [R.u] h q.2)
   (fun (w, h') => ⟨[(0, .val (.pointer (some ⟨R.c, 0, none⟩))), (1, .val (.int .i64 w))], [], 0, μ, h'⟩) (fun q => (q.1 - c.rep q.1).toNat)
   (v, _) ⟨lu1, p1, a1, a2, a3, a4, a5, a6, (ord_mem _ _ _).2 (.inl rfl), rfl, a7⟩ (fun (_, _) => ⟨rfl, rfl⟩) ⟨⟨rfl, rfl, trivial⟩, trivial, rfl, rfl⟩ ?_
  clear a1 a2 a3 a4 a5 a6 a7
  rintro ⟨w, h1⟩ ⟨lu2, p2, a1, a2, a3, a4, a5, a6, a7, a8, a9⟩
  dsimp only at a1 a7 a8 a9
  refine oIn [.map (some R.u)] rfl (fld_at a1.c rfl) ?_
  refine look_intro lu2 (some (.int .i64 (p2 w))) a1.u (a2.weaken (by rintro _ ⟨n, rfl⟩; rfl)) rfl (by rw [a4, if_pos a7]) ?_
  refine ifnd (fun hne => ?_) (fun heq => ?_)
  ·have hw1 := a6 w a7
   have hw2 := a6 _ hw1
   have l1 := a3.le w
   have l2 := a3.le (p2 w)
   have l3 := hle (p2 (p2 w))
   have e3 : c.rep (p2 (p2 w)) = c.rep w := by rw [a3.up, a3.up]
   refine oIn [.map (some R.u)] rfl (fld_at a1.c rfl) ?_
   refine oIn [.map (some R.u)] rfl (fld_at a1.c rfl) ?_
   refine oIn [.map (some R.u)] rfl (fld_at a1.c rfl) ?_
   refine look_intro lu2 (some (.int .i64 (p2 w))) a1.u (a2.weaken (by rintro _ ⟨n, rfl⟩; rfl)) rfl (by rw [a4, if_pos a7]) ?_
   refine look_intro lu2 (some (.int .i64 (p2 (p2 w)))) a1.u (a2.weaken (by rintro _ ⟨n, rfl⟩; rfl)) rfl (by rw [a4, if_pos hw1]) ?_
   refine upd_intro lu2 a1.u (a2.weaken (by rintro _ ⟨n, rfl⟩; rfl)) rfl ?_
   have b1 := a1.setU (l := mset lu2 (.int .i64 w) (.int .i64 (p2 (p2 w))))
   refine oIn [.map (some R.u)] rfl (fld_at b1.c rfl) ?_
   refine look_intro _ (some (.int .i64 (p2 (p2 w)))) b1.u ((a2.int _).weaken (by rintro _ ⟨n, rfl⟩; rfl)) rfl (by rw [mget_int, if_pos rfl]) ?_
   refine ⟨(p2 (p2 w), _), ⟨_, _, b1, a2.int _, a3.halve w, fun n => ?_, fun n hn => ?_, fun n hn => ?_, hw2, e3.trans a8, a9.trans (Fr.set (by simp))⟩, ?_, ⟨⟨rfl, rfl, trivial⟩, trivial, rfl, rfl⟩⟩
   ·rw [mget_int, a4]
    by_cases e : n = w
    ·subst e; rw [if_pos rfl, if_pos a7, if_pos rfl]
    ·rw [if_neg e, if_neg e]
   ·rw [if_neg (fun e => hn (by rw [e]; exact a7))]; exact a5 n hn
   ·split
    ·exact hw2
    ·exact a6 n hn
   ·dsimp only
    omega
  ·refine rPl ⟨?_, rfl, ⟨lu2, ls, ld, a1, ⟨a2, p2, a3, a4, a5, a6⟩, hs, hd, hsh⟩, a9⟩
   rw [← a8, a3.top w (by omega)]
end
end Go.Vx
namespace Go.Vx
open Go.Proofs Classical
def ClosedAt (c : Cl) (x r : Int) (S : List Int) : Prop := ∀ t, c.shp r = some t → ∀ u, t.occ u → c.rep u ≠ x ∧ (c.shp (c.rep u) ≠ none → c.rep u ∈ S)
theorem ClosedAt.mono {c : Cl} {x r : Int} {S S' : List Int} (h : ClosedAt c x r S) (k : ∀ n ∈ S, n ∈ S') : ClosedAt c x r S' := fun t ht u hu => ⟨(h t ht u hu).1, fun e => k _ ((h t ht u hu).2 e)⟩
structure GrownS (c : Cl) (x : Int) (K S S' : List Int) : Prop where
 sub : ∀ n ∈ S, n ∈ S'
 new : ∀ r ∈ S', r ∉ S → r ≠ x ∧ r ∈ K ∧ ClosedAt c x r S'
theorem GrownS.refl (c : Cl) (x : Int) (K S : List Int) : GrownS c x K S S := ⟨fun _ h => h, fun _ h k => absurd h k⟩
theorem GrownS.trans {c : Cl} {x : Int} {K S S' S'' : List Int} (h : GrownS c x K S S') (k : GrownS c x K S' S'') : GrownS c x K S S'' :=
 ⟨fun n hn => k.sub n (h.sub n hn), fun r hr hs => by
  by_cases e : r ∈ S'
  ·have := h.new r e hs; exact ⟨this.1, this.2.1, this.2.2.mono k.sub⟩
  ·exact k.new r hr e⟩
def CoverV (c : Cl) (x : Int) (S : List Int) (u : Int) : Prop := c.rep u ≠ x ∧ (c.shp (c.rep u) ≠ none → c.rep u ∈ S)
theorem CoverV.mono {c : Cl} {x u : Int} {S S' : List Int} (h : CoverV c x S u) (k : ∀ n ∈ S, n ∈ S') : CoverV c x S' u := ⟨h.1, fun e => k _ (h.2 e)⟩
def ReachR (c : Cl) (x : Int) (K S S' : List Int) (vs : List Int) (G : Prop) : Bool → Prop
 | true => G
 | false => GrownS c x K S S' ∧ ∀ u ∈ vs, CoverV c x S' u
theorem GrownS.add {c : Cl} {x r : Int} {K S S' : List Int} {t : T} (hr : r ≠ x) (hK : r ∈ K) (ht : c.shp r = some t) (h : GrownS c x K (S ++ [r]) S') (hc : ∀ u ∈ t.vars, CoverV c x S' u) : GrownS c x K S S' :=
 ⟨fun n hn => h.sub n (by simp [hn]), fun n hn hs => by
  by_cases e : n = r
  ·subst e
   refine ⟨hr, hK, fun t' ht' u hu => ?_⟩
   rw [ht] at ht'
   cases ht'
   exact hc u (T.occ_vars.1 hu)
  ·exact h.new n hn (by simp [hs, e])⟩
noncomputable def cntN (K S : List Int) : Nat := (K.filter fun n => decide (n ∉ S)).length
theorem cntN_le {K S S' : List Int} (h : ∀ n ∈ S, n ∈ S') : cntN K S' ≤ cntN K S := filter_le fun n _ k => by
 simp only [decide_eq_true_eq] at k ⊢
 exact fun e => k (h n e)
theorem cntN_lt {K S : List Int} {r : Int} (hK : r ∈ K) (hS : r ∉ S) : cntN K (S ++ [r]) < cntN K S := filter_lt (fun n _ k => by
 simp only [decide_eq_true_eq] at k ⊢
 exact fun e => k (by simp [e])) r hK (by simp) (by simpa using hS)
theorem Shut.of {c : Cl} {x : Int} {K S' : List Int} {t : T} (h : ReachR c x K [] S' t.vars (c.TReach x t) false) : c.Shut x t :=
 ⟨fun r => r ∈ S', fun r hr => (h.1.new r hr (by simp)).2.2, fun r hr => (h.1.new r hr (by simp)).1, fun u hu => h.2 u (T.occ_vars.1 hu)⟩
section
theorem eachVar_relM {S : Type} (J : S → Mem → Mem → Prop) (step : S → Int → S) (Q : S → Int → Prop) {k : FuncId} {caps : List Value} {μ : Mem}
  (hc : ∀ s μ' h n, μ.Le μ' → Q s n → J s μ' h → SpecH Tryz.prog k (.int .i64 n :: caps) μ' h fun r μ'' h' => r = .tuple #[] ∧ J (step s n) μ'' h') :
  ∀ (x : T) {v : Value} (s : S) (μ' h : Mem), μ.Le μ' → RepV μ' x.tm.d v → (∀ pre n post, x.vars = pre ++ n :: post → Q (pre.foldl step s) n) → J s μ' h → SpecH Tryz.prog 173 [v, .func (.func k) #[] caps.toArray] μ' h fun r μ'' h' => r = .tuple #[] ∧ J (x.vars.foldl step s) μ'' h'
 | .var n, v, s, μ', h, hm, hv, hq, hj => by
  have w_ := Tm.inv hv
  obtain ⟨base, cap, rfl, hsl⟩ := w_
  refine SpecH.mk [] Tryz.func173 (by kernel_rfl) ?_
  intro r
  refine ifd (fun _ => ?_) (fun h => absurd rfl h)
  refine cOw (hc s μ' h n hm (hq [] n [] rfl) hj) fun v μ'' h' hle hap hR => ?_
  obtain ⟨rfl, hj'⟩ := hR
  refine ifd (fun h => absurd h (by decide)) (fun _ => ?_)
  exact rPl ⟨rfl, hj'⟩
 | .nil, v, s, μ', h, hm, hv, hq, hj => by
  have w_ := Tm.inv hv
  obtain ⟨base, cap, rfl, hsl⟩ := w_
  refine SpecH.mk [] Tryz.func173 (by kernel_rfl) ?_
  intro r
  refine ifd (fun h => absurd h (by decide)) (fun _ => ?_)
  refine ifd (fun h => absurd h (by decide)) (fun _ => ?_)
  exact rPl ⟨rfl, hj⟩
 | .sym _, v, s, μ', h, hm, hv, hq, hj => by
  have w_ := Tm.inv hv
  obtain ⟨base, cap, rfl, hsl⟩ := w_
  refine SpecH.mk [] Tryz.func173 (by kernel_rfl) ?_
  intro r
  refine ifd (fun h => absurd h (by decide)) (fun _ => ?_)
  refine ifd (fun h => absurd h (by decide)) (fun _ => ?_)
  exact rPl ⟨rfl, hj⟩
 | .num _, v, s, μ', h, hm, hv, hq, hj => by
  have w_ := Tm.inv hv
  obtain ⟨base, cap, rfl, hsl⟩ := w_
  refine SpecH.mk [] Tryz.func173 (by kernel_rfl) ?_
  intro r
  refine ifd (fun h => absurd h (by decide)) (fun _ => ?_)
  refine ifd (fun h => absurd h (by decide)) (fun _ => ?_)
  exact rPl ⟨rfl, hj⟩
 | .pair a b, v, s, μ', h, hm, hv, hq, hj => by
  have w_ := Tm.inv hv
  obtain ⟨base, cap, rfl, hsl⟩ := w_
  have w_ := T.parts hsl
  obtain ⟨ad, ad', p, p', h1, h2, hra, hrb⟩ := w_
  refine SpecH.mk [] Tryz.func173 (by kernel_rfl) ?_
  intro r
  refine ifd (fun h => absurd h (by decide)) (fun _ => ?_)
  refine ifd (fun _ => ?_) (fun h => absurd rfl h)
  refine eIn h1 (cOw (eachVar_relM J step Q hc a s μ' h hm hra (fun pre n post e => hq pre n (post ++ b.vars) (by simp [T.vars, e])) hj) fun v μ1 h' hle hap hR => ?_)
  obtain ⟨rfl, hj'⟩ := hR
  refine eIn (h2.mono hle) (cOw (eachVar_relM J step Q hc b _ μ1 h' (hm.trans hle) (hrb.mono hle) (fun pre n post e => by
   have := hq (a.vars ++ pre) n post (by simp [T.vars, e])
   rwa [List.foldl_append] at this) hj') fun v μ2 h'' hle2 hap2 hR => ?_)
  obtain ⟨rfl, hj''⟩ := hR
  exact rPl ⟨rfl, by simpa [T.vars, List.foldl_append] using hj''⟩
end
theorem foldl_snoc' {α : Type} : ∀ (l s : List α), l.foldl (fun s n => s ++ [n]) s = s ++ l
 | [], s => by simp
 | a :: l, s => by rw [List.foldl_cons, foldl_snoc' l]; simp
structure SeenAt (lm : List (Value × Value)) (S : List Int) : Prop where
 ok : MapOk IntKey lm
 get : ∀ n, mget lm (.int .i64 n) = if n ∈ S then some (.bool true) else none
theorem SeenAt.nil : SeenAt [] [] := ⟨MapOk.nil, fun _ => rfl⟩
theorem SeenAt.add {lm : List (Value × Value)} {S : List Int} (h : SeenAt lm S) (r : Int) : SeenAt (mset lm (.int .i64 r) (.bool true)) (S ++ [r]) :=
 ⟨h.ok.int _, fun n => by
  rw [mget_int, h.get]
  by_cases e : n = r
  ·rw [if_pos e, if_pos (by simp [e])]
  ·rw [if_neg e]
   by_cases k : n ∈ S
   ·rw [if_pos k, if_pos (by simp [k])]
   ·rw [if_neg k, if_neg (by simp [k, e])]⟩
section
variable {R : ClRefs} {c : Cl} {K : List Int} {lk lz lf : List (Value × Value)} {P : T → Prop} {x : Int}
structure RchInv (μ : Mem) (R : ClRefs) (c : Cl) (K : List Int) (lk lz lf : List (Value × Value)) (x : Int) (rm rf : Nat) (G : Prop) (S : List Int) (h0 : Mem) (pre : List Int) (h : Mem) : Prop where
 cl : ClInv μ R c K lk lz lf h
 ex : ∃ b S' lm, h rm = some (mapO lm) ∧ SeenAt lm S' ∧ h rf = some (.cells #[.bool b] 4 (0, 0)) ∧ ReachR c x K S S' pre G b
 fr : Fr [R.u, rm, rf] h0 h
def RchSpec (R : ClRefs) (c : Cl) (K : List Int) (lk lz lf : List (Value × Value)) (x : Int) (m : Nat) (P : T → Prop) : Prop :=
 ∀ ⦃μ h : Mem⦄ ⦃t : T⦄ ⦃v : Value⦄ ⦃rm : Nat⦄ ⦃lm : List (Value × Value)⦄ ⦃S : List Int⦄, cntN K S < m → P t → RepV μ t.tm.d v → ClInv μ R c K lk lz lf h → h rm = some (mapO lm) → rm ∉ R.l → SeenAt lm S →
  SpecH Tryz.prog 215 [.pointer (some ⟨R.c, 0, none⟩), v, .int .i64 x, .map (some rm)] μ h fun r μ' h' => ∃ b S' lm', r = .bool b ∧ ClInv μ' R c K lk lz lf h' ∧ h' rm = some (mapO lm') ∧ SeenAt lm' S' ∧ Fr [R.u, rm] h h' ∧ ReachR c x K S S' t.vars (c.TReach x t) b
theorem reaches1_spec {μ h : Mem} {m bc bx bs rm rf : Nat} {v : Int} {G : Prop} {S : List Int} {h0 : Mem} {pre : List Int} (ih : RchSpec R c K lk lz lf x m P) (hS : cntN K S ≤ m) (hv : v ∈ K) (hG : c.Reach x (c.rep v) → G) (hin : c.In K P) (hle : ∀ v, c.rep v ≤ v) (hid : ∀ v, c.rep (c.rep v) = c.rep v)
  (hbc : μ bc = some (.cells #[.pointer (some ⟨R.c, 0, none⟩)] 181 (0, 0))) (hbx : μ bx = some (.cells #[.int .i64 x] 3 (0, 0))) (hbs : μ bs = some (.cells #[.map (some rm)] 213 (0, 0)))
  (hrm : rm ∉ R.l) (hrf : rf ∉ R.l) (hne : rm ≠ rf) (H : RchInv μ R c K lk lz lf x rm rf G S h0 pre h) :
  SpecH Tryz.prog 237 [.int .i64 v, .pointer (some ⟨bc, 0, none⟩), .pointer (some ⟨rf, 0, none⟩), .pointer (some ⟨bx, 0, none⟩), .pointer (some ⟨bs, 0, none⟩)] μ h fun r μ' h' => r = .tuple #[] ∧ RchInv μ' R c K lk lz lf x rm rf G S h0 (pre ++ [v]) h' := by
 obtain ⟨hcl, ⟨b, S1, lm, e1, e2, e3, e4⟩, hfr⟩ := H
 have hu : R.u ∈ R.l := by simp [ClRefs.l]
 have n1 : rm ≠ R.u := fun e => hrm (by rw [e]; exact hu)
 have n2 : rf ≠ R.u := fun e => hrf (by rw [e]; exact hu)
 refine SpecH.mk [] Tryz.func237 (by kernel_rfl) ?_
 refine ext_intro [.pointer (some ⟨R.c, 0, none⟩)] rfl (box_at hbc) ?_
 refine cOw (root_spec v hle hcl) fun r μ1 h1 hle1 hap1 hR => ?_
 obtain ⟨rfl, e, hcl1, hfr1⟩ := hR
 obtain rfl := e.symm
 rw [ord_of_mem hv] at hcl1
 have f1 : h1 rm = some (mapO lm) := hfr1.at e1 (by simpa using n1)
 have f3 : h1 rf = some (.cells #[.bool b] 4 (0, 0)) := hfr1.at e3 (by simpa using n2)
 have hfr1' : Fr [R.u, rm, rf] h0 h1 := hfr.trans (hfr1.weaken (by simp))
 have hrK := hin.rep v hv
 generalize hr : c.rep v = r at *
 have hrr : c.rep r = r := by rw [← hr]; exact hid v
 refine oIn [.bool b] rfl (box_at f3) ?_
 cases b with
 | true =>
  refine iIn (fun _ => ?_) (fun h => nomatch h)
  refine sIn [.bool true] 4 f3 rfl (Nat.le_refl _) ?_
  refine rPl ⟨rfl, ?_, ⟨true, S1, lm, ?_, e2, Mem.set_at _ _ _, e4⟩, hfr1'.trans (Fr.set (by simp))⟩
  ·exact hcl1.off (Fr.set (l := [rf]) (by simp)) (by simpa using hrf)
  ·show (Mem.set h1 rf _) rm = _
   rw [Mem.set_ne hne]; exact f1
 | false =>
  refine iIn (fun h => nomatch h) (fun _ => ?_)
  refine ext_intro [.int .i64 x] rfl (box_at hbx) ?_
  refine ifd (fun hx => ?_) (fun hx => ?_)
  ·refine sIn [.bool false] 4 f3 rfl (Nat.le_refl _) ?_
   refine rPl ⟨rfl, ?_, ⟨true, S1, lm, ?_, e2, Mem.set_at _ _ _, hG (by rw [hx]; exact .here)⟩, hfr1'.trans (Fr.set (by simp))⟩
   ·exact hcl1.off (Fr.set (l := [rf]) (by simp)) (by simpa using hrf)
   ·show (Mem.set h1 rf _) rm = _
    rw [Mem.set_ne hne]; exact f1
  refine ext_intro [.map (some rm)] rfl (box_at hbs) ?_
  have w_ := hcl1.ex
  obtain ⟨lu, ls, ld, hat, hup, hs, hd, hsh⟩ := w_
  by_cases hrS : r ∈ S1
  ·refine look_intro lm (some (.bool true)) f1 (e2.ok.weaken (by rintro _ ⟨n, rfl⟩; rfl)) rfl (by rw [e2.get, if_pos hrS]) ?_
   refine iIn (fun h => nomatch h) (fun _ => ?_)
   refine rPl ⟨rfl, hcl1, ⟨false, S1, lm, f1, e2, f3, e4.1, fun u hu => ?_⟩, hfr1'⟩
   rcases List.mem_append.1 hu with hu | hu
   ·exact e4.2 u hu
   ·rw [List.mem_singleton] at hu
    subst hu
    exact ⟨by rw [hr]; exact hx, fun _ => by rw [hr]; exact hrS⟩
  refine look_intro lm none f1 (e2.ok.weaken (by rintro _ ⟨n, rfl⟩; rfl)) rfl (by rw [e2.get, if_neg hrS]) ?_
  refine iIn (fun _ => ?_) (fun h => nomatch h)
  refine ext_intro [.pointer (some ⟨R.c, 0, none⟩)] rfl (box_at hbc) ?_
  refine oIn [.map (some R.d)] rfl (fld_at hat.c rfl) ?_
  cases hsr : c.shp r with
  | none =>
   refine look_intro ld none hat.d (hd.weaken (by rintro _ ⟨n, rfl⟩; rfl)) rfl (hsh.none hrr hsr) ?_
   refine iIn (fun h => nomatch h) (fun _ => ?_)
   refine rPl ⟨rfl, hcl1, ⟨false, S1, lm, f1, e2, f3, e4.1, fun u hu => ?_⟩, hfr1'⟩
   rcases List.mem_append.1 hu with hu | hu
   ·exact e4.2 u hu
   ·rw [List.mem_singleton] at hu
    subst hu
    exact ⟨by rw [hr]; exact hx, fun k => by rw [hr] at k; exact absurd hsr k⟩
  | some t =>
   have w_ := hsh.some hrr hsr
   obtain ⟨g1, tv, g2, g3⟩ := w_
   refine look_intro ld (some (.bool true)) hat.d (hd.weaken (by rintro _ ⟨n, rfl⟩; rfl)) rfl g1 ?_
   refine iIn (fun _ => ?_) (fun h => nomatch h)
   refine ext_intro [.map (some rm)] rfl (box_at hbs) ?_
   refine upd_intro lm f1 (e2.ok.weaken (by rintro _ ⟨n, rfl⟩; rfl)) rfl ?_
   have s2 := e2.add r
   have f1' : (h1.set rm (mapO (mset lm (.int .i64 r) (.bool true)))) rm = some (mapO (mset lm (.int .i64 r) (.bool true))) := Mem.set_at _ _ _
   have f3' : (h1.set rm (mapO (mset lm (.int .i64 r) (.bool true)))) rf = some (.cells #[.bool false] 4 (0, 0)) := by rw [Mem.set_ne hne.symm]; exact f3
   have hfr2 : Fr [R.u, rm, rf] h0 (h1.set rm (mapO (mset lm (.int .i64 r) (.bool true)))) := hfr1'.trans (Fr.set (by simp))
   have hcl2 := hcl1.off (h' := h1.set rm (mapO (mset lm (.int .i64 r) (.bool true)))) (Fr.set (l := [rm]) (by simp)) (by simpa using hrm)
   generalize hh2 : h1.set rm (mapO (mset lm (.int .i64 r) (.bool true))) = h2 at *
   have hat2 : ClAt R h2 lu ls ld lk lz lf := by
    subst hh2; exact hat.off (Fr.set (l := [rm]) (by simp)) (by simpa using hrm)
   have w_ := Tm.invV g3
   obtain ⟨q, rfl⟩ := w_
   refine ext_intro [.pointer (some ⟨R.c, 0, none⟩)] rfl (box_at hbc) ?_
   refine ext_intro [.pointer (some ⟨R.c, 0, none⟩)] rfl (box_at hbc) ?_
   refine oIn [.map (some R.s)] rfl (fld_at hat2.c rfl) ?_
   refine look_intro ls (some _) hat2.s (hs.weaken (by rintro _ ⟨n, rfl⟩; rfl)) rfl g2 ?_
   refine ext_intro [.int .i64 x] rfl (box_at hbx) ?_
   refine ext_intro [.map (some rm)] rfl (box_at hbs) ?_
   have hcnt : cntN K (S1 ++ [r]) < m := Nat.lt_of_lt_of_le (cntN_lt hrK hrS) (Nat.le_trans (cntN_le e4.1.sub) hS)
   refine cOw (ih hcnt (hin.shp r t hsr).2 g3 hcl2 f1' hrm s2) fun v3 μ3 h3 hle3 hap3 hR3 => ?_
   obtain ⟨b3, S3, lm3, rfl, k1, k2, k3, k4, k5⟩ := hR3
   have f5 : h3 rf = some (.cells #[.bool false] 4 (0, 0)) := k4.at f3' (by simp only [List.mem_cons, List.not_mem_nil, or_false, not_or]; exact ⟨n2, hne.symm⟩)
   refine sIn [.bool false] 4 f5 rfl (Nat.le_refl _) ?_
   refine rPl ⟨rfl, k1.off (Fr.set (l := [rf]) (by simp)) (by simpa using hrf), ⟨b3, S3, lm3, ?_, k3, Mem.set_at _ _ _, ?_⟩, (hfr2.trans (k4.weaken (by simp))).trans (Fr.set (by simp))⟩
   ·show (Mem.set h3 rf _) rm = _
    rw [Mem.set_ne hne]; exact k2
   ·cases b3 with
    | true =>
     obtain ⟨u, hu, hr3⟩ := k5
     exact hG (.step hx hsr hu hr3)
    | false =>
     have gr : GrownS c x K S1 S3 := k5.1.add hx hrK hsr k5.2
     refine ⟨e4.1.trans gr, fun u hu => ?_⟩
     rcases List.mem_append.1 hu with hu | hu
     ·exact (e4.2 u hu).mono gr.sub
     ·rw [List.mem_singleton] at hu
      subst hu
      exact ⟨by rw [hr]; exact hx, fun _ => by rw [hr]; exact k5.1.sub r (by simp)⟩
theorem reaches_spec (hin : c.In K P) (hP : ∀ t, P t → t.inN K) (hle : ∀ v, c.rep v ≤ v) (hid : ∀ v, c.rep (c.rep v) = c.rep v) : ∀ m, RchSpec R c K lk lz lf x m P
 | 0 => by
  intro μ h t v rm lm S hS
  exact absurd hS (Nat.not_lt_zero _)
 | m + 1 => by
  intro μ h t v rm lm S hS ht hv hcl hrm hrm2 hsn
  have w_ := Tm.invV hv
  obtain ⟨q, rfl⟩ := w_
  refine SpecH.mk [9] Tryz.func215 (by kernel_rfl) ?_
  intro r0 r1 r2 r3
  intro rf hmf hof
  replace hof : h rf = none := hof
  have n1 : rm ≠ rf := fun e => by subst e; rw [hrm] at hof; cases hof
  have hrf : rf ∉ R.l := fun e => hcl.dom rf e hof
  refine sIn [.bool false] 4 (Mem.set_at _ _ _) rfl (Nat.le_refl _) ?_
  generalize hh : Mem.set (Mem.set _ rf _) rf _ = h0
  have e0 : Fr [rf] h h0 := by subst hh; exact (Fr.set (by simp)).trans (Fr.set (by simp))
  have ef : h0 rf = some (.cells #[.bool false] 4 (0, 0)) := by subst hh; rw [Mem.set_at]; rfl
  have em : h0 rm = some (mapO lm) := e0.at hrm (by simpa using n1)
  refine call_gen [0, 2, 3] [] (fun _ => rfl) ?_
  intro μ1 hle1 _ hat0 μ2 hle2 _ hat2 μ3 hle3 _ hat3
  have hle13 := hle1.trans (hle2.trans hle3)
  replace hle13 : μ.Le μ3 := hle13
  have hbc := hle3 _ _ (hle2 _ _ hat0)
  have hbx := hle3 _ _ hat2
  have I0 : RchInv μ3 R c K lk lz lf x rm rf (c.TReach x t) S h0 [] h0 := ⟨(hcl.mono hle13).off e0 (by simpa using hrf), ⟨false, S, lm, em, hsn, ef, GrownS.refl _ _ _ _, fun u hu => by simp at hu⟩, Fr.refl _ _⟩
  refine own_go (eachVar_relM (μ := μ3) (fun pre μ' h' => RchInv μ' R c K lk lz lf x rm rf (c.TReach x t) S h0 pre h') (fun pre n => pre ++ [n]) (fun _ n => n ∈ t.vars)
   (fun pre μ' h' n hm hn hj => reaches1_spec (m := m) (reaches_spec hin hP hle hid m) (Nat.le_of_lt_succ hS) (hP t ht n (T.occ_vars.2 hn)) (fun k => ⟨n, T.occ_vars.2 hn, k⟩) hin hle hid (hm _ _ hbc) (hm _ _ hbx) (hm _ _ hat3) hrm2 hrf n1 hj)
   t [] μ3 h0 (Mem.Le.refl _) (hv.mono hle13) (fun pre n post e => by rw [e]; simp) I0) fun v4 μ4 h4 hle4 hap4 hR => ?_
  obtain ⟨rfl, hj⟩ := hR
  rw [foldl_snoc', List.nil_append] at hj
  obtain ⟨g1, ⟨b, S', lm', g2, g3, g4, g5⟩, g6⟩ := hj
  refine oIn [.bool b] rfl (box_at g4) ?_
  refine rPl ⟨b, S', lm', rfl, g1, g2, g3, fun y hy hl => ?_, g5⟩
  have hyf : y ≠ rf := fun e => hy (by rw [e]; exact hof)
  have e1 := e0 y hy (by simpa using hyf)
  show h4 y = h y
  rw [g6 y (by rw [e1]; exact hy) (by simp only [List.mem_cons, List.not_mem_nil, or_false, not_or] at hl ⊢; exact ⟨hl.1, hl.2, hyf⟩), e1]
end
end Go.Vx
namespace Go.Vx
open Go.Proofs Classical
theorem ShpAt.shape {μ : Mem} {c : Cl} {ls ld : List (Value × Value)} {x : Int} {t : T} {v : Value} (h : ShpAt μ c ls ld) (hv : RepV μ t.tm.d v) : ShpAt μ (c.shape x t) (mset ls (.int .i64 x) v) (mset ld (.int .i64 x) (.bool true)) := fun z hz => by
 have hz : c.rep z = z := hz
 by_cases e : z = x
 ·subst e
  have e2 : (c.shape z t).shp z = Option.some t := by simp [Cl.shape]
  rw [e2]
  exact ⟨by rw [mget_int, if_pos rfl], v, by rw [mget_int, if_pos rfl], hv⟩
 ·have e2 : (c.shape x t).shp z = c.shp z := by simp only [Cl.shape]; rw [if_neg e]
  rw [e2]
  cases k : c.shp z with
  | none => show mget _ _ = Option.none; rw [mget_int, if_neg e]; exact h.none hz k
  | some u =>
   have w_ := h.some hz k
   obtain ⟨h1, w, h2, h3⟩ := w_
   exact ⟨by rw [mget_int, if_neg e]; exact h1, w, by rw [mget_int, if_neg e]; exact h2, h3⟩
theorem UpAt.merge {c c' : Cl} {K : List Int} {lu : List (Value × Value)} {x y : Int} (h : UpAt c K lu) (hx : c.rep x = x) (hy : c.rep y = y) (hlt : x < y) (hxK : x ∈ K) (hyK : y ∈ K) (e : c'.rep = (c.merge x y).rep) : UpAt c' K (mset lu (.int .i64 y) (.int .i64 x)) := by
 obtain ⟨hok, p, hp, hget, hout, hin⟩ := h
 refine ⟨hok.int _, fun n => if n = y then x else p n, ⟨fun v => ?_, fun v => ?_, fun v k => ?_⟩, fun n => ?_, fun n hn => ?_, fun n hn => ?_⟩
 ·show (if v = y then x else p v) ≤ v
  split
  ·omega
  ·exact hp.le v
 ·show c'.rep (if v = y then x else p v) = c'.rep v
  rw [e]
  simp only [Cl.merge]
  by_cases k : v = y
  ·rw [if_pos k, hx, k, hy, if_pos rfl, if_neg (by omega)]
  ·rw [if_neg k, hp.up]
 ·have k : (if v = y then x else p v) = v := k
  rw [e]
  simp only [Cl.merge]
  by_cases k2 : v = y
  ·rw [if_pos k2] at k; omega
  ·rw [if_neg k2] at k
   rw [hp.top v k, if_neg k2]
 ·show _ = if n ∈ K then some (Value.int .i64 (if n = y then x else p n)) else none
  rw [mget_int, hget]
  by_cases k : n = y
  ·subst k; rw [if_pos rfl, if_pos hyK, if_pos rfl]
  ·rw [if_neg k, if_neg k]
 ·show (if n = y then x else p n) = n
  rw [if_neg fun k => hn (by rw [k]; exact hyK)]; exact hout n hn
 ·show (if n = y then x else p n) ∈ K
  split
  ·exact hxK
  ·exact hin n hn
theorem ShpAt.merge {μ : Mem} {c c' : Cl} {ls ld : List (Value × Value)} {x y : Int} (h : ShpAt μ c ls ld) (hy : c.rep y = y) (hlt : x < y) (e : c'.rep = (c.merge x y).rep) (e2 : ∀ z, z ≠ y → c'.shp z = c.shp z) (hx : c.rep x = x) : ShpAt μ c' ls ld := fun z hz => by
 rw [e] at hz
 have hz : (if c.rep z = y then x else c.rep z) = z := hz
 have hzy : z ≠ y := fun k => by
  rw [k, hy, if_pos rfl] at hz; omega
 have hzr : c.rep z = z := by
  split at hz
  ·rw [← hz]; exact hx
  ·exact hz
 rw [e2 z hzy]
 exact h z hzr
section
variable {μ : Mem} {R : ClRefs} {c : Cl} {K : List Int} {lk lz lf : List (Value × Value)} {P : T → Prop} {x : Int}
def FoundR (c : Cl) (x : Int) (t : T) : Bool → Prop
 | true => c.TReach x t
 | false => c.Shut x t
theorem search_spec {h : Mem} {t : T} {v : Value} {rm : Nat} (hin : c.In K P) (hP : ∀ t, P t → t.inN K) (hle : ∀ v, c.rep v ≤ v) (hid : ∀ v, c.rep (c.rep v) = c.rep v) (ht : P t) (hv : RepV μ t.tm.d v) (H : ClInv μ R c K lk lz lf h) (hrm : h rm = some (mapO [])) (hrm2 : rm ∉ R.l) :
  SpecH Tryz.prog 215 [.pointer (some ⟨R.c, 0, none⟩), v, .int .i64 x, .map (some rm)] μ h fun r μ' h' => ∃ b, r = .bool b ∧ ClInv μ' R c K lk lz lf h' ∧ FoundR c x t b :=
 (reaches_spec (x := x) hin hP hle hid _ (Nat.lt_succ_self _) ht hv H hrm hrm2 SeenAt.nil).weaken fun r μ' h' _ _ hR => by
  obtain ⟨b, S', lm', rfl, g1, g2, g3, g4, g5⟩ := hR
  refine ⟨b, rfl, g1, ?_⟩
  cases b with
  | true => exact g5
  | false => exact Shut.of g5
theorem know_spec {h : Mem} {t : T} {v : Value} (hin : (c.shape x t).In K P) (hP : ∀ t, P t → t.inN K) (hle : ∀ v, c.rep v ≤ v) (hid : ∀ v, c.rep (c.rep v) = c.rep v) (ht : P t) (hv : RepV μ t.tm.d v) (H : ClInv μ R c K lk lz lf h) :
  SpecH Tryz.prog 216 [.pointer (some ⟨R.c, 0, none⟩), .int .i64 x, v] μ h fun r μ' h' => ∃ b, r = .bool (!b) ∧ ClInv μ' R (c.shape x t) K lk lz lf h' ∧ FoundR (c.shape x t) x t b := by
 have w_ := Tm.invV hv
 obtain ⟨q, rfl⟩ := w_
 have w_ := H.ex
 obtain ⟨lu, ls, ld, hat, hup, hs, hd, hsh⟩ := w_
 refine SpecH.mk [21] Tryz.func216 (by kernel_rfl) ?_
 intro r0
 refine oIn [.map (some R.s)] rfl (fld_at hat.c rfl) ?_
 refine upd_intro ls hat.s (hs.weaken (by rintro _ ⟨n, rfl⟩; rfl)) rfl ?_
 have b1 := hat.setS (l := mset ls (.int .i64 x) (.agg #[.int .i64 t.tm.kind, .int .i64 t.tm.num, .string t.tm.name, .slice q.1 t.tm.args.length q.2]))
 refine oIn [.map (some R.d)] rfl (fld_at b1.c rfl) ?_
 refine upd_intro ld b1.d (hd.weaken (by rintro _ ⟨n, rfl⟩; rfl)) rfl ?_
 have b2 := b1.setD (l := mset ld (.int .i64 x) (.bool true))
 generalize hh : Mem.set (Mem.set _ R.s _) R.d _ = h2 at *
 intro rm hm ho
 replace ho : h2 rm = none := ho
 have hrm : rm ∉ R.l := fun e => b2.dom rm e ho
 have e2 : Fr [rm] h2 (h2.set rm (mapO [])) := Fr.set (by simp)
 have H2 : ClInv μ R (c.shape x t) K lk lz lf (h2.set rm (mapO [])) := ⟨_, _, _, b2.off e2 (by simpa using hrm), ⟨hup.ok, hup.at_⟩, hs.int _, hd.int _, hsh.shape hv⟩
 refine cOw (search_spec (x := x) hin hP hle hid ht hv H2 (Mem.set_at _ _ _) hrm) fun r μ3 h3 hle3 hap3 hR => ?_
 obtain ⟨b, rfl, g1, g2⟩ := hR
 exact rPl ⟨b, rfl, g1, g2⟩
end
end Go.Vx
namespace Go.Vx
open Go.Proofs Classical
theorem T.var_or (a : T) : (∃ n, a = .var n) ∨ ∀ m, a ≠ .var m := by
 cases a with
 | var n => exact .inl ⟨n, rfl⟩
 | _ => exact .inr (fun m h => nomatch h)
theorem T.pair_or (a : T) : (∃ p q, a = .pair p q) ∨ a.tm.kind ≠ 4 := by
 cases a with
 | pair p q => exact .inl ⟨p, q, rfl⟩
 | _ => exact .inr (by simp [T.tm, Tm.kind])
theorem T.atom_eq {a b : T} (h : a.tm.kind ≠ 4) (h1 : a.tm.kind = b.tm.kind) (h2 : a.tm.num = b.tm.num) (h3 : a.tm.name = b.tm.name) : a = b := by
 cases a <;> cases b <;> simp_all [T.tm, Tm.kind, Tm.num, Tm.name]
theorem T.kind_nv {a : T} (h : ∀ m, a ≠ .var m) : a.tm.kind ≠ 1 := by
 cases a with
 | var n => exact absurd rfl (h n)
 | _ => simp [T.tm, Tm.kind]
def vk : T → T → Nat
 | .var _, .var _ => 0
 | .var _, _ => 1
 | _, .var _ => 2
 | _, _ => 0
theorem vk_vn {n : Int} {b : T} (h : ∀ m, b ≠ .var m) : vk (.var n) b = 1 := by
 cases b with
 | var m => exact absurd rfl (h m)
 | _ => rfl
theorem vk_nv {n : Int} {a : T} (h : ∀ m, a ≠ .var m) : vk a (.var n) = 2 := by
 cases a with
 | var m => exact absurd rfl (h m)
 | _ => rfl
theorem vk_nn {a b : T} (h : ∀ m, a ≠ .var m) (k : ∀ m, b ≠ .var m) : vk a b = 0 := by
 cases a with
 | var m => exact absurd rfl (h m)
 | _ =>
  cases b with
  | var m => exact absurd rfl (k m)
  | _ => rfl
theorem vk_le (a b : T) : vk a b ≤ 2 := by
 cases a <;> cases b <;> simp [vk]
noncomputable def eqMeas (val : Int → T) (a b : T) : Nat := 3 * ((a.ap val).size + (b.ap val).size) + vk a b
section
variable {R : ClRefs} {K : List Int} {lk lz lf : List (Value × Value)} {P : T → Prop}
def EqSpec (R : ClRefs) (K : List Int) (lk lz lf : List (Value × Value)) (P : T → Prop) (M s : Nat) : Prop :=
 ∀ ⦃μ h : Mem⦄ ⦃c : Cl⦄ ⦃a b : T⦄ ⦃va vb : Value⦄ ⦃val : Int → T⦄, c.M K ≤ M → c.IsVal val → eqMeas val a b ≤ s → c.Good → c.In K P → P a → P b → RepV μ a.tm.d va → RepV μ b.tm.d vb → ClInv μ R c K lk lz lf h →
  SpecH Tryz.prog 171 [.pointer (some ⟨R.c, 0, none⟩), va, vb] μ h fun r μ' h' => ∃ o c', r = .bool o ∧ EqR K P c a b o c' ∧ (o = true → ClInv μ' R c' K lk lz lf h')
set_option maxHeartbeats 4000000 in
theorem equal_all (hP : ∀ t, P t → t.inN K) (hPp : ∀ a b, P (.pair a b) → P a ∧ P b) : ∀ M s, EqSpec R K lk lz lf P M s := by
 intro M
 induction M using Nat.strongRecOn with
 | _ M ihM =>
 intro s
 induction s using Nat.strongRecOn with
 | _ s ihs =>
 intro μ h c a b va vb val hM hval hs hg hi ha hb hva hvb H
 have hg0 := hg
 obtain ⟨rank, hok⟩ := hg0
 have hle := hok.le
 have hid := hok.idem
 rcases T.var_or a with ⟨n, rfl⟩ | han
 ·have w_ := Tm.invV hva
  obtain ⟨qa, rfl⟩ := w_
  have w_ := Tm.invV hvb
  obtain ⟨qb, rfl⟩ := w_
  have hn : n ∈ K := hP _ ha n rfl
  rcases T.var_or b with ⟨m, rfl⟩ | hbn
  ·have hm : m ∈ K := hP _ hb m rfl
   refine SpecH.mk [65, 89, 101] Tryz.func171 (by kernel_rfl) ?_
   intro r4 r5
   refine ifd (fun _ => ?_) (fun h => absurd rfl h)
   refine ifd (fun _ => ?_) (fun h => absurd rfl h)
   refine cOw (root_spec n hle H) fun r μ1 h1 hle1 hap1 hR => ?_
   obtain ⟨rfl, e, H1, hfr1⟩ := hR
   obtain rfl := e.symm
   rw [ord_of_mem hn] at H1
   refine cOw (root_spec m hle H1) fun r μ1 h2 hle1 hap1 hR => ?_
   obtain ⟨rfl, e, H2, hfr2⟩ := hR
   obtain rfl := e.symm
   rw [ord_of_mem hm] at H2
   refine ifd (fun he => ?_) (fun he => ?_)
   ·exact rPl ⟨true, c, rfl, hg.same hi fun θ k => by show θ n = θ m; rw [← k.1 n, ← k.1 m, he], fun _ => H2⟩
   have hx2 := hid n
   have hy2 := hid m
   have hxK := hi.rep n hn
   have hyK := hi.rep m hm
   generalize hxe : c.rep n = x at hx2 hxK he ⊢
   generalize hye : c.rep m = y at hy2 hyK he ⊢
   refine ifd (fun hlt => ?_) (fun hlt => ?_)
   ·replace H2 : ClInv μ R c K lk lz lf h2 := H2
    have w_ := H2.ex
    obtain ⟨lu, ls, ld, hat, hup, hs, hd, hsh⟩ := w_
    have hmok := Cl.merge_ok hok hy2 hx2 hlt
    have hmin := Cl.merge_in hi hyK hxK hx2
    refine oIn [.map (some R.u)] rfl (fld_at hat.c rfl) ?_
    refine upd_intro lu hat.u (hup.ok.weaken (by rintro _ ⟨n, rfl⟩; rfl)) rfl ?_
    have b1 := hat.setU (l := mset lu (.int .i64 x) (.int .i64 y))
    generalize Mem.set h2 R.u _ = h3 at *
    refine oIn [.map (some R.d)] rfl (fld_at b1.c rfl) ?_
    cases hsy : c.shp x with
    | none =>
     refine look_intro ld none b1.d (hd.weaken (by rintro _ ⟨n, rfl⟩; rfl)) rfl (hsh.none hx2 hsy) ?_
     refine iIn (fun _ => ?_) (fun h => nomatch h)
     refine oIn [.map (some R.d)] rfl (fld_at b1.c rfl) ?_
     cases hsx : c.shp y with
     | none =>
      refine look_intro ld none b1.d (hd.weaken (by rintro _ ⟨n, rfl⟩; rfl)) rfl (hsh.none hy2 hsx) ?_
      refine iIn (fun _ => ?_) (fun h => nomatch h)
      refine rPl ⟨true, c.merge y x, rfl, EqR.merge hg hi hn hm (.inr ⟨hxe, hye⟩) hlt hsx hsy, fun _ => ⟨_, ls, ld, b1, hup.merge hy2 hx2 hlt hyK hxK rfl, hs, hd, hsh.merge hx2 hlt rfl (fun z hz => ?_) hy2⟩⟩
      simp only [Cl.merge]
      by_cases k : z = y
      ·rw [if_pos (.inl k), k, hsx]
      ·rw [if_neg (fun e => e.elim k hz)]
     | some t =>
      have w_ := hsh.some hy2 hsx
      obtain ⟨g1, tv, g2, g3⟩ := w_
      have ht := (hi.shp _ _ hsx).2
      refine look_intro ld (some (.bool true)) b1.d (hd.weaken (by rintro _ ⟨n, rfl⟩; rfl)) rfl g1 ?_
      refine iIn (fun h => nomatch h) (fun _ => ?_)
      refine oIn [.map (some R.s)] rfl (fld_at b1.c rfl) ?_
      have w_ := Tm.invV g3
      obtain ⟨q, rfl⟩ := w_
      refine look_intro ls (some _) b1.s (hs.weaken (by rintro _ ⟨n, rfl⟩; rfl)) rfl g2 ?_
      intro rm hrm ho
      replace ho : h3 rm = none := ho
      have hrl : rm ∉ R.l := fun e => b1.dom rm e ho
      have H3 : ClInv μ R ((c.merge y x).shape y t) K lk lz lf (h3.set rm (mapO [])) := ⟨_, ls, ld, b1.off (L := [rm]) (Fr.set (by simp)) (by simpa using hrl), hup.merge hy2 hx2 hlt hyK hxK rfl, hs, hd, hsh.merge hx2 hlt rfl (fun z hz => by
       show (if z = y then some t else (c.merge y x).shp z) = c.shp z
       simp only [Cl.merge]
       by_cases k : z = y
       ·rw [if_pos k, k, hsx]
       ·rw [if_neg k, if_neg (fun e => e.elim k hz)]) hy2⟩
      refine cOw (search_spec (x := y) (Cl.shape_in hmin hyK ht) hP hmok.le hmok.idem ht g3 H3 (Mem.set_at _ _ _) hrl) fun r μ4 h4 hle4 hap4 hR => ?_
      obtain ⟨b, rfl, k1, k2⟩ := hR
      have hm1 := Cl.merge1 (c2 := c) hg hi hn hm (.inr ⟨hxe, hye⟩) hlt ⟨.inl ⟨hsx, hsy⟩⟩
      cases b with
      | true => exact rPl ⟨false, c, rfl, hm1.1 k2, fun h => nomatch h⟩
      | false => exact rPl ⟨true, _, rfl, hm1.2 k2, fun _ => k1⟩
    | some u =>
     have w_ := hsh.some hx2 hsy
     obtain ⟨g1, tv, g2, g3⟩ := w_
     have hu := (hi.shp _ _ hsy).2
     refine look_intro ld (some (.bool true)) b1.d (hd.weaken (by rintro _ ⟨n, rfl⟩; rfl)) rfl g1 ?_
     refine iIn (fun h => nomatch h) (fun _ => ?_)
     refine oIn [.map (some R.s)] rfl (fld_at b1.c rfl) ?_
     have w_ := Tm.invV g3
     obtain ⟨q, rfl⟩ := w_
     refine look_intro ls (some _) b1.s (hs.weaken (by rintro _ ⟨n, rfl⟩; rfl)) rfl g2 ?_
     intro r9
     refine oIn [.map (some R.d)] rfl (fld_at b1.c rfl) ?_
     cases hsx : c.shp y with
     | none =>
      refine look_intro ld none b1.d (hd.weaken (by rintro _ ⟨n, rfl⟩; rfl)) rfl (hsh.none hy2 hsx) ?_
      refine iIn (fun _ => ?_) (fun h => nomatch h)
      have H3 : ClInv μ R (c.merge y x) K lk lz lf h3 := ⟨_, ls, ld, b1, hup.merge hy2 hx2 hlt hyK hxK rfl, hs, hd, hsh.merge hx2 hlt rfl (fun z hz => by
       simp only [Cl.merge]
       by_cases k : z = y
       ·rw [if_pos (.inl k), k, hsx]
       ·rw [if_neg (fun e => e.elim k hz)]) hy2⟩
      refine cOw (know_spec (x := y) (t := u) (Cl.shape_in hmin hyK hu) hP hmok.le hmok.idem hu g3 H3) fun r μ4 h4 hle4 hap4 hR => ?_
      obtain ⟨b, rfl, k1, k2⟩ := hR
      have hm1 := Cl.merge1 (c2 := c) hg hi hn hm (.inr ⟨hxe, hye⟩) hlt ⟨.inr ⟨hsx, hsy⟩⟩
      cases b with
      | true => exact rPl ⟨false, c, rfl, hm1.1 k2, fun h => nomatch h⟩
      | false => exact rPl ⟨true, _, rfl, hm1.2 k2, fun _ => k1⟩
     | some t =>
      have w_ := hsh.some hy2 hsx
      obtain ⟨g1', tv', g2', g3'⟩ := w_
      have ht := (hi.shp _ _ hsx).2
      refine look_intro ld (some (.bool true)) b1.d (hd.weaken (by rintro _ ⟨n, rfl⟩; rfl)) rfl g1' ?_
      refine iIn (fun h => nomatch h) (fun _ => ?_)
      have H3 : ClInv μ R ((c.merge y x).shape y t) K lk lz lf h3 := ⟨_, ls, ld, b1, hup.merge hy2 hx2 hlt hyK hxK rfl, hs, hd, hsh.merge hx2 hlt rfl (fun z hz => by
       show (if z = y then some t else (c.merge y x).shp z) = c.shp z
       simp only [Cl.merge]
       by_cases k : z = y
       ·rw [if_pos k, k, hsx]
       ·rw [if_neg k, if_neg (fun e => e.elim k hz)]) hy2⟩
      have hm2 := Cl.merge2 (c2 := c) hg hi hn hm (.inr ⟨hxe, hye⟩) hlt hsx hsy
      refine fun rm hrm ho => ?_
      replace ho : h3 rm = none := ho
      have hrl : rm ∉ R.l := fun e => b1.dom rm e ho
      have H4 := H3.off (L := [rm]) (h' := h3.set rm (mapO [])) (Fr.set (by simp)) (by simpa using hrl)
      refine cOw (search_spec (x := y) (Cl.shape_in hmin hyK ht) hP hmok.le hmok.idem hu g3 H4 (Mem.set_at _ _ _) hrl) fun r μ4 h4 hle4 hap4 hR => ?_
      obtain ⟨b, rfl, k1, k2⟩ := hR
      cases b with
      | true =>
       refine iIn (fun h => nomatch h) (fun _ => ?_)
       refine And.intro (And.intro ?_ (And.intro ?_ trivial)) (And.intro ?_ trivial)
       ·exact rPl ⟨false, c, rfl, hm2.1 k2, fun h => nomatch h⟩
       ·exact rPl ⟨false, c, rfl, hm2.1 k2, fun h => nomatch h⟩
       ·exact rPl ⟨false, c, rfl, hm2.1 k2, fun h => nomatch h⟩
      | false =>
       refine iIn (fun _ => ?_) (fun h => nomatch h)
       replace k1 : ClInv μ4 R ((c.merge y x).shape y t) K lk lz lf h4 := k1
       have hle4' : μ.Le μ4 := hle4
       have w_ := k1.ex
       obtain ⟨lu2, ls2, ld2, at2, up2, s2, d2, sh2⟩ := w_
       have hxs : ((c.merge y x).shape y t).rep y = y := by
        show (if c.rep y = x then y else c.rep y) = y
        rw [hy2, if_neg (by omega)]
       have w_ := sh2.some hxs (t := t) (by simp [Cl.shape])
       obtain ⟨f1, tv2, f2, f3⟩ := w_
       have w_ := Tm.invV f3
       obtain ⟨q2, rfl⟩ := w_
       refine And.intro ?_ (And.intro ?_ trivial)
       ·refine oIn [.map (some R.s)] rfl (fld_at at2.c rfl) ?_
        refine And.intro ?_ (And.intro ?_ trivial)
        ·refine look_intro ls2 (some _) at2.s (s2.weaken (by rintro _ ⟨n, rfl⟩; rfl)) rfl f2 ?_
         refine fun rm2 hrm2 ho2 => ?_
         replace ho2 : h4 rm2 = none := ho2
         have hrl2' : rm2 ∉ R.l := fun e => at2.dom rm2 e ho2
         have k1' := k1.off (L := [rm2]) (h' := h4.set rm2 (mapO [])) (Fr.set (by simp)) (by simpa using hrl2')
         refine cOw (search_spec (x := y) (Cl.shape_in hmin hyK ht) hP hmok.le hmok.idem ht f3 k1' (Mem.set_at _ _ _) hrl2') fun r μ5 h5 hle5 hap5 hR => ?_
         obtain ⟨b, rfl, j1, j2⟩ := hR
         cases b with
         | true =>
          refine iIn (fun h => nomatch h) (fun _ => ?_)
          exact rPl ⟨false, c, rfl, hm2.2.1 j2, fun h => nomatch h⟩
         | false =>
          refine iIn (fun _ => ?_) (fun h => nomatch h)
          replace j1 : ClInv μ5 R ((c.merge y x).shape y t) K lk lz lf h5 := j1
          have hle5' : μ4.Le μ5 := hle5
          have w_ := j1.ex
          obtain ⟨lu5, ls5, ld5, at5, up5, s5, d5, sh5⟩ := w_
          have w_ := sh5.some hxs (t := t) (by simp [Cl.shape])
          obtain ⟨f1', tv5, f2', f3'⟩ := w_
          have w_ := Tm.invV f3'
          obtain ⟨q5, rfl⟩ := w_
          have hm3 := hm2.2.2 j2
          refine oIn [.map (some R.s)] rfl (fld_at at5.c rfl) ?_
          refine look_intro ls5 (some _) at5.s (s5.weaken (by rintro _ ⟨n, rfl⟩; rfl)) rfl f2' ?_
          obtain ⟨rank2, hok2⟩ := hm3.1
          have w_ := hok2.has_val
          obtain ⟨val2, hval2⟩ := w_
          refine cOw (ihM _ (Nat.lt_of_lt_of_le hm3.2.2.1 hM) _ (Nat.le_refl _) hval2 (Nat.le_refl _) hm3.1 hm3.2.1 ht hu f3' (RepV.mono (hle4'.trans hle5') g3) j1) fun r μ6 h6 hle6 hap6 hR => ?_
          obtain ⟨o, c6, rfl, l1, l2⟩ := hR
          exact rPl ⟨o, c6, rfl, hm3.2.2.2 o c6 l1, l2⟩
        ·refine fun rm2 hrm2 ho2 => ?_
         replace ho2 : h4 rm2 = none := ho2
         have e2 := Fr.set (l := [rm2]) (h := h4) (r := rm2) (o := mapO []) (by simp)
         have hrl2 : rm2 ∉ R.l := fun e => at2.dom rm2 e ho2
         have at3 := at2.off e2 (by simpa using hrl2)
         refine look_intro ls2 (some _) at3.s (s2.weaken (by rintro _ ⟨n, rfl⟩; rfl)) rfl f2 ?_
         replace ho2 : h4 rm2 = none := ho2
         have hrl2' : rm2 ∉ R.l := fun e => at2.dom rm2 e ho2
         have k1' := k1.off (L := [rm2]) (h' := h4.set rm2 (mapO [])) (Fr.set (by simp)) (by simpa using hrl2')
         refine cOw (search_spec (x := y) (Cl.shape_in hmin hyK ht) hP hmok.le hmok.idem ht f3 k1' (Mem.set_at _ _ _) hrl2') fun r μ5 h5 hle5 hap5 hR => ?_
         obtain ⟨b, rfl, j1, j2⟩ := hR
         cases b with
         | true =>
          refine iIn (fun h => nomatch h) (fun _ => ?_)
          exact rPl ⟨false, c, rfl, hm2.2.1 j2, fun h => nomatch h⟩
         | false =>
          refine iIn (fun _ => ?_) (fun h => nomatch h)
          replace j1 : ClInv μ5 R ((c.merge y x).shape y t) K lk lz lf h5 := j1
          have hle5' : μ4.Le μ5 := hle5
          have w_ := j1.ex
          obtain ⟨lu5, ls5, ld5, at5, up5, s5, d5, sh5⟩ := w_
          have w_ := sh5.some hxs (t := t) (by simp [Cl.shape])
          obtain ⟨f1', tv5, f2', f3'⟩ := w_
          have w_ := Tm.invV f3'
          obtain ⟨q5, rfl⟩ := w_
          have hm3 := hm2.2.2 j2
          refine oIn [.map (some R.s)] rfl (fld_at at5.c rfl) ?_
          refine look_intro ls5 (some _) at5.s (s5.weaken (by rintro _ ⟨n, rfl⟩; rfl)) rfl f2' ?_
          obtain ⟨rank2, hok2⟩ := hm3.1
          have w_ := hok2.has_val
          obtain ⟨val2, hval2⟩ := w_
          refine cOw (ihM _ (Nat.lt_of_lt_of_le hm3.2.2.1 hM) _ (Nat.le_refl _) hval2 (Nat.le_refl _) hm3.1 hm3.2.1 ht hu f3' (RepV.mono (hle4'.trans hle5') g3) j1) fun r μ6 h6 hle6 hap6 hR => ?_
          obtain ⟨o, c6, rfl, l1, l2⟩ := hR
          exact rPl ⟨o, c6, rfl, hm3.2.2.2 o c6 l1, l2⟩
       ·refine fun rm2 hrm2 ho2 => ?_
        replace ho2 : h4 rm2 = none := ho2
        have e2 := Fr.set (l := [rm2]) (h := h4) (r := rm2) (o := mapO []) (by simp)
        have hrl2 : rm2 ∉ R.l := fun e => at2.dom rm2 e ho2
        have at3 := at2.off e2 (by simpa using hrl2)
        refine oIn [.map (some R.s)] rfl (fld_at at3.c rfl) ?_
        refine look_intro ls2 (some _) at3.s (s2.weaken (by rintro _ ⟨n, rfl⟩; rfl)) rfl f2 ?_
        replace ho2 : h4 rm2 = none := ho2
        have hrl2' : rm2 ∉ R.l := fun e => at2.dom rm2 e ho2
        have k1' := k1.off (L := [rm2]) (h' := h4.set rm2 (mapO [])) (Fr.set (by simp)) (by simpa using hrl2')
        refine cOw (search_spec (x := y) (Cl.shape_in hmin hyK ht) hP hmok.le hmok.idem ht f3 k1' (Mem.set_at _ _ _) hrl2') fun r μ5 h5 hle5 hap5 hR => ?_
        obtain ⟨b, rfl, j1, j2⟩ := hR
        cases b with
        | true =>
         refine iIn (fun h => nomatch h) (fun _ => ?_)
         exact rPl ⟨false, c, rfl, hm2.2.1 j2, fun h => nomatch h⟩
        | false =>
         refine iIn (fun _ => ?_) (fun h => nomatch h)
         replace j1 : ClInv μ5 R ((c.merge y x).shape y t) K lk lz lf h5 := j1
         have hle5' : μ4.Le μ5 := hle5
         have w_ := j1.ex
         obtain ⟨lu5, ls5, ld5, at5, up5, s5, d5, sh5⟩ := w_
         have w_ := sh5.some hxs (t := t) (by simp [Cl.shape])
         obtain ⟨f1', tv5, f2', f3'⟩ := w_
         have w_ := Tm.invV f3'
         obtain ⟨q5, rfl⟩ := w_
         have hm3 := hm2.2.2 j2
         refine oIn [.map (some R.s)] rfl (fld_at at5.c rfl) ?_
         refine look_intro ls5 (some _) at5.s (s5.weaken (by rintro _ ⟨n, rfl⟩; rfl)) rfl f2' ?_
         obtain ⟨rank2, hok2⟩ := hm3.1
         have w_ := hok2.has_val
         obtain ⟨val2, hval2⟩ := w_
         refine cOw (ihM _ (Nat.lt_of_lt_of_le hm3.2.2.1 hM) _ (Nat.le_refl _) hval2 (Nat.le_refl _) hm3.1 hm3.2.1 ht hu f3' (RepV.mono (hle4'.trans hle5') g3) j1) fun r μ6 h6 hle6 hap6 hR => ?_
         obtain ⟨o, c6, rfl, l1, l2⟩ := hR
         exact rPl ⟨o, c6, rfl, hm3.2.2.2 o c6 l1, l2⟩
   ·replace hlt : x < y := by omega
    replace H2 : ClInv μ R c K lk lz lf h2 := H2
    have w_ := H2.ex
    obtain ⟨lu, ls, ld, hat, hup, hs, hd, hsh⟩ := w_
    have hmok := Cl.merge_ok hok hx2 hy2 hlt
    have hmin := Cl.merge_in hi hxK hyK hy2
    refine oIn [.map (some R.u)] rfl (fld_at hat.c rfl) ?_
    refine upd_intro lu hat.u (hup.ok.weaken (by rintro _ ⟨n, rfl⟩; rfl)) rfl ?_
    have b1 := hat.setU (l := mset lu (.int .i64 y) (.int .i64 x))
    generalize Mem.set h2 R.u _ = h3 at *
    refine oIn [.map (some R.d)] rfl (fld_at b1.c rfl) ?_
    cases hsy : c.shp y with
    | none =>
     refine look_intro ld none b1.d (hd.weaken (by rintro _ ⟨n, rfl⟩; rfl)) rfl (hsh.none hy2 hsy) ?_
     refine iIn (fun _ => ?_) (fun h => nomatch h)
     refine oIn [.map (some R.d)] rfl (fld_at b1.c rfl) ?_
     cases hsx : c.shp x with
     | none =>
      refine look_intro ld none b1.d (hd.weaken (by rintro _ ⟨n, rfl⟩; rfl)) rfl (hsh.none hx2 hsx) ?_
      refine iIn (fun _ => ?_) (fun h => nomatch h)
      refine rPl ⟨true, c.merge x y, rfl, EqR.merge hg hi hn hm (.inl ⟨hxe, hye⟩) hlt hsx hsy, fun _ => ⟨_, ls, ld, b1, hup.merge hx2 hy2 hlt hxK hyK rfl, hs, hd, hsh.merge hy2 hlt rfl (fun z hz => ?_) hx2⟩⟩
      simp only [Cl.merge]
      by_cases k : z = x
      ·rw [if_pos (.inl k), k, hsx]
      ·rw [if_neg (fun e => e.elim k hz)]
     | some t =>
      have w_ := hsh.some hx2 hsx
      obtain ⟨g1, tv, g2, g3⟩ := w_
      have ht := (hi.shp _ _ hsx).2
      refine look_intro ld (some (.bool true)) b1.d (hd.weaken (by rintro _ ⟨n, rfl⟩; rfl)) rfl g1 ?_
      refine iIn (fun h => nomatch h) (fun _ => ?_)
      refine oIn [.map (some R.s)] rfl (fld_at b1.c rfl) ?_
      have w_ := Tm.invV g3
      obtain ⟨q, rfl⟩ := w_
      refine look_intro ls (some _) b1.s (hs.weaken (by rintro _ ⟨n, rfl⟩; rfl)) rfl g2 ?_
      intro rm hrm ho
      replace ho : h3 rm = none := ho
      have hrl : rm ∉ R.l := fun e => b1.dom rm e ho
      have H3 : ClInv μ R ((c.merge x y).shape x t) K lk lz lf (h3.set rm (mapO [])) := ⟨_, ls, ld, b1.off (L := [rm]) (Fr.set (by simp)) (by simpa using hrl), hup.merge hx2 hy2 hlt hxK hyK rfl, hs, hd, hsh.merge hy2 hlt rfl (fun z hz => by
       show (if z = x then some t else (c.merge x y).shp z) = c.shp z
       simp only [Cl.merge]
       by_cases k : z = x
       ·rw [if_pos k, k, hsx]
       ·rw [if_neg k, if_neg (fun e => e.elim k hz)]) hx2⟩
      refine cOw (search_spec (x := x) (Cl.shape_in hmin hxK ht) hP hmok.le hmok.idem ht g3 H3 (Mem.set_at _ _ _) hrl) fun r μ4 h4 hle4 hap4 hR => ?_
      obtain ⟨b, rfl, k1, k2⟩ := hR
      have hm1 := Cl.merge1 (c2 := c) hg hi hn hm (.inl ⟨hxe, hye⟩) hlt ⟨.inl ⟨hsx, hsy⟩⟩
      cases b with
      | true => exact rPl ⟨false, c, rfl, hm1.1 k2, fun h => nomatch h⟩
      | false => exact rPl ⟨true, _, rfl, hm1.2 k2, fun _ => k1⟩
    | some u =>
     have w_ := hsh.some hy2 hsy
     obtain ⟨g1, tv, g2, g3⟩ := w_
     have hu := (hi.shp _ _ hsy).2
     refine look_intro ld (some (.bool true)) b1.d (hd.weaken (by rintro _ ⟨n, rfl⟩; rfl)) rfl g1 ?_
     refine iIn (fun h => nomatch h) (fun _ => ?_)
     refine oIn [.map (some R.s)] rfl (fld_at b1.c rfl) ?_
     have w_ := Tm.invV g3
     obtain ⟨q, rfl⟩ := w_
     refine look_intro ls (some _) b1.s (hs.weaken (by rintro _ ⟨n, rfl⟩; rfl)) rfl g2 ?_
     intro r9
     refine oIn [.map (some R.d)] rfl (fld_at b1.c rfl) ?_
     cases hsx : c.shp x with
     | none =>
      refine look_intro ld none b1.d (hd.weaken (by rintro _ ⟨n, rfl⟩; rfl)) rfl (hsh.none hx2 hsx) ?_
      refine iIn (fun _ => ?_) (fun h => nomatch h)
      have H3 : ClInv μ R (c.merge x y) K lk lz lf h3 := ⟨_, ls, ld, b1, hup.merge hx2 hy2 hlt hxK hyK rfl, hs, hd, hsh.merge hy2 hlt rfl (fun z hz => by
       simp only [Cl.merge]
       by_cases k : z = x
       ·rw [if_pos (.inl k), k, hsx]
       ·rw [if_neg (fun e => e.elim k hz)]) hx2⟩
      refine cOw (know_spec (x := x) (t := u) (Cl.shape_in hmin hxK hu) hP hmok.le hmok.idem hu g3 H3) fun r μ4 h4 hle4 hap4 hR => ?_
      obtain ⟨b, rfl, k1, k2⟩ := hR
      have hm1 := Cl.merge1 (c2 := c) hg hi hn hm (.inl ⟨hxe, hye⟩) hlt ⟨.inr ⟨hsx, hsy⟩⟩
      cases b with
      | true => exact rPl ⟨false, c, rfl, hm1.1 k2, fun h => nomatch h⟩
      | false => exact rPl ⟨true, _, rfl, hm1.2 k2, fun _ => k1⟩
     | some t =>
      have w_ := hsh.some hx2 hsx
      obtain ⟨g1', tv', g2', g3'⟩ := w_
      have ht := (hi.shp _ _ hsx).2
      refine look_intro ld (some (.bool true)) b1.d (hd.weaken (by rintro _ ⟨n, rfl⟩; rfl)) rfl g1' ?_
      refine iIn (fun h => nomatch h) (fun _ => ?_)
      have H3 : ClInv μ R ((c.merge x y).shape x t) K lk lz lf h3 := ⟨_, ls, ld, b1, hup.merge hx2 hy2 hlt hxK hyK rfl, hs, hd, hsh.merge hy2 hlt rfl (fun z hz => by
       show (if z = x then some t else (c.merge x y).shp z) = c.shp z
       simp only [Cl.merge]
       by_cases k : z = x
       ·rw [if_pos k, k, hsx]
       ·rw [if_neg k, if_neg (fun e => e.elim k hz)]) hx2⟩
      have hm2 := Cl.merge2 (c2 := c) hg hi hn hm (.inl ⟨hxe, hye⟩) hlt hsx hsy
      refine fun rm hrm ho => ?_
      replace ho : h3 rm = none := ho
      have hrl : rm ∉ R.l := fun e => b1.dom rm e ho
      have H4 := H3.off (L := [rm]) (h' := h3.set rm (mapO [])) (Fr.set (by simp)) (by simpa using hrl)
      refine cOw (search_spec (x := x) (Cl.shape_in hmin hxK ht) hP hmok.le hmok.idem hu g3 H4 (Mem.set_at _ _ _) hrl) fun r μ4 h4 hle4 hap4 hR => ?_
      obtain ⟨b, rfl, k1, k2⟩ := hR
      cases b with
      | true =>
       refine iIn (fun h => nomatch h) (fun _ => ?_)
       refine And.intro (And.intro ?_ (And.intro ?_ trivial)) (And.intro ?_ trivial)
       ·exact rPl ⟨false, c, rfl, hm2.1 k2, fun h => nomatch h⟩
       ·exact rPl ⟨false, c, rfl, hm2.1 k2, fun h => nomatch h⟩
       ·exact rPl ⟨false, c, rfl, hm2.1 k2, fun h => nomatch h⟩
      | false =>
       refine iIn (fun _ => ?_) (fun h => nomatch h)
       replace k1 : ClInv μ4 R ((c.merge x y).shape x t) K lk lz lf h4 := k1
       have hle4' : μ.Le μ4 := hle4
       have w_ := k1.ex
       obtain ⟨lu2, ls2, ld2, at2, up2, s2, d2, sh2⟩ := w_
       have hxs : ((c.merge x y).shape x t).rep x = x := by
        show (if c.rep x = y then x else c.rep x) = x
        rw [hx2, if_neg (by omega)]
       have w_ := sh2.some hxs (t := t) (by simp [Cl.shape])
       obtain ⟨f1, tv2, f2, f3⟩ := w_
       have w_ := Tm.invV f3
       obtain ⟨q2, rfl⟩ := w_
       refine And.intro ?_ (And.intro ?_ trivial)
       ·refine oIn [.map (some R.s)] rfl (fld_at at2.c rfl) ?_
        refine And.intro ?_ (And.intro ?_ trivial)
        ·refine look_intro ls2 (some _) at2.s (s2.weaken (by rintro _ ⟨n, rfl⟩; rfl)) rfl f2 ?_
         refine fun rm2 hrm2 ho2 => ?_
         replace ho2 : h4 rm2 = none := ho2
         have hrl2' : rm2 ∉ R.l := fun e => at2.dom rm2 e ho2
         have k1' := k1.off (L := [rm2]) (h' := h4.set rm2 (mapO [])) (Fr.set (by simp)) (by simpa using hrl2')
         refine cOw (search_spec (x := x) (Cl.shape_in hmin hxK ht) hP hmok.le hmok.idem ht f3 k1' (Mem.set_at _ _ _) hrl2') fun r μ5 h5 hle5 hap5 hR => ?_
         obtain ⟨b, rfl, j1, j2⟩ := hR
         cases b with
         | true =>
          refine iIn (fun h => nomatch h) (fun _ => ?_)
          exact rPl ⟨false, c, rfl, hm2.2.1 j2, fun h => nomatch h⟩
         | false =>
          refine iIn (fun _ => ?_) (fun h => nomatch h)
          replace j1 : ClInv μ5 R ((c.merge x y).shape x t) K lk lz lf h5 := j1
          have hle5' : μ4.Le μ5 := hle5
          have w_ := j1.ex
          obtain ⟨lu5, ls5, ld5, at5, up5, s5, d5, sh5⟩ := w_
          have w_ := sh5.some hxs (t := t) (by simp [Cl.shape])
          obtain ⟨f1', tv5, f2', f3'⟩ := w_
          have w_ := Tm.invV f3'
          obtain ⟨q5, rfl⟩ := w_
          have hm3 := hm2.2.2 j2
          refine oIn [.map (some R.s)] rfl (fld_at at5.c rfl) ?_
          refine look_intro ls5 (some _) at5.s (s5.weaken (by rintro _ ⟨n, rfl⟩; rfl)) rfl f2' ?_
          obtain ⟨rank2, hok2⟩ := hm3.1
          have w_ := hok2.has_val
          obtain ⟨val2, hval2⟩ := w_
          refine cOw (ihM _ (Nat.lt_of_lt_of_le hm3.2.2.1 hM) _ (Nat.le_refl _) hval2 (Nat.le_refl _) hm3.1 hm3.2.1 ht hu f3' (RepV.mono (hle4'.trans hle5') g3) j1) fun r μ6 h6 hle6 hap6 hR => ?_
          obtain ⟨o, c6, rfl, l1, l2⟩ := hR
          exact rPl ⟨o, c6, rfl, hm3.2.2.2 o c6 l1, l2⟩
        ·refine fun rm2 hrm2 ho2 => ?_
         replace ho2 : h4 rm2 = none := ho2
         have e2 := Fr.set (l := [rm2]) (h := h4) (r := rm2) (o := mapO []) (by simp)
         have hrl2 : rm2 ∉ R.l := fun e => at2.dom rm2 e ho2
         have at3 := at2.off e2 (by simpa using hrl2)
         refine look_intro ls2 (some _) at3.s (s2.weaken (by rintro _ ⟨n, rfl⟩; rfl)) rfl f2 ?_
         replace ho2 : h4 rm2 = none := ho2
         have hrl2' : rm2 ∉ R.l := fun e => at2.dom rm2 e ho2
         have k1' := k1.off (L := [rm2]) (h' := h4.set rm2 (mapO [])) (Fr.set (by simp)) (by simpa using hrl2')
         refine cOw (search_spec (x := x) (Cl.shape_in hmin hxK ht) hP hmok.le hmok.idem ht f3 k1' (Mem.set_at _ _ _) hrl2') fun r μ5 h5 hle5 hap5 hR => ?_
         obtain ⟨b, rfl, j1, j2⟩ := hR
         cases b with
         | true =>
          refine iIn (fun h => nomatch h) (fun _ => ?_)
          exact rPl ⟨false, c, rfl, hm2.2.1 j2, fun h => nomatch h⟩
         | false =>
          refine iIn (fun _ => ?_) (fun h => nomatch h)
          replace j1 : ClInv μ5 R ((c.merge x y).shape x t) K lk lz lf h5 := j1
          have hle5' : μ4.Le μ5 := hle5
          have w_ := j1.ex
          obtain ⟨lu5, ls5, ld5, at5, up5, s5, d5, sh5⟩ := w_
          have w_ := sh5.some hxs (t := t) (by simp [Cl.shape])
          obtain ⟨f1', tv5, f2', f3'⟩ := w_
          have w_ := Tm.invV f3'
          obtain ⟨q5, rfl⟩ := w_
          have hm3 := hm2.2.2 j2
          refine oIn [.map (some R.s)] rfl (fld_at at5.c rfl) ?_
          refine look_intro ls5 (some _) at5.s (s5.weaken (by rintro _ ⟨n, rfl⟩; rfl)) rfl f2' ?_
          obtain ⟨rank2, hok2⟩ := hm3.1
          have w_ := hok2.has_val
          obtain ⟨val2, hval2⟩ := w_
          refine cOw (ihM _ (Nat.lt_of_lt_of_le hm3.2.2.1 hM) _ (Nat.le_refl _) hval2 (Nat.le_refl _) hm3.1 hm3.2.1 ht hu f3' (RepV.mono (hle4'.trans hle5') g3) j1) fun r μ6 h6 hle6 hap6 hR => ?_
          obtain ⟨o, c6, rfl, l1, l2⟩ := hR
          exact rPl ⟨o, c6, rfl, hm3.2.2.2 o c6 l1, l2⟩
       ·refine fun rm2 hrm2 ho2 => ?_
        replace ho2 : h4 rm2 = none := ho2
        have e2 := Fr.set (l := [rm2]) (h := h4) (r := rm2) (o := mapO []) (by simp)
        have hrl2 : rm2 ∉ R.l := fun e => at2.dom rm2 e ho2
        have at3 := at2.off e2 (by simpa using hrl2)
        refine oIn [.map (some R.s)] rfl (fld_at at3.c rfl) ?_
        refine look_intro ls2 (some _) at3.s (s2.weaken (by rintro _ ⟨n, rfl⟩; rfl)) rfl f2 ?_
        replace ho2 : h4 rm2 = none := ho2
        have hrl2' : rm2 ∉ R.l := fun e => at2.dom rm2 e ho2
        have k1' := k1.off (L := [rm2]) (h' := h4.set rm2 (mapO [])) (Fr.set (by simp)) (by simpa using hrl2')
        refine cOw (search_spec (x := x) (Cl.shape_in hmin hxK ht) hP hmok.le hmok.idem ht f3 k1' (Mem.set_at _ _ _) hrl2') fun r μ5 h5 hle5 hap5 hR => ?_
        obtain ⟨b, rfl, j1, j2⟩ := hR
        cases b with
        | true =>
         refine iIn (fun h => nomatch h) (fun _ => ?_)
         exact rPl ⟨false, c, rfl, hm2.2.1 j2, fun h => nomatch h⟩
        | false =>
         refine iIn (fun _ => ?_) (fun h => nomatch h)
         replace j1 : ClInv μ5 R ((c.merge x y).shape x t) K lk lz lf h5 := j1
         have hle5' : μ4.Le μ5 := hle5
         have w_ := j1.ex
         obtain ⟨lu5, ls5, ld5, at5, up5, s5, d5, sh5⟩ := w_
         have w_ := sh5.some hxs (t := t) (by simp [Cl.shape])
         obtain ⟨f1', tv5, f2', f3'⟩ := w_
         have w_ := Tm.invV f3'
         obtain ⟨q5, rfl⟩ := w_
         have hm3 := hm2.2.2 j2
         refine oIn [.map (some R.s)] rfl (fld_at at5.c rfl) ?_
         refine look_intro ls5 (some _) at5.s (s5.weaken (by rintro _ ⟨n, rfl⟩; rfl)) rfl f2' ?_
         obtain ⟨rank2, hok2⟩ := hm3.1
         have w_ := hok2.has_val
         obtain ⟨val2, hval2⟩ := w_
         refine cOw (ihM _ (Nat.lt_of_lt_of_le hm3.2.2.1 hM) _ (Nat.le_refl _) hval2 (Nat.le_refl _) hm3.1 hm3.2.1 ht hu f3' (RepV.mono (hle4'.trans hle5') g3) j1) fun r μ6 h6 hle6 hap6 hR => ?_
         obtain ⟨o, c6, rfl, l1, l2⟩ := hR
         exact rPl ⟨o, c6, rfl, hm3.2.2.2 o c6 l1, l2⟩
  ·have hbk := T.kind_nv hbn
   refine SpecH.mk [65, 89, 101] Tryz.func171 (by kernel_rfl) ?_
   intro r4 r5
   refine ifd (fun _ => ?_) (fun h => absurd rfl h)
   refine ifd (fun h => absurd h hbk) (fun _ => ?_)
   refine ifd (fun _ => ?_) (fun h => absurd rfl h)
   refine cOw (root_spec n hle H) fun r μ1 h1 hle1 hap1 hR => ?_
   obtain ⟨rfl, e, H1, hfr1⟩ := hR
   obtain rfl := e.symm
   rw [ord_of_mem hn] at H1
   replace H1 : ClInv μ R c K lk lz lf h1 := H1
   have hx2 := hid n
   have hxK := hi.rep n hn
   generalize hxe : c.rep n = x at hx2 hxK ⊢
   have w_ := H1.ex
   obtain ⟨lu, ls, ld, hat, hup, hs', hd, hsh⟩ := w_
   refine oIn [.map (some R.d)] rfl (fld_at hat.c rfl) ?_
   cases hsx : c.shp x with
   | none =>
    refine look_intro ld none hat.d (hd.weaken (by rintro _ ⟨n, rfl⟩; rfl)) rfl (hsh.none hx2 hsx) ?_
    refine iIn (fun _ => ?_) (fun h => nomatch h)
    refine cOw (know_spec (x := x) (t := b) (Cl.shape_in hi hxK hb) hP hle hid hb hvb H1) fun r μ4 h4 hle4 hap4 hR => ?_
    obtain ⟨b', rfl, k1, k2⟩ := hR
    have hm1 := Cl.shape1 (c2 := c) hg hi hn hxe hsx hbn hb
    cases b' with
    | true => exact rPl ⟨false, c, rfl, hm1.1 k2, fun h => nomatch h⟩
    | false => exact rPl ⟨true, _, rfl, hm1.2 k2, fun _ => k1⟩
   | some t =>
    have w_ := hsh.some hx2 hsx
    obtain ⟨g1, tv, g2, g3⟩ := w_
    have w_ := Tm.invV g3
    obtain ⟨q, rfl⟩ := w_
    have ht := (hi.shp _ _ hsx).2
    refine look_intro ld (some (.bool true)) hat.d (hd.weaken (by rintro _ ⟨n, rfl⟩; rfl)) rfl g1 ?_
    refine iIn (fun h => nomatch h) (fun _ => ?_)
    refine oIn [.map (some R.s)] rfl (fld_at hat.c rfl) ?_
    refine look_intro ls (some _) hat.s (hs'.weaken (by rintro _ ⟨n, rfl⟩; rfl)) rfl g2 ?_
    have hsx' : c.shp (c.rep n) = some t := by rw [hxe]; exact hsx
    have hms : eqMeas val t b < s := by
     have e1 : (T.var n).ap val = t.ap val := hval.shaped hsx'
     have e2 := vk_nn (hok.nv _ _ hsx) hbn
     have e3 := vk_vn (n := n) hbn
     unfold eqMeas at hs ⊢
     rw [e1] at hs
     omega
    refine cOw (ihs _ hms hM hval (Nat.le_refl _) hg hi ht hb g3 hvb H1) fun r μ6 h6 hle6 hap6 hR => ?_
    obtain ⟨o, c6, rfl, l1, l2⟩ := hR
    exact rPl ⟨o, c6, rfl, l1.walk hsx', l2⟩
 ·have hak := T.kind_nv han
  rcases T.var_or b with ⟨m, rfl⟩ | hbn
  ·have w_ := Tm.invV hva
   obtain ⟨qa, rfl⟩ := w_
   have w_ := Tm.invV hvb
   obtain ⟨qb, rfl⟩ := w_
   refine SpecH.mk [65, 89, 101] Tryz.func171 (by kernel_rfl) ?_
   intro r4 r5
   refine ifd (fun h => absurd h hak) (fun _ => ?_)
   refine ifd (fun h => absurd h hak) (fun _ => ?_)
   refine ifd (fun _ => ?_) (fun h => absurd rfl h)
   have hms : eqMeas val (.var m) a < s := by
    have e2 := vk_vn (n := m) han
    have e3 := vk_nv (n := m) han
    unfold eqMeas at hs ⊢
    omega
   refine cOw (ihs _ hms hM hval (Nat.le_refl _) hg hi hb ha hvb hva H) fun r μ6 h6 hle6 hap6 hR => ?_
   obtain ⟨o, c6, rfl, l1, l2⟩ := hR
   exact rPl ⟨o, c6, rfl, l1.swap, l2⟩
  ·have hbk := T.kind_nv hbn
   rcases T.pair_or a with ⟨a1, a2, rfl⟩ | hap
   ·rcases T.pair_or b with ⟨b1, b2, rfl⟩ | hbp
    ·have w_ := Tm.inv hva
     obtain ⟨ba, ca, rfl, hsa⟩ := w_
     have w_ := Tm.inv hvb
     obtain ⟨bb, cb, rfl, hsb⟩ := w_
     have w_ := T.parts hsa
     obtain ⟨ad1, ad2, pa1, pa2, ea1, ea2, ra1, ra2⟩ := w_
     have w_ := T.parts hsb
     obtain ⟨bd1, bd2, pb1, pb2, eb1, eb2, rb1, rb2⟩ := w_
     have hPa := hPp _ _ ha
     have hPb := hPp _ _ hb
     refine SpecH.mk [65, 89, 101] Tryz.func171 (by kernel_rfl) ?_
     intro r4 r5
     refine ifd (fun h => absurd h hak) (fun _ => ?_)
     refine ifd (fun h => absurd h hak) (fun _ => ?_)
     refine ifd (fun h => absurd h hbk) (fun _ => ?_)
     refine ifnd (fun h => absurd rfl h) (fun _ => ?_)
     refine ifnd (fun h => absurd rfl h) (fun _ => ?_)
     refine ifnd (fun h => absurd rfl h) (fun _ => ?_)
     refine ifd (fun _ => ?_) (fun h => absurd rfl h)
     refine eIn ea1 ?_
     refine eIn eb1 ?_
     have hms : eqMeas val a1 b1 < s := by
      have e1 := vk_le a1 b1
      have e2 := T.size_pos1 (a2.ap val)
      unfold eqMeas at hs ⊢
      simp only [T.ap, T.size] at hs
      omega
     refine cOw (ihs _ hms hM hval (Nat.le_refl _) hg hi hPa.1 hPb.1 ra1 rb1 H) fun r μ6 h6 hle6 hap6 hR => ?_
     obtain ⟨o, c6, rfl, l1, l2⟩ := hR
     cases o with
     | false =>
      refine iIn (fun h => nomatch h) (fun _ => ?_)
      exact rPl ⟨false, c, rfl, l1.pair_false, fun h => nomatch h⟩
     | true =>
      refine iIn (fun _ => ?_) (fun h => nomatch h)
      replace hle6 : μ.Le μ6 := hle6
      refine eIn ea2 ?_
      refine eIn eb2 ?_
      have hrec : ∃ val6, (c6.M K ≤ M ∧ c6.IsVal val6 ∧ EqSpec R K lk lz lf P M (eqMeas val6 a2 b2)) ∨ (c6.IsVal val6 ∧ c6.M K < M) := by
       rcases l1.2.2.2 with e | e
       ·subst e
        refine ⟨val, .inl ⟨hM, hval, ihs _ ?_⟩⟩
        have e1 := vk_le a2 b2
        have e2 := T.size_pos1 (a1.ap val)
        unfold eqMeas at hs ⊢
        simp only [T.ap, T.size] at hs
        omega
       ·have hok6 := l1.1
        obtain ⟨rank6, hok6⟩ := hok6
        have w_ := hok6.has_val
        obtain ⟨val6, hval6⟩ := w_
        exact ⟨val6, .inr ⟨hval6, Nat.lt_of_lt_of_le e hM⟩⟩
      have key : SpecH Tryz.prog 171 [.pointer (some ⟨R.c, 0, none⟩), .agg (a2.tm.cs pa2).toArray, .agg (b2.tm.cs pb2).toArray] μ6 h6 fun r μ' h' => ∃ o c', r = .bool o ∧ EqR K P c6 a2 b2 o c' ∧ (o = true → ClInv μ' R c' K lk lz lf h') := by
       obtain ⟨val6, hr⟩ := hrec
       rcases hr with ⟨m1, m2, m3⟩ | ⟨m2, m1⟩
       ·exact m3 m1 m2 (Nat.le_refl _) l1.1 l1.2.1 hPa.2 hPb.2 (ra2.mono hle6) (rb2.mono hle6) (l2 rfl)
       ·exact ihM _ m1 _ (Nat.le_refl _) m2 (Nat.le_refl _) l1.1 l1.2.1 hPa.2 hPb.2 (ra2.mono hle6) (rb2.mono hle6) (l2 rfl)
      refine cOw key fun r μ7 h7 hle7 hap7 hR => ?_
      obtain ⟨o, c7, rfl, j1, j2⟩ := hR
      exact rPl ⟨o, c7, rfl, l1.pair j1, j2⟩
    ·have w_ := Tm.invV hva
     obtain ⟨qa, rfl⟩ := w_
     have w_ := Tm.invV hvb
     obtain ⟨qb, rfl⟩ := w_
     refine SpecH.mk [65, 89, 101] Tryz.func171 (by kernel_rfl) ?_
     intro r4 r5
     refine ifd (fun h => absurd h hak) (fun _ => ?_)
     refine ifd (fun h => absurd h hak) (fun _ => ?_)
     refine ifd (fun h => absurd h hbk) (fun _ => ?_)
     refine ifnd (fun h => ?_) (fun h1 => absurd h1.symm hbp)
     exact rPl ⟨false, c, rfl, EqR.clash (.inl h) hak hbk, fun h => nomatch h⟩
   ·have w_ := Tm.invV hva
    obtain ⟨qa, rfl⟩ := w_
    have w_ := Tm.invV hvb
    obtain ⟨qb, rfl⟩ := w_
    refine SpecH.mk [65, 89, 101] Tryz.func171 (by kernel_rfl) ?_
    intro r4 r5
    refine ifd (fun h => absurd h hak) (fun _ => ?_)
    refine ifd (fun h => absurd h hak) (fun _ => ?_)
    refine ifd (fun h => absurd h hbk) (fun _ => ?_)
    refine ifnd (fun h => ?_) (fun h1 => ?_)
    ·exact rPl ⟨false, c, rfl, EqR.clash (.inl h) hak hbk, fun h => nomatch h⟩
    refine ifnd (fun h => ?_) (fun h2 => ?_)
    ·exact rPl ⟨false, c, rfl, EqR.clash (.inr (.inl h)) hak hbk, fun h => nomatch h⟩
    refine ifnd (fun h => ?_) (fun h3 => ?_)
    ·exact rPl ⟨false, c, rfl, EqR.clash (.inr (.inr h)) hak hbk, fun h => nomatch h⟩
    refine ifd (fun h => absurd h hap) (fun _ => ?_)
    refine rPl ⟨true, c, rfl, hg.same hi fun θ k => ?_, fun _ => H⟩
    rw [T.atom_eq hap h1 h2 h3]
end
end Go.Vx
namespace Go.Vx
open Go.Proofs Classical
def PK (Q : T → Prop) (K : List Int) (t : T) : Prop := t.inN K ∧ Q t
theorem PK.pair {Q : T → Prop} (hQ : ∀ a b, Q (.pair a b) → Q a ∧ Q b) {K : List Int} (a b : T) (h : PK Q K (.pair a b)) : PK Q K a ∧ PK Q K b :=
 ⟨⟨(T.inN_pair.1 h.1).1, (hQ a b h.2).1⟩, (T.inN_pair.1 h.1).2, (hQ a b h.2).2⟩
theorem T.inN_mono {N N' : List Int} {x : T} (h : x.inN N) (k : ∀ n ∈ N, n ∈ N') : x.inN N' := fun n hn => k n (h n hn)
theorem Cl.In.mono {c : Cl} {Q : T → Prop} {K K' : List Int} (h : c.In K (PK Q K)) (k : ∀ n ∈ K, n ∈ K') : c.In K' (PK Q K') where
 rep v hv := by
  by_cases e : v ∈ K
  ·exact k _ (h.rep v e)
  ·rw [h.out v e]; exact hv
 out v hv := h.out v fun e => hv (k v e)
 shp x t e := ⟨k x (h.shp x t e).1, T.inN_mono (h.shp x t e).2.1 k, (h.shp x t e).2.2⟩
theorem Cl.start_in (Q : T → Prop) : Cl.start.In [] (PK Q []) := ⟨fun _ h => by simp at h, fun _ _ => rfl, fun _ _ h => nomatch h⟩
section
variable {μ : Mem} {R : ClRefs} {c : Cl} {K : List Int} {lk lz lf : List (Value × Value)}
theorem newClasses_spec {h : Mem} : SpecH Tryz.prog 168 [] μ h fun r μ' h' => ∃ R : ClRefs, r = .pointer (some ⟨R.c, 0, none⟩) ∧ μ' = μ ∧ ClInv μ R Cl.start [] [] [] [] h' := by
 refine SpecH.mk [1, 2, 3, 4, 5, 6, 8] Tryz.func168 (by kernel_rfl) ?_
 intro ru hm1 ho1 rs hm2 ho2 rd hm3 ho3 rk hm4 ho4 rz hm5 ho5 rf hm6 ho6 rc hm7 ho7
 have w_ : ∃ x, x = h.set ru (mapO []) := ⟨_, rfl⟩
 obtain ⟨h1, e1⟩ := w_
 have w_ : ∃ x, x = h1.set rs (mapO []) := ⟨_, rfl⟩
 obtain ⟨h2, e2⟩ := w_
 have w_ : ∃ x, x = h2.set rd (mapO []) := ⟨_, rfl⟩
 obtain ⟨h3, e3⟩ := w_
 have w_ : ∃ x, x = h3.set rk (mapO []) := ⟨_, rfl⟩
 obtain ⟨h4, e4⟩ := w_
 have w_ : ∃ x, x = h4.set rz (mapO []) := ⟨_, rfl⟩
 obtain ⟨h5, e5⟩ := w_
 have w_ : ∃ x, x = h5.set rf (mapO []) := ⟨_, rfl⟩
 obtain ⟨h6, e6⟩ := w_
 replace ho2 : h1 rs = none := by rw [e1]; exact ho2
 replace ho3 : h2 rd = none := by rw [e2, e1]; exact ho3
 replace ho4 : h3 rk = none := by rw [e3, e2, e1]; exact ho4
 replace ho5 : h4 rz = none := by rw [e4, e3, e2, e1]; exact ho5
 replace ho6 : h5 rf = none := by rw [e5, e4, e3, e2, e1]; exact ho6
 replace ho7 : h6 rc = none := by rw [e6, e5, e4, e3, e2, e1]; exact ho7
 have w_ : ∃ x, x = h6.set rc (.cells #[.map (some ru), .map (some rs), .map (some rd), .map (some rk), .map (some rz), .map (some rf)] 215 (0, 0)) := ⟨_, rfl⟩
 obtain ⟨h7, e7⟩ := w_
 have step : ∀ {h h' : Mem} {r b : Nat} {o x : Obj}, h' = h.set r o → h b = some x → h r = none → h' b = some x ∧ b ≠ r := fun {h h' r b o x} e hb hr => by
  have hne : b ≠ r := ne_of_none hb hr
  exact ⟨by rw [e, Mem.set_ne hne]; exact hb, hne⟩
 have u1 : h1 ru = some (mapO []) := by rw [e1, Mem.set_at]
 have s2 : h2 rs = some (mapO []) := by rw [e2, Mem.set_at]
 have d3 : h3 rd = some (mapO []) := by rw [e3, Mem.set_at]
 have k4 : h4 rk = some (mapO []) := by rw [e4, Mem.set_at]
 have z5 : h5 rz = some (mapO []) := by rw [e5, Mem.set_at]
 have f6 : h6 rf = some (mapO []) := by rw [e6, Mem.set_at]
 have c7 : h7 rc = some (.cells #[.map (some ru), .map (some rs), .map (some rd), .map (some rk), .map (some rz), .map (some rf)] 215 (0, 0)) := by rw [e7, Mem.set_at]
 have u2 := step e2 u1 ho2
 have u3 := step e3 u2.1 ho3
 have s3 := step e3 s2 ho3
 have u4 := step e4 u3.1 ho4
 have s4 := step e4 s3.1 ho4
 have d4 := step e4 d3 ho4
 have u5 := step e5 u4.1 ho5
 have s5 := step e5 s4.1 ho5
 have d5 := step e5 d4.1 ho5
 have k5 := step e5 k4 ho5
 have u6 := step e6 u5.1 ho6
 have s6 := step e6 s5.1 ho6
 have d6 := step e6 d5.1 ho6
 have k6 := step e6 k5.1 ho6
 have z6 := step e6 z5 ho6
 have u7 := step e7 u6.1 ho7
 have s7 := step e7 s6.1 ho7
 have d7 := step e7 d6.1 ho7
 have k7 := step e7 k6.1 ho7
 have z7 := step e7 z6.1 ho7
 have f7 := step e7 f6 ho7
 have hnd : (ClRefs.mk rc ru rs rd rk rz rf).l.Nodup := by
  simp only [ClRefs.l, List.nodup_cons, List.mem_cons, List.not_mem_nil, or_false, not_or, List.nodup_nil, not_false_eq_true, and_true]
  exact ⟨⟨u7.2.symm, s7.2.symm, d7.2.symm, k7.2.symm, z7.2.symm, f7.2.symm⟩, ⟨u2.2, u3.2, u4.2, u5.2, u6.2⟩, ⟨s3.2, s4.2, s5.2, s6.2⟩, ⟨d4.2, d5.2, d6.2⟩, ⟨k5.2, k6.2⟩, z6.2⟩
 have C : ClInv μ ⟨rc, ru, rs, rd, rk, rz, rf⟩ Cl.start [] [] [] [] h7 := by
  refine ⟨[], [], [], ⟨hnd, c7, u7.1, s7.1, d7.1, k7.1, z7.1, f7.1⟩, ⟨MapOk.nil, id, ⟨fun v => Int.le_refl _, fun v => rfl, fun v _ => rfl⟩, fun n => rfl, fun n _ => rfl, fun n hn => by simp at hn⟩, MapOk.nil, MapOk.nil, fun x _ => rfl⟩
 refine rPl ⟨⟨rc, ru, rs, rd, rk, rz, rf⟩, rfl, rfl, ?_⟩
 rw [e7, e6, e5, e4, e3, e2, e1] at C
 exact C
theorem meet1_spec {h : Mem} {bc : Nat} (n : Int) (hle : ∀ v, c.rep v ≤ v) (hbc : μ bc = some (.cells #[.pointer (some ⟨R.c, 0, none⟩)] 181 (0, 0))) (H : ClInv μ R c K lk lz lf h) :
  SpecH Tryz.prog 214 [.int .i64 n, .pointer (some ⟨bc, 0, none⟩)] μ h fun r μ' h' => r = .tuple #[] ∧ ClInv μ' R c (ord K n) lk lz lf h' := by
 refine SpecH.mk [] Tryz.func214 (by kernel_rfl) ?_
 refine ext_intro [.pointer (some ⟨R.c, 0, none⟩)] rfl (box_at hbc) ?_
 refine cOw (root_spec n hle H) fun r μ1 h1 hle1 hap1 hR => ?_
 obtain ⟨rfl, e, H1, hfr1⟩ := hR
 obtain rfl := e.symm
 exact rPl ⟨rfl, H1⟩
theorem meet_spec {h : Mem} {t : T} {v : Value} (hle : ∀ v, c.rep v ≤ v) (hv : RepV μ t.tm.d v) (H : ClInv μ R c K lk lz lf h) :
  SpecH Tryz.prog 170 [.pointer (some ⟨R.c, 0, none⟩), v] μ h fun r μ' h' => r = .tuple #[] ∧ ClInv μ' R c (ordAll K t.vars) lk lz lf h' := by
 have w_ := Tm.invV hv
 obtain ⟨q, rfl⟩ := w_
 refine SpecH.mk [] Tryz.func170 (by kernel_rfl) ?_
 intro r2 r3
 refine call_gen [0] [] (fun _ => rfl) ?_
 intro μ1 hle1 _ hat
 replace hle1 : μ.Le μ1 := hle1
 refine own_go (eachVar_relM (μ := μ1) (fun K' μ' h' => ClInv μ' R c K' lk lz lf h') ord (fun _ _ => True) (fun K' μ' h' n hm _ hj => meet1_spec n hle (hm _ _ hat) hj) t K μ1 h (Mem.Le.refl _) (hv.mono hle1) (fun _ _ _ _ => trivial) (H.mono hle1)) fun v4 μ4 h4 hle4 hap4 hR => ?_
 obtain ⟨rfl, hj⟩ := hR
 exact rPl ⟨rfl, hj⟩
end
end Go.Vx
namespace Go.Vx
open Go.Proofs Classical
def szc (t : T) : Int := ((min t.size 5001 : Nat) : Int)
theorem szc_le (t : T) : szc t ≤ 5001 := by unfold szc; omega
theorem szc_nn (t : T) : 0 ≤ szc t := by unfold szc; omega
section
theorem sizeWith_rel {k : FuncId} {caps : List Value} {f : Int → T} (J : Mem → Mem → Prop) : ∀ (x : T) {μ h : Mem} {v : Value},
  (∀ μ' h', μ.Le μ' → J μ' h' → ∀ n ∈ x.vars, SpecH Tryz.prog k (.int .i64 n :: caps) μ' h' fun v μ'' h'' => v = .int .i64 (szc (f n)) ∧ J μ'' h'') → J μ h → RepV μ x.tm.d v →
  SpecH Tryz.prog 132 [v, .func (.func k) #[] caps.toArray] μ h fun v μ' h' => v = .int .i64 (szc (x.ap f)) ∧ J μ' h' := by
 intro x
 induction x with
 | var n =>
  intro μ h v hk hj hv
  have w_ := Tm.invV hv
  obtain ⟨p, rfl⟩ := w_
  refine SpecH.mk [] Tryz.func132 (by kernel_rfl) ?_
  intro r1
  refine ifd (fun _ => ?_) (fun h => absurd rfl h)
  refine cOw (hk μ h (Mem.Le.refl μ) hj n (by simp [T.vars])) fun v' μ' h' hle hap hR => ?_
  obtain ⟨rfl, hj'⟩ := hR
  refine rPl ⟨?_, hj'⟩
  rw [if_neg (by have := szc_le (f n); omega)]; rfl
 | pair a b iha ihb =>
  intro μ h v hk hj hv
  have w_ := Tm.inv hv
  obtain ⟨base', cap', rfl, hsa⟩ := w_
  have w_ := T.parts hsa
  obtain ⟨ad, ad', p, p', h1, h2, hra, hrb⟩ := w_
  refine SpecH.mk [] Tryz.func132 (by kernel_rfl) ?_
  intro r1
  refine ifd (fun h => absurd h (by simp)) (fun _ => ?_)
  refine ifd (fun _ => ?_) (fun h => absurd rfl h)
  refine eIn h1 ?_
  refine cOw (iha (fun μ' h' g1 g2 n hn => hk μ' h' g1 g2 n (by simp [T.vars, hn])) hj hra) fun v1 μ1 h1' hle1 hap1 hR1 => ?_
  obtain ⟨rfl, hj1⟩ := hR1
  have l1 := szc_le (a.ap f)
  have l2 := szc_nn (a.ap f)
  refine ifd (fun hgt => ?_) (fun hgt => ?_)
  ·refine rPl ⟨?_, hj1⟩
   unfold szc at hgt ⊢
   rw [T.ap]
   simp only [T.size]
   congr 2
   omega
  ·refine num64 (by omega) (by omega) ?_
   refine eIn (h2.mono hle1) ?_
   refine cOw (ihb (fun μ' h' g1 g2 n hn => hk μ' h' (hle1.trans g1) g2 n (by simp [T.vars, hn])) hj1 (hrb.mono hle1)) fun v2 μ2 h2' hle2 hap2 hR2 => ?_
   obtain ⟨rfl, hj2⟩ := hR2
   have l3 := szc_le (b.ap f)
   have l4 := szc_nn (b.ap f)
   refine num64 (by omega) (by omega) ?_
   refine rPl ⟨?_, hj2⟩
   unfold szc at hgt ⊢
   rw [T.ap]
   simp only [T.size]
   congr 1
   omega
 | _ =>
  intro μ h v hk hj hv
  have w_ := Tm.invV hv
  obtain ⟨p, rfl⟩ := w_
  refine SpecH.mk [] Tryz.func132 (by kernel_rfl) ?_
  intro r1
  refine ifd (fun h => absurd h (by simp [T.tm, Tm.kind])) (fun _ => ?_)
  refine ifd (fun h => absurd h (by simp [T.tm, Tm.kind])) (fun _ => ?_)
  exact rPl ⟨rfl, hj⟩
end
structure Wt (val : Int → T) (col : Int → Nat) (lk lz : List (Value × Value)) : Prop where
 okk : MapOk IntKey lk
 okz : MapOk IntKey lz
 le : ∀ n, col n ≤ 2
 get : ∀ n, mget lk (.int .i64 n) = if col n = 0 then none else some (.int .i64 (col n))
 siz : ∀ n, col n = 2 → mget lz (.int .i64 n) = some (.int .i64 (szc (val n)))
theorem Wt.nil (val : Int → T) : Wt val (fun _ => 0) [] [] := ⟨MapOk.nil, MapOk.nil, fun _ => Nat.zero_le _, fun _ => rfl, fun n h => by simp at h⟩
def colSet (col : Int → Nat) (x : Int) (k : Nat) (n : Int) : Nat := if n = x then k else col n
theorem Wt.paint {val : Int → T} {col : Int → Nat} {lk lz : List (Value × Value)} (h : Wt val col lk lz) (x : Int) (k : Nat) (hk : k ≤ 2) (hk0 : k ≠ 0) (hs : k = 2 → mget lz (.int .i64 x) = some (.int .i64 (szc (val x)))) : Wt val (colSet col x k) (mset lk (.int .i64 x) (.int .i64 k)) lz :=
 ⟨h.okk.int _, h.okz, fun n => by unfold colSet; split; exact hk; exact h.le n, fun n => by
  rw [mget_int, h.get]
  unfold colSet
  by_cases e : n = x
  ·rw [if_pos e, if_pos e, if_neg hk0]
  ·rw [if_neg e, if_neg e], fun n hn => by
  unfold colSet at hn
  by_cases e : n = x
  ·subst e; rw [if_pos rfl] at hn; exact hs hn
  ·rw [if_neg e] at hn; exact h.siz n hn⟩
theorem Wt.size {val : Int → T} {col : Int → Nat} {lk lz : List (Value × Value)} (h : Wt val col lk lz) {x : Int} (hx : col x ≠ 2) (v : Value) : Wt val col lk (mset lz (.int .i64 x) v) :=
 ⟨h.okk, h.okz.int _, h.le, h.get, fun n hn => by
  rw [mget_int, if_neg (fun e => by subst e; exact hx hn)]; exact h.siz n hn⟩
section
variable {R : ClRefs} {c : Cl} {K : List Int} {lf : List (Value × Value)} {Q : T → Prop} {rank : Int → Nat} {val : Int → T}
structure WOut (R : ClRefs) (c : Cl) (K : List Int) (lf : List (Value × Value)) (val : Int → T) (col : Int → Nat) (μ h : Mem) (col' : Int → Nat) (L : List Nat) (h0 : Mem) : Prop where
 ex : ∃ lk lz, ClInv μ R c K lk lz lf h ∧ Wt val col' lk lz
 keep : ∀ z, col z ≠ 0 → col' z = col z
 grey : ∀ z, col' z = 1 → col z = 1
 fr : Fr L h0 h
def WSpec (R : ClRefs) (c : Cl) (K : List Int) (lf : List (Value × Value)) (val : Int → T) (rank : Int → Nat) (m : Nat) : Prop :=
 ∀ ⦃μ h : Mem⦄ ⦃x : Int⦄ ⦃col : Int → Nat⦄ ⦃lk lz : List (Value × Value)⦄, rank x < m → x ∈ K → c.rep x = x → (∀ z, col z = 1 → rank x < rank z) → Wt val col lk lz → ClInv μ R c K lk lz lf h →
  SpecH Tryz.prog 218 [.pointer (some ⟨R.c, 0, none⟩), .int .i64 x] μ h fun r μ' h' => r = .bool true ∧ ∃ col', WOut R c K lf val col μ' h' col' [R.u, R.k, R.z] h ∧ col' x = 2
theorem weigh1_spec {μ h h0 : Mem} {m bc rf : Nat} {n : Int} {col1 col : Int → Nat} (hok : c.Ok rank) (hin : c.In K (PK Q K)) (ih : WSpec R c K lf val rank m) (hn : n ∈ K) (hr : rank (c.rep n) < m) (hg : ∀ z, col1 z = 1 → rank (c.rep n) < rank z)
  (hbc : μ bc = some (.cells #[.pointer (some ⟨R.c, 0, none⟩)] 181 (0, 0))) (hrf : rf ∉ R.l) (hf : h rf = some (.cells #[.bool true] 4 (0, 0))) (H : WOut R c K lf val col1 μ h col [R.u, R.k, R.z, rf] h0) :
  SpecH Tryz.prog 239 [.int .i64 n, .pointer (some ⟨rf, 0, none⟩), .pointer (some ⟨bc, 0, none⟩)] μ h fun r μ' h' => r = .tuple #[] ∧ h' rf = some (.cells #[.bool true] 4 (0, 0)) ∧ ∃ col', WOut R c K lf val col1 μ' h' col' [R.u, R.k, R.z, rf] h0 ∧ (∀ z, col z ≠ 0 → col' z = col z) ∧ col' (c.rep n) = 2 := by
 obtain ⟨⟨lk, lz, hcl, hw⟩, h2, h3, h4⟩ := H
 have hl : R.u ∈ R.l ∧ R.k ∈ R.l ∧ R.z ∈ R.l := by simp [ClRefs.l]
 have n1 : rf ≠ R.u := fun e => hrf (by rw [e]; exact hl.1)
 have n2 : rf ≠ R.k := fun e => hrf (by rw [e]; exact hl.2.1)
 have n3 : rf ≠ R.z := fun e => hrf (by rw [e]; exact hl.2.2)
 refine SpecH.mk [] Tryz.func239 (by kernel_rfl) ?_
 refine oIn [.bool true] rfl (box_at hf) ?_
 refine iIn (fun _ => ?_) (fun h => nomatch h)
 refine ext_intro [.pointer (some ⟨R.c, 0, none⟩)] rfl (box_at hbc) ?_
 refine ext_intro [.pointer (some ⟨R.c, 0, none⟩)] rfl (box_at hbc) ?_
 refine cOw (root_spec n hok.le hcl) fun r μ1 h1 hle1 hap1 hR => ?_
 obtain ⟨rfl, e, H1, hfr1⟩ := hR
 obtain rfl := e.symm
 rw [ord_of_mem hn] at H1
 refine cOw (ih hr (hin.rep n hn) (hok.idem n) (fun z hz => hg z (h3 z hz)) hw H1) fun r μ2 h2' hle2 hap2 hR => ?_
 obtain ⟨rfl, col', ⟨ex, w2, w3, w4⟩, w5⟩ := hR
 refine iIn (fun h => nomatch h) (fun _ => ?_)
 have f1 : h1 rf = some (.cells #[.bool true] 4 (0, 0)) := hfr1.at hf (by simpa using n1)
 have f2 : h2' rf = some (.cells #[.bool true] 4 (0, 0)) := w4.at f1 (by simp [n1, n2, n3])
 exact rPl ⟨rfl, f2, col', ⟨ex, fun z hz => by rw [w2 z (by rw [h2 z hz]; exact hz), h2 z hz], fun z hz => h3 z (w3 z hz), (h4.trans (hfr1.weaken (by simp))).trans (w4.weaken (by simp))⟩, w2, w5⟩
theorem weigh2_spec {μ h h0 : Mem} {bc : Nat} {n : Int} {col : Int → Nat} {lk lz : List (Value × Value)} (hok : c.Ok rank) (hval : c.IsVal val) (hn : n ∈ K) (hw : Wt val col lk lz) (h2 : col (c.rep n) = 2)
  (hbc : μ bc = some (.cells #[.pointer (some ⟨R.c, 0, none⟩)] 181 (0, 0))) (H : ClInv μ R c K lk lz lf h) (hfr : Fr [R.u] h0 h) :
  SpecH Tryz.prog 240 [.int .i64 n, .pointer (some ⟨bc, 0, none⟩)] μ h fun r μ' h' => r = .int .i64 (szc (val n)) ∧ ClInv μ' R c K lk lz lf h' ∧ Fr [R.u] h0 h' := by
 have w_ := H.ex
 obtain ⟨lu, ls, ld, hat, hup, hs, hd, hsh⟩ := w_
 have hz := hw.siz _ h2
 rw [hval.rep hok] at hz
 refine SpecH.mk [] Tryz.func240 (by kernel_rfl) ?_
 refine ext_intro [.pointer (some ⟨R.c, 0, none⟩)] rfl (box_at hbc) ?_
 refine ext_intro [.pointer (some ⟨R.c, 0, none⟩)] rfl (box_at hbc) ?_
 refine And.intro ?_ (And.intro ?_ trivial)
 ·refine oIn [.map (some R.z)] rfl (fld_at hat.c rfl) ?_
  refine cOw (root_spec n hok.le H) fun r μ1 h1 hle1 hap1 hR => ?_
  obtain ⟨rfl, e, H1, hfr1⟩ := hR
  obtain rfl := e.symm
  rw [ord_of_mem hn] at H1
  have w_ := H1.ex
  obtain ⟨lu1, ls1, ld1, hat1, hup1, hs1, hd1, hsh1⟩ := w_
  refine look_intro lz (some _) hat1.z (hw.okz.weaken (by rintro _ ⟨n, rfl⟩; rfl)) rfl hz ?_
  exact rPl ⟨rfl, H1, hfr.trans hfr1⟩
 ·refine cOw (root_spec n hok.le H) fun r μ1 h1 hle1 hap1 hR => ?_
  obtain ⟨rfl, e, H1, hfr1⟩ := hR
  obtain rfl := e.symm
  rw [ord_of_mem hn] at H1
  have w_ := H1.ex
  obtain ⟨lu1, ls1, ld1, hat1, hup1, hs1, hd1, hsh1⟩ := w_
  refine oIn [.map (some R.z)] rfl (fld_at hat1.c rfl) ?_
  refine look_intro lz (some _) hat1.z (hw.okz.weaken (by rintro _ ⟨n, rfl⟩; rfl)) rfl hz ?_
  exact rPl ⟨rfl, H1, hfr.trans hfr1⟩
theorem ClInv.setK {μ h : Mem} {lk lz lk' : List (Value × Value)} (H : ClInv μ R c K lk lz lf h) : ClInv μ R c K lk' lz lf (h.set R.k (mapO lk')) := by
 have w_ := H.ex
 obtain ⟨lu, ls, ld, hat, hup, hs, hd, hsh⟩ := w_
 exact ⟨lu, ls, ld, hat.setK, hup, hs, hd, hsh⟩
theorem ClInv.setZ {μ h : Mem} {lk lz lz' : List (Value × Value)} (H : ClInv μ R c K lk lz lf h) : ClInv μ R c K lk lz' lf (h.set R.z (mapO lz')) := by
 have w_ := H.ex
 obtain ⟨lu, ls, ld, hat, hup, hs, hd, hsh⟩ := w_
 exact ⟨lu, ls, ld, hat.setZ, hup, hs, hd, hsh⟩
theorem ClInv.setF {μ h : Mem} {lk lz lf' : List (Value × Value)} (H : ClInv μ R c K lk lz lf h) : ClInv μ R c K lk lz lf' (h.set R.f (mapO lf')) := by
 have w_ := H.ex
 obtain ⟨lu, ls, ld, hat, hup, hs, hd, hsh⟩ := w_
 exact ⟨lu, ls, ld, hat.setF, hup, hs, hd, hsh⟩
set_option maxHeartbeats 4000000 in
theorem weigh_spec (hok : c.Ok rank) (hval : c.IsVal val) (hin : c.In K (PK Q K)) : ∀ m, WSpec R c K lf val rank m
 | 0 => by
  intro μ h x col lk lz hm
  exact absurd hm (Nat.not_lt_zero _)
 | m + 1 => by
  intro μ h x col lk lz hm hx hxr hgr hw H
  have w_ := H.ex
  obtain ⟨lu, ls, ld, hat, hup, hs, hd, hsh⟩ := w_
  refine SpecH.mk [5] Tryz.func218 (by kernel_rfl) ?_
  intro r0
  refine oIn [.map (some R.k)] rfl (fld_at hat.c rfl) ?_
  have hne1 : col x ≠ 1 := fun e => Nat.lt_irrefl _ (hgr x e)
  by_cases hc2 : col x = 2
  ·refine look_intro lk (some (.int .i64 (2 : Nat))) hat.k (hw.okk.weaken (by rintro _ ⟨n, rfl⟩; rfl)) rfl (by rw [hw.get, if_neg (by omega), hc2]) ?_
   refine ifd (fun _ => ?_) (fun h => absurd rfl h)
   exact rPl ⟨rfl, col, ⟨⟨lk, lz, H, hw⟩, fun _ _ => rfl, fun _ h => h, Fr.refl _ _⟩, hc2⟩
  have hc0 : col x = 0 := by have := hw.le x; omega
  refine look_intro lk none hat.k (hw.okk.weaken (by rintro _ ⟨n, rfl⟩; rfl)) rfl (by rw [hw.get, if_pos hc0]) ?_
  refine ifd (fun h => absurd h (by decide)) (fun _ => ?_)
  refine oIn [.map (some R.k)] rfl (fld_at hat.c rfl) ?_
  refine look_intro lk none hat.k (hw.okk.weaken (by rintro _ ⟨n, rfl⟩; rfl)) rfl (by rw [hw.get, if_pos hc0]) ?_
  refine ifd (fun h => absurd h (by decide)) (fun _ => ?_)
  refine oIn [.map (some R.k)] rfl (fld_at hat.c rfl) ?_
  refine upd_intro lk hat.k (hw.okk.weaken (by rintro _ ⟨n, rfl⟩; rfl)) rfl ?_
  have hw1 := hw.paint x 1 (by decide) (by decide) (fun e => absurd e (by decide))
  have H1 := H.setK (lk' := mset lk (.int .i64 x) (.int .i64 (1 : Nat)))
  have a1 := hat.setK (l := mset lk (.int .i64 x) (.int .i64 (1 : Nat)))
  refine oIn [.map (some R.z)] rfl (fld_at a1.c rfl) ?_
  refine upd_intro lz a1.z (hw.okz.weaken (by rintro _ ⟨n, rfl⟩; rfl)) rfl ?_
  have hw2 := hw1.size (x := x) (by unfold colSet; rw [if_pos rfl]; decide) (.int .i64 1)
  have H2 := H1.setZ (lz' := mset lz (.int .i64 x) (.int .i64 1))
  have a2 := a1.setZ (l := mset lz (.int .i64 x) (.int .i64 1))
  have fr2 : Fr [R.u, R.k, R.z] h ((h.set R.k (mapO (mset lk (.int .i64 x) (.int .i64 (1 : Nat))))).set R.z (mapO (mset lz (.int .i64 x) (.int .i64 1)))) := (Fr.set (by simp)).trans (Fr.set (by simp))
  generalize hh2 : Mem.set (Mem.set h R.k (mapO (mset lk (.int .i64 x) (.int .i64 (1 : Nat))))) R.z (mapO (mset lz (.int .i64 x) (.int .i64 1))) = h2 at *
  generalize hlk1 : mset lk (.int .i64 x) (.int .i64 (1 : Nat)) = lk1 at *
  generalize hlz1 : mset lz (.int .i64 x) (.int .i64 1) = lz1 at *
  have hx1 : colSet col x 1 x = 1 := by unfold colSet; rw [if_pos rfl]
  have hk1 : ∀ z, col z ≠ 0 → colSet col x 1 z = col z := fun z hz => by
   unfold colSet; rw [if_neg (fun e => hz (by rw [e]; exact hc0))]
  have hg1 : ∀ z, colSet col x 1 z = 1 → z = x ∨ col z = 1 := fun z hz => by
   unfold colSet at hz
   by_cases e : z = x
   ·exact .inl e
   ·rw [if_neg e] at hz; exact .inr hz
  refine oIn [.map (some R.d)] rfl (fld_at a2.c rfl) ?_
  cases hsx : c.shp x with
  | none =>
   refine look_intro ld none a2.d (hd.weaken (by rintro _ ⟨n, rfl⟩; rfl)) rfl (hsh.none hxr hsx) ?_
   refine iIn (fun h => nomatch h) (fun _ => ?_)
   refine oIn [.map (some R.k)] rfl (fld_at a2.c rfl) ?_
   refine upd_intro lk1 a2.k (hw2.okk.weaken (by rintro _ ⟨n, rfl⟩; rfl)) rfl ?_
   have hv : szc (val x) = 1 := by rw [hval.plain (by rw [hxr]; exact hsx)]; rfl
   have hw3 := hw2.paint x 2 (by decide) (by decide) (fun _ => by rw [hv, ← hlz1, mget_int, if_pos rfl])
   refine rPl ⟨rfl, _, ⟨⟨_, lz1, H2.setK, hw3⟩, fun z hz => ?_, fun z hz => ?_, fr2.trans (Fr.set (by simp))⟩, by unfold colSet; rw [if_pos rfl]⟩
   ·have : z ≠ x := fun e => hz (by rw [e]; exact hc0)
    unfold colSet; rw [if_neg this, if_neg this]
   ·unfold colSet at hz
    by_cases e : z = x
    ·rw [if_pos e] at hz; exact absurd hz (by decide)
    ·rw [if_neg e, if_neg e] at hz; exact hz
  | some t =>
   have w_ := hsh.some hxr hsx
   obtain ⟨g1, tv, g2, g3⟩ := w_
   have w_ := Tm.invV g3
   obtain ⟨q, rfl⟩ := w_
   have htK := (hin.shp x t hsx).2.1
   refine look_intro ld (some (.bool true)) a2.d (hd.weaken (by rintro _ ⟨n, rfl⟩; rfl)) rfl g1 ?_
   refine iIn (fun _ => ?_) (fun h => nomatch h)
   intro rf hmf hof
   replace hof : h2 rf = none := hof
   have hrf : rf ∉ R.l := fun e => a2.dom rf e hof
   refine sIn [.bool false] 4 (Mem.set_at _ _ _) rfl (Nat.le_refl _) ?_
   generalize hh : Mem.set (Mem.set _ rf _) rf _ = h3
   have e3 : Fr [rf] h2 h3 := by subst hh; exact (Fr.set (by simp)).trans (Fr.set (by simp))
   have ef : h3 rf = some (.cells #[.bool true] 4 (0, 0)) := by subst hh; rw [Mem.set_at]; rfl
   have H3 := H2.off e3 (by simpa using hrf)
   have a3 := a2.off e3 (by simpa using hrf)
   refine oIn [.map (some R.s)] rfl (fld_at a3.c rfl) ?_
   refine look_intro ls (some _) a3.s (hs.weaken (by rintro _ ⟨n, rfl⟩; rfl)) rfl g2 ?_
   refine call_gen [0] [] (fun _ => rfl) ?_
   intro μ1 hle1 _ hat1
   replace hle1 : μ.Le μ1 := hle1
   refine own_go (eachVar_relM (μ := μ1) (fun pre μ' h' => h' rf = some (.cells #[.bool true] 4 (0, 0)) ∧ ∃ col', WOut R c K lf val (colSet col x 1) μ' h' col' [R.u, R.k, R.z, rf] h3 ∧ ∀ u ∈ pre, col' (c.rep u) = 2) (fun pre n => pre ++ [n]) (fun _ n => n ∈ t.vars)
    (fun pre μ' h' n hm' hn hj => ?_) t [] μ1 h3 (Mem.Le.refl _) (g3.mono hle1) (fun pre n post e => by rw [e]; simp) ⟨ef, _, ⟨⟨_, _, H3.mono hle1, hw2⟩, fun _ _ => rfl, fun _ h => h, Fr.refl _ _⟩, fun u hu => by simp at hu⟩) fun v4 μ4 h4 hle4 hap4 hR => ?_
   ·obtain ⟨j1, col', j2, j3⟩ := hj
    have hocc := T.occ_vars.2 hn
    have hrk := hok.acy x t hsx n hocc
    refine (weigh1_spec (m := m) hok hin (weigh_spec hok hval hin m) (htK n hocc) (by omega) (fun z hz => ?_) (hm' _ _ hat1) hrf j1 j2).weaken fun r μ'' h'' _ _ hR => ?_
    ·rcases hg1 z hz with e | e
     ·rw [e]; exact hrk
     ·have := hgr z e; omega
    ·obtain ⟨rfl, k1, col2, k2, k3, k4⟩ := hR
     refine ⟨rfl, k1, col2, k2, fun u hu => ?_⟩
     rcases List.mem_append.1 hu with hu | hu
     ·rw [k3 _ (by rw [j3 u hu]; decide)]; exact j3 u hu
     ·rw [List.mem_singleton] at hu
      subst hu; exact k4
   ·obtain ⟨rfl, j1, col', ⟨⟨lk4, lz4, H4, hw4⟩, j3, j4, j5⟩, j6⟩ := hR
    rw [foldl_snoc', List.nil_append] at j6
    replace H4 : ClInv μ4 R c K lk4 lz4 lf h4 := H4
    refine oIn [.bool true] rfl (box_at j1) ?_
    refine iIn (fun h => nomatch h) (fun _ => ?_)
    have w_ := H4.ex
    obtain ⟨lu4, ls4, ld4, a4, hup4, hs4, hd4, hsh4⟩ := w_
    have hat4 := hle4 _ _ hat1
    replace hat4 : μ4 r0 = some (.cells #[.pointer (some ⟨R.c, 0, none⟩)] 181 (0, 0)) := hat4
    have w_ := hsh4.some hxr hsx
    obtain ⟨g1', tv', g2', g3'⟩ := w_
    have w_ := Tm.invV g3'
    obtain ⟨q', rfl⟩ := w_
    have hcx : col' x = 1 := by rw [j3 x (by rw [hx1]; decide), hx1]
    have hvx : t.ap val = val x := (hval.shaped (by rw [hxr]; exact hsx)).symm
    have hn1 : rf ≠ R.u ∧ rf ≠ R.k ∧ rf ≠ R.z := ⟨fun e => hrf (by rw [e]; simp [ClRefs.l]), fun e => hrf (by rw [e]; simp [ClRefs.l]), fun e => hrf (by rw [e]; simp [ClRefs.l])⟩
    have frh : Fr [R.u, R.k, R.z] h h4 := fr2.trans fun y hy hl => by
     have hyf : y ≠ rf := fun e => hy (by rw [e]; exact hof)
     have e1 := e3 y hy (by simpa using hyf)
     rw [j5 y (by rw [e1]; exact hy) (by simp only [List.mem_cons, List.not_mem_nil, or_false, not_or] at hl ⊢; exact ⟨hl.1, hl.2.1, hl.2.2, hyf⟩), e1]
    refine ext_intro [.pointer (some ⟨R.c, 0, none⟩)] rfl (box_at hat4) ?_
    refine ext_intro [.pointer (some ⟨R.c, 0, none⟩)] rfl (box_at hat4) ?_
    refine oIn [.map (some R.s)] rfl (fld_at a4.c rfl) ?_
    refine look_intro ls4 (some _) a4.s (hs4.weaken (by rintro _ ⟨n, rfl⟩; rfl)) rfl g2' ?_
    have key : SpecH Tryz.prog 132 [.agg #[.int .i64 t.tm.kind, .int .i64 t.tm.num, .string t.tm.name, .slice q'.1 t.tm.args.length q'.2], .func (.func 240) #[] #[.pointer (some ⟨r0, 0, none⟩)]] μ4 h4 fun r μ' h' => r = .int .i64 (szc (val x)) ∧ ClInv μ' R c K lk4 lz4 lf h' ∧ Fr [R.u] h4 h' := by
     have := sizeWith_rel (f := val) (k := 240) (caps := [.pointer (some ⟨r0, 0, none⟩)]) (fun μ' h' => ClInv μ' R c K lk4 lz4 lf h' ∧ Fr [R.u] h4 h') t (fun μ' h' hm' hj n hn => weigh2_spec hok hval (htK n (T.occ_vars.2 hn)) hw4 (j6 n hn) (hm' _ _ hat4) hj.1 hj.2) ⟨H4, Fr.refl _ _⟩ g3'
     rwa [hvx] at this
    refine And.intro ?_ (And.intro ?_ trivial)
    ·refine oIn [.map (some R.z)] rfl (fld_at a4.c rfl) ?_
     refine cOw key fun r μ5 h5 hle5 hap5 hR => ?_
     obtain ⟨rfl, H5, fr5⟩ := hR
     replace H5 : ClInv μ5 R c K lk4 lz4 lf h5 := H5
     have w_ := H5.ex
     obtain ⟨lu6, ls6, ld6, a6, hup6, hs6, hd6, hsh6⟩ := w_
     have hle5' : μ4.Le μ5 := hle5
     refine upd_intro lz4 a6.z (hw4.okz.weaken (by rintro _ ⟨n, rfl⟩; rfl)) rfl ?_
     have H7 := H5.setZ (lz' := mset lz4 (.int .i64 x) (.int .i64 (szc (val x))))
     have hw7 := hw4.size (x := x) (by rw [hcx]; decide) (.int .i64 (szc (val x)))
     have a7 := a6.setZ (l := mset lz4 (.int .i64 x) (.int .i64 (szc (val x))))
     refine ext_intro [.pointer (some ⟨R.c, 0, none⟩)] rfl (box_at (hle5' _ _ hat4)) ?_
     refine oIn [.map (some R.k)] rfl (fld_at a7.c rfl) ?_
     refine upd_intro lk4 a7.k (hw7.okk.weaken (by rintro _ ⟨n, rfl⟩; rfl)) rfl ?_
     have hw8 := hw7.paint x 2 (by decide) (by decide) (fun _ => by rw [mget_int, if_pos rfl])
     refine rPl ⟨rfl, _, ⟨⟨_, _, H7.setK, hw8⟩, fun z hz => ?_, fun z hz => ?_, ((frh.trans (fr5.weaken (by simp))).trans (Fr.set (by simp))).trans (Fr.set (by simp))⟩, by unfold colSet; rw [if_pos rfl]⟩
     ·have : z ≠ x := fun e => hz (by rw [e]; exact hc0)
      rw [show colSet col' x 2 z = col' z from if_neg this, j3 z (by rw [hk1 z hz]; exact hz), hk1 z hz]
     ·unfold colSet at hz
      by_cases e : z = x
      ·rw [if_pos e] at hz; exact absurd hz (by decide)
      ·rw [if_neg e] at hz
       rcases hg1 z (j4 z hz) with k | k
       ·exact absurd k e
       ·exact k
    ·refine cOw key fun r μ5 h5 hle5 hap5 hR => ?_
     obtain ⟨rfl, H5, fr5⟩ := hR
     replace H5 : ClInv μ5 R c K lk4 lz4 lf h5 := H5
     have w_ := H5.ex
     obtain ⟨lu5, ls5, ld5, a5, hup5, hs5, hd5, hsh5⟩ := w_
     refine oIn [.map (some R.z)] rfl (fld_at a5.c rfl) ?_
     have w_ := H5.ex
     obtain ⟨lu6, ls6, ld6, a6, hup6, hs6, hd6, hsh6⟩ := w_
     have hle5' : μ4.Le μ5 := hle5
     refine upd_intro lz4 a6.z (hw4.okz.weaken (by rintro _ ⟨n, rfl⟩; rfl)) rfl ?_
     have H7 := H5.setZ (lz' := mset lz4 (.int .i64 x) (.int .i64 (szc (val x))))
     have hw7 := hw4.size (x := x) (by rw [hcx]; decide) (.int .i64 (szc (val x)))
     have a7 := a6.setZ (l := mset lz4 (.int .i64 x) (.int .i64 (szc (val x))))
     refine ext_intro [.pointer (some ⟨R.c, 0, none⟩)] rfl (box_at (hle5' _ _ hat4)) ?_
     refine oIn [.map (some R.k)] rfl (fld_at a7.c rfl) ?_
     refine upd_intro lk4 a7.k (hw7.okk.weaken (by rintro _ ⟨n, rfl⟩; rfl)) rfl ?_
     have hw8 := hw7.paint x 2 (by decide) (by decide) (fun _ => by rw [mget_int, if_pos rfl])
     refine rPl ⟨rfl, _, ⟨⟨_, _, H7.setK, hw8⟩, fun z hz => ?_, fun z hz => ?_, ((frh.trans (fr5.weaken (by simp))).trans (Fr.set (by simp))).trans (Fr.set (by simp))⟩, by unfold colSet; rw [if_pos rfl]⟩
     ·have : z ≠ x := fun e => hz (by rw [e]; exact hc0)
      rw [show colSet col' x 2 z = col' z from if_neg this, j3 z (by rw [hk1 z hz]; exact hz), hk1 z hz]
     ·unfold colSet at hz
      by_cases e : z = x
      ·rw [if_pos e] at hz; exact absurd hz (by decide)
      ·rw [if_neg e] at hz
       rcases hg1 z (j4 z hz) with k | k
       ·exact absurd k e
       ·exact k
end
end Go.Vx
namespace Go.Vx
open Go.Proofs Classical
structure FAt (μ : Mem) (val : Int → T) (lf : List (Value × Value)) : Prop where
 ok : MapOk IntKey lf
 rep : ∀ z v, mget lf (.int .i64 z) = some v → RepV μ (val z).tm.d v
theorem FAt.nil (μ : Mem) (val : Int → T) : FAt μ val [] := ⟨MapOk.nil, fun _ _ h => nomatch h⟩
theorem FAt.mono {μ μ' : Mem} {val : Int → T} {lf : List (Value × Value)} (h : FAt μ val lf) (hle : μ.Le μ') : FAt μ' val lf := ⟨h.ok, fun z v e => (h.rep z v e).mono hle⟩
theorem FAt.add {μ : Mem} {val : Int → T} {lf : List (Value × Value)} (h : FAt μ val lf) {x : Int} {v : Value} (hv : RepV μ (val x).tm.d v) : FAt μ val (mset lf (.int .i64 x) v) := ⟨h.ok.int _, fun z w e => by
 rw [mget_int] at e
 by_cases k : z = x
 ·subst k; rw [if_pos rfl] at e; cases e; exact hv
 ·rw [if_neg k] at e; exact h.rep z w e⟩
section
variable {R : ClRefs} {c : Cl} {K : List Int} {lk lz : List (Value × Value)} {Q : T → Prop} {rank : Int → Nat} {val : Int → T}
def VSpec (R : ClRefs) (c : Cl) (K : List Int) (lk lz : List (Value × Value)) (val : Int → T) (rank : Int → Nat) (m : Nat) : Prop :=
 ∀ ⦃μ h : Mem⦄ ⦃x : Int⦄ ⦃lf : List (Value × Value)⦄, rank x < m → x ∈ K → c.rep x = x → FAt μ val lf → ClInv μ R c K lk lz lf h →
  SpecH Tryz.prog 219 [.pointer (some ⟨R.c, 0, none⟩), .int .i64 x] μ h fun r μ' h' => RepV μ' (val x).tm.d r ∧ ∃ lf', FAt μ' val lf' ∧ ClInv μ' R c K lk lz lf' h' ∧ Fr [R.u, R.f] h h'
theorem value1_spec {μ h h0 : Mem} {m bc : Nat} {n : Int} {lf : List (Value × Value)} (hok : c.Ok rank) (hval : c.IsVal val) (hin : c.In K (PK Q K)) (ih : VSpec R c K lk lz val rank m) (hn : n ∈ K) (hr : rank (c.rep n) < m)
  (hbc : μ bc = some (.cells #[.pointer (some ⟨R.c, 0, none⟩)] 181 (0, 0))) (hf : FAt μ val lf) (H : ClInv μ R c K lk lz lf h) (hfr : Fr [R.u, R.f] h0 h) :
  SpecH Tryz.prog 241 [.int .i64 n, .pointer (some ⟨bc, 0, none⟩)] μ h fun r μ' h' => optV (fun y tv => RepV μ' y.tm.d tv) (some (val n)) r ∧ ∃ lf', FAt μ' val lf' ∧ ClInv μ' R c K lk lz lf' h' ∧ Fr [R.u, R.f] h0 h' := by
 refine SpecH.mk [] Tryz.func241 (by kernel_rfl) ?_
 intro r3
 refine ext_intro [.pointer (some ⟨R.c, 0, none⟩)] rfl (box_at hbc) ?_
 refine ext_intro [.pointer (some ⟨R.c, 0, none⟩)] rfl (box_at hbc) ?_
 refine cOw (root_spec n hok.le H) fun r μ1 h1 hle1 hap1 hR => ?_
 obtain ⟨rfl, e, H1, hfr1⟩ := hR
 obtain rfl := e.symm
 rw [ord_of_mem hn] at H1
 refine cOw (ih hr (hin.rep n hn) (hok.idem n) hf H1) fun r μ2 h2 hle2 hap2 hR => ?_
 obtain ⟨hv, lf', g1, g2, g3⟩ := hR
 rw [hval.rep hok] at hv
 have w_ := Tm.invV hv
 obtain ⟨q, rfl⟩ := w_
 exact rPl ⟨⟨_, rfl, hv⟩, lf', g1, g2, (hfr.trans (hfr1.weaken (by simp))).trans g3⟩
set_option maxHeartbeats 4000000 in
theorem value_spec (hok : c.Ok rank) (hval : c.IsVal val) (hin : c.In K (PK Q K)) : ∀ m, VSpec R c K lk lz val rank m
 | 0 => by
  intro μ h x lf hm
  exact absurd hm (Nat.not_lt_zero _)
 | m + 1 => by
  intro μ h x lf hm hx hxr hf H
  have w_ := H.ex
  obtain ⟨lu, ls, ld, hat, hup, hs, hd, hsh⟩ := w_
  refine SpecH.mk [] Tryz.func219 (by kernel_rfl) ?_
  intro r0 r4
  refine oIn [.map (some R.f)] rfl (fld_at hat.c rfl) ?_
  cases hfx : mget lf (.int .i64 x) with
  | some v =>
   have hv := hf.rep x v hfx
   have w_ := Tm.invV hv
   obtain ⟨q, rfl⟩ := w_
   refine look_intro lf (some _) hat.f (hf.ok.weaken (by rintro _ ⟨n, rfl⟩; rfl)) rfl hfx ?_
   intro r5
   refine iIn (fun _ => ?_) (fun h => nomatch h)
   exact rPl ⟨hv, lf, hf, H, Fr.refl _ _⟩
  | none =>
   refine look_intro lf none hat.f (hf.ok.weaken (by rintro _ ⟨n, rfl⟩; rfl)) rfl hfx ?_
   intro r5
   refine iIn (fun h => nomatch h) (fun _ => ?_)
   refine cGv (variable_spec x) ?_
   intro r7
   refine oIn [.map (some R.d)] rfl (fld_at hat.c rfl) ?_
   cases hsx : c.shp x with
   | none =>
    refine look_intro ld none hat.d (hd.weaken (by rintro _ ⟨n, rfl⟩; rfl)) rfl (hsh.none hxr hsx) ?_
    refine iIn (fun h => nomatch h) (fun _ => ?_)
    refine oIn [.map (some R.f)] rfl (fld_at hat.c rfl) ?_
    have hv : RepV μ (val x).tm.d (varV x) := by rw [hval.plain (by rw [hxr]; exact hsx), hxr]; exact varV_rep x
    refine upd_intro lf hat.f (hf.ok.weaken (by rintro _ ⟨n, rfl⟩; rfl)) rfl ?_
    exact rPl ⟨hv, _, hf.add hv, H.setF, Fr.set (by simp)⟩
   | some t =>
    have w_ := hsh.some hxr hsx
    obtain ⟨g1, tv, g2, g3⟩ := w_
    have w_ := Tm.invV g3
    obtain ⟨q, rfl⟩ := w_
    have htK := (hin.shp x t hsx).2.1
    have hvx : t.subst (fun n => some (val n)) = val x := by
     rw [subst_ap]; exact (hval.shaped (by rw [hxr]; exact hsx)).symm
    refine look_intro ld (some (.bool true)) hat.d (hd.weaken (by rintro _ ⟨n, rfl⟩; rfl)) rfl g1 ?_
    refine iIn (fun _ => ?_) (fun h => nomatch h)
    refine oIn [.map (some R.s)] rfl (fld_at hat.c rfl) ?_
    refine look_intro ls (some _) hat.s (hs.weaken (by rintro _ ⟨n, rfl⟩; rfl)) rfl g2 ?_
    refine call_gen [0] [] (fun _ => rfl) ?_
    intro μ1 hle1 _ hat1
    replace hle1 : μ.Le μ1 := hle1
    refine own_go (mapVars_rel (f := fun n => some (val n)) (fun μ' h' => ∃ lf', FAt μ' val lf' ∧ ClInv μ' R c K lk lz lf' h' ∧ Fr [R.u, R.f] h h') (fun hle ⟨lf', k1, k2, k3⟩ => ⟨lf', k1.mono hle, k2.mono hle, k3⟩) t
     (fun μ' h' hm' hj n hn => ?_) ⟨lf, hf.mono hle1, H.mono hle1, Fr.refl _ _⟩ (g3.mono hle1)) fun v4 μ4 h4 hle4 hap4 hR => ?_
    ·obtain ⟨lf', k1, k2, k3⟩ := hj
     exact value1_spec (m := m) hok hval hin (value_spec hok hval hin m) (htK n (T.occ_vars.2 hn)) (by have := hok.acy x t hsx n (T.occ_vars.2 hn); omega) (hm' _ _ hat1) k1 k2 k3
    ·obtain ⟨hv, lf', k1, k2, k3⟩ := hR
     rw [hvx] at hv
     have w_ := Tm.invV hv
     obtain ⟨q4, rfl⟩ := w_
     replace k2 : ClInv μ4 R c K lk lz lf' h4 := k2
     have w_ := k2.ex
     obtain ⟨lu4, ls4, ld4, a4, _⟩ := w_
     have hat4 := hle4 _ _ hat1
     replace hat4 : μ4 r0 = some (.cells #[.pointer (some ⟨R.c, 0, none⟩)] 181 (0, 0)) := hat4
     refine ext_intro [.pointer (some ⟨R.c, 0, none⟩)] rfl (box_at hat4) ?_
     refine oIn [.map (some R.f)] rfl (fld_at a4.c rfl) ?_
     refine upd_intro lf' a4.f (k1.ok.weaken (by rintro _ ⟨n, rfl⟩; rfl)) rfl ?_
     exact rPl ⟨hv, _, k1.add hv, k2.setF, k3.trans (Fr.set (by simp))⟩
end
end Go.Vx
