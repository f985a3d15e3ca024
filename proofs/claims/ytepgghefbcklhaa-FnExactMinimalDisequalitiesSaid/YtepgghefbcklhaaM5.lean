/- Texts of the proof, part 5: Sh Si Sj Sk Sl Wk Sm Qe Qf Su Sv Sw Qg. -/
import Derived.Test.YtepgghefbcklhaaM4
import Derived.Lib.ReflectliteSwap
import Derived.Test.YtepgghefbcklhaaM3
/- Contracts: a row sorted by its owner's functions. -/
namespace Go.Vx
open Go.Proofs Classical
open Go.Sort
section
variable {α : Type} [Inhabited α] {lf sf : FuncId} {lb sb : List Value} {n : Nat} {lt : α → α → Bool} {μ0 : Mem} {J : Array α → Mem} {V : Array α → Prop}
set_option maxHeartbeats 16000000 in
theorem pdqsortF_spec (H : SortBy lf sf lb sb n lt μ0 J V) (hO : SWO lt) : ∀ (m : Nat) (a b limit : Nat) (d : Array α) (μ : Mem), b - a < m → a ≤ b → b ≤ n → V d → μ0.Le μ → limit ≤ 64 → Below lt a b d →
    SpecH Try.prog 152 [fdata lf sf lb sb, .int .i64 a, .int .i64 b, .int .i64 limit] μ (J d) fun v μ' h' => v = .tuple #[] ∧ ∃ d', PermIn a b d d' ∧ SortedIn lt a b d' ∧ h' = J d' ∧ V d' := by
  intro m
  induction m with
  | zero => intro a b limit d μ h; omega
  | succ m ih =>
  intro a0 b0 limit0 d0 μ hm hab0 hb0 hV0 hle0 hl0 hB0
  have hn := H.max
  refine SpecH.mk [] Try.func152 (by kernel_rfl) ?_
  intro r1
  refine loop_intro (fun p : Nat × Nat × Nat × Bool × Bool × Array α × Mem => p.1 ≤ p.2.1 ∧ p.2.1 ≤ n ∧ p.2.1 - p.1 ≤ b0 - a0 ∧ p.2.2.1 ≤ 64 ∧ V p.2.2.2.2.2.1 ∧ Below lt p.1 p.2.1 p.2.2.2.2.2.1 ∧ μ0.Le p.2.2.2.2.2.2 ∧ ∀ R, PermIn p.1 p.2.1 p.2.2.2.2.2.1 R → SortedIn lt p.1 p.2.1 R → PermIn a0 b0 d0 R ∧ SortedIn lt a0 b0 R)
    (fun (a, b, limit, wb, wp, d, μ') => ⟨[(1, .val (.int .i64 a)), (2, .val (.int .i64 b)), (3, .val (.int .i64 limit)), (4, .loc 0 r1 0), (8, .val (.bool wb)), (9, .val (.bool wp))], fblk r1 lf sf lb sb, 1, μ', J d⟩) (fun p => p.2.1 - p.1)
    (a0, b0, limit0, true, true, d0, μ) ⟨hab0, hb0, Nat.le_refl _, hl0, hV0, hB0, hle0, fun R h1 h2 => ⟨h1, h2⟩⟩ (fun (_, _, _, _, _, _, _) => ⟨rfl, rfl⟩) ⟨⟨rfl, rfl, rfl, rfl, rfl, rfl, trivial⟩, ⟨rfl, trivial⟩, rfl, rfl⟩ ?_
  rintro ⟨a, b, limit, wb, wp, d, μ1⟩ ⟨hab, hb, hlen, hlim, hs, hB, hle, hfin⟩
  dsimp only at hab hb hlen hlim hs hB hle hfin
  refine num_eq (x := ((b - a : Nat) : Int)) (by rw [wrap64 (by omega) (by omega)]; omega) ?_
  refine ifd (fun h12 => ?_) (fun h12 => ?_)
  · refine call_own (insertionSortF_spec H hle hs hab hb) fun v μ' h' hle' hap hR => ?_
    obtain ⟨rfl, e1, rfl, hV2⟩ := hR
    have hsz := H.size hs
    have q := insertionSort_holds (lt := lt) hO d a b hab (by omega)
    exact ret_plain ⟨rfl, _, (hfin _ q.1 q.2).1, (hfin _ q.1 q.2).2, rfl, hV2⟩
  refine ifd (fun hl => ?_) (fun hl => ?_)
  · refine call_own (heapSortF_spec H hle hs (by omega) hb) fun v μ' h' hle' hap hR => ?_
    obtain ⟨rfl, e1, rfl, hV2⟩ := hR
    have hsz := H.size hs
    have q := heapSort_holds (lt := lt) hO d a b hab (by omega)
    exact ret_plain ⟨rfl, _, (hfin _ q.1 q.2).1, (hfin _ q.1 q.2).2, rfl, hV2⟩
  cases wb with
  | false =>
    refine if_intro (fun _ => ?_) (fun h => nomatch h)
    refine call_own (breakPatternsF_spec H hle hs (by omega) hb) fun v μ2 h' hle' hap hR => ?_
    obtain ⟨rfl, d1, p1, rfl, hs1⟩ := hR
    have hsz := H.size hs
    replace hB := hB.perm (by omega) p1
    replace hfin := fun R h1 h2 => hfin R (permIn_trans _ _ _ _ _ p1 h1) h2
    replace hle := hle.trans hle'
    clear hs p1 hle' hsz
    refine num_eq (x := ((limit - 1 : Nat) : Int)) (by rw [wrap64 (by omega) (by omega)]; omega) ?_
    refine call_own (choosePivotF_spec H hle hs1 (by omega) hb) fun v μ3 h' hle' hap hR => ?_
    obtain ⟨p, k, hp1, hp2, hk, rfl, rfl⟩ := hR
    replace hle := hle.trans hle'
    clear hle' hap
    refine ifd (fun hk2 => ?_) (fun hk2 => ?_)
    · refine call_own (reverseRangeF_spec H hle hs1 (by omega) hab hb) fun v μ4 h' hle' hap hR => ?_
      obtain ⟨rfl, e1, rfl, hs2⟩ := hR
      obtain rfl := e1.symm
      clear hle' hap
      have hsz := H.size hs1
      have p2 := reverseRange_holds d1 a b hab (by omega)
      generalize reverseRange d1 a b = d2 at *
      replace hB := hB.perm (by omega) p2
      replace hfin := fun R h1 h2 => hfin R (permIn_trans _ _ _ _ _ p2 h1) h2
      clear p2 hsz
      refine num_eq (x := ((b - 1 : Nat) : Int)) (by rw [wrap64 (by omega) (by omega)]; omega) ?_
      refine num_eq (x := ((p - a : Nat) : Int)) (by rw [wrap64 (by omega) (by omega)]; omega) ?_
      refine num_eq (x := (((b - 1) - (p - a) : Nat) : Int)) (by rw [wrap64 (by omega) (by omega)]; omega) ?_
      refine if_intro (fun h => nomatch h) (fun _ => ?_)
      refine ifd (fun ha0 => ?_) (fun ha0 => ?_)
      · refine num_eq (x := ((a - 1 : Nat) : Int)) (by rw [wrap64 (by omega) (by omega)]; omega) ?_
        refine call_own (H.less hle hs2 (i := a - 1) (j := (b - 1) - (p - a)) (by omega) (by omega)) fun v μ' h' hle' hap hR => ?_
        obtain ⟨rfl, e2, rfl⟩ := hR
        obtain rfl := e2.symm
        clear hle' hap
        have hsz := H.size hs2
        refine if_intro (fun hnl => ?_) (fun hnl => ?_)
        · refine call_own (partitionEqualF_spec H (pivot := (b - 1) - (p - a)) hle hs2 (by omega) (by omega) hb) fun v μ6 h' hle' hap hR => ?_
          obtain ⟨rfl, e1, rfl, hs4⟩ := hR
          obtain rfl := e1.symm
          obtain ⟨mid, d4, hx⟩ : ∃ mid d4, partitionEqual lt d2 a b ((b - 1) - (p - a)) = (mid, d4) := ⟨_, _, rfl⟩
          rw [hx] at hs4 ⊢
          have q := round_eq hO (partitionEqual_holds lt) (by omega) (by omega) (by omega) (by omega) hB (by simpa using hnl) hx
          have qa := q.1
          exact ⟨(mid, b, limit - 1, false, wp, d4, _), ⟨q.2.1, hb, by dsimp only; omega, by dsimp only; omega, hs4, q.2.2.2.1, hle, fun R h1 h2 => hfin R (q.2.2.2.2 R h1 h2).1 (q.2.2.2.2 R h1 h2).2⟩, by dsimp only; omega, ⟨⟨rfl, rfl, rfl, rfl, rfl, rfl, trivial⟩, ⟨rfl, trivial⟩, rfl, rfl⟩⟩
        · refine call_own (partitionF_spec H (pivot := (b - 1) - (p - a)) hle hs2 (by omega) (by omega) hb) fun v μ6 h' hle' hap hR => ?_
          obtain ⟨⟨ap, rfl⟩, e1, rfl, hs4⟩ := hR
          have hsz' := H.size hs2
          obtain rfl := e1.symm
          obtain ⟨mid, ap', d4, hx⟩ : ∃ mid ap' d4, partition lt d2 a b ((b - 1) - (p - a)) = (mid, ap', d4) := ⟨_, _, _, rfl⟩
          rw [hx] at hs4 ⊢
          obtain ⟨q1, q2, q3, q4, q5, q6, q7⟩ := round_part hO (partition_holds lt) (by omega) (by omega) (by omega) hB hx
          refine num_eq (x := ((mid - a : Nat) : Int)) (by rw [wrap64 (by omega) (by omega)]; omega) ?_
          refine num_eq (x := ((b - mid : Nat) : Int)) (by rw [wrap64 (by omega) (by omega)]; omega) ?_
          refine need_intro (by decide) ?_
          refine num_eq (x := (((b - a) / 8 : Nat) : Int)) (by rw [Int.tdiv_eq_ediv_of_nonneg (by omega), wrap64 (by omega) (by omega)]; omega) ?_
          refine ifd (fun hlt => ?_) (fun hlt => ?_)
          · refine call_own (ih a mid (limit - 1) d4 _ (by omega) (by omega) (by omega) hs4 hle (by omega) q4) fun v μ7 h' hle7 hap hR => ?_
            obtain ⟨rfl, L, g1, g2, rfl, hs5⟩ := hR
            obtain ⟨g3, g4⟩ := q6 L g1 g2
            refine num_eq (x := ((mid + 1 : Nat) : Int)) (by rw [wrap64 (by omega) (by omega)]; omega) ?_
            exact ⟨(mid + 1, b, limit - 1, _, ap, L, μ7), ⟨by dsimp only; omega, hb, by dsimp only; omega, by dsimp only; omega, hs5, g3, hle.trans hle7, fun R h1 h2 => hfin R (g4 R h1 h2).1 (g4 R h1 h2).2⟩, by dsimp only; omega, ⟨⟨rfl, rfl, rfl, rfl, rfl, rfl, trivial⟩, ⟨rfl, trivial⟩, rfl, rfl⟩⟩
          · refine num_eq (x := ((mid + 1 : Nat) : Int)) (by rw [wrap64 (by omega) (by omega)]; omega) ?_
            refine call_own (ih (mid + 1) b (limit - 1) d4 _ (by omega) (by omega) (by omega) hs4 hle (by omega) q5) fun v μ7 h' hle7 hap hR => ?_
            obtain ⟨rfl, L, g1, g2, rfl, hs5⟩ := hR
            obtain ⟨g3, g4⟩ := q7 L g1 g2
            exact ⟨(a, mid, limit - 1, _, ap, L, μ7), ⟨by dsimp only; omega, by dsimp only; omega, by dsimp only; omega, by dsimp only; omega, hs5, g3, hle.trans hle7, fun R h1 h2 => hfin R (g4 R h1 h2).1 (g4 R h1 h2).2⟩, by dsimp only; omega, ⟨⟨rfl, rfl, rfl, rfl, rfl, rfl, trivial⟩, ⟨rfl, trivial⟩, rfl, rfl⟩⟩
      · refine call_own (partitionF_spec H (pivot := (b - 1) - (p - a)) hle hs2 (by omega) (by omega) hb) fun v μ6 h' hle' hap hR => ?_
        obtain ⟨⟨ap, rfl⟩, e1, rfl, hs4⟩ := hR
        have hsz' := H.size hs2
        obtain rfl := e1.symm
        obtain ⟨mid, ap', d4, hx⟩ : ∃ mid ap' d4, partition lt d2 a b ((b - 1) - (p - a)) = (mid, ap', d4) := ⟨_, _, _, rfl⟩
        rw [hx] at hs4 ⊢
        obtain ⟨q1, q2, q3, q4, q5, q6, q7⟩ := round_part hO (partition_holds lt) (by omega) (by omega) (by omega) hB hx
        refine num_eq (x := ((mid - a : Nat) : Int)) (by rw [wrap64 (by omega) (by omega)]; omega) ?_
        refine num_eq (x := ((b - mid : Nat) : Int)) (by rw [wrap64 (by omega) (by omega)]; omega) ?_
        refine need_intro (by decide) ?_
        refine num_eq (x := (((b - a) / 8 : Nat) : Int)) (by rw [Int.tdiv_eq_ediv_of_nonneg (by omega), wrap64 (by omega) (by omega)]; omega) ?_
        refine ifd (fun hlt => ?_) (fun hlt => ?_)
        · refine call_own (ih a mid (limit - 1) d4 _ (by omega) (by omega) (by omega) hs4 hle (by omega) q4) fun v μ7 h' hle7 hap hR => ?_
          obtain ⟨rfl, L, g1, g2, rfl, hs5⟩ := hR
          obtain ⟨g3, g4⟩ := q6 L g1 g2
          refine num_eq (x := ((mid + 1 : Nat) : Int)) (by rw [wrap64 (by omega) (by omega)]; omega) ?_
          exact ⟨(mid + 1, b, limit - 1, _, ap, L, μ7), ⟨by dsimp only; omega, hb, by dsimp only; omega, by dsimp only; omega, hs5, g3, hle.trans hle7, fun R h1 h2 => hfin R (g4 R h1 h2).1 (g4 R h1 h2).2⟩, by dsimp only; omega, ⟨⟨rfl, rfl, rfl, rfl, rfl, rfl, trivial⟩, ⟨rfl, trivial⟩, rfl, rfl⟩⟩
        · refine num_eq (x := ((mid + 1 : Nat) : Int)) (by rw [wrap64 (by omega) (by omega)]; omega) ?_
          refine call_own (ih (mid + 1) b (limit - 1) d4 _ (by omega) (by omega) (by omega) hs4 hle (by omega) q5) fun v μ7 h' hle7 hap hR => ?_
          obtain ⟨rfl, L, g1, g2, rfl, hs5⟩ := hR
          obtain ⟨g3, g4⟩ := q7 L g1 g2
          exact ⟨(a, mid, limit - 1, _, ap, L, μ7), ⟨by dsimp only; omega, by dsimp only; omega, by dsimp only; omega, by dsimp only; omega, hs5, g3, hle.trans hle7, fun R h1 h2 => hfin R (g4 R h1 h2).1 (g4 R h1 h2).2⟩, by dsimp only; omega, ⟨⟨rfl, rfl, rfl, rfl, rfl, rfl, trivial⟩, ⟨rfl, trivial⟩, rfl, rfl⟩⟩
    · refine if_intro (fun h => nomatch h) (fun _ => ?_)
      refine ifd (fun ha0 => ?_) (fun ha0 => ?_)
      · refine num_eq (x := ((a - 1 : Nat) : Int)) (by rw [wrap64 (by omega) (by omega)]; omega) ?_
        refine call_own (H.less hle hs1 (i := a - 1) (j := p) (by omega) (by omega)) fun v μ' h' hle' hap hR => ?_
        obtain ⟨rfl, e2, rfl⟩ := hR
        obtain rfl := e2.symm
        clear hle' hap
        have hsz := H.size hs1
        refine if_intro (fun hnl => ?_) (fun hnl => ?_)
        · refine call_own (partitionEqualF_spec H (pivot := p) hle hs1 (by omega) (by omega) hb) fun v μ6 h' hle' hap hR => ?_
          obtain ⟨rfl, e1, rfl, hs4⟩ := hR
          obtain rfl := e1.symm
          obtain ⟨mid, d4, hx⟩ : ∃ mid d4, partitionEqual lt d1 a b (p) = (mid, d4) := ⟨_, _, rfl⟩
          rw [hx] at hs4 ⊢
          have q := round_eq hO (partitionEqual_holds lt) (by omega) (by omega) (by omega) (by omega) hB (by simpa using hnl) hx
          have qa := q.1
          exact ⟨(mid, b, limit - 1, false, wp, d4, _), ⟨q.2.1, hb, by dsimp only; omega, by dsimp only; omega, hs4, q.2.2.2.1, hle, fun R h1 h2 => hfin R (q.2.2.2.2 R h1 h2).1 (q.2.2.2.2 R h1 h2).2⟩, by dsimp only; omega, ⟨⟨rfl, rfl, rfl, rfl, rfl, rfl, trivial⟩, ⟨rfl, trivial⟩, rfl, rfl⟩⟩
        · refine call_own (partitionF_spec H (pivot := p) hle hs1 (by omega) (by omega) hb) fun v μ6 h' hle' hap hR => ?_
          obtain ⟨⟨ap, rfl⟩, e1, rfl, hs4⟩ := hR
          have hsz' := H.size hs1
          obtain rfl := e1.symm
          obtain ⟨mid, ap', d4, hx⟩ : ∃ mid ap' d4, partition lt d1 a b (p) = (mid, ap', d4) := ⟨_, _, _, rfl⟩
          rw [hx] at hs4 ⊢
          obtain ⟨q1, q2, q3, q4, q5, q6, q7⟩ := round_part hO (partition_holds lt) (by omega) (by omega) (by omega) hB hx
          refine num_eq (x := ((mid - a : Nat) : Int)) (by rw [wrap64 (by omega) (by omega)]; omega) ?_
          refine num_eq (x := ((b - mid : Nat) : Int)) (by rw [wrap64 (by omega) (by omega)]; omega) ?_
          refine need_intro (by decide) ?_
          refine num_eq (x := (((b - a) / 8 : Nat) : Int)) (by rw [Int.tdiv_eq_ediv_of_nonneg (by omega), wrap64 (by omega) (by omega)]; omega) ?_
          refine ifd (fun hlt => ?_) (fun hlt => ?_)
          · refine call_own (ih a mid (limit - 1) d4 _ (by omega) (by omega) (by omega) hs4 hle (by omega) q4) fun v μ7 h' hle7 hap hR => ?_
            obtain ⟨rfl, L, g1, g2, rfl, hs5⟩ := hR
            obtain ⟨g3, g4⟩ := q6 L g1 g2
            refine num_eq (x := ((mid + 1 : Nat) : Int)) (by rw [wrap64 (by omega) (by omega)]; omega) ?_
            exact ⟨(mid + 1, b, limit - 1, _, ap, L, μ7), ⟨by dsimp only; omega, hb, by dsimp only; omega, by dsimp only; omega, hs5, g3, hle.trans hle7, fun R h1 h2 => hfin R (g4 R h1 h2).1 (g4 R h1 h2).2⟩, by dsimp only; omega, ⟨⟨rfl, rfl, rfl, rfl, rfl, rfl, trivial⟩, ⟨rfl, trivial⟩, rfl, rfl⟩⟩
          · refine num_eq (x := ((mid + 1 : Nat) : Int)) (by rw [wrap64 (by omega) (by omega)]; omega) ?_
            refine call_own (ih (mid + 1) b (limit - 1) d4 _ (by omega) (by omega) (by omega) hs4 hle (by omega) q5) fun v μ7 h' hle7 hap hR => ?_
            obtain ⟨rfl, L, g1, g2, rfl, hs5⟩ := hR
            obtain ⟨g3, g4⟩ := q7 L g1 g2
            exact ⟨(a, mid, limit - 1, _, ap, L, μ7), ⟨by dsimp only; omega, by dsimp only; omega, by dsimp only; omega, by dsimp only; omega, hs5, g3, hle.trans hle7, fun R h1 h2 => hfin R (g4 R h1 h2).1 (g4 R h1 h2).2⟩, by dsimp only; omega, ⟨⟨rfl, rfl, rfl, rfl, rfl, rfl, trivial⟩, ⟨rfl, trivial⟩, rfl, rfl⟩⟩
      · refine call_own (partitionF_spec H (pivot := p) hle hs1 (by omega) (by omega) hb) fun v μ6 h' hle' hap hR => ?_
        obtain ⟨⟨ap, rfl⟩, e1, rfl, hs4⟩ := hR
        have hsz' := H.size hs1
        obtain rfl := e1.symm
        obtain ⟨mid, ap', d4, hx⟩ : ∃ mid ap' d4, partition lt d1 a b (p) = (mid, ap', d4) := ⟨_, _, _, rfl⟩
        rw [hx] at hs4 ⊢
        obtain ⟨q1, q2, q3, q4, q5, q6, q7⟩ := round_part hO (partition_holds lt) (by omega) (by omega) (by omega) hB hx
        refine num_eq (x := ((mid - a : Nat) : Int)) (by rw [wrap64 (by omega) (by omega)]; omega) ?_
        refine num_eq (x := ((b - mid : Nat) : Int)) (by rw [wrap64 (by omega) (by omega)]; omega) ?_
        refine need_intro (by decide) ?_
        refine num_eq (x := (((b - a) / 8 : Nat) : Int)) (by rw [Int.tdiv_eq_ediv_of_nonneg (by omega), wrap64 (by omega) (by omega)]; omega) ?_
        refine ifd (fun hlt => ?_) (fun hlt => ?_)
        · refine call_own (ih a mid (limit - 1) d4 _ (by omega) (by omega) (by omega) hs4 hle (by omega) q4) fun v μ7 h' hle7 hap hR => ?_
          obtain ⟨rfl, L, g1, g2, rfl, hs5⟩ := hR
          obtain ⟨g3, g4⟩ := q6 L g1 g2
          refine num_eq (x := ((mid + 1 : Nat) : Int)) (by rw [wrap64 (by omega) (by omega)]; omega) ?_
          exact ⟨(mid + 1, b, limit - 1, _, ap, L, μ7), ⟨by dsimp only; omega, hb, by dsimp only; omega, by dsimp only; omega, hs5, g3, hle.trans hle7, fun R h1 h2 => hfin R (g4 R h1 h2).1 (g4 R h1 h2).2⟩, by dsimp only; omega, ⟨⟨rfl, rfl, rfl, rfl, rfl, rfl, trivial⟩, ⟨rfl, trivial⟩, rfl, rfl⟩⟩
        · refine num_eq (x := ((mid + 1 : Nat) : Int)) (by rw [wrap64 (by omega) (by omega)]; omega) ?_
          refine call_own (ih (mid + 1) b (limit - 1) d4 _ (by omega) (by omega) (by omega) hs4 hle (by omega) q5) fun v μ7 h' hle7 hap hR => ?_
          obtain ⟨rfl, L, g1, g2, rfl, hs5⟩ := hR
          obtain ⟨g3, g4⟩ := q7 L g1 g2
          exact ⟨(a, mid, limit - 1, _, ap, L, μ7), ⟨by dsimp only; omega, by dsimp only; omega, by dsimp only; omega, by dsimp only; omega, hs5, g3, hle.trans hle7, fun R h1 h2 => hfin R (g4 R h1 h2).1 (g4 R h1 h2).2⟩, by dsimp only; omega, ⟨⟨rfl, rfl, rfl, rfl, rfl, rfl, trivial⟩, ⟨rfl, trivial⟩, rfl, rfl⟩⟩
  | true =>
    refine if_intro (fun h => nomatch h) (fun _ => ?_)
    have hs1 := hs
    refine call_own (choosePivotF_spec H hle hs1 (by omega) hb) fun v μ3 h' hle' hap hR => ?_
    obtain ⟨p, k, hp1, hp2, hk, rfl, rfl⟩ := hR
    replace hle := hle.trans hle'
    clear hle' hap
    refine ifd (fun hk2 => ?_) (fun hk2 => ?_)
    · refine call_own (reverseRangeF_spec H hle hs1 (by omega) hab hb) fun v μ4 h' hle' hap hR => ?_
      obtain ⟨rfl, e1, rfl, hs2⟩ := hR
      obtain rfl := e1.symm
      clear hle' hap
      have hsz := H.size hs1
      have p2 := reverseRange_holds d a b hab (by omega)
      generalize reverseRange d a b = d2 at *
      replace hB := hB.perm (by omega) p2
      replace hfin := fun R h1 h2 => hfin R (permIn_trans _ _ _ _ _ p2 h1) h2
      clear p2 hsz
      refine num_eq (x := ((b - 1 : Nat) : Int)) (by rw [wrap64 (by omega) (by omega)]; omega) ?_
      refine num_eq (x := ((p - a : Nat) : Int)) (by rw [wrap64 (by omega) (by omega)]; omega) ?_
      refine num_eq (x := (((b - 1) - (p - a) : Nat) : Int)) (by rw [wrap64 (by omega) (by omega)]; omega) ?_
      refine if_intro (fun _ => ?_) (fun h => nomatch h)
      refine if_intro (fun hwp => ?_) (fun hwp => ?_)
      · refine ifd (fun _ => ?_) (fun h => absurd rfl h)
        refine call_own (partialInsertionSortF_spec H hle hs2 (by omega) hb) fun v μ5 h' hle' hap hR => ?_
        obtain ⟨rfl, e1, rfl, hs3⟩ := hR
        obtain rfl := e1.symm
        clear hle' hap
        have hsz := H.size hs2
        have q := partialInsertionSort_holds (lt := lt) hO d2 a b (by omega) (by omega) hB
        refine if_intro (fun hok => ?_) (fun hok => ?_)
        · exact ret_plain ⟨rfl, _, (hfin _ q.1 (q.2 hok)).1, (hfin _ q.1 (q.2 hok)).2, rfl, hs3⟩
        · have q1 := q.1
          clear q hok
          generalize (partialInsertionSort lt d2 a b).1 = d3 at *
          replace hB := hB.perm (by omega) q1
          replace hfin := fun R h1 h2 => hfin R (permIn_trans _ _ _ _ _ q1 h1) h2
          clear q1 hsz
          refine ifd (fun ha0 => ?_) (fun ha0 => ?_)
          · refine num_eq (x := ((a - 1 : Nat) : Int)) (by rw [wrap64 (by omega) (by omega)]; omega) ?_
            refine call_own (H.less hle hs3 (i := a - 1) (j := (b - 1) - (p - a)) (by omega) (by omega)) fun v μ' h' hle' hap hR => ?_
            obtain ⟨rfl, e2, rfl⟩ := hR
            obtain rfl := e2.symm
            clear hle' hap
            have hsz := H.size hs3
            refine if_intro (fun hnl => ?_) (fun hnl => ?_)
            · refine call_own (partitionEqualF_spec H (pivot := (b - 1) - (p - a)) hle hs3 (by omega) (by omega) hb) fun v μ6 h' hle' hap hR => ?_
              obtain ⟨rfl, e1, rfl, hs4⟩ := hR
              obtain rfl := e1.symm
              obtain ⟨mid, d4, hx⟩ : ∃ mid d4, partitionEqual lt d3 a b ((b - 1) - (p - a)) = (mid, d4) := ⟨_, _, rfl⟩
              rw [hx] at hs4 ⊢
              have q := round_eq hO (partitionEqual_holds lt) (by omega) (by omega) (by omega) (by omega) hB (by simpa using hnl) hx
              have qa := q.1
              exact ⟨(mid, b, limit, true, wp, d4, _), ⟨q.2.1, hb, by dsimp only; omega, by dsimp only; omega, hs4, q.2.2.2.1, hle, fun R h1 h2 => hfin R (q.2.2.2.2 R h1 h2).1 (q.2.2.2.2 R h1 h2).2⟩, by dsimp only; omega, ⟨⟨rfl, rfl, rfl, rfl, rfl, rfl, trivial⟩, ⟨rfl, trivial⟩, rfl, rfl⟩⟩
            · refine call_own (partitionF_spec H (pivot := (b - 1) - (p - a)) hle hs3 (by omega) (by omega) hb) fun v μ6 h' hle' hap hR => ?_
              obtain ⟨⟨ap, rfl⟩, e1, rfl, hs4⟩ := hR
              have hsz' := H.size hs3
              obtain rfl := e1.symm
              obtain ⟨mid, ap', d4, hx⟩ : ∃ mid ap' d4, partition lt d3 a b ((b - 1) - (p - a)) = (mid, ap', d4) := ⟨_, _, _, rfl⟩
              rw [hx] at hs4 ⊢
              obtain ⟨q1, q2, q3, q4, q5, q6, q7⟩ := round_part hO (partition_holds lt) (by omega) (by omega) (by omega) hB hx
              refine num_eq (x := ((mid - a : Nat) : Int)) (by rw [wrap64 (by omega) (by omega)]; omega) ?_
              refine num_eq (x := ((b - mid : Nat) : Int)) (by rw [wrap64 (by omega) (by omega)]; omega) ?_
              refine need_intro (by decide) ?_
              refine num_eq (x := (((b - a) / 8 : Nat) : Int)) (by rw [Int.tdiv_eq_ediv_of_nonneg (by omega), wrap64 (by omega) (by omega)]; omega) ?_
              refine ifd (fun hlt => ?_) (fun hlt => ?_)
              · refine call_own (ih a mid (limit) d4 _ (by omega) (by omega) (by omega) hs4 hle (by omega) q4) fun v μ7 h' hle7 hap hR => ?_
                obtain ⟨rfl, L, g1, g2, rfl, hs5⟩ := hR
                obtain ⟨g3, g4⟩ := q6 L g1 g2
                refine num_eq (x := ((mid + 1 : Nat) : Int)) (by rw [wrap64 (by omega) (by omega)]; omega) ?_
                exact ⟨(mid + 1, b, limit, _, ap, L, μ7), ⟨by dsimp only; omega, hb, by dsimp only; omega, by dsimp only; omega, hs5, g3, hle.trans hle7, fun R h1 h2 => hfin R (g4 R h1 h2).1 (g4 R h1 h2).2⟩, by dsimp only; omega, ⟨⟨rfl, rfl, rfl, rfl, rfl, rfl, trivial⟩, ⟨rfl, trivial⟩, rfl, rfl⟩⟩
              · refine num_eq (x := ((mid + 1 : Nat) : Int)) (by rw [wrap64 (by omega) (by omega)]; omega) ?_
                refine call_own (ih (mid + 1) b (limit) d4 _ (by omega) (by omega) (by omega) hs4 hle (by omega) q5) fun v μ7 h' hle7 hap hR => ?_
                obtain ⟨rfl, L, g1, g2, rfl, hs5⟩ := hR
                obtain ⟨g3, g4⟩ := q7 L g1 g2
                exact ⟨(a, mid, limit, _, ap, L, μ7), ⟨by dsimp only; omega, by dsimp only; omega, by dsimp only; omega, by dsimp only; omega, hs5, g3, hle.trans hle7, fun R h1 h2 => hfin R (g4 R h1 h2).1 (g4 R h1 h2).2⟩, by dsimp only; omega, ⟨⟨rfl, rfl, rfl, rfl, rfl, rfl, trivial⟩, ⟨rfl, trivial⟩, rfl, rfl⟩⟩
          · refine call_own (partitionF_spec H (pivot := (b - 1) - (p - a)) hle hs3 (by omega) (by omega) hb) fun v μ6 h' hle' hap hR => ?_
            obtain ⟨⟨ap, rfl⟩, e1, rfl, hs4⟩ := hR
            have hsz' := H.size hs3
            obtain rfl := e1.symm
            obtain ⟨mid, ap', d4, hx⟩ : ∃ mid ap' d4, partition lt d3 a b ((b - 1) - (p - a)) = (mid, ap', d4) := ⟨_, _, _, rfl⟩
            rw [hx] at hs4 ⊢
            obtain ⟨q1, q2, q3, q4, q5, q6, q7⟩ := round_part hO (partition_holds lt) (by omega) (by omega) (by omega) hB hx
            refine num_eq (x := ((mid - a : Nat) : Int)) (by rw [wrap64 (by omega) (by omega)]; omega) ?_
            refine num_eq (x := ((b - mid : Nat) : Int)) (by rw [wrap64 (by omega) (by omega)]; omega) ?_
            refine need_intro (by decide) ?_
            refine num_eq (x := (((b - a) / 8 : Nat) : Int)) (by rw [Int.tdiv_eq_ediv_of_nonneg (by omega), wrap64 (by omega) (by omega)]; omega) ?_
            refine ifd (fun hlt => ?_) (fun hlt => ?_)
            · refine call_own (ih a mid (limit) d4 _ (by omega) (by omega) (by omega) hs4 hle (by omega) q4) fun v μ7 h' hle7 hap hR => ?_
              obtain ⟨rfl, L, g1, g2, rfl, hs5⟩ := hR
              obtain ⟨g3, g4⟩ := q6 L g1 g2
              refine num_eq (x := ((mid + 1 : Nat) : Int)) (by rw [wrap64 (by omega) (by omega)]; omega) ?_
              exact ⟨(mid + 1, b, limit, _, ap, L, μ7), ⟨by dsimp only; omega, hb, by dsimp only; omega, by dsimp only; omega, hs5, g3, hle.trans hle7, fun R h1 h2 => hfin R (g4 R h1 h2).1 (g4 R h1 h2).2⟩, by dsimp only; omega, ⟨⟨rfl, rfl, rfl, rfl, rfl, rfl, trivial⟩, ⟨rfl, trivial⟩, rfl, rfl⟩⟩
            · refine num_eq (x := ((mid + 1 : Nat) : Int)) (by rw [wrap64 (by omega) (by omega)]; omega) ?_
              refine call_own (ih (mid + 1) b (limit) d4 _ (by omega) (by omega) (by omega) hs4 hle (by omega) q5) fun v μ7 h' hle7 hap hR => ?_
              obtain ⟨rfl, L, g1, g2, rfl, hs5⟩ := hR
              obtain ⟨g3, g4⟩ := q7 L g1 g2
              exact ⟨(a, mid, limit, _, ap, L, μ7), ⟨by dsimp only; omega, by dsimp only; omega, by dsimp only; omega, by dsimp only; omega, hs5, g3, hle.trans hle7, fun R h1 h2 => hfin R (g4 R h1 h2).1 (g4 R h1 h2).2⟩, by dsimp only; omega, ⟨⟨rfl, rfl, rfl, rfl, rfl, rfl, trivial⟩, ⟨rfl, trivial⟩, rfl, rfl⟩⟩
      · refine ifd (fun ha0 => ?_) (fun ha0 => ?_)
        · refine num_eq (x := ((a - 1 : Nat) : Int)) (by rw [wrap64 (by omega) (by omega)]; omega) ?_
          refine call_own (H.less hle hs2 (i := a - 1) (j := (b - 1) - (p - a)) (by omega) (by omega)) fun v μ' h' hle' hap hR => ?_
          obtain ⟨rfl, e2, rfl⟩ := hR
          obtain rfl := e2.symm
          clear hle' hap
          have hsz := H.size hs2
          refine if_intro (fun hnl => ?_) (fun hnl => ?_)
          · refine call_own (partitionEqualF_spec H (pivot := (b - 1) - (p - a)) hle hs2 (by omega) (by omega) hb) fun v μ6 h' hle' hap hR => ?_
            obtain ⟨rfl, e1, rfl, hs4⟩ := hR
            obtain rfl := e1.symm
            obtain ⟨mid, d4, hx⟩ : ∃ mid d4, partitionEqual lt d2 a b ((b - 1) - (p - a)) = (mid, d4) := ⟨_, _, rfl⟩
            rw [hx] at hs4 ⊢
            have q := round_eq hO (partitionEqual_holds lt) (by omega) (by omega) (by omega) (by omega) hB (by simpa using hnl) hx
            have qa := q.1
            exact ⟨(mid, b, limit, true, wp, d4, _), ⟨q.2.1, hb, by dsimp only; omega, by dsimp only; omega, hs4, q.2.2.2.1, hle, fun R h1 h2 => hfin R (q.2.2.2.2 R h1 h2).1 (q.2.2.2.2 R h1 h2).2⟩, by dsimp only; omega, ⟨⟨rfl, rfl, rfl, rfl, rfl, rfl, trivial⟩, ⟨rfl, trivial⟩, rfl, rfl⟩⟩
          · refine call_own (partitionF_spec H (pivot := (b - 1) - (p - a)) hle hs2 (by omega) (by omega) hb) fun v μ6 h' hle' hap hR => ?_
            obtain ⟨⟨ap, rfl⟩, e1, rfl, hs4⟩ := hR
            have hsz' := H.size hs2
            obtain rfl := e1.symm
            obtain ⟨mid, ap', d4, hx⟩ : ∃ mid ap' d4, partition lt d2 a b ((b - 1) - (p - a)) = (mid, ap', d4) := ⟨_, _, _, rfl⟩
            rw [hx] at hs4 ⊢
            obtain ⟨q1, q2, q3, q4, q5, q6, q7⟩ := round_part hO (partition_holds lt) (by omega) (by omega) (by omega) hB hx
            refine num_eq (x := ((mid - a : Nat) : Int)) (by rw [wrap64 (by omega) (by omega)]; omega) ?_
            refine num_eq (x := ((b - mid : Nat) : Int)) (by rw [wrap64 (by omega) (by omega)]; omega) ?_
            refine need_intro (by decide) ?_
            refine num_eq (x := (((b - a) / 8 : Nat) : Int)) (by rw [Int.tdiv_eq_ediv_of_nonneg (by omega), wrap64 (by omega) (by omega)]; omega) ?_
            refine ifd (fun hlt => ?_) (fun hlt => ?_)
            · refine call_own (ih a mid (limit) d4 _ (by omega) (by omega) (by omega) hs4 hle (by omega) q4) fun v μ7 h' hle7 hap hR => ?_
              obtain ⟨rfl, L, g1, g2, rfl, hs5⟩ := hR
              obtain ⟨g3, g4⟩ := q6 L g1 g2
              refine num_eq (x := ((mid + 1 : Nat) : Int)) (by rw [wrap64 (by omega) (by omega)]; omega) ?_
              exact ⟨(mid + 1, b, limit, _, ap, L, μ7), ⟨by dsimp only; omega, hb, by dsimp only; omega, by dsimp only; omega, hs5, g3, hle.trans hle7, fun R h1 h2 => hfin R (g4 R h1 h2).1 (g4 R h1 h2).2⟩, by dsimp only; omega, ⟨⟨rfl, rfl, rfl, rfl, rfl, rfl, trivial⟩, ⟨rfl, trivial⟩, rfl, rfl⟩⟩
            · refine num_eq (x := ((mid + 1 : Nat) : Int)) (by rw [wrap64 (by omega) (by omega)]; omega) ?_
              refine call_own (ih (mid + 1) b (limit) d4 _ (by omega) (by omega) (by omega) hs4 hle (by omega) q5) fun v μ7 h' hle7 hap hR => ?_
              obtain ⟨rfl, L, g1, g2, rfl, hs5⟩ := hR
              obtain ⟨g3, g4⟩ := q7 L g1 g2
              exact ⟨(a, mid, limit, _, ap, L, μ7), ⟨by dsimp only; omega, by dsimp only; omega, by dsimp only; omega, by dsimp only; omega, hs5, g3, hle.trans hle7, fun R h1 h2 => hfin R (g4 R h1 h2).1 (g4 R h1 h2).2⟩, by dsimp only; omega, ⟨⟨rfl, rfl, rfl, rfl, rfl, rfl, trivial⟩, ⟨rfl, trivial⟩, rfl, rfl⟩⟩
        · refine call_own (partitionF_spec H (pivot := (b - 1) - (p - a)) hle hs2 (by omega) (by omega) hb) fun v μ6 h' hle' hap hR => ?_
          obtain ⟨⟨ap, rfl⟩, e1, rfl, hs4⟩ := hR
          have hsz' := H.size hs2
          obtain rfl := e1.symm
          obtain ⟨mid, ap', d4, hx⟩ : ∃ mid ap' d4, partition lt d2 a b ((b - 1) - (p - a)) = (mid, ap', d4) := ⟨_, _, _, rfl⟩
          rw [hx] at hs4 ⊢
          obtain ⟨q1, q2, q3, q4, q5, q6, q7⟩ := round_part hO (partition_holds lt) (by omega) (by omega) (by omega) hB hx
          refine num_eq (x := ((mid - a : Nat) : Int)) (by rw [wrap64 (by omega) (by omega)]; omega) ?_
          refine num_eq (x := ((b - mid : Nat) : Int)) (by rw [wrap64 (by omega) (by omega)]; omega) ?_
          refine need_intro (by decide) ?_
          refine num_eq (x := (((b - a) / 8 : Nat) : Int)) (by rw [Int.tdiv_eq_ediv_of_nonneg (by omega), wrap64 (by omega) (by omega)]; omega) ?_
          refine ifd (fun hlt => ?_) (fun hlt => ?_)
          · refine call_own (ih a mid (limit) d4 _ (by omega) (by omega) (by omega) hs4 hle (by omega) q4) fun v μ7 h' hle7 hap hR => ?_
            obtain ⟨rfl, L, g1, g2, rfl, hs5⟩ := hR
            obtain ⟨g3, g4⟩ := q6 L g1 g2
            refine num_eq (x := ((mid + 1 : Nat) : Int)) (by rw [wrap64 (by omega) (by omega)]; omega) ?_
            exact ⟨(mid + 1, b, limit, _, ap, L, μ7), ⟨by dsimp only; omega, hb, by dsimp only; omega, by dsimp only; omega, hs5, g3, hle.trans hle7, fun R h1 h2 => hfin R (g4 R h1 h2).1 (g4 R h1 h2).2⟩, by dsimp only; omega, ⟨⟨rfl, rfl, rfl, rfl, rfl, rfl, trivial⟩, ⟨rfl, trivial⟩, rfl, rfl⟩⟩
          · refine num_eq (x := ((mid + 1 : Nat) : Int)) (by rw [wrap64 (by omega) (by omega)]; omega) ?_
            refine call_own (ih (mid + 1) b (limit) d4 _ (by omega) (by omega) (by omega) hs4 hle (by omega) q5) fun v μ7 h' hle7 hap hR => ?_
            obtain ⟨rfl, L, g1, g2, rfl, hs5⟩ := hR
            obtain ⟨g3, g4⟩ := q7 L g1 g2
            exact ⟨(a, mid, limit, _, ap, L, μ7), ⟨by dsimp only; omega, by dsimp only; omega, by dsimp only; omega, by dsimp only; omega, hs5, g3, hle.trans hle7, fun R h1 h2 => hfin R (g4 R h1 h2).1 (g4 R h1 h2).2⟩, by dsimp only; omega, ⟨⟨rfl, rfl, rfl, rfl, rfl, rfl, trivial⟩, ⟨rfl, trivial⟩, rfl, rfl⟩⟩
    · refine if_intro (fun _ => ?_) (fun h => nomatch h)
      refine if_intro (fun hwp => ?_) (fun hwp => ?_)
      · refine ifd (fun hk1 => ?_) (fun hk1 => ?_)
        · refine call_own (partialInsertionSortF_spec H hle hs1 (by omega) hb) fun v μ5 h' hle' hap hR => ?_
          obtain ⟨rfl, e1, rfl, hs3⟩ := hR
          obtain rfl := e1.symm
          clear hle' hap
          have hsz := H.size hs1
          have q := partialInsertionSort_holds (lt := lt) hO d a b (by omega) (by omega) hB
          refine if_intro (fun hok => ?_) (fun hok => ?_)
          · exact ret_plain ⟨rfl, _, (hfin _ q.1 (q.2 hok)).1, (hfin _ q.1 (q.2 hok)).2, rfl, hs3⟩
          · have q1 := q.1
            clear q hok
            generalize (partialInsertionSort lt d a b).1 = d3 at *
            replace hB := hB.perm (by omega) q1
            replace hfin := fun R h1 h2 => hfin R (permIn_trans _ _ _ _ _ q1 h1) h2
            clear q1 hsz
            refine ifd (fun ha0 => ?_) (fun ha0 => ?_)
            · refine num_eq (x := ((a - 1 : Nat) : Int)) (by rw [wrap64 (by omega) (by omega)]; omega) ?_
              refine call_own (H.less hle hs3 (i := a - 1) (j := p) (by omega) (by omega)) fun v μ' h' hle' hap hR => ?_
              obtain ⟨rfl, e2, rfl⟩ := hR
              obtain rfl := e2.symm
              clear hle' hap
              have hsz := H.size hs3
              refine if_intro (fun hnl => ?_) (fun hnl => ?_)
              · refine call_own (partitionEqualF_spec H (pivot := p) hle hs3 (by omega) (by omega) hb) fun v μ6 h' hle' hap hR => ?_
                obtain ⟨rfl, e1, rfl, hs4⟩ := hR
                obtain rfl := e1.symm
                obtain ⟨mid, d4, hx⟩ : ∃ mid d4, partitionEqual lt d3 a b (p) = (mid, d4) := ⟨_, _, rfl⟩
                rw [hx] at hs4 ⊢
                have q := round_eq hO (partitionEqual_holds lt) (by omega) (by omega) (by omega) (by omega) hB (by simpa using hnl) hx
                have qa := q.1
                exact ⟨(mid, b, limit, true, wp, d4, _), ⟨q.2.1, hb, by dsimp only; omega, by dsimp only; omega, hs4, q.2.2.2.1, hle, fun R h1 h2 => hfin R (q.2.2.2.2 R h1 h2).1 (q.2.2.2.2 R h1 h2).2⟩, by dsimp only; omega, ⟨⟨rfl, rfl, rfl, rfl, rfl, rfl, trivial⟩, ⟨rfl, trivial⟩, rfl, rfl⟩⟩
              · refine call_own (partitionF_spec H (pivot := p) hle hs3 (by omega) (by omega) hb) fun v μ6 h' hle' hap hR => ?_
                obtain ⟨⟨ap, rfl⟩, e1, rfl, hs4⟩ := hR
                have hsz' := H.size hs3
                obtain rfl := e1.symm
                obtain ⟨mid, ap', d4, hx⟩ : ∃ mid ap' d4, partition lt d3 a b (p) = (mid, ap', d4) := ⟨_, _, _, rfl⟩
                rw [hx] at hs4 ⊢
                obtain ⟨q1, q2, q3, q4, q5, q6, q7⟩ := round_part hO (partition_holds lt) (by omega) (by omega) (by omega) hB hx
                refine num_eq (x := ((mid - a : Nat) : Int)) (by rw [wrap64 (by omega) (by omega)]; omega) ?_
                refine num_eq (x := ((b - mid : Nat) : Int)) (by rw [wrap64 (by omega) (by omega)]; omega) ?_
                refine need_intro (by decide) ?_
                refine num_eq (x := (((b - a) / 8 : Nat) : Int)) (by rw [Int.tdiv_eq_ediv_of_nonneg (by omega), wrap64 (by omega) (by omega)]; omega) ?_
                refine ifd (fun hlt => ?_) (fun hlt => ?_)
                · refine call_own (ih a mid (limit) d4 _ (by omega) (by omega) (by omega) hs4 hle (by omega) q4) fun v μ7 h' hle7 hap hR => ?_
                  obtain ⟨rfl, L, g1, g2, rfl, hs5⟩ := hR
                  obtain ⟨g3, g4⟩ := q6 L g1 g2
                  refine num_eq (x := ((mid + 1 : Nat) : Int)) (by rw [wrap64 (by omega) (by omega)]; omega) ?_
                  exact ⟨(mid + 1, b, limit, _, ap, L, μ7), ⟨by dsimp only; omega, hb, by dsimp only; omega, by dsimp only; omega, hs5, g3, hle.trans hle7, fun R h1 h2 => hfin R (g4 R h1 h2).1 (g4 R h1 h2).2⟩, by dsimp only; omega, ⟨⟨rfl, rfl, rfl, rfl, rfl, rfl, trivial⟩, ⟨rfl, trivial⟩, rfl, rfl⟩⟩
                · refine num_eq (x := ((mid + 1 : Nat) : Int)) (by rw [wrap64 (by omega) (by omega)]; omega) ?_
                  refine call_own (ih (mid + 1) b (limit) d4 _ (by omega) (by omega) (by omega) hs4 hle (by omega) q5) fun v μ7 h' hle7 hap hR => ?_
                  obtain ⟨rfl, L, g1, g2, rfl, hs5⟩ := hR
                  obtain ⟨g3, g4⟩ := q7 L g1 g2
                  exact ⟨(a, mid, limit, _, ap, L, μ7), ⟨by dsimp only; omega, by dsimp only; omega, by dsimp only; omega, by dsimp only; omega, hs5, g3, hle.trans hle7, fun R h1 h2 => hfin R (g4 R h1 h2).1 (g4 R h1 h2).2⟩, by dsimp only; omega, ⟨⟨rfl, rfl, rfl, rfl, rfl, rfl, trivial⟩, ⟨rfl, trivial⟩, rfl, rfl⟩⟩
            · refine call_own (partitionF_spec H (pivot := p) hle hs3 (by omega) (by omega) hb) fun v μ6 h' hle' hap hR => ?_
              obtain ⟨⟨ap, rfl⟩, e1, rfl, hs4⟩ := hR
              have hsz' := H.size hs3
              obtain rfl := e1.symm
              obtain ⟨mid, ap', d4, hx⟩ : ∃ mid ap' d4, partition lt d3 a b (p) = (mid, ap', d4) := ⟨_, _, _, rfl⟩
              rw [hx] at hs4 ⊢
              obtain ⟨q1, q2, q3, q4, q5, q6, q7⟩ := round_part hO (partition_holds lt) (by omega) (by omega) (by omega) hB hx
              refine num_eq (x := ((mid - a : Nat) : Int)) (by rw [wrap64 (by omega) (by omega)]; omega) ?_
              refine num_eq (x := ((b - mid : Nat) : Int)) (by rw [wrap64 (by omega) (by omega)]; omega) ?_
              refine need_intro (by decide) ?_
              refine num_eq (x := (((b - a) / 8 : Nat) : Int)) (by rw [Int.tdiv_eq_ediv_of_nonneg (by omega), wrap64 (by omega) (by omega)]; omega) ?_
              refine ifd (fun hlt => ?_) (fun hlt => ?_)
              · refine call_own (ih a mid (limit) d4 _ (by omega) (by omega) (by omega) hs4 hle (by omega) q4) fun v μ7 h' hle7 hap hR => ?_
                obtain ⟨rfl, L, g1, g2, rfl, hs5⟩ := hR
                obtain ⟨g3, g4⟩ := q6 L g1 g2
                refine num_eq (x := ((mid + 1 : Nat) : Int)) (by rw [wrap64 (by omega) (by omega)]; omega) ?_
                exact ⟨(mid + 1, b, limit, _, ap, L, μ7), ⟨by dsimp only; omega, hb, by dsimp only; omega, by dsimp only; omega, hs5, g3, hle.trans hle7, fun R h1 h2 => hfin R (g4 R h1 h2).1 (g4 R h1 h2).2⟩, by dsimp only; omega, ⟨⟨rfl, rfl, rfl, rfl, rfl, rfl, trivial⟩, ⟨rfl, trivial⟩, rfl, rfl⟩⟩
              · refine num_eq (x := ((mid + 1 : Nat) : Int)) (by rw [wrap64 (by omega) (by omega)]; omega) ?_
                refine call_own (ih (mid + 1) b (limit) d4 _ (by omega) (by omega) (by omega) hs4 hle (by omega) q5) fun v μ7 h' hle7 hap hR => ?_
                obtain ⟨rfl, L, g1, g2, rfl, hs5⟩ := hR
                obtain ⟨g3, g4⟩ := q7 L g1 g2
                exact ⟨(a, mid, limit, _, ap, L, μ7), ⟨by dsimp only; omega, by dsimp only; omega, by dsimp only; omega, by dsimp only; omega, hs5, g3, hle.trans hle7, fun R h1 h2 => hfin R (g4 R h1 h2).1 (g4 R h1 h2).2⟩, by dsimp only; omega, ⟨⟨rfl, rfl, rfl, rfl, rfl, rfl, trivial⟩, ⟨rfl, trivial⟩, rfl, rfl⟩⟩
        · refine ifd (fun ha0 => ?_) (fun ha0 => ?_)
          · refine num_eq (x := ((a - 1 : Nat) : Int)) (by rw [wrap64 (by omega) (by omega)]; omega) ?_
            refine call_own (H.less hle hs1 (i := a - 1) (j := p) (by omega) (by omega)) fun v μ' h' hle' hap hR => ?_
            obtain ⟨rfl, e2, rfl⟩ := hR
            obtain rfl := e2.symm
            clear hle' hap
            have hsz := H.size hs1
            refine if_intro (fun hnl => ?_) (fun hnl => ?_)
            · refine call_own (partitionEqualF_spec H (pivot := p) hle hs1 (by omega) (by omega) hb) fun v μ6 h' hle' hap hR => ?_
              obtain ⟨rfl, e1, rfl, hs4⟩ := hR
              obtain rfl := e1.symm
              obtain ⟨mid, d4, hx⟩ : ∃ mid d4, partitionEqual lt d a b (p) = (mid, d4) := ⟨_, _, rfl⟩
              rw [hx] at hs4 ⊢
              have q := round_eq hO (partitionEqual_holds lt) (by omega) (by omega) (by omega) (by omega) hB (by simpa using hnl) hx
              have qa := q.1
              exact ⟨(mid, b, limit, true, wp, d4, _), ⟨q.2.1, hb, by dsimp only; omega, by dsimp only; omega, hs4, q.2.2.2.1, hle, fun R h1 h2 => hfin R (q.2.2.2.2 R h1 h2).1 (q.2.2.2.2 R h1 h2).2⟩, by dsimp only; omega, ⟨⟨rfl, rfl, rfl, rfl, rfl, rfl, trivial⟩, ⟨rfl, trivial⟩, rfl, rfl⟩⟩
            · refine call_own (partitionF_spec H (pivot := p) hle hs1 (by omega) (by omega) hb) fun v μ6 h' hle' hap hR => ?_
              obtain ⟨⟨ap, rfl⟩, e1, rfl, hs4⟩ := hR
              have hsz' := H.size hs1
              obtain rfl := e1.symm
              obtain ⟨mid, ap', d4, hx⟩ : ∃ mid ap' d4, partition lt d a b (p) = (mid, ap', d4) := ⟨_, _, _, rfl⟩
              rw [hx] at hs4 ⊢
              obtain ⟨q1, q2, q3, q4, q5, q6, q7⟩ := round_part hO (partition_holds lt) (by omega) (by omega) (by omega) hB hx
              refine num_eq (x := ((mid - a : Nat) : Int)) (by rw [wrap64 (by omega) (by omega)]; omega) ?_
              refine num_eq (x := ((b - mid : Nat) : Int)) (by rw [wrap64 (by omega) (by omega)]; omega) ?_
              refine need_intro (by decide) ?_
              refine num_eq (x := (((b - a) / 8 : Nat) : Int)) (by rw [Int.tdiv_eq_ediv_of_nonneg (by omega), wrap64 (by omega) (by omega)]; omega) ?_
              refine ifd (fun hlt => ?_) (fun hlt => ?_)
              · refine call_own (ih a mid (limit) d4 _ (by omega) (by omega) (by omega) hs4 hle (by omega) q4) fun v μ7 h' hle7 hap hR => ?_
                obtain ⟨rfl, L, g1, g2, rfl, hs5⟩ := hR
                obtain ⟨g3, g4⟩ := q6 L g1 g2
                refine num_eq (x := ((mid + 1 : Nat) : Int)) (by rw [wrap64 (by omega) (by omega)]; omega) ?_
                exact ⟨(mid + 1, b, limit, _, ap, L, μ7), ⟨by dsimp only; omega, hb, by dsimp only; omega, by dsimp only; omega, hs5, g3, hle.trans hle7, fun R h1 h2 => hfin R (g4 R h1 h2).1 (g4 R h1 h2).2⟩, by dsimp only; omega, ⟨⟨rfl, rfl, rfl, rfl, rfl, rfl, trivial⟩, ⟨rfl, trivial⟩, rfl, rfl⟩⟩
              · refine num_eq (x := ((mid + 1 : Nat) : Int)) (by rw [wrap64 (by omega) (by omega)]; omega) ?_
                refine call_own (ih (mid + 1) b (limit) d4 _ (by omega) (by omega) (by omega) hs4 hle (by omega) q5) fun v μ7 h' hle7 hap hR => ?_
                obtain ⟨rfl, L, g1, g2, rfl, hs5⟩ := hR
                obtain ⟨g3, g4⟩ := q7 L g1 g2
                exact ⟨(a, mid, limit, _, ap, L, μ7), ⟨by dsimp only; omega, by dsimp only; omega, by dsimp only; omega, by dsimp only; omega, hs5, g3, hle.trans hle7, fun R h1 h2 => hfin R (g4 R h1 h2).1 (g4 R h1 h2).2⟩, by dsimp only; omega, ⟨⟨rfl, rfl, rfl, rfl, rfl, rfl, trivial⟩, ⟨rfl, trivial⟩, rfl, rfl⟩⟩
          · refine call_own (partitionF_spec H (pivot := p) hle hs1 (by omega) (by omega) hb) fun v μ6 h' hle' hap hR => ?_
            obtain ⟨⟨ap, rfl⟩, e1, rfl, hs4⟩ := hR
            have hsz' := H.size hs1
            obtain rfl := e1.symm
            obtain ⟨mid, ap', d4, hx⟩ : ∃ mid ap' d4, partition lt d a b (p) = (mid, ap', d4) := ⟨_, _, _, rfl⟩
            rw [hx] at hs4 ⊢
            obtain ⟨q1, q2, q3, q4, q5, q6, q7⟩ := round_part hO (partition_holds lt) (by omega) (by omega) (by omega) hB hx
            refine num_eq (x := ((mid - a : Nat) : Int)) (by rw [wrap64 (by omega) (by omega)]; omega) ?_
            refine num_eq (x := ((b - mid : Nat) : Int)) (by rw [wrap64 (by omega) (by omega)]; omega) ?_
            refine need_intro (by decide) ?_
            refine num_eq (x := (((b - a) / 8 : Nat) : Int)) (by rw [Int.tdiv_eq_ediv_of_nonneg (by omega), wrap64 (by omega) (by omega)]; omega) ?_
            refine ifd (fun hlt => ?_) (fun hlt => ?_)
            · refine call_own (ih a mid (limit) d4 _ (by omega) (by omega) (by omega) hs4 hle (by omega) q4) fun v μ7 h' hle7 hap hR => ?_
              obtain ⟨rfl, L, g1, g2, rfl, hs5⟩ := hR
              obtain ⟨g3, g4⟩ := q6 L g1 g2
              refine num_eq (x := ((mid + 1 : Nat) : Int)) (by rw [wrap64 (by omega) (by omega)]; omega) ?_
              exact ⟨(mid + 1, b, limit, _, ap, L, μ7), ⟨by dsimp only; omega, hb, by dsimp only; omega, by dsimp only; omega, hs5, g3, hle.trans hle7, fun R h1 h2 => hfin R (g4 R h1 h2).1 (g4 R h1 h2).2⟩, by dsimp only; omega, ⟨⟨rfl, rfl, rfl, rfl, rfl, rfl, trivial⟩, ⟨rfl, trivial⟩, rfl, rfl⟩⟩
            · refine num_eq (x := ((mid + 1 : Nat) : Int)) (by rw [wrap64 (by omega) (by omega)]; omega) ?_
              refine call_own (ih (mid + 1) b (limit) d4 _ (by omega) (by omega) (by omega) hs4 hle (by omega) q5) fun v μ7 h' hle7 hap hR => ?_
              obtain ⟨rfl, L, g1, g2, rfl, hs5⟩ := hR
              obtain ⟨g3, g4⟩ := q7 L g1 g2
              exact ⟨(a, mid, limit, _, ap, L, μ7), ⟨by dsimp only; omega, by dsimp only; omega, by dsimp only; omega, by dsimp only; omega, hs5, g3, hle.trans hle7, fun R h1 h2 => hfin R (g4 R h1 h2).1 (g4 R h1 h2).2⟩, by dsimp only; omega, ⟨⟨rfl, rfl, rfl, rfl, rfl, rfl, trivial⟩, ⟨rfl, trivial⟩, rfl, rfl⟩⟩
      · refine ifd (fun ha0 => ?_) (fun ha0 => ?_)
        · refine num_eq (x := ((a - 1 : Nat) : Int)) (by rw [wrap64 (by omega) (by omega)]; omega) ?_
          refine call_own (H.less hle hs1 (i := a - 1) (j := p) (by omega) (by omega)) fun v μ' h' hle' hap hR => ?_
          obtain ⟨rfl, e2, rfl⟩ := hR
          obtain rfl := e2.symm
          clear hle' hap
          have hsz := H.size hs1
          refine if_intro (fun hnl => ?_) (fun hnl => ?_)
          · refine call_own (partitionEqualF_spec H (pivot := p) hle hs1 (by omega) (by omega) hb) fun v μ6 h' hle' hap hR => ?_
            obtain ⟨rfl, e1, rfl, hs4⟩ := hR
            obtain rfl := e1.symm
            obtain ⟨mid, d4, hx⟩ : ∃ mid d4, partitionEqual lt d a b (p) = (mid, d4) := ⟨_, _, rfl⟩
            rw [hx] at hs4 ⊢
            have q := round_eq hO (partitionEqual_holds lt) (by omega) (by omega) (by omega) (by omega) hB (by simpa using hnl) hx
            have qa := q.1
            exact ⟨(mid, b, limit, true, wp, d4, _), ⟨q.2.1, hb, by dsimp only; omega, by dsimp only; omega, hs4, q.2.2.2.1, hle, fun R h1 h2 => hfin R (q.2.2.2.2 R h1 h2).1 (q.2.2.2.2 R h1 h2).2⟩, by dsimp only; omega, ⟨⟨rfl, rfl, rfl, rfl, rfl, rfl, trivial⟩, ⟨rfl, trivial⟩, rfl, rfl⟩⟩
          · refine call_own (partitionF_spec H (pivot := p) hle hs1 (by omega) (by omega) hb) fun v μ6 h' hle' hap hR => ?_
            obtain ⟨⟨ap, rfl⟩, e1, rfl, hs4⟩ := hR
            have hsz' := H.size hs1
            obtain rfl := e1.symm
            obtain ⟨mid, ap', d4, hx⟩ : ∃ mid ap' d4, partition lt d a b (p) = (mid, ap', d4) := ⟨_, _, _, rfl⟩
            rw [hx] at hs4 ⊢
            obtain ⟨q1, q2, q3, q4, q5, q6, q7⟩ := round_part hO (partition_holds lt) (by omega) (by omega) (by omega) hB hx
            refine num_eq (x := ((mid - a : Nat) : Int)) (by rw [wrap64 (by omega) (by omega)]; omega) ?_
            refine num_eq (x := ((b - mid : Nat) : Int)) (by rw [wrap64 (by omega) (by omega)]; omega) ?_
            refine need_intro (by decide) ?_
            refine num_eq (x := (((b - a) / 8 : Nat) : Int)) (by rw [Int.tdiv_eq_ediv_of_nonneg (by omega), wrap64 (by omega) (by omega)]; omega) ?_
            refine ifd (fun hlt => ?_) (fun hlt => ?_)
            · refine call_own (ih a mid (limit) d4 _ (by omega) (by omega) (by omega) hs4 hle (by omega) q4) fun v μ7 h' hle7 hap hR => ?_
              obtain ⟨rfl, L, g1, g2, rfl, hs5⟩ := hR
              obtain ⟨g3, g4⟩ := q6 L g1 g2
              refine num_eq (x := ((mid + 1 : Nat) : Int)) (by rw [wrap64 (by omega) (by omega)]; omega) ?_
              exact ⟨(mid + 1, b, limit, _, ap, L, μ7), ⟨by dsimp only; omega, hb, by dsimp only; omega, by dsimp only; omega, hs5, g3, hle.trans hle7, fun R h1 h2 => hfin R (g4 R h1 h2).1 (g4 R h1 h2).2⟩, by dsimp only; omega, ⟨⟨rfl, rfl, rfl, rfl, rfl, rfl, trivial⟩, ⟨rfl, trivial⟩, rfl, rfl⟩⟩
            · refine num_eq (x := ((mid + 1 : Nat) : Int)) (by rw [wrap64 (by omega) (by omega)]; omega) ?_
              refine call_own (ih (mid + 1) b (limit) d4 _ (by omega) (by omega) (by omega) hs4 hle (by omega) q5) fun v μ7 h' hle7 hap hR => ?_
              obtain ⟨rfl, L, g1, g2, rfl, hs5⟩ := hR
              obtain ⟨g3, g4⟩ := q7 L g1 g2
              exact ⟨(a, mid, limit, _, ap, L, μ7), ⟨by dsimp only; omega, by dsimp only; omega, by dsimp only; omega, by dsimp only; omega, hs5, g3, hle.trans hle7, fun R h1 h2 => hfin R (g4 R h1 h2).1 (g4 R h1 h2).2⟩, by dsimp only; omega, ⟨⟨rfl, rfl, rfl, rfl, rfl, rfl, trivial⟩, ⟨rfl, trivial⟩, rfl, rfl⟩⟩
        · refine call_own (partitionF_spec H (pivot := p) hle hs1 (by omega) (by omega) hb) fun v μ6 h' hle' hap hR => ?_
          obtain ⟨⟨ap, rfl⟩, e1, rfl, hs4⟩ := hR
          have hsz' := H.size hs1
          obtain rfl := e1.symm
          obtain ⟨mid, ap', d4, hx⟩ : ∃ mid ap' d4, partition lt d a b (p) = (mid, ap', d4) := ⟨_, _, _, rfl⟩
          rw [hx] at hs4 ⊢
          obtain ⟨q1, q2, q3, q4, q5, q6, q7⟩ := round_part hO (partition_holds lt) (by omega) (by omega) (by omega) hB hx
          refine num_eq (x := ((mid - a : Nat) : Int)) (by rw [wrap64 (by omega) (by omega)]; omega) ?_
          refine num_eq (x := ((b - mid : Nat) : Int)) (by rw [wrap64 (by omega) (by omega)]; omega) ?_
          refine need_intro (by decide) ?_
          refine num_eq (x := (((b - a) / 8 : Nat) : Int)) (by rw [Int.tdiv_eq_ediv_of_nonneg (by omega), wrap64 (by omega) (by omega)]; omega) ?_
          refine ifd (fun hlt => ?_) (fun hlt => ?_)
          · refine call_own (ih a mid (limit) d4 _ (by omega) (by omega) (by omega) hs4 hle (by omega) q4) fun v μ7 h' hle7 hap hR => ?_
            obtain ⟨rfl, L, g1, g2, rfl, hs5⟩ := hR
            obtain ⟨g3, g4⟩ := q6 L g1 g2
            refine num_eq (x := ((mid + 1 : Nat) : Int)) (by rw [wrap64 (by omega) (by omega)]; omega) ?_
            exact ⟨(mid + 1, b, limit, _, ap, L, μ7), ⟨by dsimp only; omega, hb, by dsimp only; omega, by dsimp only; omega, hs5, g3, hle.trans hle7, fun R h1 h2 => hfin R (g4 R h1 h2).1 (g4 R h1 h2).2⟩, by dsimp only; omega, ⟨⟨rfl, rfl, rfl, rfl, rfl, rfl, trivial⟩, ⟨rfl, trivial⟩, rfl, rfl⟩⟩
          · refine num_eq (x := ((mid + 1 : Nat) : Int)) (by rw [wrap64 (by omega) (by omega)]; omega) ?_
            refine call_own (ih (mid + 1) b (limit) d4 _ (by omega) (by omega) (by omega) hs4 hle (by omega) q5) fun v μ7 h' hle7 hap hR => ?_
            obtain ⟨rfl, L, g1, g2, rfl, hs5⟩ := hR
            obtain ⟨g3, g4⟩ := q7 L g1 g2
            exact ⟨(a, mid, limit, _, ap, L, μ7), ⟨by dsimp only; omega, by dsimp only; omega, by dsimp only; omega, by dsimp only; omega, hs5, g3, hle.trans hle7, fun R h1 h2 => hfin R (g4 R h1 h2).1 (g4 R h1 h2).2⟩, by dsimp only; omega, ⟨⟨rfl, rfl, rfl, rfl, rfl, rfl, trivial⟩, ⟨rfl, trivial⟩, rfl, rfl⟩⟩
end
end Go.Vx

/- Contracts: what sort.Slice asks of package reflectlite; rows in owned memory that are changed about by it. -/
namespace Go.Vx
open Go.Proofs Classical
open Go.Sort
open Go.Extern Go.Extern.Rtype Go.RowKit Go.Lib
section
variable {P : Program} {f : FuncId} {args : List Value} {μ h0 : Mem}
/-- A function that answers at once. -/
theorem SpecH.ext {R : Value → Mem → Mem → Prop} (h : ∀ w, Holds μ w → Holds h0 w → Apart μ h0 → ∃ v w' μ' h', (callFunc f args.toArray).run P w = .ok (.value v) w' ∧ R v μ' h' ∧ Step μ h0 w μ' h' w') : SpecH P f args μ h0 R :=
  ⟨trivial, fun w h1 h2 h3 => by
    obtain ⟨v, w', μ', h', e, hr, hS⟩ := h w h1 h2 h3
    exact .inr ⟨v, w', e, v, μ', h', rfl, hr, hS⟩⟩
theorem Step.same {w : World} (h1 : Holds μ w) (h2 : Holds h0 w) (h3 : Apart μ h0) : Step μ h0 w μ h0 w :=
  ⟨Mem.Le.refl _, h1, h2, h3, fun b h h' => absurd h h', fun b h => .inr h, Nat.le_refl _, fun _ _ _ => rfl, rfl, rfl, rfl⟩
/-- A row of its own is written over. -/
theorem Step.row {w : World} {r : Nat} {cs cs' : Array Value} {ty : TypeId} (h1 : Holds μ w) (h2 : Holds h0 w) (h3 : Apart μ h0) (hr : h0 r = some (.cells cs ty (0, 0))) : Step μ h0 w μ (h0.set r (.cells cs' ty (0, 0))) (w.setRow r cs') := by
  have hne : ∀ b, μ b ≠ none → b ≠ r := fun b hb e => by
    subst e; rw [h3 b hb] at hr; cases hr
  have hg : w.heap[r]? = some (.cells cs ty (0, 0)) := h2 _ _ hr
  refine ⟨Mem.Le.refl _, fun b o hb => ?_, fun b o hb => ?_, fun b hb => ?_, fun b h h' => absurd h h', fun b h => ?_, by simp, fun b _ hb => setRow_other w r b _ fun e => ?_, rfl, rfl, rfl⟩
  · rw [setRow_other w r b _ (hne b (by simp [hb]))]; exact h1 b o hb
  · rw [Mem.set_get] at hb
    split at hb
    · rename_i e; subst e; cases hb; rw [setRow_heap w b _ _ ty (0, 0) hg]
    · rename_i e; rw [setRow_other w r b _ e]; exact h2 b o hb
  · rw [Mem.set_ne (hne b hb)]; exact h3 b hb
  · by_cases e : b = r
    · subst e; exact .inr (by rw [hr]; simp)
    · rw [Mem.set_ne e] at h; exact .inr h
  · subst e; rw [hr] at hb; cases hb
/-- A new block. -/
theorem Step.alloc {w : World} {o : Obj} (h1 : Holds μ w) (h2 : Holds h0 w) (h3 : Apart μ h0) : Step μ h0 w (μ.set w.heap.size o) h0 (w.alloc o) ∧ μ w.heap.size = none := by
  have hlt : ∀ b o, w.heap[b]? = some o → b < w.heap.size := fun b o h => (Array.getElem?_eq_some_iff.1 h).1
  have hm : μ w.heap.size = none := by
    cases e : μ w.heap.size with
    | none => rfl
    | some o => have := hlt _ _ (h1 _ _ e); omega
  have hh : h0 w.heap.size = none := by
    cases e : h0 w.heap.size with
    | none => rfl
    | some o => have := hlt _ _ (h2 _ _ e); omega
  have hk : ∀ b, b < w.heap.size → (w.alloc o).heap[b]? = w.heap[b]? := fun b hb => by
    show (w.heap.push o)[b]? = _
    rw [Array.getElem?_push, if_neg (by omega)]
  refine ⟨⟨fun b x hb => ?_, fun b x hb => ?_, fun b x hb => ?_, fun b hb => ?_, fun b h h' => ?_, fun b h => .inr h, by show w.heap.size ≤ (w.heap.push o).size; simp, fun b hb _ => hk b hb, rfl, rfl, rfl⟩, hm⟩
  · rw [Mem.set_ne (fun e => by subst e; rw [hm] at hb; cases hb)]; exact hb
  · rw [Mem.set_get] at hb
    split at hb
    · rename_i e; subst e; cases hb; show (w.heap.push o)[w.heap.size]? = some o; simp
    · rw [hk b (hlt _ _ (h1 _ _ hb))]; exact h1 _ _ hb
  · rw [hk b (hlt _ _ (h2 _ _ hb))]; exact h2 _ _ hb
  · rw [Mem.set_get] at hb
    split at hb
    · rename_i e; subst e; exact hh
    · exact h3 b hb
  · rw [Mem.set_get] at h'
    split at h'
    · rename_i e; subst e; exact .inl (Nat.le_refl _)
    · exact absurd h h'
end
/-- What the model is told of a slice type. -/
structure SlTy (t e : TypeId) (i ie : TypeInfo) (ke : Nat) : Prop where
  hi : Try.prog.info? t = some i
  hd : i.desc = .slice e
  pk : Try.prog.packed t = false
  hie : Try.prog.info? e = some ie
  hke : ∀ w, (Extern.Rtype.kind e).run Try.prog w = .ok ke w
  h9 : swapperK 2 ie ke = 9
theorem SlTy.nine {t e : TypeId} {i ie : TypeInfo} {ke : Nat} (T : SlTy t e i ie ke) {n : Nat} (h : 2 ≤ n) : swapperK n ie ke = 9 := by
  rw [← T.h9]
  unfold swapperK
  have h0 : (n == 0) = false := by simp; omega
  have h1 : (n == 1) = false := by simp; omega
  have h2 : ((2 : Nat) == 0) = false := rfl
  have h3 : ((2 : Nat) == 1) = false := rfl
  simp only [h0, h1, h2, h3]
section
variable {μ : Mem}
theorem valueOf_spec {t e : TypeId} {i ie : TypeInfo} {ke : Nat} (T : SlTy t e i ie ke) (p : Option Addr) (n c : Nat) : Spec Try.prog 130 [.iface t (.slice p n c)] μ fun v μ' => ∃ r, v = .agg #[typeHandle Try.prog t, .pointer (some ⟨r, 0, none⟩), .int .u64 151] ∧ μ' r = some (.cells #[.slice p n c] t (0, 0)) := by
  refine SpecH.ext fun w h1 h2 h3 => ?_
  have hv := run_valueOf_slice (P := Try.prog) t e i T.hi T.hd p n c w
  refine ⟨_, _, _, _, ?_, ⟨w.heap.size, rfl, Mem.set_at _ _ _⟩, (Step.alloc h1 h2 h3).1⟩
  rw [run_callFunc_extern Try.func130 (by kernel_rfl) (by kernel_rfl) (by kernel_rfl) (e := fun args => Extern.ReflectliteValue.unpack (args.getD 0 (.tuple #[]))) (by kernel_rfl),
    show Sem.run Try.prog ((fun args : Array Value => Extern.ReflectliteValue.unpack (args.getD 0 (.tuple #[]))) #[.iface t (.slice p n c)]) w = _ from hv]
  rfl
theorem valueLen_spec {t e : TypeId} {i ie : TypeInfo} {ke : Nat} (T : SlTy t e i ie ke) {p : Option Addr} {n c r : Nat} (hr : μ r = some (.cells #[.slice p n c] t (0, 0))) : Gives Try.prog 133 [.agg #[typeHandle Try.prog t, .pointer (some ⟨r, 0, none⟩), .int .u64 151]] μ (.int .i64 n) := by
  refine SpecH.ext fun w h1 h2 h3 => ?_
  have hc : w.cell? ⟨r, 0, none⟩ = some (.slice p n c) := by simp [World.cell?, h1 _ _ hr]
  have hl := run_valueLen_slice (P := Try.prog) t e i T.hi T.hd T.pk ⟨r, 0, none⟩ p n c w hc
  refine ⟨_, _, _, _, ?_, ⟨rfl, rfl⟩, Step.same h1 h2 h3⟩
  rw [run_callFunc_extern Try.func133 (by kernel_rfl) (by kernel_rfl) (by kernel_rfl) (e := Extern.ReflectliteValue.method (Extern.ReflectliteValue.valueError "reflectlite.Value.Len" 0) Extern.ReflectliteValue.len) (by kernel_rfl), hl]
  rfl
theorem swapper_spec {t e : TypeId} {i ie : TypeInfo} {ke : Nat} (T : SlTy t e i ie ke) (p : Option Addr) {n : Nat} (c : Nat) : ∃ (k : FuncId) (bs : List Value), (2 ≤ n → k = 190 ∧ bs = [.slice p n c, typeHandle Try.prog e]) ∧ Gives Try.prog 131 [.iface t (.slice p n c)] μ (.func (.func k) #[] bs.toArray) := by
  have go : ∀ (f : Nat) (bs : List Value), Try.prog.funcs.findIdx? (·.name == "internal/reflectlite" ++ ".Swapper$" ++ toString (swapperK n ie ke)) = some f → (if swapperK n ie ke ≤ 2 then (#[] : Array Value) else #[.slice p n c, typeHandle Try.prog e]) = bs.toArray →
      Gives Try.prog 131 [.iface t (.slice p n c)] μ (.func (.func f) #[] bs.toArray) := fun f bs hf hbs => by
    refine SpecH.ext fun w h1 h2 h3 => ?_
    have hs := run_swapper_slice (P := Try.prog) t e i ie T.hi T.hd T.hie ke T.hke p n c f hf w
    rw [hbs] at hs
    refine ⟨_, _, _, _, ?_, ⟨rfl, rfl⟩, Step.same h1 h2 h3⟩
    rw [run_callFunc_extern Try.func131 (by kernel_rfl) (by kernel_rfl) (by kernel_rfl) (e := Extern.ReflectliteSwapper.swapper "internal/reflectlite" (Extern.ReflectliteValue.valueError "Swapper")) (by kernel_rfl), hs]
    rfl
  by_cases h2 : 2 ≤ n
  · refine ⟨190, [.slice p n c, typeHandle Try.prog e], fun _ => ⟨rfl, rfl⟩, go _ _ ?_ ?_⟩
    · rw [T.nine h2]; kernel_rfl
    · rw [T.nine h2]; rfl
  · by_cases h0 : n = 0
    · subst h0
      refine ⟨182, [], fun h => by omega, go _ _ ?_ ?_⟩
      · have : swapperK 0 ie ke = 1 := rfl
        have e : Try.prog.funcs.findIdx? (·.name == "internal/reflectlite" ++ ".Swapper$" ++ toString (1 : Nat)) = some 182 := by kernel_rfl
        rw [this]; exact e
      · rfl
    · obtain rfl : n = 1 := by omega
      refine ⟨183, [], fun h => by omega, go _ _ ?_ ?_⟩
      · have : swapperK 1 ie ke = 2 := rfl
        have e : Try.prog.funcs.findIdx? (·.name == "internal/reflectlite" ++ ".Swapper$" ++ toString (2 : Nat)) = some 183 := by kernel_rfl
        rw [this]; exact e
      · rfl
end
end Go.Vx

/- Contracts: sort.Slice over a row in owned memory. -/
namespace Go.Vx
open Go.Proofs Classical
open Go.Sort
open Go.Extern Go.Extern.Rtype Go.RowKit Go.Lib
/-- A row in owned memory: its elements' cells, then the rest of its block. -/
def RowV (h0 : Mem) (r : Nat) (ty : TypeId) (rest : List Value) (d : Array Value) : Mem := h0.set r (.cells (List.toArray (d.toList.flatMap vcells ++ rest)) ty (0, 0))
/-- Elements of es cells. -/
def Els (es : Nat) (d : Array Value) : Prop := ∀ x ∈ d.toList, (vcells x).length = es ∧ ∀ u ∈ vcells x, u.oneCell' = true
theorem flat_put {es : Nat} : ∀ {l : List Value}, (∀ y ∈ l, (vcells y).length = es) → ∀ {i : Nat}, i < l.length → ∀ {y : Value}, (vcells y).length = es → ∀ rest : List Value,
    (l.flatMap vcells ++ rest).take (i * es) ++ vcells y ++ (l.flatMap vcells ++ rest).drop (i * es + es) = (l.set i y).flatMap vcells ++ rest
  | [], _, i, hi, _, _, _ => by simp at hi
  | z :: r, hl, 0, _, y, hy, rest => by
    have hz := hl z (by simp)
    simp only [Nat.zero_mul, List.take_zero, List.nil_append, Nat.zero_add, List.set_cons_zero, List.flatMap_cons, List.append_assoc]
    rw [← hz, List.drop_left]
  | z :: r, hl, i + 1, hi, y, hy, rest => by
    have hz := hl z (by simp)
    have ih := flat_put (l := r) (fun y h => hl y (List.mem_cons_of_mem _ h)) (i := i) (by simpa using hi) hy rest
    simp only [List.set_cons_succ, List.flatMap_cons, List.append_assoc] at ih ⊢
    have e1 : (i + 1) * es = (vcells z).length + i * es := by rw [hz, Nat.add_mul, Nat.one_mul, Nat.add_comm]
    rw [e1, List.take_length_add_append, Nat.add_assoc, List.drop_length_add_append, List.append_assoc, ih]
theorem arrV_at {d : Array Value} {k : Nat} (h : k < d.size) : d.toList[k]? = some d[k]! := by
  rw [Array.getElem?_toList, getElem!_pos d k h, Array.getElem?_eq_getElem h]
theorem arrV_mem {d : Array Value} {k : Nat} (h : k < d.size) : d[k]! ∈ d.toList := List.mem_of_getElem? (arrV_at h)
theorem Els.perm {es n : Nat} {d d' : Array Value} (hn : d.size = n) (h : Els es d) (p : PermIn 0 n d d') : Els es d' := fun x hx => by
  obtain ⟨i, hi⟩ := List.mem_iff_getElem?.1 hx
  have hi2 : i < d'.size := by have := (List.getElem?_eq_some_iff.1 hi).1; simpa using this
  rw [arrV_at hi2] at hi
  cases hi
  exact permIn_all d d' 0 n (fun x => (vcells x).length = es ∧ ∀ u ∈ vcells x, u.oneCell' = true) (by omega) p (fun j _ hj => h _ (arrV_mem (by omega))) i (by omega) (by rw [p.1] at hi2; omega)
section
variable {P : Program} {μ h0 : Mem} {r : Nat} {ty : TypeId} {rest : List Value} {d : Array Value} {es : Nat}
/-- A cell of an element is read. -/
theorem RowV.cell (hE : Els es d) {i c : Nat} {v : Value} (hi : i < d.size) (hv : (vcells d[i]!)[c]? = some v) : (RowV h0 r ty rest d).cell ⟨r, i * es + c, none⟩ = some v := by
  have h := flat_at (fun y hy => (hE y hy).1) (arrV_at hi) hv
  simp only [Mem.cell, RowV, Mem.set_at, Option.isSome_none]
  have h2 := (List.getElem?_eq_some_iff.1 h).1
  simp only [List.getElem?_toArray]
  rw [List.getElem?_append_left h2, h]
  rfl
theorem load_row {e : TypeId} {ti : TI} (hti : TIok P e ti) (w : World) (a : Addr) (x : Value) (hl : (vcells x).length = ti.size) (h : ∀ j v, (vcells x)[j]? = some v → w.cell? (a.add j) = some v) (h1 : ti.agg = false → ti.size = 1) (h2 : ∀ u ∈ vcells x, u.oneCell' = true) :
    ∃ y, (loadVar e a).run P w = .ok y w ∧ vcells y = vcells x := by
  have hr := run_loadVar_cells hti w a (vcells x) hl h h1
  refine ⟨_, hr, ?_⟩
  cases hg : ti.agg with
  | true => simp [vcells]
  | false =>
    rw [h1 hg] at hl
    match hc : vcells x, hl with
    | [u], _ =>
      have := h2 u (by rw [hc]; simp)
      simp only [Bool.false_eq_true, if_false, List.getD_cons_zero]
      cases u <;> first | rfl | (simp [Value.oneCell'] at this)
/-- Swapper's function: two elements change about. -/
theorem swap9_spec {e : TypeId} {ti : TI} (hti : TIok Try.prog e ti) (h1 : ti.agg = false → ti.size = 1) (hE : Els ti.size d) {n cap i j : Nat} (hd : d.size = n) (hi : i < n) (hj : j < n) :
    SpecH Try.prog 190 [.int .i64 i, .int .i64 j, .slice (some ⟨r, 0, none⟩) n cap, typeHandle Try.prog e] μ (RowV h0 r ty rest d) fun v μ' h' => v = .tuple #[] ∧ μ' = μ ∧ h' = RowV h0 r ty rest (swp d i j) := by
  refine SpecH.ext fun w hm hh ha => ?_
  subst hd
  have hX := hE _ (arrV_mem hi)
  have hY := hE _ (arrV_mem hj)
  have hcell : ∀ k, k < d.size → ∀ c v, (vcells d[k]!)[c]? = some v → w.cell? ((⟨r, k * ti.size, none⟩ : Addr).add c) = some v := fun k hk c v hv => by
    rw [Addr.add_lit']; exact hh.cell (RowV.cell hE hk hv)
  obtain ⟨X, l1, eX⟩ := load_row hti w ⟨r, i * ti.size, none⟩ d[i]! hX.1 (hcell i hi) h1 hX.2
  obtain ⟨Y, l2, eY⟩ := load_row hti w ⟨r, j * ti.size, none⟩ d[j]! hY.1 (hcell j hj) h1 hY.2
  have hb : ∀ k, k < d.size → k * ti.size + ti.size ≤ d.size * ti.size := fun k hk => by
    have := Nat.mul_le_mul_right ti.size (show k + 1 ≤ d.size from hk); rwa [Nat.add_mul, Nat.one_mul] at this
  have hlen : (d.toList.flatMap vcells).length = d.size * ti.size := by rw [flat_len _ fun y hy => (hE y hy).1]; simp
  have hg : w.heap[r]? = some (.cells (List.toArray (d.toList.flatMap vcells ++ rest)) ty (0, 0)) := hh _ _ (Mem.set_at _ _ _)
  have s1 := run_storeVar hti w r (i * ti.size) _ ty hg Y (by rw [eY]; exact hY.1) (by have := hb i hi; simp [hlen]; omega) (by rw [eY]; exact hY.2)
  have e1 := flat_put (fun y hy => (hE y hy).1) (l := d.toList) (i := i) (by simpa using hi) (y := d[j]!) hY.1 rest
  rw [eY, hY.1] at s1
  simp only [e1] at s1
  have hE2 : ∀ y ∈ d.toList.set i d[j]!, (vcells y).length = ti.size := fun y hy => by
    rcases List.mem_or_eq_of_mem_set hy with h | h
    · exact (hE y h).1
    · subst h; exact hY.1
  have hlen2 : ((d.toList.set i d[j]!).flatMap vcells).length = d.size * ti.size := by rw [flat_len _ hE2]; simp
  have hg2 : (w.setRow r (List.toArray ((d.toList.set i d[j]!).flatMap vcells ++ rest))).heap[r]? = some (.cells (List.toArray ((d.toList.set i d[j]!).flatMap vcells ++ rest)) ty (0, 0)) := setRow_heap w r _ _ ty (0, 0) hg
  have s2 := run_storeVar hti _ r (j * ti.size) _ ty hg2 X (by rw [eX]; exact hX.1) (by have := hb j hj; simp [hlen2]; omega) (by rw [eX]; exact hX.2)
  have e2 := flat_put hE2 (i := j) (by simpa using hj) (y := d[i]!) hX.1 rest
  rw [eX, hX.1] at s2
  simp only [e2] at s2
  have hsw : (d.toList.set i d[j]!).set j d[i]! = (swp d i j).toList := by rw [swp, Array.toList_setIfInBounds, Array.toList_setIfInBounds]
  rw [hsw] at s2
  have hss : ∀ z z', (w.setRow r z).setRow r z' = w.setRow r z' := fun z z' => setRow_setRow w r z z'
  have hS := Step.row (cs' := List.toArray ((swp d i j).toList.flatMap vcells ++ rest)) hm hh ha (Mem.set_at _ _ _)
  refine ⟨.tuple #[], w.setRow r (List.toArray ((swp d i j).toList.flatMap vcells ++ rest)), μ, RowV h0 r ty rest (swp d i j), ?_, ⟨rfl, rfl, rfl⟩, ?_⟩
  rotate_left
  · rw [RowV, Mem.set_set] at hS; exact hS
  rw [run_callFunc_extern Try.func190 (by kernel_rfl) (by kernel_rfl) (by kernel_rfl) (e := Extern.ReflectliteSwapper.swap false) (by kernel_rfl)]
  show (Sem.run _ (ReflectliteSwapper.swap false #[.int .i64 i, .int .i64 j, .slice (some ⟨r, 0, none⟩) d.size cap, typeHandle Try.prog e]) w).andThen _ = _
  have i0 : ¬ ((i : Int) < 0) := by omega
  have i1 : ¬ ((i : Int) ≥ d.size) := by omega
  have j0 : ¬ ((j : Int) < 0) := by omega
  have j1 : ¬ ((j : Int) ≥ d.size) := by omega
  rw [rl_swap]
  simp [i0, i1, j0, j1, ofHandle, handleType, typeHandle, ReflectliteSwapper.exchange, hti.run_sizeOf, Addr.add_lit', l1, l2, s1, s2, hss, Result.andThen]
end
section
variable {μ h0 : Mem} {lf sf : FuncId} {lb sb : List Value} {n : Nat}
theorem insertionSortF_tiny (hn : n ≤ 1) : SpecH Try.prog 191 [fdata lf sf lb sb, .int .i64 0, .int .i64 n] μ h0 fun v μ' h' => v = .tuple #[] ∧ μ' = μ ∧ h' = h0 := by
  refine SpecH.mk [] Try.func191 (by kernel_rfl) ?_
  intro r1
  refine num_eq (x := ((1 : Nat) : Int)) (by decide) ?_
  refine loop_intro (fun i : Nat => i = 1)
    (fun i => ⟨[(1, .val (.int .i64 0)), (2, .val (.int .i64 n)), (3, .loc 0 r1 0), (6, .val (.int .i64 i))], fblk r1 lf sf lb sb, 1, μ, h0⟩) (fun i => n - i)
    1 rfl (fun _ => ⟨rfl, rfl⟩) ⟨⟨rfl, rfl, rfl, rfl, trivial⟩, ⟨rfl, trivial⟩, rfl, rfl⟩ ?_
  rintro i rfl
  refine ifd (fun h => by omega) (fun h => ?_)
  exact ret_plain ⟨rfl, rfl, rfl⟩
theorem pdqsortF_tiny (hn : n ≤ 1) {limit : Int} : SpecH Try.prog 152 [fdata lf sf lb sb, .int .i64 0, .int .i64 n, .int .i64 limit] μ h0 fun v μ' h' => v = .tuple #[] ∧ μ' = μ ∧ h' = h0 := by
  refine SpecH.mk [] Try.func152 (by kernel_rfl) ?_
  intro r1
  refine loop_intro (fun _ : Unit => True)
    (fun _ => ⟨[(1, .val (.int .i64 0)), (2, .val (.int .i64 n)), (3, .val (.int .i64 limit)), (4, .loc 0 r1 0), (8, .val (.bool true)), (9, .val (.bool true))], fblk r1 lf sf lb sb, 1, μ, h0⟩) (fun _ => 0)
    () trivial (fun _ => ⟨rfl, rfl⟩) ⟨⟨rfl, rfl, rfl, rfl, rfl, rfl, trivial⟩, ⟨rfl, trivial⟩, rfl, rfl⟩ ?_
  intro _ _
  refine num_eq (x := (n : Int)) (by rw [wrap64 (by omega) (by omega)]; omega) ?_
  refine ifd (fun h12 => ?_) (fun h12 => by omega)
  refine call_own (insertionSortF_tiny hn) fun v μ' h' hle' hap hR => ?_
  obtain ⟨rfl, e1, rfl⟩ := hR
  obtain rfl := e1.symm
  exact ret_plain ⟨rfl, rfl, rfl⟩
end
section
variable {α : Type} [Inhabited α] {enc : α → Value} {μ h0 : Mem} {r : Nat} {ty t e : TypeId} {i ie : TypeInfo} {ke : Nat} {ti : TI} {rest : List Value} {d0 : Array α} {n cap : Nat} {lf : FuncId} {lb : List Value} {lt : α → α → Bool}
theorem map_get {d : Array α} {k : Nat} (h : k < d.size) : (d.map enc)[k]! = enc d[k]! := by
  rw [getElem!_pos _ k (by simpa using h), getElem!_pos d k h, Array.getElem_map]
theorem swp_map {d : Array α} {a b : Nat} (ha : a < d.size) (hb : b < d.size) : (swp d a b).map enc = swp (d.map enc) a b := by
  unfold swp
  rw [map_get hb, map_get ha]
  simp
theorem permIn_map {d d' : Array α} (hn : d.size = n) (p : PermIn 0 n d d') : PermIn 0 n (d.map enc) (d'.map enc) := by
  obtain ⟨h1, h2, h3⟩ := p
  refine ⟨by simp [h1], fun k hk => ?_, ?_⟩
  · have hk2 : n ≤ k := by omega
    rw [getElem!_neg _ k (by simp; omega), getElem!_neg _ k (by simp; omega)]
  · have e1 : d'.extract 0 n = d' := by rw [← hn, ← h1]; exact Array.extract_size
    have e2 : d.extract 0 n = d := by rw [← hn]; exact Array.extract_size
    have e3 : (d'.map enc).extract 0 n = d'.map enc := by rw [← hn, ← h1, show d'.size = (d'.map enc).size by simp]; exact Array.extract_size
    have e4 : (d.map enc).extract 0 n = d.map enc := by rw [← hn, show d.size = (d.map enc).size by simp]; exact Array.extract_size
    rw [e1, e2] at h3
    rw [e3, e4]
    simpa using h3.map enc
theorem permIn_list {d d' : Array α} (hn : d.size = n) (p : PermIn 0 n d d') : d'.toList.Perm d.toList := by
  obtain ⟨h1, h2, h3⟩ := p
  have e1 : d'.extract 0 n = d' := by rw [← hn, ← h1]; exact Array.extract_size
  have e2 : d.extract 0 n = d := by rw [← hn]; exact Array.extract_size
  rwa [e1, e2] at h3
/-- A row of owned memory and its owner's test make a sort. -/
theorem SortBy.row (hti : TIok Try.prog e ti) (h1 : ti.agg = false → ti.size = 1) (hE : Els ti.size (d0.map enc)) (hn : d0.size = n) (hmax : n ≤ 1000000000000)
    (less : ∀ {μ' : Mem} {d : Array α} {i j : Nat}, μ.Le μ' → PermIn 0 n d0 d → i < n → j < n → SpecH Try.prog lf (.int .i64 i :: .int .i64 j :: lb) μ' (RowV h0 r ty rest (d.map enc)) fun v μ'' h' => v = .bool (lt d[i]! d[j]!) ∧ μ'' = μ' ∧ h' = RowV h0 r ty rest (d.map enc)) :
    SortBy lf 190 lb [.slice (some ⟨r, 0, none⟩) n cap, typeHandle Try.prog e] n lt μ (fun d => RowV h0 r ty rest (d.map enc)) (PermIn 0 n d0) where
  max := hmax
  size hV := hV.1.trans hn
  sw hV hi hj := permIn_trans _ _ _ _ _ hV (swp_permIn _ _ _ _ _ (Nat.zero_le _) hi (Nat.zero_le _) hj (by rw [hV.1, hn]; exact Nat.le_refl _))
  dom {d d' b} _ _ hb := by
    simp only [RowV, Mem.set_get] at hb ⊢
    split at hb
    · cases hb
    · rename_i e; rw [if_neg e]; exact hb
  less hle hV hi hj := less hle hV hi hj
  swap {μ d i j} hle hV hi hj := by
    have hs : d.size = n := hV.1.trans hn
    have := swap9_spec (μ := μ) (h0 := h0) (r := r) (ty := ty) (rest := rest) (cap := cap) hti h1 (d := d.map enc) (hE.perm (by simp [hn]) (permIn_map hn hV)) (by simpa using hs) hi hj
    rwa [← swp_map (by omega) (by omega)] at this
theorem SortSlice_spec (T : SlTy t e i ie ke) (hti : TIok Try.prog e ti) (h1 : ti.agg = false → ti.size = 1) (hE : Els ti.size (d0.map enc)) (hn : d0.size = n) (hmax : n ≤ 1000000000000) (hO : SWO lt)
    (less : ∀ {μ' : Mem} {d : Array α} {i j : Nat}, μ.Le μ' → PermIn 0 n d0 d → i < n → j < n → SpecH Try.prog lf (.int .i64 i :: .int .i64 j :: lb) μ' (RowV h0 r ty rest (d.map enc)) fun v μ'' h' => v = .bool (lt d[i]! d[j]!) ∧ μ'' = μ' ∧ h' = RowV h0 r ty rest (d.map enc)) :
    SpecH Try.prog 93 [.iface t (.slice (some ⟨r, 0, none⟩) n cap), .func (.func lf) #[] lb.toArray] μ (RowV h0 r ty rest (d0.map enc)) fun v μ' h' => v = .tuple #[] ∧ ∃ d', PermIn 0 n d0 d' ∧ SortedIn lt 0 n d' ∧ h' = RowV h0 r ty rest (d'.map enc) := by
  refine SpecH.mk [] Try.func93 (by kernel_rfl) ?_
  refine call_plain (valueOf_spec T _ _ _) fun v μ1 hle1 hR => ?_
  obtain ⟨rv, rfl, hrv⟩ := hR
  intro r4
  obtain ⟨k, bs, hk, hsw⟩ := swapper_spec (μ := μ1) T (some ⟨r, 0, none⟩) (n := n) cap
  refine call_gives hsw ?_
  refine call_gives (valueLen_spec T hrv) ?_
  refine num_eq (x := (n : Int)) (by
    show (n : Int) % 18446744073709551616 = _
    omega) ?_
  refine call_gives (Len_spec (by omega)) ?_
  have hL : bitsLen n ≤ 40 := (bitsLen_le_iff n 40).2 (by omega)
  by_cases h2 : 2 ≤ n
  · obtain ⟨rfl, rfl⟩ := hk h2
    refine call_own (pdqsortF_spec (SortBy.row (cap := cap) hti h1 hE hn hmax less) hO (n + 1) 0 n (bitsLen n) d0 _ (by omega) (by omega) (Nat.le_refl _) (permIn_refl _ _ _) hle1 (by omega) (.inl rfl)) fun v μ' h' hle hap hR => ?_
    obtain ⟨rfl, d', p1, p2, rfl, _⟩ := hR
    exact ret_plain ⟨rfl, d', p1, p2, rfl⟩
  · refine call_own (pdqsortF_tiny (by omega)) fun v μ' h' hle hap hR => ?_
    obtain ⟨rfl, e1, rfl⟩ := hR
    exact ret_plain ⟨rfl, d0, permIn_refl _ _ _, fun a b _ h3 h4 => by omega, rfl⟩
end
end Go.Vx

/- Rows of data that change places; impl.sortBindings. -/
namespace Go.Vx
open Go.Proofs Classical
open Go.Sort
/-- Elements with what they stand for. -/
structure Prs {X : Type} (es : Nat) (f : X → D) (ps : List (X × Value)) (g : Mem) : Prop where
  own : OwnRows es (ps.map fun p => f p.1) (ps.map Prod.snd) g
  size : ∀ p ∈ ps, (vcells p.2).length = es ∧ ∀ u ∈ vcells p.2, u.oneCell' = true
section
variable {X : Type} {es : Nat} {f : X → D} {g : Mem}
theorem Prs.uncons {p : X × Value} {ps : List (X × Value)} (h : Prs es f (p :: ps) g) : ∃ g1 g2, Parts g g1 g2 ∧ Own (f p.1) g1 (vcells p.2) ∧ (f p.1).n = es ∧ Prs es f ps g2 := by
  obtain ⟨⟨ho, hs, hl⟩, hz⟩ := h
  simp only [List.map_cons, List.flatMap_cons] at ho
  obtain ⟨c1, c2, g1, g2, e, hp, h1, h2⟩ := ho
  have hn : (f p.1).n = es := hs _ (by simp)
  have hz0 := (hz p (by simp)).1
  have := List.append_inj e (by rw [h1.len, hn, hz0])
  obtain ⟨rfl, rfl⟩ := this
  exact ⟨g1, g2, hp, h1, hn, ⟨h2, fun x hx => hs x (by simp only [List.map_cons]; exact List.mem_cons_of_mem _ hx), by simp⟩, fun q hq => hz q (List.mem_cons_of_mem _ hq)⟩
theorem Prs.cons {p : X × Value} {ps : List (X × Value)} {g1 g2 : Mem} (hp : Parts g g1 g2) (h1 : Own (f p.1) g1 (vcells p.2)) (hn : (f p.1).n = es) (hz : (vcells p.2).length = es ∧ ∀ u ∈ vcells p.2, u.oneCell' = true) (h : Prs es f ps g2) : Prs es f (p :: ps) g := by
  refine ⟨⟨?_, ?_, by simp⟩, ?_⟩
  · simp only [List.map_cons, List.flatMap_cons]
    exact OwnS.cons hp h1 h.own.own
  · intro x hx
    simp only [List.map_cons, List.mem_cons] at hx
    rcases hx with rfl | hx
    · exact hn
    · exact h.own.size x hx
  · intro q hq
    rcases List.mem_cons.1 hq with rfl | hq
    · exact hz
    · exact h.size q hq
theorem Prs.perm {ps ps' : List (X × Value)} (h : ps.Perm ps') : ∀ {g : Mem}, Prs es f ps g → Prs es f ps' g := by
  induction h with
  | nil => exact fun h => h
  | cons p _ ih =>
    intro g h
    obtain ⟨g1, g2, hp, h1, hn, h2⟩ := h.uncons
    exact Prs.cons hp h1 hn (h.size _ (by simp)) (ih h2)
  | swap p q l =>
    intro g h
    obtain ⟨g1, k, hp, h1, hn, h2⟩ := h.uncons
    obtain ⟨g2, g3, hq, h3, hn2, h4⟩ := h2.uncons
    obtain ⟨m, hm1, hm2⟩ := Parts.assoc hp hq.symm
    exact Prs.cons hm2.symm h3 hn2 (h.size _ (by simp)) (Prs.cons hm1 h1 hn (h.size _ (by simp)) h4)
  | trans _ _ ih1 ih2 => exact fun h => ih2 (ih1 h)
theorem Prs.at : ∀ {ps : List (X × Value)} {g : Mem}, Prs es f ps g → ∀ p ∈ ps, ∃ g' : Mem, g'.Le g ∧ Own (f p.1) g' (vcells p.2)
  | [], _, _, p, hp => by simp at hp
  | q :: ps, g, h, p, hp => by
    obtain ⟨g1, g2, hpp, h1, _, h2⟩ := h.uncons
    rcases List.mem_cons.1 hp with rfl | hp
    · exact ⟨g1, hpp.left, h1⟩
    · obtain ⟨g', h3, h4⟩ := Prs.at h2 p hp
      exact ⟨g', h3.trans hpp.right, h4⟩
theorem Prs.els {d : Array (X × Value)} (h : Prs es f d.toList g) : Els es (d.map Prod.snd) := fun x hx => by
  simp only [Array.toList_map, List.mem_map] at hx
  obtain ⟨p, hp, rfl⟩ := hx
  exact h.size p hp
/-- Content and elements, paired. -/
theorem Prs.zip : ∀ {xs : List X} {ys : List Value} {g : Mem}, OwnRows es (xs.map f) ys g → (∀ y ∈ ys, (vcells y).length = es ∧ ∀ u ∈ vcells y, u.oneCell' = true) → Prs es f (xs.zip ys) g ∧ (xs.zip ys).map Prod.fst = xs ∧ (xs.zip ys).map Prod.snd = ys := fun {xs ys g} h hz => by
  have hl : xs.length = ys.length := by simpa using h.len
  have e1 : (xs.zip ys).map Prod.fst = xs := by rw [List.map_fst_zip (by omega)]
  have e2 : (xs.zip ys).map Prod.snd = ys := by rw [List.map_snd_zip (by omega)]
  refine ⟨⟨?_, fun p hp => hz p.2 ?_⟩, e1, e2⟩
  · have e3 : (xs.zip ys).map (fun p => f p.1) = xs.map f := by
      conv => rhs; rw [← e1, List.map_map]
      rfl
    rw [e2, e3]; exact h
  · rw [← e2]; exact List.mem_map.2 ⟨p, hp, rfl⟩
end
section
variable {μ h0 : Mem} {r : Nat} {ty : TypeId} {rest : List Value} {es : Nat}
theorem idxV {n : Nat} {i : Int} {K : Addr → List Value → Prop} {K' : Addr → Prop} (k : Nat) (e : i = k) (hk : k < n) (h : K' ⟨r, k * es, none⟩) : elemVC μ (some ⟨r, 0, none⟩) n es i K K' := by
  subst e
  refine ptr_intro ⟨r, 0, none⟩ rfl (by omega) (by omega) ?_
  have : (⟨r, 0, none⟩ : Addr).add ((k : Int).toNat * es) = ⟨r, k * es, none⟩ := by rw [Addr.add_lit']; simp
  rw [this]; exact h
theorem rdV {d : Array Value} (hE : Els es d) {i c : Nat} {v : Value} {K : List Value → Prop} (hi : i < d.size) (hv : (vcells d[i]!)[c]? = some v) (h : K [v]) : extVC μ (RowV h0 r ty rest d) ((⟨r, i * es, none⟩ : Addr).add c) 1 K :=
  own_intro [v] rfl (fun j x hx => by
    match j, hx with
    | 0, hx =>
      cases hx
      rw [Addr.add_lit', Addr.add_lit', Nat.add_zero]
      exact RowV.cell hE hi hv) h
end
noncomputable instance : Inhabited B := ⟨⟨0, .nil⟩⟩
theorem slBinding : SlTy 43 109 Try.t43 Try.t109 25 := ⟨by kernel_rfl, by kernel_rfl, by kernel_rfl, by kernel_rfl, fun _ => by kernel_rfl, by kernel_rfl⟩
/-- Bindings, by their variables. -/
def ltB (a b : B × Value) : Bool := decide (a.1.var < b.1.var)
theorem swo_ltB : SWO ltB := ⟨fun x => by simp [ltB], fun x y z h1 h2 => by simp only [ltB, decide_eq_true_eq] at *; omega, fun x y z h1 h2 => by simp only [ltB, decide_eq_false_iff_not] at *; omega⟩
section
variable {μ h0 g : Mem} {r : Nat} {ty : TypeId} {rest : List Value}
theorem sortBindings1_spec {rs n cap i j : Nat} {d : Array (B × Value)} (hs : h0 rs = some (.cells #[.slice (some ⟨r, 0, none⟩) n cap] 43 (0, 0))) (hne : rs ≠ r) (hP : Prs 5 (fun b : B => b.bd.d) d.toList g) (hn : d.size = n) (hi : i < n) (hj : j < n) :
    SpecH Try.prog 146 [.int .i64 i, .int .i64 j, .pointer (some ⟨rs, 0, none⟩)] μ (RowV h0 r ty rest (d.map Prod.snd)) fun v μ' h' => v = .bool (ltB d[i]! d[j]!) ∧ μ' = μ ∧ h' = RowV h0 r ty rest (d.map Prod.snd) := by
  have hv : ∀ k, k < n → (vcells (d.map Prod.snd)[k]!)[0]? = some (.int .i64 d[k]!.1.var) := fun k hk => by
    rw [map_get (by omega)]
    have hm : d[k]! ∈ d.toList := by
      rw [getElem!_pos d k (by omega)]
      exact Array.getElem_mem_toList _
    obtain ⟨g', _, ho⟩ := hP.at _ hm
    obtain ⟨v, e, _⟩ := Bd.own ho
    rw [e]; rfl
  have hE := hP.els
  have hrs : RowV h0 r ty rest (d.map Prod.snd) rs = some (.cells #[.slice (some ⟨r, 0, none⟩) n cap] 43 (0, 0)) := (Mem.set_ne hne).trans hs
  refine SpecH.mk [] Try.func146 (by kernel_rfl) ?_
  refine own_intro [.slice (some ⟨r, 0, none⟩) n cap] rfl (box_at hrs) ?_
  refine idxV i rfl hi ?_
  refine rdV hE (by simpa [hn] using hi) (hv i hi) ?_
  refine own_intro [.slice (some ⟨r, 0, none⟩) n cap] rfl (box_at hrs) ?_
  refine idxV j rfl hj ?_
  refine rdV hE (by simpa [hn] using hj) (hv j hj) ?_
  exact ret_plain ⟨rfl, rfl, rfl⟩
theorem sortBindings_spec {n cap : Nat} {d0 : Array (B × Value)} (hr : h0 r = none) (hP : Prs 5 (fun b : B => b.bd.d) d0.toList g) (hn : d0.size = n) (hmax : n ≤ 1000000000000) :
    SpecH Try.prog 77 [.slice (some ⟨r, 0, none⟩) n cap] μ (RowV h0 r ty rest (d0.map Prod.snd)) fun v μ' h' => v = .tuple #[] ∧ ∃ d' : Array (B × Value), d'.toList.Perm d0.toList ∧ SortedIn ltB 0 n d' ∧ h' = RowV h0 r ty rest (d'.map Prod.snd) := by
  refine SpecH.mk [1] Try.func77 (by kernel_rfl) ?_
  intro rs hm ho
  have hne : rs ≠ r := fun e => by
    subst e
    have : RowV h0 rs ty rest (d0.map Prod.snd) rs = none := ho
    rw [RowV, Mem.set_at] at this; cases this
  have hs0 : h0 rs = none := by
    have : RowV h0 r ty rest (d0.map Prod.snd) rs = none := ho
    rwa [RowV, Mem.set_ne hne] at this
  have e0 : ∀ (o : Obj) (d : Array Value), Mem.set (RowV h0 r ty rest d) rs o = RowV (h0.set rs o) r ty rest d := fun o d => by
    rw [RowV, RowV]
    funext k
    simp only [Mem.set_get]
    by_cases h1 : k = r
    · subst h1; rw [if_neg (fun e => hne e.symm), if_pos rfl, if_pos rfl]
    · by_cases h2 : k = rs
      · rw [if_pos h2, if_neg h1, if_pos h2]
      · rw [if_neg h2, if_neg h1, if_neg h1, if_neg h2]
  generalize hH : Mem.set (RowV h0 r ty rest (d0.map Prod.snd)) rs _ = H
  obtain rfl : H = RowV (h0.set rs (.cells #[.slice (some ⟨r, 0, none⟩) n cap] 43 (0, 0))) r ty rest (d0.map Prod.snd) := hH.symm.trans (e0 _ _)
  clear hH ho hm
  have hrs : RowV (h0.set rs (.cells #[.slice (some ⟨r, 0, none⟩) n cap] 43 (0, 0))) r ty rest (d0.map Prod.snd) rs = some (.cells #[.slice (some ⟨r, 0, none⟩) n cap] 43 (0, 0)) := (Mem.set_ne hne).trans (Mem.set_at _ _ _)
  refine own_intro [.slice (some ⟨r, 0, none⟩) n cap] rfl (box_at hrs) ?_
  refine call_own (SortSlice_spec (lb := [.pointer (some ⟨rs, 0, none⟩)]) (enc := Prod.snd) slBinding (ttok.get rfl) (fun h => nomatch h) hP.els hn hmax swo_ltB fun {μ' d i j} _ hV hi hj => sortBindings1_spec (Mem.set_at _ _ _) hne (hP.perm (permIn_list hn hV).symm) (hV.1.trans hn) hi hj) fun v μ' h' hle hap hR => ?_
  obtain ⟨rfl, d', p1, p2, rfl⟩ := hR
  refine ret_own (Mem.nil.set rs (.cells #[.slice (some ⟨r, 0, none⟩) n cap] 43 (0, 0))) (RowV h0 r ty rest (d'.map Prod.snd)) ?_ ⟨rfl, d', permIn_list hn p1, p2, rfl⟩
  show Parts (RowV (h0.set rs _) r ty rest (d'.map Prod.snd)) _ _
  rw [← e0]
  exact parts_set (by rw [RowV, Mem.set_ne hne]; exact hs0)
end
end Go.Vx

/- Contracts: substitutions composed: the program's side. -/
namespace Go.Vx
open Go.Proofs Classical
open Go.Sort
/-! ### Plain -/
noncomputable def compFrom (bt : List B) : List B → List B → Option (List B)
  | [], acc => some acc
  | b :: r, acc => match fit (b.to.subst (sub bt)) with
    | none => none
    | some x => compFrom bt r (if x = .var b.var then acc else acc ++ [⟨b.var, x⟩])
noncomputable def restB (bs bt : List B) : List B := bt.filter fun b => decide (sub bs b.var = none)
noncomputable def sortB (l : List B) : List B := l.mergeSort fun a b => decide (a.var ≤ b.var)
noncomputable def compL (bs bt : List B) : Option (List B) := match compFrom bt bs [] with
  | none => none
  | some l => if Subst (sortB (l ++ restB bs bt)) then some (sortB (l ++ restB bs bt)) else none
/-- Two substitutions composed. -/
noncomputable def comp (l m : List Bd) : Option (List B) := if substOk l ∧ substOk m then compL (l.map Bd.b) (m.map Bd.b) else none
def optB (P : List B → Value → Prop) (o : Option (List B)) (v : Value) : Prop := match o with
  | some l => ∃ tv, v = .tuple #[tv, .bool true] ∧ P l tv
  | none => v = .tuple #[.slice none 0 0, .bool false]
def AscB (l : List B) : Prop := l.Pairwise fun a b => a.var < b.var
theorem Srt.asc {bs : List B} (h : Srt bs) : AscB bs := by
  rw [AscB, List.pairwise_iff_getElem]
  intro i j hi hj hij
  exact h i j _ _ hij (by simp) (by simp)
theorem AscB.srt {bs : List B} (h : AscB bs) : Srt bs := fun i j b c hij hb hc => by
  rw [AscB, List.pairwise_iff_getElem] at h
  obtain ⟨hi, rfl⟩ := List.getElem?_eq_some_iff.1 hb
  obtain ⟨hj, rfl⟩ := List.getElem?_eq_some_iff.1 hc
  exact h i j hi hj hij
theorem AscB.uniq {a b : B} {l : List B} (h : AscB l) (ha : a ∈ l) (hb : b ∈ l) (e : a.var = b.var) : a = b := by
  obtain ⟨i, hi⟩ := List.mem_iff_getElem?.1 ha
  obtain ⟨j, hj⟩ := List.mem_iff_getElem?.1 hb
  rcases Nat.lt_trichotomy i j with h1 | h1 | h1
  · have := h.srt i j _ _ h1 hi hj; omega
  · subst h1; rw [hi] at hj; cases hj; rfl
  · have := h.srt j i _ _ h1 hj hi; omega
theorem sortB_uniq {s l : List B} (hp : s.Perm l) (hs : AscB s) : s = sortB l := by
  have h2 : (sortB l).Perm s := (List.mergeSort_perm l _).trans hp.symm
  refine List.Perm.eq_of_pairwise (le := fun a b : B => a.var ≤ b.var) (fun a b ha hb h3 h4 => ?_) (hs.imp fun h => by omega) ?_ h2.symm
  · exact hs.uniq ha (h2.mem_iff.1 hb) (by omega)
  · have := List.pairwise_mergeSort (le := fun a b : B => decide (a.var ≤ b.var)) (fun a b c h1 h2 => by simp only [decide_eq_true_eq] at *; omega) (fun a b => by simp only [Bool.or_eq_true, decide_eq_true_eq]; omega) l
    exact this.imp fun h => by simpa using h
theorem AscB.nodup {l : List B} (h : AscB l) : (l.map B.var).Nodup := by
  rw [List.Nodup, List.pairwise_map]
  exact h.imp fun h => by omega
theorem AscB.of_le {l : List B} (h : l.Pairwise fun a b => a.var ≤ b.var) (hn : (l.map B.var).Nodup) : AscB l := by
  rw [List.Nodup, List.pairwise_map] at hn
  exact h.and hn |>.imp fun ⟨h1, h2⟩ => by omega
theorem comp_nodup {bs bt acc : List B} (hs : AscB bs) (ht : AscB bt) (hsub : (acc.map B.var).Sublist (bs.map B.var)) : ((acc ++ restB bs bt).map B.var).Nodup := by
  rw [List.map_append, List.nodup_append]
  refine ⟨hs.nodup.sublist hsub, ht.nodup.sublist (List.filter_sublist.map _), fun a ha b hb e => ?_⟩
  subst e
  obtain ⟨x, hx, rfl⟩ := List.mem_map.1 (hsub.subset ha)
  obtain ⟨y, hy, e⟩ := List.mem_map.1 hb
  have h1 := (List.mem_filter.1 hy).2
  rw [e] at h1
  exact sub_mem hx (of_decide_eq_true h1)
theorem T.isVar {x : T} {n : Int} : (x.tm.kind = 1 ∧ x.tm.num = n) ↔ x = .var n := by
  cases x <;> simp [T.tm, Tm.kind, Tm.num]
section
variable {μ : Mem}
theorem apartB {h : Mem} {r r' cap es : Nat} {ty : TypeId} {ys : List Value} (hb : RowO h r cap ty es ys) (hap : Apart μ h) (hor : r' = r ∨ (h r' = none ∧ μ r' = none)) : μ r' = none := by
  rcases hor with rfl | ⟨_, h2⟩
  · obtain ⟨cs, h1, _⟩ := hb
    cases e : μ r' with
    | none => rfl
    | some o => have := hap r' (by simp [e]); rw [h1] at this; cases this
  · exact h2
theorem Fresh.bd {μ' : Mem} {n : Int} {x : T} {q : Option Addr × Nat} (h : Fresh μ μ' x.tm.d (.agg (x.tm.cs q).toArray)) (hle : μ.Le μ') : Fresh μ μ' (B.bd ⟨n, x⟩).d (.agg (Value.int .i64 n :: x.tm.cs q).toArray) := by
  have := (FreshS.int (n := n) (FreshS.cons h hle (Mem.Le.refl _) FreshS.nil)).st
  have e : vcells (.agg (x.tm.cs q).toArray) ++ [] = x.tm.cs q := by simp [vcells]
  rw [e] at this
  exact this
set_option maxHeartbeats 4000000 in
theorem impl_ComposeSubst_spec {l m : List Bd} {base base2 : Option Addr} {cap cap2 : Nat} (hsl : Sl μ 5 base l.length (l.map Bd.d)) (hsm : Sl μ 5 base2 m.length (m.map Bd.d)) :
    Spec Try.prog 25 [.slice base l.length cap, .slice base2 m.length cap2] μ fun v μ' => optB (fun y tv => Fresh μ μ' (.sl 5 ((y.map B.bd).map Bd.d)) tv) (comp l m) v := by
  refine Spec.mkO [21] Try.func25 (by kernel_rfl) ?_
  refine call_gives (impl_SubstOk_spec hsl) ?_
  refine ifnd (fun h => ret_plain (by rw [comp, if_neg fun k => h k.1]; rfl)) (fun h1 => ?_)
  refine call_gives (impl_SubstOk_spec hsm) ?_
  refine ifnd (fun h => ret_plain (by rw [comp, if_neg fun k => h k.2]; rfl)) (fun h2 => ?_)
  have hcmp : comp l m = compL (l.map Bd.b) (m.map Bd.b) := by rw [comp, if_pos ⟨h1, h2⟩]
  rw [hcmp]
  obtain ⟨bs, rfl, hbs⟩ := h1.subst
  obtain ⟨bt, rfl, hbt⟩ := h2.subst
  clear hcmp
  rw [B.map_b, B.map_b]
  simp only [List.length_map] at hsl hsm ⊢
  have hlen := hbs.vals.len
  have hlen2 := hbt.vals.len
  generalize hout : compL bs bt = O
  rw [compL] at hout
  generalize hc : compFrom bt bs [] = R at hout
  intro r21 hm21 ho21
  refine loop_intro (fun p : Nat × Nat × Nat × Nat × List Value × List B × Mem × Mem => p.1 ≤ bs.length ∧ p.2.2.2.2.1.length = p.2.2.2.1 ∧ RowO p.2.2.2.2.2.2.2 p.2.1 p.2.2.1 109 5 p.2.2.2.2.1 ∧ Apart p.2.2.2.2.2.2.1 p.2.2.2.2.2.2.2 ∧ μ.Le p.2.2.2.2.2.2.1 ∧ Grown 5 μ p.2.2.2.2.2.2.1 ((p.2.2.2.2.2.1.map B.bd).map Bd.d) p.2.2.2.2.1 ∧ compFrom bt (bs.drop p.1) p.2.2.2.2.2.1 = R ∧ (p.2.2.2.2.2.1.map B.var).Sublist ((bs.take p.1).map B.var))
    (fun (i, b, c, m, ys, acc, μ', h) => ⟨[(0, .val (.slice base bs.length cap)), (1, .val (.slice base2 bt.length cap2)), (6, .val (.slice (some ⟨b, 0, none⟩) m c)), (22, .val (.slice base bs.length cap)), (23, .val (.int .i64 bs.length)), (24, .val (.int .i64 i))], [], 0, μ', h⟩) (fun p => bs.length - p.1)
    (0, r21, 0, 0, [], [], μ, _) ⟨by simp, rfl, ⟨[], Mem.set_at _ _ _, by simp, by simp, by simp, rfl, rfl⟩, (apart_nil μ).set hm21, Mem.Le.refl _, Grown.nil _ _ _, hc, by simp⟩ (fun (_, _, _, _, _, _, _, _) => ⟨rfl, rfl⟩) ⟨⟨rfl, rfl, rfl, rfl, rfl, rfl, trivial⟩, trivial, rfl, rfl⟩ ?_
  clear hc hm21 ho21
  rintro ⟨i, b, c, m, ys, acc, μ', h⟩ ⟨hi, hm, hb, hap, hle, hgr, hJ, hsub⟩
  dsimp only at hi hm hb hap hle hgr hJ hsub
  have hyl := hgr.len
  have hal := hsub.length_le
  simp only [List.length_map, List.length_take] at hyl hal
  refine ifd (fun hlt => ?_) (fun hlt => ?_)
  · obtain ⟨x, hx⟩ := at_some (l := bs) (i := i) (by omega)
    obtain ⟨ad, p, hel, hto⟩ := B.elem (hsl.mono hle) hx
    rw [drop_at hx, compFrom] at hJ
    have hsub1 : ∀ z : T, ((acc ++ [B.mk x.var z]).map B.var).Sublist ((bs.take (i + 1)).map B.var) := fun z => by
      rw [List.take_add_one, hx, Option.toList_some, List.map_append, List.map_append]
      exact hsub.append (List.Sublist.refl _)
    have hsub2 : (acc.map B.var).Sublist ((bs.take (i + 1)).map B.var) := by
      rw [List.take_add_one, List.map_append]
      exact hsub.trans (List.sublist_append_left _ _)
    refine elem_intro hel ?_
    intro r8
    refine call_data hap (put_spec x.to hbt.vals.srt (by omega) hbt.vals.tok (hsm.mono hle) hto) fun v1 μ1 hle1 hap1 hR => ?_
    cases hf : fit (x.to.subst (sub bt)) with
    | none =>
      rw [hf] at hR hJ
      obtain rfl := hR
      obtain rfl : none = R := hJ
      obtain rfl : none = O := hout
      intro r9
      refine if_intro (fun _ => ?_) (fun h => nomatch h)
      exact ret_own _ Mem.nil (Parts.nil_right _) rfl
    | some y =>
      rw [hf] at hR hJ
      dsimp only at hJ
      obtain ⟨tv, rfl, htv⟩ := hR
      obtain ⟨q, rfl⟩ := Tm.invV htv.rep
      intro r9
      refine if_intro (fun h => nomatch h) (fun _ => ?_)
      refine ifnd (fun hk => ?_) (fun hk => ?_)
      · rw [if_neg fun e => hk ((T.isVar (n := x.var)).2 e).1] at hJ
        intro r52
        refine app_intro ys hm hb ?_ ?_ fun b' c' o hrow hor => ?_
        · show (m + 1) * 64 ≤ _; omega
        · exact Nat.le_trans (m := 100000000) (show m + 1 ≤ _ by omega) (by decide)
        refine num64 (by omega) (by omega) ⟨(i + 1, b', c', m + 1, _, acc ++ [⟨x.var, y⟩], μ1, _), ⟨by dsimp only; omega, by dsimp only; rw [List.length_append, hm]; rfl, hrow, hap1.set (apartB hb hap1 hor), hle.trans hle1, ?_, hJ, hsub1 _⟩, by dsimp only; omega, ⟨⟨rfl, rfl, rfl, rfl, rfl, rfl, trivial⟩, trivial, rfl, rfl⟩⟩
        dsimp only
        rw [List.map_append, List.map_append]
        exact hgr.snoc hle (Fresh.bd htv hle1) hle1 (Bd.d_n _)
      refine ifnd (fun hk2 => ?_) (fun hk2 => ?_)
      · rw [if_neg fun e => hk2 ((T.isVar (n := x.var)).2 e).2] at hJ
        intro r52
        refine app_intro ys hm hb ?_ ?_ fun b' c' o hrow hor => ?_
        · show (m + 1) * 64 ≤ _; omega
        · exact Nat.le_trans (m := 100000000) (show m + 1 ≤ _ by omega) (by decide)
        refine num64 (by omega) (by omega) ⟨(i + 1, b', c', m + 1, _, acc ++ [⟨x.var, y⟩], μ1, _), ⟨by dsimp only; omega, by dsimp only; rw [List.length_append, hm]; rfl, hrow, hap1.set (apartB hb hap1 hor), hle.trans hle1, ?_, hJ, hsub1 _⟩, by dsimp only; omega, ⟨⟨rfl, rfl, rfl, rfl, rfl, rfl, trivial⟩, trivial, rfl, rfl⟩⟩
        dsimp only
        rw [List.map_append, List.map_append]
        exact hgr.snoc hle (Fresh.bd htv hle1) hle1 (Bd.d_n _)
      · rw [if_pos ((T.isVar (n := x.var)).1 ⟨hk, hk2⟩)] at hJ
        refine num64 (by omega) (by omega) ⟨(i + 1, b, c, m, ys, acc, μ1, h), ⟨by dsimp only; omega, hm, hb, hap1, hle.trans hle1, hgr.mono hle1, hJ, hsub2⟩, by dsimp only; omega, ⟨⟨rfl, rfl, rfl, rfl, rfl, rfl, trivial⟩, trivial, rfl, rfl⟩⟩
  obtain rfl : i = bs.length := by omega
  rw [List.drop_length, compFrom] at hJ
  rw [List.take_length] at hsub
  subst hJ
  dsimp only at hout
  have hnd := comp_nodup (bt := bt) hbs.vals.srt.asc hbt.vals.srt.asc hsub
  have hal0 : acc.length ≤ 400 := by omega
  clear hsub hal hi hlt
  refine loop_intro (fun p : Nat × Nat × Nat × Nat × List Value × Mem × Mem => p.1 ≤ bt.length ∧ p.2.2.2.2.1.length = p.2.2.2.1 ∧ RowO p.2.2.2.2.2.2 p.2.1 p.2.2.1 109 5 p.2.2.2.2.1 ∧ Apart p.2.2.2.2.2.1 p.2.2.2.2.2.2 ∧ μ.Le p.2.2.2.2.2.1 ∧ Grown 5 μ p.2.2.2.2.2.1 (((acc ++ restB bs (bt.take p.1)).map B.bd).map Bd.d) p.2.2.2.2.1)
    (fun (i, b, c, m, ys, μ', h) => ⟨[(0, .val (.slice base bs.length cap)), (6, .val (.slice (some ⟨b, 0, none⟩) m c)), (55, .val (.slice base2 bt.length cap2)), (56, .val (.int .i64 bt.length)), (57, .val (.int .i64 i))], [], 0, μ', h⟩) (fun p => bt.length - p.1)
    (0, b, c, m, ys, μ', h) ⟨by simp, hm, hb, hap, hle, by simpa [restB] using hgr⟩ (fun (_, _, _, _, _, _, _) => ⟨rfl, rfl⟩) ⟨⟨rfl, rfl, rfl, rfl, rfl, trivial⟩, trivial, rfl, rfl⟩ ?_
  clear hgr hle hb hyl hap hm
  rintro ⟨i, b, c, m, ys, μ', h⟩ ⟨hi, hm, hb, hap, hle, hgr⟩
  dsimp only at hi hm hb hap hle hgr
  have hyl := hgr.len
  have hfl : (restB bs (bt.take i)).length ≤ i := Nat.le_trans (List.length_filter_le _ _) (by simp; omega)
  simp only [List.length_map, List.length_append] at hyl
  refine ifd (fun hlt => ?_) (fun hlt => ?_)
  · obtain ⟨x, hx⟩ := at_some (l := bt) (i := i) (by omega)
    obtain ⟨ad, p, hel, hto⟩ := B.elem (hsm.mono hle) hx
    have hrest : restB bs (bt.take (i + 1)) = restB bs (bt.take i) ++ if sub bs x.var = none then [x] else [] := by
      rw [restB, List.take_add_one, hx, Option.toList_some, List.filter_append, restB]
      congr 1
      by_cases h : sub bs x.var = none
      · simp [h]
      · simp [h]
    refine elem_intro hel ?_
    intro r12
    refine call_data hap (find_spec hbs.vals.srt (by omega) (hsl.mono hle)) fun v1 μ1 hle1 hap1 hR => ?_
    obtain ⟨hF, e5⟩ := hR
    obtain rfl := e5.symm
    rcases hF with ⟨k, z, rfl, hz, hzv⟩ | ⟨rfl, hno⟩
    · refine ifd (fun h => by omega) (fun _ => ?_)
      have hs : sub bs x.var = some z.to := sub_some hbs.vals.srt hz hzv
      rw [if_neg (by rw [hs]; simp), List.append_nil] at hrest
      refine num64 (by omega) (by omega) ⟨(i + 1, b, c, m, ys, μ', h), ⟨by dsimp only; omega, hm, hb, hap, hle, by dsimp only; rw [hrest]; exact hgr⟩, by dsimp only; omega, ⟨⟨rfl, rfl, rfl, rfl, rfl, trivial⟩, trivial, rfl, rfl⟩⟩
    · refine ifd (fun _ => ?_) (fun h => absurd (by decide) h)
      have hno' : sub bs x.var = none := sub_none hno
      rw [if_pos hno'] at hrest
      refine call_data hap (copyTerm_spec x.to hto) fun v1 μ1 hle1 hap1 hR => ?_
      obtain ⟨q, rfl⟩ := Tm.invV hR.rep
      intro r73
      refine app_intro ys hm hb ?_ ?_ fun b' c' o hrow hor => ?_
      · show (m + 1) * 64 ≤ _; omega
      · exact Nat.le_trans (m := 100000000) (show m + 1 ≤ _ by omega) (by decide)
      refine num64 (by omega) (by omega) ⟨(i + 1, b', c', m + 1, _, μ1, _), ⟨by dsimp only; omega, by dsimp only; rw [List.length_append, hm]; rfl, hrow, hap1.set (apartB hb hap1 hor), hle.trans hle1, ?_⟩, by dsimp only; omega, ⟨⟨rfl, rfl, rfl, rfl, rfl, trivial⟩, trivial, rfl, rfl⟩⟩
      dsimp only
      rw [hrest, ← List.append_assoc, List.map_append, List.map_append]
      exact hgr.snoc hle (Fresh.bd hR hle1) hle1 (Bd.d_n _)
  obtain rfl : i = bt.length := by omega
  rw [List.take_length] at hgr hyl hfl
  generalize hL : acc ++ restB bs bt = L at *
  have hLl : L.length ≤ 800 := by rw [← hL, List.length_append]; omega
  subst hm
  have hyl' : L.length = ys.length := by rw [← hL, List.length_append]; exact hyl
  obtain ⟨cs, hcell, hlen0, hcap, hone, hcs, htake⟩ := hb
  obtain ⟨rest, rfl⟩ : ∃ rest, cs = ys.flatMap vcells ++ rest := by
    refine ⟨cs.drop (ys.length * 5), ?_⟩
    conv => lhs; rw [← List.take_append_drop (ys.length * 5) cs, htake]
  obtain ⟨h0, hh0, hsplit⟩ : ∃ h0 : Mem, h0 b = none ∧ h = RowV h0 b 109 rest ys.toArray := by
    refine ⟨fun k => if k = b then none else h k, if_pos rfl, funext fun k => ?_⟩
    rw [RowV, Mem.set_get]
    by_cases e : k = b
    · subst e; rw [if_pos rfl, hcell]
    · rw [if_neg e, if_neg e]
  subst hsplit
  obtain ⟨g, hown, hgle, hgf⟩ := hgr
  rw [List.map_map] at hown
  obtain ⟨hP, e1, e2⟩ := Prs.zip (f := fun b : B => b.bd.d) hown hone
  have ea : ys.toArray = (L.zip ys).toArray.map Prod.snd := by simp [e2]
  have hzn : (L.zip ys).toArray.size = ys.length := by simp; omega
  have hspec := sortBindings_spec (μ := μ') (h0 := h0) (r := b) (ty := 109) (rest := rest) (n := ys.length) (cap := c) (d0 := (L.zip ys).toArray) hh0 hP hzn (by omega)
  rw [← ea] at hspec
  refine call_own hspec fun v μ2 h2 hle2 hap2 hR => ?_
  obtain ⟨rfl, d', p1, p2, rfl⟩ := hR
  have hds : d'.size = ys.length := by
    have := p1.length_eq
    rw [Array.length_toList, Array.length_toList] at this
    omega
  obtain ⟨S, hS⟩ : ∃ S, S = d'.toList.map Prod.fst := ⟨_, rfl⟩
  obtain ⟨vs, hvs⟩ : ∃ vs, vs = d'.toList.map Prod.snd := ⟨_, rfl⟩
  have hSp : S.Perm L := by rw [hS, ← e1]; exact p1.map _
  have hSa : AscB S := by
    refine AscB.of_le ?_ ((hSp.map _).nodup_iff.2 hnd)
    rw [List.pairwise_iff_getElem]
    intro a b' ha hb' hab
    subst hS
    have ha : a < d'.size := by simpa using ha
    have hb' : b' < d'.size := by simpa using hb'
    have := p2 a b' (Nat.zero_le _) hab (by omega)
    rw [getElem!_pos d' a (by omega), getElem!_pos d' b' (by omega)] at this
    simp only [ltB, decide_eq_false_iff_not] at this
    simp only [List.getElem_map, Array.getElem_toList]
    exact Int.not_lt.1 this
  have hSs : S = sortB L := sortB_uniq hSp hSa
  have hP2 := hP.perm p1.symm
  have hown2 : OwnRows 5 ((S.map B.bd).map Bd.d) vs g := by
    have := hP2.own
    rw [hS, hvs, List.map_map, List.map_map]
    exact this
  have hvl : vs.length = ys.length := by rw [hvs]; simpa using hds
  have hSl : S.length = ys.length := by rw [hS]; simpa using hds
  have hb2 : μ2 b = none := by
    cases e : μ2 b with
    | none => rfl
    | some o => have := hap2 b (by simp [e]); rw [RowV, Mem.set_at] at this; cases this
  have hev : (d'.map Prod.snd).toList = vs := by rw [hvs]; simp
  have F := Fresh.ofRow (μ := μ) (μ1 := μ2) (μ' := μ2.join (RowV h0 b 109 rest (d'.map Prod.snd))) (b := some b) (cap := c) hown2 (hgle.trans hle2) hgf (hle.trans hle2) (Mem.le_join _ _) (fun r e => by cases e; exact hb2)
    ⟨by omega, fun x hx => by
      rw [hvs] at hx
      obtain ⟨p, hp, rfl⟩ := List.mem_map.1 hx
      exact hP2.size p hp, _, _, by rw [Mem.join_get, hb2, RowV, Mem.set_at], by
        have h5 : (ys.flatMap vcells).length = ys.length * 5 := flat_len _ fun y hy => (hone y hy).1
        have h6 : (vs.flatMap vcells).length = vs.length * 5 := flat_len _ fun y hy => by
          rw [hvs] at hy
          obtain ⟨p, hp, rfl⟩ := List.mem_map.1 hy
          exact (hP2.size p hp).1
        rw [List.length_append] at hcs
        rw [hev, List.size_toArray, List.length_append]
        omega, by
        have h6 : (vs.flatMap vcells).length = vs.length * 5 := flat_len _ fun y hy => by
          rw [hvs] at hy
          obtain ⟨p, hp, rfl⟩ := List.mem_map.1 hy
          exact (hP2.size p hp).1
        rw [hev, ← h6, List.take_left]⟩ (Nat.le_trans (m := 100000000) (by omega) (by decide))
  rw [hvl] at F
  have hrep := F.rep
  obtain ⟨b9, c9, e9, hslS⟩ := Rep.sl hrep
  have hslS' : Sl (μ2.join (RowV h0 b 109 rest (d'.map Prod.snd))) 5 (some ⟨b, 0, none⟩) (S.map B.bd).length ((S.map B.bd).map Bd.d) := by
    simp only [Option.map_some, Value.slice.injEq] at e9
    obtain ⟨rfl, e10, rfl⟩ := e9
    simpa using hslS
  have hok := impl_SubstOk_spec (cap := c) hslS'
  have hSbl : (S.map B.bd).length = ys.length := by simpa using hSl
  rw [hSbl] at hok
  refine call_read hap2 hok ?_
  subst hout
  rw [← hSs]
  refine ifnd (fun h => ?_) (fun h => ?_)
  · refine ret_own _ Mem.nil (Parts.nil_right _) ?_
    rw [if_neg fun k => h ((substOk_iff S).2 k)]
    rfl
  · refine ret_own _ Mem.nil (Parts.nil_right _) ?_
    rw [if_pos ((substOk_iff S).1 h)]
    exact ⟨_, rfl, F⟩
end
end Go.Vx

/- Plain: terms that are well-formed fit the machine. -/
namespace Go.Vx
open Go.Proofs Classical
theorem var_ok {n : Int} (h : 0 ≤ n ∧ n ≤ 100000) : (T.var n).ok := ⟨h, by simp [T.size]⟩
theorem var_wd {n : Int} (h : 0 ≤ n ∧ n ≤ 100000) : (T.var n).tm.d.wd := by
  rw [T.d_eq]
  exact ⟨⟨show (-9223372036854775808 : Int) ≤ 1 by decide, show (1 : Int) ≤ 9223372036854775807 by decide⟩, ⟨show _ ≤ n by omega, show n ≤ _ by omega⟩, Nat.zero_le _, trivial, trivial⟩
theorem T.good_subst {f : Int → Option T} (hf : ∀ n y, f n = some y → y.good) : ∀ {x : T}, x.good → (x.subst f).good
  | .var n, h => by
    simp only [T.subst]
    cases e : f n with
    | none => exact h
    | some y => exact hf n y e
  | .pair a b, h => ⟨T.good_subst hf h.1, T.good_subst hf h.2⟩
  | .nil, h => h
  | .sym _, h => h
  | .num _, h => h
theorem T.good_wd : ∀ {x : T}, x.good → x.tm.d.wd
  | .nil, _ => by
    rw [T.d_eq]
    exact ⟨⟨show (-9223372036854775808 : Int) ≤ 0 by decide, show (0 : Int) ≤ 9223372036854775807 by decide⟩, ⟨show (-9223372036854775808 : Int) ≤ 0 by decide, show (0 : Int) ≤ 9223372036854775807 by decide⟩, Nat.zero_le _, trivial, trivial⟩
  | .var n, h => var_wd h
  | .sym s, h => by
    rw [T.d_eq]
    exact ⟨⟨show (-9223372036854775808 : Int) ≤ 2 by decide, show (2 : Int) ≤ 9223372036854775807 by decide⟩, ⟨show (-9223372036854775808 : Int) ≤ 0 by decide, show (0 : Int) ≤ 9223372036854775807 by decide⟩, Nat.le_trans h.2.1 (by decide), trivial, trivial⟩
  | .num n, h => by
    have h1 : -1000000000 ≤ n ∧ n ≤ 1000000000 := h
    rw [T.d_eq]
    exact ⟨⟨show (-9223372036854775808 : Int) ≤ 3 by decide, show (3 : Int) ≤ 9223372036854775807 by decide⟩, ⟨show _ ≤ n by omega, show n ≤ _ by omega⟩, Nat.zero_le _, trivial, trivial⟩
  | .pair a b, h => by
    rw [T.d_eq]
    exact ⟨⟨show (-9223372036854775808 : Int) ≤ 4 by decide, show (4 : Int) ≤ 9223372036854775807 by decide⟩, ⟨show (-9223372036854775808 : Int) ≤ 0 by decide, show (0 : Int) ≤ 9223372036854775807 by decide⟩, Nat.zero_le _, ⟨T.good_wd h.1, T.good_wd h.2, trivial⟩, trivial⟩
theorem goods_wd : ∀ {l : List T}, (∀ x ∈ l, x.good) → D.wds ((l.map T.tm).map Tm.d)
  | [], _ => trivial
  | x :: l, h => ⟨T.good_wd (h x (by simp)), goods_wd fun y hy => h y (by simp [hy])⟩
end Go.Vx

/- Contracts: substitutions composed: the reference's side. -/
namespace Go.Vx
open Go.Proofs Classical
def GoodB (b : B) : Prop := b.to.good ∧ 0 ≤ b.var ∧ b.var ≤ 100000
theorem goodB_wd : ∀ {l : List B}, (∀ b ∈ l, GoodB b) → D.wds ((l.map B.bd).map Bd.d)
  | [], _ => trivial
  | b :: l, h => by
    obtain ⟨h1, h2, h3⟩ := h b (by simp)
    exact ⟨⟨⟨show (-9223372036854775808 : Int) ≤ b.var by omega, show b.var ≤ (9223372036854775807 : Int) by omega⟩, T.good_wd h1, trivial⟩, goodB_wd fun y hy => h y (by simp [hy])⟩
theorem Vals.good {bs : List B} (h : Vals bs) : ∀ b ∈ bs, GoodB b := fun b hb => ⟨(h.tok b hb).1, h.var b hb⟩
theorem compFrom_good {bt : List B} (ht : Vals bt) : ∀ {l acc R : List B}, (∀ b ∈ l, GoodB b) → (∀ b ∈ acc, GoodB b) → compFrom bt l acc = some R → ∀ b ∈ R, GoodB b
  | [], acc, R, _, ha, h => by
    rw [compFrom] at h; cases h; exact ha
  | b :: l, acc, R, hl, ha, h => by
    rw [compFrom] at h
    cases hf : fit (b.to.subst (sub bt)) with
    | none => rw [hf] at h; cases h
    | some x =>
      rw [hf] at h
      refine compFrom_good ht (fun c hc => hl c (by simp [hc])) ?_ h
      split
      · exact ha
      · intro c hc
        rcases List.mem_append.1 hc with hc | hc
        · exact ha c hc
        · rw [List.mem_singleton] at hc
          subst hc
          have hb := hl b (by simp)
          obtain ⟨_, rfl⟩ := fit_some.1 hf
          exact ⟨T.good_subst (fun n y hy => (sub_ok ht.tok hy).1) hb.1, hb.2⟩
/-- An insertion at its place keeps the order. -/
theorem insAt_perm {α : Type} (l : List α) (x : α) (k : Nat) : (insAt l x k).Perm (l ++ [x]) := by
  unfold insAt
  have h : (l.take k ++ ([x] ++ l.drop k)).Perm (l.take k ++ (l.drop k ++ [x])) := List.Perm.append_left _ List.perm_append_comm
  have e : l.take k ++ (l.drop k ++ [x]) = l ++ [x] := by rw [← List.append_assoc, List.take_append_drop]
  rw [e] at h
  exact h
theorem InsPos.asc {bs : List B} {b : B} {k : Nat} (h : AscB bs) (hk : InsPos bs b.var k) (hn : b.var ∉ bs.map B.var) : AscB (insAt bs b k) := by
  obtain ⟨hk0, hk1, hk2⟩ := hk
  unfold insAt AscB
  have h1 : ∀ a ∈ bs.take k, a.var < b.var := fun a ha => by
    obtain ⟨i, hi⟩ := List.mem_iff_getElem?.1 ha
    have hik : i < k := by
      have := (List.getElem?_eq_some_iff.1 hi).1
      rw [List.length_take] at this; omega
    rw [List.getElem?_take_of_lt hik] at hi
    have hne : a.var ≠ b.var := fun e => hn (by rw [← e]; exact List.mem_map.2 ⟨a, mem_at hi, rfl⟩)
    obtain ⟨c, hc⟩ := at_some (l := bs) (i := k - 1) (by omega)
    have h2 := hk1 c hc (by omega)
    rcases Nat.lt_or_ge i (k - 1) with h3 | h3
    · have := h.srt i (k - 1) a c h3 hi hc; omega
    · obtain rfl : i = k - 1 := by omega
      rw [hi] at hc; cases hc; omega
  have h2 : ∀ a ∈ bs.drop k, b.var < a.var := fun a ha => by
    obtain ⟨i, hi⟩ := List.mem_iff_getElem?.1 ha
    rw [List.getElem?_drop] at hi
    exact hk2 (k + i) a (by omega) hi
  rw [List.pairwise_append, List.pairwise_append]
  refine ⟨h.sublist (List.take_sublist _ _), ⟨List.pairwise_singleton _ _, h.sublist (List.drop_sublist _ _), fun a ha c hc => ?_⟩, fun a ha c hc => ?_⟩
  · rw [List.mem_singleton] at ha; subst ha; exact h2 c hc
  · rcases List.mem_append.1 hc with hc | hc
    · rw [List.mem_singleton] at hc; subst hc; exact h1 a ha
    · have := h1 a ha; have := h2 c hc; omega
section
variable {μ : Mem}
theorem RepV.bd {n : Int} {x : T} {q : Option Addr × Nat} (h : RepV μ x.tm.d (.agg (x.tm.cs q).toArray)) : RepV μ (B.bd ⟨n, x⟩).d (.agg (Value.int .i64 n :: x.tm.cs q).toArray) := by
  have hc := RepV.cells h
  have e : vcells (.agg (x.tm.cs q).toArray) = x.tm.cs q := by simp [vcells]
  rw [e] at hc
  exact ⟨_, rfl, RepS.int (RepS.last hc)⟩
theorem l04Copy_spec {bs : List B} {base : Option Addr} {cap : Nat} (hsl : Sl μ 5 base bs.length ((bs.map B.bd).map Bd.d)) (hn : bs.length ≤ 1000000) :
    Spec Try.prog 72 [.slice base bs.length cap] μ fun v μ' => RepV μ' (.sl 5 ((bs.map B.bd).map Bd.d)) v := by
  refine Spec.mkO [6] Try.func72 (by kernel_rfl) ?_
  intro r6 hm6 ho6
  refine loop_intro (fun p : Nat × Nat × Nat × Nat × List Value × Mem × Mem => p.1 ≤ bs.length ∧ p.2.2.2.2.1.length = p.2.2.2.1 ∧ RowO p.2.2.2.2.2.2 p.2.1 p.2.2.1 109 5 p.2.2.2.2.1 ∧ Apart p.2.2.2.2.2.1 p.2.2.2.2.2.2 ∧ μ.Le p.2.2.2.2.2.1 ∧ Rows p.2.2.2.2.2.1 5 (((bs.take p.1).map B.bd).map Bd.d) p.2.2.2.2.1)
    (fun (i, b, c, m, ys, μ', h) => ⟨[(3, .val (.slice (some ⟨b, 0, none⟩) m c)), (7, .val (.slice base bs.length cap)), (8, .val (.int .i64 bs.length)), (9, .val (.int .i64 i))], [], 0, μ', h⟩) (fun p => bs.length - p.1)
    (0, r6, 0, 0, [], μ, _) ⟨by simp, rfl, ⟨[], Mem.set_at _ _ _, by simp, by simp, by simp, rfl, rfl⟩, (apart_nil μ).set hm6, Mem.Le.refl _, .nil⟩ (fun (_, _, _, _, _, _, _) => ⟨rfl, rfl⟩) ⟨⟨rfl, rfl, rfl, rfl, trivial⟩, trivial, rfl, rfl⟩ ?_
  clear hm6 ho6
  rintro ⟨i, b, c, m, ys, μ', h⟩ ⟨hi, hm, hb, hap, hle, hgr⟩
  dsimp only at hi hm hb hap hle hgr
  have hyl := hgr.len
  simp only [List.length_map, List.length_take] at hyl
  refine ifd (fun hlt => ?_) (fun hlt => ?_)
  · obtain ⟨x, hx⟩ := at_some (l := bs) (i := i) (by omega)
    obtain ⟨ad, p, hel, hto⟩ := B.elem (hsl.mono hle) hx
    refine elem_intro hel ?_
    intro r5
    refine call_data hap (l02Copy_spec x.to hto) fun v1 μ1 hle1 hap1 hR => ?_
    obtain ⟨q, rfl⟩ := Tm.invV hR
    intro r20
    refine app_intro ys hm hb ?_ ?_ fun b' c' o hrow hor => ?_
    · show (m + 1) * 64 ≤ _; omega
    · exact Nat.le_trans (m := 100000000) (show m + 1 ≤ _ by omega) (by decide)
    refine num64 (by omega) (by omega) ⟨(i + 1, b', c', m + 1, _, μ1, _), ⟨by dsimp only; omega, by dsimp only; rw [List.length_append, hm]; rfl, hrow, hap1.set (apartB hb hap1 hor), hle.trans hle1, ?_⟩, by dsimp only; omega, ⟨⟨rfl, rfl, rfl, rfl, trivial⟩, trivial, rfl, rfl⟩⟩
    dsimp only
    rw [List.take_add_one, hx, Option.toList_some]
    simp only [List.map_append, List.map_cons, List.map_nil]
    exact (hgr.mono hle1).append (Rows.one (RepV.bd hR) (Bd.d_n _))
  · obtain rfl : i = bs.length := by omega
    rw [List.take_length] at hgr
    refine ret_own _ Mem.nil (Parts.nil_right _) ?_
    obtain ⟨cs, hcell, hlen0, hcap, hone, hcs, htake⟩ := hb
    have hb2 : μ' b = none := by
      cases e : μ' b with
      | none => rfl
      | some o => have := hap b (by simp [e]); rw [hcell] at this; cases this
    have hrow : RowAt (μ'.join h) (some b) c 5 ys := ⟨hlen0, hone, _, _, by rw [Mem.join_get, hb2]; exact hcell, by simpa using hcs, by simpa using htake⟩
    subst hm
    exact Rows.sl hrow (hgr.mono (Mem.le_join _ _)) (Nat.le_trans (m := 100000000) (by omega) (by decide))
/-- What stands for the growing list: a row of one's own, or data. -/
def HoldsB (μ : Mem) (S : List B) : (Option Nat × Nat × List Value) ⊕ Value → Prop
  | .inl (_, _, ys) => Rows μ 5 ((S.map B.bd).map Bd.d) ys
  | .inr v => RepV μ (.sl 5 ((S.map B.bd).map Bd.d)) v
set_option maxHeartbeats 4000000 in
theorem spec_ComposeSubst_spec {l m : List Bd} {base base2 : Option Addr} {cap cap2 : Nat} (hsl : Sl μ 5 base l.length (l.map Bd.d)) (hwl : D.wds (l.map Bd.d)) (hsm : Sl μ 5 base2 m.length (m.map Bd.d)) (hwm : D.wds (m.map Bd.d)) :
    Spec Try.prog 23 [.slice base l.length cap, .slice base2 m.length cap2] μ fun v μ' => optB (fun y tv => RepV μ' (.sl 5 ((y.map B.bd).map Bd.d)) tv) (comp l m) v := by
  refine Spec.mk Try.func23 (by kernel_rfl) ?_
  refine call_gives (spec_SubstOk_spec hsl hwl) ?_
  refine ifnd (fun h => ret_plain (by rw [comp, if_neg fun k => h k.1]; rfl)) (fun h1 => ?_)
  refine call_gives (spec_SubstOk_spec hsm hwm) ?_
  refine ifnd (fun h => ret_plain (by rw [comp, if_neg fun k => h k.2]; rfl)) (fun h2 => ?_)
  have hcmp : comp l m = compL (l.map Bd.b) (m.map Bd.b) := by rw [comp, if_pos ⟨h1, h2⟩]
  rw [hcmp]
  obtain ⟨bs, rfl, hbs⟩ := h1.subst
  obtain ⟨bt, rfl, hbt⟩ := h2.subst
  clear hcmp
  rw [B.map_b, B.map_b]
  simp only [List.length_map] at hsl hsm ⊢
  have hlen := hbs.vals.len
  have hlen2 := hbt.vals.len
  generalize hout : compL bs bt = O
  rw [compL] at hout
  generalize hc : compFrom bt bs [] = R at hout
  have hgood : ∀ z, R = some z → ∀ b ∈ z, GoodB b := fun z hz => compFrom_good hbt.vals hbs.vals.good (by simp) (hc.trans hz)
  intro r23
  refine loop_intro (fun p : Nat × Option Nat × Nat × List Value × List B × Mem => p.1 ≤ bs.length ∧ μ.Le p.2.2.2.2.2 ∧ Rows p.2.2.2.2.2 5 ((p.2.2.2.2.1.map B.bd).map Bd.d) p.2.2.2.1 ∧ compFrom bt (bs.drop p.1) p.2.2.2.2.1 = R ∧ (p.2.2.2.2.1.map B.var).Sublist ((bs.take p.1).map B.var))
    (fun (i, b, c, ys, acc, μ') => ⟨[(0, .val (.slice base bs.length cap)), (1, .val (.slice base2 bt.length cap2)), (6, .row 0 b ys.length c), (24, .val (.slice base bs.length cap)), (25, .val (.int .i64 bs.length)), (26, .val (.int .i64 i))], [(0, some (.row b c 109 5 ys))], 1, μ', Mem.nil⟩) (fun p => bs.length - p.1)
    (0, some r23, 0, [], [], μ) ⟨by simp, Mem.Le.refl _, .nil, hc, by simp⟩ (fun (_, _, _, _, _, _) => ⟨rfl, rfl⟩) ⟨⟨rfl, rfl, rfl, rfl, rfl, rfl, trivial⟩, ⟨rfl, trivial⟩, rfl, rfl⟩ ?_
  clear hc
  rintro ⟨i, b, c, ys, acc, μ'⟩ ⟨hi, hle, hgr, hJ, hsub⟩
  dsimp only at hi hle hgr hJ hsub
  have hyl := hgr.len
  have hal := hsub.length_le
  simp only [List.length_map, List.length_take] at hyl hal
  refine ifd (fun hlt => ?_) (fun hlt => ?_)
  · obtain ⟨x, hx⟩ := at_some (l := bs) (i := i) (by omega)
    obtain ⟨ad, p, hel, hto⟩ := B.elem (hsl.mono hle) hx
    rw [drop_at hx, compFrom] at hJ
    have hsub1 : ∀ z : T, ((acc ++ [B.mk x.var z]).map B.var).Sublist ((bs.take (i + 1)).map B.var) := fun z => by
      rw [List.take_add_one, hx, Option.toList_some, List.map_append, List.map_append]
      exact hsub.append (List.Sublist.refl _)
    have hsub2 : (acc.map B.var).Sublist ((bs.take (i + 1)).map B.var) := by
      rw [List.take_add_one, List.map_append]
      exact hsub.trans (List.sublist_append_left _ _)
    refine elem_intro hel ?_
    intro r8
    refine call_plain (l04Apply_spec x.to (hsm.mono hle) hto) fun v1 μ1 hle1 hR => ?_
    obtain ⟨tv, rfl, htv⟩ := hR
    obtain ⟨q, rfl⟩ := Tm.invV htv
    intro r9
    refine ifnd (fun h3 => ?_) (fun h3 => ?_)
    · rw [fit, if_neg h3] at hJ
      obtain rfl : none = R := hJ
      obtain rfl : none = O := hout
      exact ret_plain rfl
    rw [fit, if_pos h3] at hJ
    dsimp only at hJ
    generalize x.to.subst (sub bt) = y at *
    refine ifnd (fun hk => ?_) (fun hk => ?_)
    · rw [if_neg fun e => hk ((T.isVar (n := x.var)).2 e).1] at hJ
      intro r54
      refine grow_intro ?_ ?_ fun b' c' _ => ?_
      · show (ys.length + 1) * 64 ≤ _; omega
      · exact Nat.le_trans (m := 100000000) (show ys.length + 1 ≤ _ by omega) (by decide)
      refine num64 (by omega) (by omega) ⟨(i + 1, b', c', _, acc ++ [⟨x.var, y⟩], μ1), ⟨by dsimp only; omega, hle.trans hle1, ?_, hJ, hsub1 _⟩, by dsimp only; omega, ⟨⟨rfl, rfl, rfl, rfl, rfl, rfl, trivial⟩, ⟨rfl, trivial⟩, rfl, rfl⟩⟩
      dsimp only
      rw [List.map_append, List.map_append]
      exact (hgr.mono hle1).append (Rows.one (RepV.bd htv) (Bd.d_n _))
    refine ifnd (fun hk2 => ?_) (fun hk2 => ?_)
    · rw [if_neg fun e => hk2 ((T.isVar (n := x.var)).2 e).2] at hJ
      intro r54
      refine grow_intro ?_ ?_ fun b' c' _ => ?_
      · show (ys.length + 1) * 64 ≤ _; omega
      · exact Nat.le_trans (m := 100000000) (show ys.length + 1 ≤ _ by omega) (by decide)
      refine num64 (by omega) (by omega) ⟨(i + 1, b', c', _, acc ++ [⟨x.var, y⟩], μ1), ⟨by dsimp only; omega, hle.trans hle1, ?_, hJ, hsub1 _⟩, by dsimp only; omega, ⟨⟨rfl, rfl, rfl, rfl, rfl, rfl, trivial⟩, ⟨rfl, trivial⟩, rfl, rfl⟩⟩
      dsimp only
      rw [List.map_append, List.map_append]
      exact (hgr.mono hle1).append (Rows.one (RepV.bd htv) (Bd.d_n _))
    · rw [if_pos ((T.isVar (n := x.var)).1 ⟨hk, hk2⟩)] at hJ
      refine num64 (by omega) (by omega) ⟨(i + 1, b, c, ys, acc, μ1), ⟨by dsimp only; omega, hle.trans hle1, hgr.mono hle1, hJ, hsub2⟩, by dsimp only; omega, ⟨⟨rfl, rfl, rfl, rfl, rfl, rfl, trivial⟩, ⟨rfl, trivial⟩, rfl, rfl⟩⟩
  obtain rfl : i = bs.length := by omega
  rw [List.drop_length, compFrom] at hJ
  rw [List.take_length] at hsub
  subst hJ
  dsimp only at hout
  have hgacc := hgood acc rfl
  have hbsa := hbs.vals.srt.asc
  have hbta := hbt.vals.srt.asc
  have hacc : AscB acc := by
    have h5 : (bs.map B.var).Pairwise (· < ·) := by rw [List.pairwise_map]; exact hbsa
    have h6 := h5.sublist hsub
    rw [List.pairwise_map] at h6
    exact h6
  have hin : ∀ n, sub bs n = none → n ∉ acc.map B.var := fun n hn hm => by
    obtain ⟨z, hz, rfl⟩ := List.mem_map.1 (hsub.subset hm)
    exact sub_mem hz hn
  have hal0 : acc.length ≤ 400 := by omega
  clear hsub hal hi hlt
  refine loop_intro (fun p : Nat × Mem × List B × ((Option Nat × Nat × List Value) ⊕ Value) => p.1 ≤ bt.length ∧ μ.Le p.2.1 ∧ p.2.2.1.Perm (acc ++ restB bs (bt.take p.1)) ∧ AscB p.2.2.1 ∧ HoldsB p.2.1 p.2.2.1 p.2.2.2)
    (fun (i, μ', S, o) => match o with
      | .inl (b, c, ys) => ⟨[(0, .val (.slice base bs.length cap)), (6, .row 0 b ys.length c), (57, .val (.slice base2 bt.length cap2)), (58, .val (.int .i64 bt.length)), (59, .val (.int .i64 i))], [(0, some (.row b c 109 5 ys))], 1, μ', Mem.nil⟩
      | .inr v => ⟨[(0, .val (.slice base bs.length cap)), (6, .val v), (57, .val (.slice base2 bt.length cap2)), (58, .val (.int .i64 bt.length)), (59, .val (.int .i64 i))], [], 1, μ', Mem.nil⟩) (fun p => bt.length - p.1)
    (0, μ', acc, .inl (b, c, ys)) ⟨by simp, hle, by simp [restB], hacc, hgr⟩ (by rintro ⟨_, _, _, ⟨_, _, _⟩ | _⟩ <;> exact ⟨rfl, rfl⟩) ⟨⟨rfl, rfl, rfl, rfl, rfl, trivial⟩, ⟨rfl, trivial⟩, rfl, rfl⟩ ?_
  clear hgr hle hyl
  rintro ⟨i, μ', S, o⟩ ⟨hi, hle, hperm, hasc, hh⟩
  dsimp only at hi hle hperm hasc hh
  have hfl : (restB bs (bt.take i)).length ≤ i := Nat.le_trans (List.length_filter_le _ _) (by simp; omega)
  have hSl := hperm.length_eq
  rw [List.length_append] at hSl
  have hrest : ∀ x, bt[i]? = some x → restB bs (bt.take (i + 1)) = restB bs (bt.take i) ++ if sub bs x.var = none then [x] else [] := fun x hx => by
    rw [restB, List.take_add_one, hx, Option.toList_some, List.filter_append, restB]
    congr 1
    by_cases h : sub bs x.var = none
    · simp [h]
    · simp [h]
  have hnew : ∀ x, bt[i]? = some x → sub bs x.var = none → x.var ∉ S.map B.var := fun x hx hs hm => by
    rw [(hperm.map _).mem_iff, List.map_append, List.mem_append] at hm
    rcases hm with hm | hm
    · exact hin _ hs hm
    · obtain ⟨z, hz, e⟩ := List.mem_map.1 hm
      have hz2 := (List.mem_filter.1 hz).1
      obtain ⟨j, hj⟩ := List.mem_iff_getElem?.1 hz2
      have hji : j < i := by
        have := (List.getElem?_eq_some_iff.1 hj).1
        rw [List.length_take] at this; omega
      rw [List.getElem?_take_of_lt hji] at hj
      have := hbta.srt j i z x hji hj hx
      omega
  have hfin : i = bt.length → S = sortB (acc ++ restB bs bt) ∧ D.wds ((S.map B.bd).map Bd.d) := fun e => by
    subst e
    rw [List.take_length] at hperm
    refine ⟨sortB_uniq hperm hasc, goodB_wd fun z hz => ?_⟩
    rcases List.mem_append.1 (hperm.mem_iff.1 hz) with hz | hz
    · exact hgacc z hz
    · exact hbt.vals.good z (List.mem_filter.1 hz).1
  rcases o with ⟨b, c, ys⟩ | v
  · have hyl := Rows.len hh
    simp only [List.length_map] at hyl
    refine ifd (fun hlt => ?_) (fun hlt => ?_)
    · obtain ⟨x, hx⟩ := at_some (l := bt) (i := i) (by omega)
      obtain ⟨ad, p, hel, hto⟩ := B.elem (hsm.mono hle) hx
      have hbd := RepV.bd (n := x.var) hto
      have hr := hrest x hx
      refine elem_intro hel ?_
      intro r12
      refine call_plain (l04Get_spec (hsl.mono hle)) fun v1 μ1 hle1 hR => ?_
      obtain ⟨hR, e5⟩ := hR
      obtain rfl := e5.symm
      rcases hs : sub bs x.var with _ | y
      rotate_left
      · have hs' : sub bs x.bd.var = some y := hs
        rw [hs'] at hR
        obtain ⟨tv, rfl, htv⟩ := hR
        obtain ⟨q, rfl⟩ := Tm.invV htv
        intro r13
        refine if_intro (fun h => nomatch h) (fun _ => ?_)
        rw [if_neg (by rw [hs]; simp), List.append_nil] at hr
        refine num64 (by omega) (by omega) ⟨(i + 1, μ', S, .inl (b, c, ys)), ⟨by dsimp only; omega, hle, by dsimp only; rw [hr]; exact hperm, hasc, hh⟩, by dsimp only; omega, ⟨⟨rfl, rfl, rfl, rfl, rfl, trivial⟩, ⟨rfl, trivial⟩, rfl, rfl⟩⟩
      · have hs' : sub bs x.bd.var = none := hs
        rw [hs'] at hR
        obtain rfl := hR
        intro r13
        refine if_intro (fun _ => ?_) (fun h => nomatch h)
        rw [if_pos hs] at hr
        refine call_frz [0] ?_
        intro μ3 hle3 hno3 hrow
        have hv := Rows.sl hrow (Rows.mono hle3 hh) (Nat.le_trans (m := 100000000) (by omega) (by decide))
        refine call_go (l04Insert_spec hv (hbd.mono hle3) (by omega)) fun v4 μ4 hle4 hR4 => ?_
        obtain ⟨k, hk, hR4⟩ := hR4
        refine num64 (by omega) (by omega) ⟨(i + 1, μ4, insAt S x k, .inr v4), ⟨by dsimp only; omega, hle.trans (hle3.trans hle4), ?_, hk.asc hasc (hnew x hx hs), hR4⟩, by dsimp only; omega, ⟨⟨rfl, rfl, rfl, rfl, rfl, trivial⟩, trivial, rfl, rfl⟩⟩
        dsimp only
        rw [hr, ← List.append_assoc]
        exact (insAt_perm S x k).trans (hperm.append_right _)
    · obtain ⟨hS, hwd⟩ := hfin (by omega)
      refine call_frz [0] ?_
      intro μ3 hle3 hno3 hrow
      have hv := Rows.sl hrow (Rows.mono hle3 hh) (Nat.le_trans (m := 100000000) (by omega) (by decide))
      obtain ⟨bb, cc, e1, hs1⟩ := Rep.sl hv
      rw [List.length_map] at hs1 e1
      have hok := spec_SubstOk_spec (cap := cc) hs1 hwd
      rw [List.length_map] at hs1 e1 hok
      have hcp := l04Copy_spec (cap := cc) hs1 (by omega)
      rw [← e1] at hcp
      rw [e1]
      refine call_go hok fun v5 μ5 hle5 hR5 => ?_
      obtain ⟨rfl, e5⟩ := hR5
      obtain rfl := e5.symm
      subst hout
      rw [← hS]
      refine ifnd (fun h => ?_) (fun h => ?_)
      · refine ret_plain ?_
        rw [if_neg fun k => h ((substOk_iff S).2 k)]
        rfl
      · rw [if_pos ((substOk_iff S).1 h)]
        refine call_plain hcp fun v6 μ6 hle6 hR6 => ?_
        exact ret_plain ⟨_, rfl, hR6⟩
  · refine ifd (fun hlt => ?_) (fun hlt => ?_)
    · obtain ⟨x, hx⟩ := at_some (l := bt) (i := i) (by omega)
      obtain ⟨ad, p, hel, hto⟩ := B.elem (hsm.mono hle) hx
      have hbd := RepV.bd (n := x.var) hto
      have hr := hrest x hx
      refine elem_intro hel ?_
      intro r12
      refine call_plain (l04Get_spec (hsl.mono hle)) fun v1 μ1 hle1 hR => ?_
      obtain ⟨hR, e5⟩ := hR
      obtain rfl := e5.symm
      rcases hs : sub bs x.var with _ | y
      rotate_left
      · have hs' : sub bs x.bd.var = some y := hs
        rw [hs'] at hR
        obtain ⟨tv, rfl, htv⟩ := hR
        obtain ⟨q, rfl⟩ := Tm.invV htv
        intro r13
        refine if_intro (fun h => nomatch h) (fun _ => ?_)
        rw [if_neg (by rw [hs]; simp), List.append_nil] at hr
        refine num64 (by omega) (by omega) ⟨(i + 1, μ', S, .inr v), ⟨by dsimp only; omega, hle, by dsimp only; rw [hr]; exact hperm, hasc, hh⟩, by dsimp only; omega, ⟨⟨rfl, rfl, rfl, rfl, rfl, trivial⟩, trivial, rfl, rfl⟩⟩
      · have hs' : sub bs x.bd.var = none := hs
        rw [hs'] at hR
        obtain rfl := hR
        intro r13
        refine if_intro (fun _ => ?_) (fun h => nomatch h)
        rw [if_pos hs] at hr
        refine call_plain (l04Insert_spec hh hbd (by omega)) fun v4 μ4 hle4 hR4 => ?_
        obtain ⟨k, hk, hR4⟩ := hR4
        refine num64 (by omega) (by omega) ⟨(i + 1, μ4, insAt S x k, .inr v4), ⟨by dsimp only; omega, hle.trans hle4, ?_, hk.asc hasc (hnew x hx hs), hR4⟩, by dsimp only; omega, ⟨⟨rfl, rfl, rfl, rfl, rfl, trivial⟩, trivial, rfl, rfl⟩⟩
        dsimp only
        rw [hr, ← List.append_assoc]
        exact (insAt_perm S x k).trans (hperm.append_right _)
    · obtain ⟨hS, hwd⟩ := hfin (by omega)
      obtain ⟨bb, cc, rfl, hs1⟩ := Rep.sl hh
      rw [List.length_map] at hs1 ⊢
      have hok := spec_SubstOk_spec (cap := cc) hs1 hwd
      rw [List.length_map] at hs1 hok ⊢
      have hcp := l04Copy_spec (cap := cc) hs1 (by omega)
      refine call_gives hok ?_
      subst hout
      rw [← hS]
      refine ifnd (fun h => ?_) (fun h => ?_)
      · refine ret_plain ?_
        rw [if_neg fun k => h ((substOk_iff S).2 k)]
        rfl
      · rw [if_pos ((substOk_iff S).1 h)]
        refine call_plain hcp fun v6 μ6 hle6 hR6 => ?_
        exact ret_plain ⟨_, rfl, hR6⟩
end
end Go.Vx

/- Contracts: the least disequalities, the reference's side. -/
namespace Go.Vx
open Go.Proofs Classical
section
variable {μ : Mem}
abbrev repL (μ : Mem) (L : List (List B)) (v : Value) : Prop := RepV μ (.sl 1 ((L.map dsOf).map Ds.d)) v
theorem dsOf_inv {e : List B} {v : Value} (h : RepV μ (dsOf e).d v) : ∃ p : Ds.P, v = .slice p.1 e.length p.2 ∧ Sl μ 5 p.1 e.length ((e.map B.bd).map Bd.d) := by
  obtain ⟨p, rfl, hs⟩ := Ds.inv h
  have : (dsOf e).bs.length = e.length := List.length_map ..
  rw [this] at hs ⊢
  exact ⟨p, rfl, hs⟩
theorem dsOf_elem {L : List (List B)} {base : Option Addr} {n : Nat} (h : Sl μ 1 base n ((L.map dsOf).map Ds.d)) {i : Nat} {e : List B} (he : L[i]? = some e) :
    ∃ ad, ∃ p : Ds.P, ElemAt μ base n 1 i ad [.slice p.1 e.length p.2] ∧ RepV μ (dsOf e).d (.slice p.1 e.length p.2) ∧ Sl μ 5 p.1 e.length ((e.map B.bd).map Bd.d) := by
  obtain ⟨ad, p, h1, h2⟩ := Ds.elem h (i := i) (x := dsOf e) (by simp [he])
  have : (dsOf e).bs.length = e.length := List.length_map ..
  rw [Ds.cs, this] at h1
  rw [this] at h2
  obtain ⟨p', e1, hs⟩ := dsOf_inv h2
  obtain ⟨e2, _, e3⟩ := Value.slice.inj e1
  rw [← e2] at hs
  exact ⟨ad, p, h1, h2, hs⟩
theorem l09AllOk_spec {l : List Ds} {base : Option Addr} {cap : Nat} (hsl : Sl μ 1 base l.length (l.map Ds.d)) (hw : D.wds (l.map Ds.d)) :
    Gives Try.prog 58 [.slice base l.length cap] μ (.bool (decide (AllOk l))) := by
  have hn := maxLen_le hsl.max
  refine Spec.mk Try.func58 (by kernel_rfl) ?_
  refine loop_intro (fun i : Nat => i ≤ l.length ∧ ∀ (j : Nat) x, j < i → l[j]? = some x → substOk x.bs)
    (fun i => ⟨[(5, .val (.slice base l.length cap)), (6, .val (.int .i64 l.length)), (7, .val (.int .i64 i))], [], 0, μ, Mem.nil⟩) (fun i => l.length - i)
    0 ⟨Nat.zero_le _, fun j x h => by omega⟩ (fun _ => ⟨rfl, rfl⟩) ⟨⟨rfl, rfl, rfl, trivial⟩, trivial, rfl, rfl⟩ ?_
  rintro i ⟨hi, hall⟩
  refine ifd (fun h => ?_) (fun h => ?_)
  · obtain ⟨x, hx⟩ := at_some (l := l) (i := i) (by omega)
    obtain ⟨ad, p, hel, hr⟩ := Ds.elem hsl hx
    obtain ⟨p', e1, hs⟩ := Ds.inv hr
    obtain ⟨e2, _, e3⟩ := Value.slice.inj e1
    rw [← e2] at hs
    refine elem_intro hel ?_
    refine call_gives (spec_SubstOk_spec hs (D.wds_mem hw _ (mem_at (at_map (f := Ds.d) hx)))) ?_
    refine ifnd (fun hb => ret_gives ?_ rfl) (fun hb => ?_)
    · rw [decide_eq_false fun k => hb (k x (mem_at hx))]
    · refine num64 (by omega) (by omega) ⟨i + 1, ⟨by omega, fun j y hj hy => ?_⟩, by omega, ⟨⟨rfl, rfl, rfl, trivial⟩, trivial, rfl, rfl⟩⟩
      rcases Nat.lt_or_ge j i with h6 | h6
      · exact hall j y h6 hy
      · obtain rfl : j = i := by omega
        rw [hx] at hy; cases hy; exact hb
  · obtain rfl : i = l.length := by omega
    refine ret_gives ?_ rfl
    rw [decide_eq_true]
    intro x hx
    obtain ⟨j, hj⟩ := List.mem_iff_getElem?.1 hx
    exact hall j x (List.getElem?_eq_some_iff.1 hj).1 hj
theorem l09Copy_spec {L : List (List B)} {base : Option Addr} {cap : Nat} (hsl : Sl μ 1 base L.length ((L.map dsOf).map Ds.d)) (hn : L.length ≤ 10000000) (hL : ∀ x ∈ L, x.length ≤ 1000000) :
    Spec Try.prog 59 [.slice base L.length cap] μ fun v μ' => repL μ' L v := by
  refine Spec.mk Try.func59 (by kernel_rfl) ?_
  intro r6
  refine loop_intro (fun p : Nat × Option Nat × Nat × List Value × Mem => p.1 ≤ L.length ∧ μ.Le p.2.2.2.2 ∧ Rows p.2.2.2.2 1 (((L.take p.1).map dsOf).map Ds.d) p.2.2.2.1)
    (fun (i, b, c, ys, μ') => ⟨[(3, .row 0 b ys.length c), (7, .val (.slice base L.length cap)), (8, .val (.int .i64 L.length)), (9, .val (.int .i64 i))], [(0, some (.row b c 43 1 ys))], 1, μ', Mem.nil⟩) (fun p => L.length - p.1)
    (0, some r6, 0, [], μ) ⟨by simp, Mem.Le.refl _, .nil⟩ (fun (_, _, _, _, _) => ⟨rfl, rfl⟩) ⟨⟨rfl, rfl, rfl, rfl, trivial⟩, ⟨rfl, trivial⟩, rfl, rfl⟩ ?_
  rintro ⟨i, b, c, ys, μ'⟩ ⟨hi, hle, hrows⟩
  dsimp only at hi hle hrows
  have hlen := hrows.len
  simp only [List.length_map, List.length_take] at hlen
  refine ifd (fun h => ?_) (fun h => ?_)
  · obtain ⟨x, hx⟩ := at_some (l := L) (i := i) (by omega)
    obtain ⟨ad, p, hel, hr, hs⟩ := dsOf_elem (hsl.mono hle) hx
    refine elem_intro hel ?_
    refine call_plain (l04Copy_spec hs (hL x (mem_at hx))) fun v4 μ4 hle4 hR4 => ?_
    have hR5 : RepV μ4 (dsOf x).d v4 := hR4
    obtain ⟨q, rfl, _⟩ := dsOf_inv hR5
    intro r5
    refine grow_intro ?_ ?_ fun b' c' _ => ?_
    · show (ys.length + 1) * 24 ≤ _; omega
    · exact Nat.le_trans (m := 100000000) (show ys.length + 1 ≤ _ by omega) (by decide)
    refine num64 (by omega) (by omega) ⟨(i + 1, b', c', _, μ4), ⟨by dsimp only; omega, hle.trans hle4, ?_⟩, by dsimp only; omega, ⟨⟨rfl, rfl, rfl, rfl, trivial⟩, ⟨rfl, trivial⟩, rfl, rfl⟩⟩
    dsimp only
    rw [List.take_add_one, hx, Option.toList_some]
    simp only [List.map_append, List.map_cons, List.map_nil]
    exact (hrows.mono hle4).append (Rows.one hR5 (Ds.d_n _))
  · obtain rfl : i = L.length := by omega
    rw [List.take_length] at hrows
    refine ret_frz [0] fun μ' hle' hno hrow => .inl ?_
    exact Rows.sl hrow (hrows.mono hle') (Nat.le_trans (m := 100000000) (by omega) (by decide))
end
end Go.Vx

/- Contracts: the least disequalities, the reference's side: insertion. -/
namespace Go.Vx
open Go.Proofs Classical
theorem wds_ds {L : List (List B)} (hw : D.wds ((L.map dsOf).map Ds.d)) {e : List B} (h : e ∈ L) : D.wds ((e.map B.bd).map Bd.d) := by
  have k : (dsOf e).d.wd := D.wds_mem hw _ (List.mem_map.2 ⟨dsOf e, List.mem_map.2 ⟨e, h, rfl⟩, rfl⟩)
  exact k
section
variable {μ : Mem}
set_option maxHeartbeats 4000000 in
theorem l09Minimal_spec {L : List (List B)} {base : Option Addr} {cap : Nat} (hsl : Sl μ 1 base L.length ((L.map dsOf).map Ds.d)) (hw : D.wds ((L.map dsOf).map Ds.d)) (hn : L.length ≤ 10000000) (hL : ∀ x ∈ L, Subst x) :
    Spec Try.prog 60 [.slice base L.length cap] μ fun v μ' => repL μ' (minL L) v := by
  refine Spec.mk Try.func60 (by kernel_rfl) ?_
  intro r11
  refine loop_frz (fun p : Nat × List (List B) × Option Addr × Nat × Mem => p.1 ≤ L.length ∧ μ.Le p.2.2.2.2 ∧ repL p.2.2.2.2 p.2.1 (.slice p.2.2.1 p.2.1.length p.2.2.2.1) ∧ Asc3 cmpB p.2.1 ∧ p.2.1.length ≤ p.1 ∧ ∀ x, x ∈ p.2.1 ↔ x ∈ L.take p.1 ∧ Keep L x)
    (fun (i, acc, b, c, μ') => ⟨[(0, .val (.slice base L.length cap)), (3, .val (.slice b acc.length c)), (12, .val (.slice base L.length cap)), (13, .val (.int .i64 L.length)), (14, .val (.int .i64 i))], [], 0, μ', Mem.nil⟩) (fun p => L.length - p.1) [0]
    (fun (_, _, _, _, _) => ⟨rfl, rfl⟩) (fun μ1 hle1 hno1 hat1 => ⟨(0, [], some ⟨r11, 0, none⟩, 0, μ1), ⟨Nat.zero_le _, hle1, Rows.sl hat1 .nil (Nat.zero_le _), List.Pairwise.nil, Nat.le_refl _, by simp⟩, ⟨rfl, rfl, rfl, rfl, rfl, trivial⟩, trivial, rfl, rfl⟩) ?_
  rintro ⟨i, acc, b, c, μ'⟩ ⟨hi, hle, hacc, hasc, hlen, hmem⟩
  dsimp only at hi hle hacc hasc hlen hmem
  refine ifd (fun hlt => ?_) (fun hlt => ?_)
  rotate_left
  · obtain rfl : i = L.length := by omega
    rw [List.take_length] at hmem
    have e : acc = minL L := minL_eq hasc hmem
    rw [← e]
    exact ret_plain hacc
  obtain ⟨e, he⟩ := at_some (l := L) (i := i) (by omega)
  obtain ⟨ad, p, hel, hre, hse⟩ := dsOf_elem (hsl.mono hle) he
  have hwe : D.wds ((e.map B.bd).map Bd.d) := wds_ds hw (mem_at he)
  have hSe := hL e (mem_at he)
  refine elem_intro hel ?_
  refine loop_intro (fun q : Nat × Bool => q.1 ≤ L.length ∧ (q.2 = true ↔ ∀ (t : Nat) d, t < q.1 → L[t]? = some d → cmpB d e = 0 ∨ ¬ mgen d e))
    (fun (j, kb) => ⟨[(0, .val (.slice base L.length cap)), (3, .val (.slice b acc.length c)), (5, .val (.slice p.1 e.length p.2)), (6, .val (.bool kb)), (12, .val (.slice base L.length cap)), (13, .val (.int .i64 L.length)), (14, .val (.int .i64 i)), (18, .val (.slice base L.length cap)), (19, .val (.int .i64 L.length)), (20, .val (.int .i64 j))], [], 0, μ', Mem.nil⟩) (fun q => L.length - q.1)
    (0, true) ⟨Nat.zero_le _, by simp⟩ (fun (_, _) => ⟨rfl, rfl⟩) ⟨⟨rfl, rfl, rfl, rfl, rfl, rfl, rfl, rfl, rfl, rfl, trivial⟩, trivial, rfl, rfl⟩ ?_
  rintro ⟨j, kb⟩ ⟨hj, hkb⟩
  dsimp only at hj hkb
  refine ifd (fun hlt2 => ?_) (fun hlt2 => ?_)
  · obtain ⟨d, hd⟩ := at_some (l := L) (i := j) (by omega)
    obtain ⟨ad2, p2, hel2, hrd, hsd⟩ := dsOf_elem (hsl.mono hle) hd
    have hwd : D.wds ((d.map B.bd).map Bd.d) := wds_ds hw (mem_at hd)
    have step : (∀ (t : Nat) d', t < j + 1 → L[t]? = some d' → cmpB d' e = 0 ∨ ¬ mgen d' e) ↔ (∀ (t : Nat) d', t < j → L[t]? = some d' → cmpB d' e = 0 ∨ ¬ mgen d' e) ∧ (cmpB d e = 0 ∨ ¬ mgen d e) := by
      constructor
      · exact fun h => ⟨fun t d' ht => h t d' (by omega), h j d (by omega) hd⟩
      · rintro ⟨h1, h2⟩ t d' ht hd'
        rcases Nat.lt_or_ge t j with h6 | h6
        · exact h1 t d' h6 hd'
        · obtain rfl : t = j := by omega
          rw [hd] at hd'; cases hd'; exact h2
    refine elem_intro hel2 ?_
    refine if_intro (fun hk => ?_) (fun hk => ?_)
    · refine call_gives (l09Cmp_spec hsd hse) ?_
      refine ifd (fun hc => ?_) (fun hc => ?_)
      · exact num64 (by omega) (by omega) ⟨(j + 1, true), ⟨by dsimp only; omega, by dsimp only; rw [step, ← hkb]; exact ⟨fun _ => ⟨hk, .inl hc⟩, fun _ => rfl⟩⟩, by dsimp only; omega, ⟨⟨rfl, rfl, rfl, rfl, rfl, rfl, rfl, rfl, rfl, rfl, trivial⟩, trivial, rfl, rfl⟩⟩
      · have hmg := spec_MoreGeneral_spec (l := d.map B.bd) (m := e.map B.bd) (cap := p2.2) (cap2 := p.2) (by rw [List.length_map]; exact hsd) hwd (by rw [List.length_map]; exact hse) hwe
        rw [List.length_map, List.length_map] at hmg
        refine call_gives hmg ?_
        have hiff : moreGen (d.map B.bd) (e.map B.bd) ↔ mgen d e := by rw [moreGen_iff]; exact ⟨fun h => h.2.2, fun h => ⟨hL d (mem_at hd), hSe, h⟩⟩
        refine num64 (by omega) (by omega) ⟨(j + 1, !decide (moreGen (d.map B.bd) (e.map B.bd))), ⟨by dsimp only; omega, ?_⟩, by dsimp only; omega, ⟨⟨rfl, rfl, rfl, rfl, rfl, rfl, rfl, rfl, rfl, rfl, trivial⟩, trivial, rfl, rfl⟩⟩
        dsimp only
        rw [step, ← hkb, Bool.not_eq_true', decide_eq_false_iff_not, hiff]
        exact ⟨fun h => ⟨hk, .inr h⟩, fun h => h.2.resolve_left hc⟩
    · exact num64 (by omega) (by omega) ⟨(j + 1, false), ⟨by dsimp only; omega, by dsimp only; rw [step, ← hkb, hk]; simp⟩, by dsimp only; omega, ⟨⟨rfl, rfl, rfl, rfl, rfl, rfl, rfl, rfl, rfl, rfl, trivial⟩, trivial, rfl, rfl⟩⟩
  obtain rfl : j = L.length := by omega
  have hkeep : kb = true ↔ Keep L e := by
    rw [hkb]
    constructor
    · intro h d hd
      obtain ⟨t, ht⟩ := List.mem_iff_getElem?.1 hd
      exact h t d (List.getElem?_eq_some_iff.1 ht).1 ht
    · exact fun h t d _ hd => h d (mem_at hd)
  clear hkb hlt2 hj
  obtain ⟨vs, hrows, hvs, hcap, hsrc⟩ := Rep.src hacc
  have hsacc : Sl μ' 1 b acc.length ((acc.map dsOf).map Ds.d) := by
    obtain ⟨b', c', e1, hs⟩ := Rep.sl hacc
    obtain ⟨rfl, _, _⟩ := Value.slice.inj e1
    simpa using hs
  have stay : ¬ Keep L e ∨ e ∈ acc → ∀ x, x ∈ acc ↔ x ∈ L.take (i + 1) ∧ Keep L x := fun h x => by
    rw [hmem, List.take_add_one, he, Option.toList_some, List.mem_append, List.mem_singleton]
    constructor
    · exact fun k => ⟨.inl k.1, k.2⟩
    · rintro ⟨k1 | rfl, k2⟩
      · exact ⟨k1, k2⟩
      · exact h.elim (fun h => absurd k2 h) fun h => (hmem _).1 h
  refine loop_intro (fun k : Nat => k ≤ acc.length ∧ ∀ x ∈ acc.drop k, ¬ cmpB x e < 0)
    (fun k => ⟨[(0, .val (.slice base L.length cap)), (3, .val (.slice b acc.length c)), (5, .val (.slice p.1 e.length p.2)), (6, .val (.bool kb)), (9, .val (.int .i64 k)), (12, .val (.slice base L.length cap)), (13, .val (.int .i64 L.length)), (14, .val (.int .i64 i))], [], 0, μ', Mem.nil⟩) (fun k => k)
    acc.length ⟨Nat.le_refl _, by simp⟩ (fun _ => ⟨rfl, rfl⟩) ⟨⟨rfl, rfl, rfl, rfl, rfl, rfl, rfl, rfl, trivial⟩, trivial, rfl, rfl⟩ ?_
  rintro k ⟨hk, hge⟩
  refine ifd (fun h0 => ?_) (fun h0 => ?_)
  · obtain ⟨k, rfl⟩ : ∃ k', k = k' + 1 := ⟨k - 1, by omega⟩
    obtain ⟨y, hy⟩ := at_some (l := acc) (i := k) (by omega)
    obtain ⟨ad3, p3, hel3, hry, hsy⟩ := dsOf_elem hsacc hy
    refine num_eq (x := (k : Int)) (by rw [wrap64 (by omega) (by omega)]; omega) ?_
    refine elem_intro hel3 ?_
    refine call_gives (l09Cmp_spec hsy hse) ?_
    refine ifd (fun hc => ?_) (fun hc => ?_)
    · refine num_eq (x := (k : Int)) (by rw [wrap64 (by omega) (by omega)]; omega) ⟨k, ⟨by omega, fun x hx => ?_⟩, by omega, ⟨⟨rfl, rfl, rfl, rfl, rfl, rfl, rfl, rfl, trivial⟩, trivial, rfl, rfl⟩⟩
      rw [drop_at hy] at hx
      rcases List.mem_cons.1 hx with rfl | hx
      · omega
      · exact hge x hx
    · have hlt3 := hasc.take_lt cmpB_ord hy (e := e) (by omega)
      generalize k + 1 = k at *
      refine if_intro (fun hkt => ?_) (fun hkf => ?_)
      · refine ifd (fun hkl => ?_) (fun hkl => ?_)
        · have hgt3 : ∀ x ∈ acc.drop k, cmpB e x < 0 := by
            rw [List.drop_of_length_le (by omega)]; simp
          intro r70
          refine cut_intro 0 k rfl rfl (by omega) (by omega) ?_
          refine src_intro _ (hsrc 0 k (by omega) hk) ?_
          refine grow_intro ?_ ?_ fun b1 c1 _ => ?_
          · show (0 + _) * 24 ≤ _; simp; omega
          · exact Nat.le_trans (m := 2000000000) (by simp; omega) (by decide)
          intro r77
          refine grow_intro ?_ ?_ fun b2 c2 _ => ?_
          · show (_ + 1) * 24 ≤ _; simp; omega
          · exact Nat.le_trans (m := 2000000000) (by simp; omega) (by decide)
          refine cut_intro k acc.length rfl rfl hk (by omega) ?_
          refine src_intro _ (hsrc k acc.length hk (Nat.le_refl _)) ?_
          refine grow_intro ?_ ?_ fun b3 c3 _ => ?_
          · show (_ + _) * 24 ≤ _; simp; omega
          · exact Nat.le_trans (m := 3000000000) (by simp; omega) (by decide)
          have hr2 := (hrows.take k).append ((Rows.one hre (Ds.d_n _)).append (hrows.drop k))
          have ev : (([] : List Value) ++ (vs.drop 0).take (k - 0) ++ [.slice p.1 e.length p.2] ++ (vs.drop k).take (acc.length - k)) = vs.take k ++ ([.slice p.1 e.length p.2] ++ vs.drop k) := by
            simp
            rw [List.take_of_length_le (by simp; omega)]
          have e2 : ((insAt acc e k).map dsOf).map Ds.d = ((acc.map dsOf).map Ds.d).take k ++ ([(dsOf e).d] ++ ((acc.map dsOf).map Ds.d).drop k) := by simp [insAt]
          have e3 : (vs.take k ++ ([Value.slice p.1 e.length p.2] ++ vs.drop k)).length = (insAt acc e k).length := by rw [insAt_length]; simp; omega
          refine num64 (by omega) (by omega) ⟨[0], fun μ2 hle2 hno2 hrow2 => ⟨(i + 1, insAt acc e k, b3.map (fun r => ⟨r, 0, none⟩), c3, μ2), ⟨by dsimp only; omega, hle.trans hle2, ?_, hasc.ins cmpB_ord hlt3 hgt3, by dsimp only; rw [insAt_length]; omega, fun x => ?_⟩, by dsimp only; omega, ⟨⟨rfl, ?_, rfl, rfl, rfl, trivial⟩, trivial, rfl, rfl⟩⟩⟩
          · rw [ev] at hrow2
            have := Rows.sl hrow2 (hr2.mono hle2) (Nat.le_trans (m := 3000000000) (by rw [e3, insAt_length]; omega) (by decide))
            rw [e3, ← e2] at this
            exact this
          · dsimp only
            rw [insAt_mem, hmem, List.take_add_one, he, Option.toList_some, List.mem_append, List.mem_singleton]
            have hK := hkeep.1 hkt
            constructor
            · rintro (rfl | k1)
              · exact ⟨.inr rfl, hK⟩
              · exact ⟨.inl k1.1, k1.2⟩
            · rintro ⟨k1 | rfl, k2⟩
              · exact .inr ⟨k1, k2⟩
              · exact .inl rfl
          · show some (SV.val (.slice _ _ _)) = some (SV.val (.slice _ _ _))
            rw [← e3, ← ev]
        · obtain ⟨y2, hy2⟩ := at_some (l := acc) (i := k) (by omega)
          obtain ⟨ad4, p4, hel4, hry2, hsy2⟩ := dsOf_elem hsacc hy2
          refine elem_intro hel4 ?_
          refine call_gives (l09Cmp_spec hsy2 hse) ?_
          refine ifnd (fun hc2 => ?_) (fun hc2 => ?_)
          · have hgt3 : ∀ x ∈ acc.drop k, cmpB e x < 0 := hasc.drop_gt cmpB_ord hy2 (cmpB_ord.ge_pos (hge y2 (by rw [drop_at hy2]; simp)) hc2)
            intro r70
            refine cut_intro 0 k rfl rfl (by omega) (by omega) ?_
            refine src_intro _ (hsrc 0 k (by omega) hk) ?_
            refine grow_intro ?_ ?_ fun b1 c1 _ => ?_
            · show (0 + _) * 24 ≤ _; simp; omega
            · exact Nat.le_trans (m := 2000000000) (by simp; omega) (by decide)
            intro r77
            refine grow_intro ?_ ?_ fun b2 c2 _ => ?_
            · show (_ + 1) * 24 ≤ _; simp; omega
            · exact Nat.le_trans (m := 2000000000) (by simp; omega) (by decide)
            refine cut_intro k acc.length rfl rfl hk (by omega) ?_
            refine src_intro _ (hsrc k acc.length hk (Nat.le_refl _)) ?_
            refine grow_intro ?_ ?_ fun b3 c3 _ => ?_
            · show (_ + _) * 24 ≤ _; simp; omega
            · exact Nat.le_trans (m := 3000000000) (by simp; omega) (by decide)
            have hr2 := (hrows.take k).append ((Rows.one hre (Ds.d_n _)).append (hrows.drop k))
            have ev : (([] : List Value) ++ (vs.drop 0).take (k - 0) ++ [.slice p.1 e.length p.2] ++ (vs.drop k).take (acc.length - k)) = vs.take k ++ ([.slice p.1 e.length p.2] ++ vs.drop k) := by
              simp
              rw [List.take_of_length_le (by simp; omega)]
            have e2 : ((insAt acc e k).map dsOf).map Ds.d = ((acc.map dsOf).map Ds.d).take k ++ ([(dsOf e).d] ++ ((acc.map dsOf).map Ds.d).drop k) := by simp [insAt]
            have e3 : (vs.take k ++ ([Value.slice p.1 e.length p.2] ++ vs.drop k)).length = (insAt acc e k).length := by rw [insAt_length]; simp; omega
            refine num64 (by omega) (by omega) ⟨[0], fun μ2 hle2 hno2 hrow2 => ⟨(i + 1, insAt acc e k, b3.map (fun r => ⟨r, 0, none⟩), c3, μ2), ⟨by dsimp only; omega, hle.trans hle2, ?_, hasc.ins cmpB_ord hlt3 hgt3, by dsimp only; rw [insAt_length]; omega, fun x => ?_⟩, by dsimp only; omega, ⟨⟨rfl, ?_, rfl, rfl, rfl, trivial⟩, trivial, rfl, rfl⟩⟩⟩
            · rw [ev] at hrow2
              have := Rows.sl hrow2 (hr2.mono hle2) (Nat.le_trans (m := 3000000000) (by rw [e3, insAt_length]; omega) (by decide))
              rw [e3, ← e2] at this
              exact this
            · dsimp only
              rw [insAt_mem, hmem, List.take_add_one, he, Option.toList_some, List.mem_append, List.mem_singleton]
              have hK := hkeep.1 hkt
              constructor
              · rintro (rfl | k1)
                · exact ⟨.inr rfl, hK⟩
                · exact ⟨.inl k1.1, k1.2⟩
              · rintro ⟨k1 | rfl, k2⟩
                · exact .inr ⟨k1, k2⟩
                · exact .inl rfl
            · show some (SV.val (.slice _ _ _)) = some (SV.val (.slice _ _ _))
              rw [← e3, ← ev]
          · exact num64 (by omega) (by omega) ⟨[], (i + 1, acc, b, c, μ'), ⟨by dsimp only; omega, hle, hacc, hasc, by dsimp only; omega, stay (.inr (by rw [← (cmpB_ord.zero _ _).1 hc2]; exact mem_at hy2))⟩, by dsimp only; omega, ⟨⟨rfl, rfl, rfl, rfl, rfl, trivial⟩, trivial, rfl, rfl⟩⟩
      · exact num64 (by omega) (by omega) ⟨[], (i + 1, acc, b, c, μ'), ⟨by dsimp only; omega, hle, hacc, hasc, by dsimp only; omega, stay (.inl fun h => by rw [← hkeep, hkf] at h; cases h)⟩, by dsimp only; omega, ⟨⟨rfl, rfl, rfl, rfl, rfl, trivial⟩, trivial, rfl, rfl⟩⟩
  · have hk0 : k = 0 := by omega
    have hlt3 : ∀ x ∈ acc.take k, cmpB x e < 0 := by rw [hk0]; simp
    refine if_intro (fun hkt => ?_) (fun hkf => ?_)
    · refine ifd (fun hkl => ?_) (fun hkl => ?_)
      · have hgt3 : ∀ x ∈ acc.drop k, cmpB e x < 0 := by
          rw [List.drop_of_length_le (by omega)]; simp
        intro r70
        refine cut_intro 0 k rfl rfl (by omega) (by omega) ?_
        refine src_intro _ (hsrc 0 k (by omega) hk) ?_
        refine grow_intro ?_ ?_ fun b1 c1 _ => ?_
        · show (0 + _) * 24 ≤ _; simp; omega
        · exact Nat.le_trans (m := 2000000000) (by simp; omega) (by decide)
        intro r77
        refine grow_intro ?_ ?_ fun b2 c2 _ => ?_
        · show (_ + 1) * 24 ≤ _; simp; omega
        · exact Nat.le_trans (m := 2000000000) (by simp; omega) (by decide)
        refine cut_intro k acc.length rfl rfl hk (by omega) ?_
        refine src_intro _ (hsrc k acc.length hk (Nat.le_refl _)) ?_
        refine grow_intro ?_ ?_ fun b3 c3 _ => ?_
        · show (_ + _) * 24 ≤ _; simp; omega
        · exact Nat.le_trans (m := 3000000000) (by simp; omega) (by decide)
        have hr2 := (hrows.take k).append ((Rows.one hre (Ds.d_n _)).append (hrows.drop k))
        have ev : (([] : List Value) ++ (vs.drop 0).take (k - 0) ++ [.slice p.1 e.length p.2] ++ (vs.drop k).take (acc.length - k)) = vs.take k ++ ([.slice p.1 e.length p.2] ++ vs.drop k) := by
          simp
          rw [List.take_of_length_le (by simp; omega)]
        have e2 : ((insAt acc e k).map dsOf).map Ds.d = ((acc.map dsOf).map Ds.d).take k ++ ([(dsOf e).d] ++ ((acc.map dsOf).map Ds.d).drop k) := by simp [insAt]
        have e3 : (vs.take k ++ ([Value.slice p.1 e.length p.2] ++ vs.drop k)).length = (insAt acc e k).length := by rw [insAt_length]; simp; omega
        refine num64 (by omega) (by omega) ⟨[0], fun μ2 hle2 hno2 hrow2 => ⟨(i + 1, insAt acc e k, b3.map (fun r => ⟨r, 0, none⟩), c3, μ2), ⟨by dsimp only; omega, hle.trans hle2, ?_, hasc.ins cmpB_ord hlt3 hgt3, by dsimp only; rw [insAt_length]; omega, fun x => ?_⟩, by dsimp only; omega, ⟨⟨rfl, ?_, rfl, rfl, rfl, trivial⟩, trivial, rfl, rfl⟩⟩⟩
        · rw [ev] at hrow2
          have := Rows.sl hrow2 (hr2.mono hle2) (Nat.le_trans (m := 3000000000) (by rw [e3, insAt_length]; omega) (by decide))
          rw [e3, ← e2] at this
          exact this
        · dsimp only
          rw [insAt_mem, hmem, List.take_add_one, he, Option.toList_some, List.mem_append, List.mem_singleton]
          have hK := hkeep.1 hkt
          constructor
          · rintro (rfl | k1)
            · exact ⟨.inr rfl, hK⟩
            · exact ⟨.inl k1.1, k1.2⟩
          · rintro ⟨k1 | rfl, k2⟩
            · exact .inr ⟨k1, k2⟩
            · exact .inl rfl
        · show some (SV.val (.slice _ _ _)) = some (SV.val (.slice _ _ _))
          rw [← e3, ← ev]
      · obtain ⟨y2, hy2⟩ := at_some (l := acc) (i := k) (by omega)
        obtain ⟨ad4, p4, hel4, hry2, hsy2⟩ := dsOf_elem hsacc hy2
        refine elem_intro hel4 ?_
        refine call_gives (l09Cmp_spec hsy2 hse) ?_
        refine ifnd (fun hc2 => ?_) (fun hc2 => ?_)
        · have hgt3 : ∀ x ∈ acc.drop k, cmpB e x < 0 := hasc.drop_gt cmpB_ord hy2 (cmpB_ord.ge_pos (hge y2 (by rw [drop_at hy2]; simp)) hc2)
          intro r70
          refine cut_intro 0 k rfl rfl (by omega) (by omega) ?_
          refine src_intro _ (hsrc 0 k (by omega) hk) ?_
          refine grow_intro ?_ ?_ fun b1 c1 _ => ?_
          · show (0 + _) * 24 ≤ _; simp; omega
          · exact Nat.le_trans (m := 2000000000) (by simp; omega) (by decide)
          intro r77
          refine grow_intro ?_ ?_ fun b2 c2 _ => ?_
          · show (_ + 1) * 24 ≤ _; simp; omega
          · exact Nat.le_trans (m := 2000000000) (by simp; omega) (by decide)
          refine cut_intro k acc.length rfl rfl hk (by omega) ?_
          refine src_intro _ (hsrc k acc.length hk (Nat.le_refl _)) ?_
          refine grow_intro ?_ ?_ fun b3 c3 _ => ?_
          · show (_ + _) * 24 ≤ _; simp; omega
          · exact Nat.le_trans (m := 3000000000) (by simp; omega) (by decide)
          have hr2 := (hrows.take k).append ((Rows.one hre (Ds.d_n _)).append (hrows.drop k))
          have ev : (([] : List Value) ++ (vs.drop 0).take (k - 0) ++ [.slice p.1 e.length p.2] ++ (vs.drop k).take (acc.length - k)) = vs.take k ++ ([.slice p.1 e.length p.2] ++ vs.drop k) := by
            simp
            rw [List.take_of_length_le (by simp; omega)]
          have e2 : ((insAt acc e k).map dsOf).map Ds.d = ((acc.map dsOf).map Ds.d).take k ++ ([(dsOf e).d] ++ ((acc.map dsOf).map Ds.d).drop k) := by simp [insAt]
          have e3 : (vs.take k ++ ([Value.slice p.1 e.length p.2] ++ vs.drop k)).length = (insAt acc e k).length := by rw [insAt_length]; simp; omega
          refine num64 (by omega) (by omega) ⟨[0], fun μ2 hle2 hno2 hrow2 => ⟨(i + 1, insAt acc e k, b3.map (fun r => ⟨r, 0, none⟩), c3, μ2), ⟨by dsimp only; omega, hle.trans hle2, ?_, hasc.ins cmpB_ord hlt3 hgt3, by dsimp only; rw [insAt_length]; omega, fun x => ?_⟩, by dsimp only; omega, ⟨⟨rfl, ?_, rfl, rfl, rfl, trivial⟩, trivial, rfl, rfl⟩⟩⟩
          · rw [ev] at hrow2
            have := Rows.sl hrow2 (hr2.mono hle2) (Nat.le_trans (m := 3000000000) (by rw [e3, insAt_length]; omega) (by decide))
            rw [e3, ← e2] at this
            exact this
          · dsimp only
            rw [insAt_mem, hmem, List.take_add_one, he, Option.toList_some, List.mem_append, List.mem_singleton]
            have hK := hkeep.1 hkt
            constructor
            · rintro (rfl | k1)
              · exact ⟨.inr rfl, hK⟩
              · exact ⟨.inl k1.1, k1.2⟩
            · rintro ⟨k1 | rfl, k2⟩
              · exact .inr ⟨k1, k2⟩
              · exact .inl rfl
          · show some (SV.val (.slice _ _ _)) = some (SV.val (.slice _ _ _))
            rw [← e3, ← ev]
        · exact num64 (by omega) (by omega) ⟨[], (i + 1, acc, b, c, μ'), ⟨by dsimp only; omega, hle, hacc, hasc, by dsimp only; omega, stay (.inr (by rw [← (cmpB_ord.zero _ _).1 hc2]; exact mem_at hy2))⟩, by dsimp only; omega, ⟨⟨rfl, rfl, rfl, rfl, rfl, trivial⟩, trivial, rfl, rfl⟩⟩
    · exact num64 (by omega) (by omega) ⟨[], (i + 1, acc, b, c, μ'), ⟨by dsimp only; omega, hle, hacc, hasc, by dsimp only; omega, stay (.inl fun h => by rw [← hkeep, hkf] at h; cases h)⟩, by dsimp only; omega, ⟨⟨rfl, rfl, rfl, rfl, rfl, trivial⟩, trivial, rfl, rfl⟩⟩
theorem spec_MinimalDisequalities_spec {l : List Ds} {base : Option Addr} {cap : Nat} (hsl : Sl μ 1 base l.length (l.map Ds.d)) (hw : D.wds (l.map Ds.d)) (hn : l.length ≤ 10000000) :
    Spec Try.prog 16 [.slice base l.length cap] μ fun v μ' => RepV μ' (.sl 1 ((minD l).map Ds.d)) v := by
  refine Spec.mk Try.func16 (by kernel_rfl) ?_
  refine call_gives (l09AllOk_spec hsl hw) ?_
  refine ifnd (fun h => ret_plain ?_) (fun h => ?_)
  · rw [minD, if_neg h]
    exact OwnV.rep (h := Mem.nil) (Own.nilSl 1) (fun _ _ h => nomatch h)
  · obtain ⟨L, rfl, hL⟩ := h.lift
    rw [minD_map hL]
    rw [List.length_map] at hsl hn ⊢
    refine call_plain (l09Minimal_spec hsl hw hn hL) fun v1 μ1 hle1 hR => ?_
    obtain ⟨b1, c1, rfl, hs1⟩ := Rep.sl hR
    rw [List.length_map, List.length_map] at hs1 ⊢
    have h5 := minL_len L
    refine call_plain (l09Copy_spec hs1 (by omega) fun x hx => Nat.le_trans (hL x (minL_mem.1 hx).1).vals.len (by decide)) fun v2 μ2 hle2 hR2 => ?_
    exact ret_plain hR2
end
end Go.Vx

/- Contracts: a row sorted by its owner's functions: parts changed about. -/
namespace Go.Vx
open Go.Proofs Classical
open Go.Sort
section
variable {α : Type} [Inhabited α] {lf sf : FuncId} {lb sb : List Value} {n : Nat} {lt : α → α → Bool} {μ0 : Mem} {J : Array α → Mem} {V : Array α → Prop} {μ : Mem} {d : Array α}
theorem swapRangeF_spec (H : SortBy lf sf lb sb n lt μ0 J V) {a b k : Nat} (hle : μ0.Le μ) (hV : V d) (ha : a + k ≤ b) (hb : b + k ≤ n) :
    SpecH Try.prog 231 [fdata lf sf lb sb, .int .i64 a, .int .i64 b, .int .i64 k] μ (J d) fun v μ' h' => v = .tuple #[] ∧ μ' = μ ∧ ∃ d', Sw a b k d d' ∧ PermIn a (b + k) d d' ∧ h' = J d' ∧ V d' := by
  have hn := H.max
  refine SpecH.mk [] Try.func231 (by kernel_rfl) ?_
  intro r1
  have hs0 := H.size hV
  refine loop_intro (fun p : Nat × Array α => p.1 ≤ k ∧ V p.2 ∧ Sw a b p.1 d p.2 ∧ PermIn a (b + k) d p.2)
    (fun (i, c) => ⟨[(1, .val (.int .i64 a)), (2, .val (.int .i64 b)), (3, .val (.int .i64 k)), (4, .loc 0 r1 0), (8, .val (.int .i64 i))], fblk r1 lf sf lb sb, 1, μ, J c⟩) (fun p => k - p.1)
    (0, d) ⟨Nat.zero_le _, hV, Sw.nil _ _ _, permIn_refl _ _ _⟩ (fun (_, _) => ⟨rfl, rfl⟩) ⟨⟨rfl, rfl, rfl, rfl, rfl, trivial⟩, ⟨rfl, trivial⟩, rfl, rfl⟩ ?_
  rintro ⟨i, c⟩ ⟨hi, hs, hsw, hp⟩
  dsimp only at hi hs hsw hp
  refine ifd (fun h => ?_) (fun h => ?_)
  · refine num_eq (x := ((a + i : Nat) : Int)) (by rw [wrap64 (by omega) (by omega)]; omega) ?_
    refine num_eq (x := ((b + i : Nat) : Int)) (by rw [wrap64 (by omega) (by omega)]; omega) ?_
    refine call_own (H.swap hle hs (i := a + i) (j := b + i) (by omega) (by omega)) fun v μ' h' hle' hap hR => ?_
    obtain ⟨rfl, e2, rfl⟩ := hR
    obtain rfl := e2.symm
    clear hle' hap
    refine num_eq (x := ((i + 1 : Nat) : Int)) (by rw [wrap64 (by omega) (by omega)]; omega) ?_
    exact ⟨(i + 1, swp c (a + i) (b + i)), ⟨by dsimp only; omega, H.sw hs (by omega) (by omega), hsw.step (by omega) (by omega), permIn_trans _ _ _ _ _ hp (swp_permIn _ _ _ _ _ (by omega) (by omega) (by omega) (by omega) (by rw [H.size hs]; exact hb))⟩, by dsimp only; omega, ⟨⟨rfl, rfl, rfl, rfl, rfl, trivial⟩, ⟨rfl, trivial⟩, rfl, rfl⟩⟩
  · obtain rfl : i = k := by omega
    exact ret_plain ⟨rfl, rfl, c, hsw, hp, rfl, hs⟩
theorem rotateF_spec (H : SortBy lf sf lb sb n lt μ0 J V) {a m b : Nat} (hle : μ0.Le μ) (hV : V d) (ha : a < m) (hm : m < b) (hb : b ≤ n) :
    SpecH Try.prog 220 [fdata lf sf lb sb, .int .i64 a, .int .i64 m, .int .i64 b] μ (J d) fun v μ' h' => v = .tuple #[] ∧ μ' = μ ∧ ∃ d', Rot a m b d d' ∧ PermIn a b d d' ∧ h' = J d' ∧ V d' := by
  have hn := H.max
  refine SpecH.mk [] Try.func220 (by kernel_rfl) ?_
  intro r1
  have hs0 := H.size hV
  refine num_eq (x := ((m - a : Nat) : Int)) (by rw [wrap64 (by omega) (by omega)]; omega) ?_
  refine num_eq (x := ((b - m : Nat) : Int)) (by rw [wrap64 (by omega) (by omega)]; omega) ?_
  refine loop_intro (fun p : Nat × Nat × Array α => 1 ≤ p.1 ∧ p.1 ≤ m - a ∧ 1 ≤ p.2.1 ∧ p.2.1 ≤ b - m ∧ V p.2.2 ∧ PermIn a b d p.2.2 ∧ ∀ R, Rot (m - p.1) m (m + p.2.1) p.2.2 R → Rot a m b d R)
    (fun (i, j, c) => ⟨[(2, .val (.int .i64 m)), (4, .loc 0 r1 0), (8, .val (.int .i64 i)), (9, .val (.int .i64 j))], fblk r1 lf sf lb sb, 1, μ, J c⟩) (fun p => p.1 + p.2.1)
    (m - a, b - m, d) ⟨by dsimp only; omega, Nat.le_refl _, by dsimp only; omega, Nat.le_refl _, hV, permIn_refl _ _ _, fun R hR => by
      dsimp only at hR
      rwa [show m - (m - a) = a by omega, show m + (b - m) = b by omega] at hR⟩ (fun (_, _, _) => ⟨rfl, rfl⟩) ⟨⟨rfl, rfl, rfl, rfl, trivial⟩, ⟨rfl, trivial⟩, rfl, rfl⟩ ?_
  rintro ⟨i, j, c⟩ ⟨hi1, hi2, hj1, hj2, hs, hp, hR⟩
  dsimp only at hi1 hi2 hj1 hj2 hs hp hR
  refine ifnd (fun h => ?_) (fun h => ?_)
  · refine ifd (fun h2 => ?_) (fun h2 => ?_)
    · refine num_eq (x := ((m - i : Nat) : Int)) (by rw [wrap64 (by omega) (by omega)]; omega) ?_
      refine call_own (swapRangeF_spec H hle hs (a := m - i) (b := m) (k := j) (by omega) (by omega)) fun v μ' h' hle' hap hR => ?_
      obtain ⟨rfl, e2, d2, hsw, hp2, rfl, hV2⟩ := hR
      obtain rfl := e2.symm
      clear hle' hap
      refine num_eq (x := ((i - j : Nat) : Int)) (by rw [wrap64 (by omega) (by omega)]; omega) ?_
      exact ⟨(i - j, j, d2), ⟨by dsimp only; omega, by dsimp only; omega, hj1, hj2, hV2, permIn_trans _ _ _ _ _ hp (permIn_mono _ _ _ _ _ _ (by omega) (by omega) (by rw [H.size hs]; exact hb) hp2), fun R r => hR R (Rot.gt (by omega) (by omega) hsw r)⟩, by dsimp only; omega, ⟨⟨rfl, rfl, rfl, rfl, trivial⟩, ⟨rfl, trivial⟩, rfl, rfl⟩⟩
    · refine num_eq (x := ((m - i : Nat) : Int)) (by rw [wrap64 (by omega) (by omega)]; omega) ?_
      refine num_eq (x := ((m + j : Nat) : Int)) (by rw [wrap64 (by omega) (by omega)]; omega) ?_
      refine num_eq (x := ((m + j - i : Nat) : Int)) (by rw [wrap64 (by omega) (by omega)]; omega) ?_
      refine call_own (swapRangeF_spec H hle hs (a := m - i) (b := m + j - i) (k := i) (by omega) (by omega)) fun v μ' h' hle' hap hR => ?_
      obtain ⟨rfl, e2, d2, hsw, hp2, rfl, hV2⟩ := hR
      obtain rfl := e2.symm
      clear hle' hap
      refine num_eq (x := ((j - i : Nat) : Int)) (by rw [wrap64 (by omega) (by omega)]; omega) ?_
      exact ⟨(i, j - i, d2), ⟨hi1, hi2, by dsimp only; omega, by dsimp only; omega, hV2, permIn_trans _ _ _ _ _ hp (permIn_mono _ _ _ _ _ _ (by omega) (by omega) (by rw [H.size hs]; exact hb) hp2), fun R r => hR R (Rot.ls (by omega) (by omega) hsw r)⟩, by dsimp only; omega, ⟨⟨rfl, rfl, rfl, rfl, trivial⟩, ⟨rfl, trivial⟩, rfl, rfl⟩⟩
  · obtain rfl : i = j := by omega
    refine num_eq (x := ((m - i : Nat) : Int)) (by rw [wrap64 (by omega) (by omega)]; omega) ?_
    refine call_own (swapRangeF_spec H hle hs (a := m - i) (b := m) (k := i) (by omega) (by omega)) fun v μ' h' hle' hap hR => ?_
    obtain ⟨rfl, e2, d2, hsw, hp2, rfl, hV2⟩ := hR
    obtain rfl := e2.symm
    clear hle' hap
    exact ret_plain ⟨rfl, rfl, d2, hR d2 (Rot.same (by omega) hsw), permIn_trans _ _ _ _ _ hp (permIn_mono _ _ _ _ _ _ (by omega) (by omega) (by rw [H.size hs]; exact hb) hp2), rfl, hV2⟩
end
end Go.Vx

/- Contracts: a row sorted by its owner's functions: merging in place. -/
namespace Go.Vx
open Go.Proofs Classical
open Go.Sort
section
variable {α : Type} [Inhabited α] {lt : α → α → Bool} {d d' : Array α} {a q b s m e : Nat}
theorem Split.permL (h : Split lt a q b d) (hq : q ≤ d.size) (p : PermIn a q d d') : Split lt a q b d' := fun x y h1 h2 h3 h4 => by
  rw [p.2.1 y (by omega)]
  exact permIn_all _ _ _ _ (fun v => lt d[y]! v = false) hq p (fun i hi hj => h i y hi hj h3 h4) x h1 h2
theorem Split.permR (h : Split lt a q b d) (hq : b ≤ d.size) (p : PermIn q b d d') : Split lt a q b d' := fun x y h1 h2 h3 h4 => by
  rw [p.2.1 x (by omega)]
  exact permIn_all _ _ _ _ (fun v => lt v d[x]! = false) hq p (fun i hi hj => h x i h1 h2 hi hj) y h3 h4
theorem SortedIn.same (h : SortedIn lt a b d) (e : ∀ k, a ≤ k → k < b → d'[k]! = d[k]!) : SortedIn lt a b d' := fun i j hi hij hj => by
  rw [e j (by omega) hj, e i hi (by omega)]; exact h i j hi hij hj
theorem SortedIn.one (a : Nat) (d : Array α) : SortedIn lt a (a + 1) d := fun i j hi hij hj => by omega
theorem sorted_le (hO : SWO lt) (h : SortedIn lt a b d) {i j : Nat} (hi : a ≤ i) (hij : i ≤ j) (hj : j < b) : lt d[j]! d[i]! = false := by
  rcases Nat.eq_or_lt_of_le hij with e | e
  · rw [e]; exact hO.irrefl _
  · exact h i j hi e hj
theorem Rot.left (h : s ≤ m) (hm : m = e) (d : Array α) : Rot s m e d d := ⟨rfl, fun _ _ => rfl, fun t ht => by omega, fun t ht => by congr 1; omega⟩
theorem Rot.right (h : s = m) (hm : m ≤ e) (d : Array α) : Rot s m e d d := ⟨rfl, fun _ _ => rfl, fun t ht => by congr 1; omega, fun t ht => by omega⟩
/-- One element ahead of the rest: where it goes. -/
theorem merge_first (hO : SWO lt) {i : Nat} {R : Array α} (h2 : SortedIn lt (a + 1) b d) (hi : a + 1 ≤ i) (hib : i ≤ b) (lo : ∀ x, a + 1 ≤ x → x < i → lt d[x]! d[a]! = true) (hi' : ∀ x, i ≤ x → x < b → lt d[x]! d[a]! = false)
    (r : Rot a (a + 1) i d R) : SortedIn lt a b R := by
  have hq : a + (i - (a + 1)) = i - 1 := by omega
  have h1 : SortedIn lt a (a + 1) d := SortedIn.one a d
  have hc : Cut lt a a (a + 1) i b d := ⟨Nat.le_refl _, by omega, hi, hib, fun x y h3 h4 => by omega, fun x y h3 h4 h5 h6 => by
    obtain rfl : x = a := by omega
    exact lt_asymm hO (lo y h5 h6)⟩
  have S := hc.split h1 h2 r
  have s2 := r.s2 h2 hib hi
  have s3 := r.s3 h1 (Nat.le_refl _) (by omega) hi
  have s4 := r.s4 h2 hi
  rw [hq] at S s2 s3
  refine sorted_join s2 (sorted_join s3 s4 fun x y h3 h4 h5 h6 => ?_) S
  obtain rfl : x = i - 1 := by omega
  have e3 := r.at3 (k := i - 1) hi (by omega) (by omega) (by omega)
  rw [e3, r.at4 h5, show a + (i - 1 - (a + (i - (a + 1)))) = a by omega]
  exact hi' y h5 h6
/-- One element behind the rest: where it goes. -/
theorem merge_last (hO : SWO lt) {i : Nat} {R : Array α} (h1 : SortedIn lt a m d) (hi : a ≤ i) (him : i ≤ m) (lo : ∀ x, a ≤ x → x < i → lt d[m]! d[x]! = false) (hi' : ∀ x, i ≤ x → x < m → lt d[m]! d[x]! = true)
    (r : Rot i m (m + 1) d R) : SortedIn lt a (m + 1) R := by
  have hq : i + (m + 1 - m) = i + 1 := by omega
  have h2 : SortedIn lt m (m + 1) d := SortedIn.one m d
  have hc : Cut lt a i m (m + 1) (m + 1) d := ⟨hi, him, by omega, Nat.le_refl _, fun x y h3 h4 h5 h6 => by omega, fun x y h3 h4 h5 h6 => by
    obtain rfl : y = m := by omega
    exact lt_asymm hO (hi' x h3 h4)⟩
  have S := hc.split h1 h2 r
  have s1 := r.s1 h1 him
  have s2 := r.s2 h2 (Nat.le_refl _) (by omega)
  have s3 := r.s3 h1 hi him (by omega)
  rw [hq] at S s2 s3
  refine sorted_join (sorted_join s1 s2 fun x y h3 h4 h5 h6 => ?_) s3 S
  obtain rfl : y = i := by omega
  have e2 := r.at2 (k := y) (Nat.le_refl _) (by omega)
  rw [e2, r.at1 h4, show m + (y - y) = m by omega]
  exact lo x h3 h4
/-- Where the middle parts are changed about. -/
theorem merge_cut (hO : SWO lt) {mid s0 r0 : Nat} (h1 : SortedIn lt a m d) (h2 : SortedIn lt m b d) (ha : a ≤ s0) (hr : r0 ≤ m) (hs : s0 ≤ s) (hsr : s ≤ r0) (hse : s + e = mid + m) (hme : m ≤ e) (heb : e ≤ b)
    (hs0 : s0 = a ∨ s0 + b = mid + m) (hr0 : r0 = m ∨ r0 = mid)
    (lo : ∀ x, s0 ≤ x → x < s → lt d[mid + m - 1 - x]! d[x]! = false) (hi : ∀ x, s ≤ x → x < r0 → lt d[mid + m - 1 - x]! d[x]! = true) : Cut lt a s m e b d := by
  refine ⟨by omega, by omega, hme, heb, fun x y h3 h4 h5 h6 => ?_, fun x y h3 h4 h5 h6 => ?_⟩
  · rcases Nat.eq_or_lt_of_le hs with g | g
    · rcases hs0 with g2 | g2 <;> omega
    · have k1 := lo (s - 1) (by omega) (by omega)
      have k2 := sorted_le hO h1 (i := x) (j := s - 1) h3 (by omega) (by omega)
      have k3 := sorted_le hO h2 (i := mid + m - 1 - (s - 1)) (j := y) (by omega) (by omega) h6
      exact hO.ntrans _ _ _ k3 (hO.ntrans _ _ _ k1 k2)
  · rcases Nat.eq_or_lt_of_le hsr with g | g
    · rcases hr0 with g2 | g2 <;> omega
    · have k1 := lt_asymm hO (hi s (Nat.le_refl _) g)
      have k2 := sorted_le hO h1 (i := s) (j := x) (by omega) h3 h4
      have k3 := sorted_le hO h2 (i := y) (j := mid + m - 1 - s) h5 (by omega) (by omega)
      exact hO.ntrans _ _ _ k2 (hO.ntrans _ _ _ k1 k3)
theorem merge_facts {mid : Nat} (h1 : SortedIn lt a m d) (h2 : SortedIn lt m b d) (k : Cut lt a s m e b d) (r : Rot s m e d d') (hmid : s + e = mid + m) :
    Split lt a mid b d' ∧ SortedIn lt a s d' ∧ SortedIn lt s mid d' ∧ SortedIn lt mid e d' ∧ SortedIn lt e b d' := by
  have hme := k.me
  have e : s + (e - m) = mid := by omega
  have A := k.split h1 h2 r
  have s2 := r.s2 h2 k.eb k.me
  have s3 := r.s3 h1 k.sa k.sm k.me
  rw [e] at A s2 s3
  exact ⟨A, r.s1 h1 k.sm, s2, s3, r.s4 h2 k.me⟩
/-- A step of the search in the two parts. -/
theorem merge_lo (hO : SWO lt) {p c x : Nat} (h1 : SortedIn lt a m d) (h2 : SortedIn lt m b d) (h : lt d[p - c]! d[c]! = false) (hx : a ≤ x) (hxc : x ≤ c) (hc : c < m) (hm : m ≤ p - c) (hp : p - x < b) : lt d[p - x]! d[x]! = false :=
  hO.ntrans _ _ _ (sorted_le hO h2 (i := p - c) (j := p - x) hm (by omega) hp) (hO.ntrans _ _ _ h (sorted_le hO h1 hx hxc hc))
theorem merge_hi (hO : SWO lt) {p c x : Nat} (h1 : SortedIn lt a m d) (h2 : SortedIn lt m b d) (h : lt d[p - c]! d[c]! = true) (hc : a ≤ c) (hxc : c ≤ x) (hx : x < m) (hm : m ≤ p - x) (hp : p - c < b) : lt d[p - x]! d[x]! = true :=
  lt_of_not hO (lt_of_not' hO h (sorted_le hO h1 hc hxc hx)) (sorted_le hO h2 (i := p - x) (j := p - c) hm (by omega) hp)
end
section
variable {α : Type} [Inhabited α] {lf sf : FuncId} {lb sb : List Value} {n : Nat} {lt : α → α → Bool} {μ0 : Mem} {J : Array α → Mem} {V : Array α → Prop}
set_option maxHeartbeats 8000000 in
theorem symMergeF_spec (H : SortBy lf sf lb sb n lt μ0 J V) (hO : SWO lt) : ∀ (k a m b : Nat) (d : Array α) (μ : Mem), b - a ≤ k → a < m → m < b → b ≤ n → V d → μ0.Le μ → SortedIn lt a m d → SortedIn lt m b d →
    SpecH Try.prog 192 [fdata lf sf lb sb, .int .i64 a, .int .i64 m, .int .i64 b] μ (J d) fun v μ' h' => v = .tuple #[] ∧ μ' = μ ∧ ∃ d', PermIn a b d d' ∧ SortedIn lt a b d' ∧ h' = J d' ∧ V d' := by
  intro k
  induction k with
  | zero => intro a m b d μ hk ham hmb; omega
  | succ k IH =>
  intro a m b d μ hk ham hmb hb hV hle h1 h2
  have hn := H.max
  have hs0 := H.size hV
  refine SpecH.mk [] Try.func192 (by kernel_rfl) ?_
  intro r1
  refine num_eq (x := ((m - a : Nat) : Int)) (by rw [wrap64 (by omega) (by omega)]; omega) ?_
  refine ifd (fun g1 => ?_) (fun g1 => ?_)
  · obtain rfl : m = a + 1 := by omega
    refine loop_intro (fun p : Nat × Nat => a + 1 ≤ p.1 ∧ p.1 ≤ p.2 ∧ p.2 ≤ b ∧ (∀ x, a + 1 ≤ x → x < p.1 → lt d[x]! d[a]! = true) ∧ ∀ x, p.2 ≤ x → x < b → lt d[x]! d[a]! = false)
      (fun (i, j) => ⟨[(1, .val (.int .i64 a)), (2, .val (.int .i64 (a + 1 : Nat))), (3, .val (.int .i64 b)), (4, .loc 0 r1 0), (8, .val (.int .i64 i)), (9, .val (.int .i64 j))], fblk r1 lf sf lb sb, 1, μ, J d⟩) (fun p => p.2 - p.1)
      (a + 1, b) ⟨Nat.le_refl _, by dsimp only; omega, Nat.le_refl _, fun x h3 h4 => by dsimp only at h4; omega, fun x h3 h4 => by dsimp only at h3; omega⟩ (fun (_, _) => ⟨rfl, rfl⟩) ⟨⟨rfl, rfl, rfl, rfl, rfl, rfl, trivial⟩, ⟨rfl, trivial⟩, rfl, rfl⟩ ?_
    rintro ⟨i, j⟩ ⟨hi, hij, hj, lo, hi'⟩
    dsimp only at hi hij hj lo hi'
    refine ifd (fun h => ?_) (fun h => ?_)
    · refine num64 (by omega) (by omega) ?_
      refine num_eq (wrapu64 (by omega) (by omega)) ?_
      refine need_intro (by omega) ?_
      refine num_eq (x := (((i + j) / 2 : Nat) : Int)) ?_ ?_
      · show Int.fdiv ((i : Int) + j) (2 ^ (min (Int.toNat 1) 64)) = _
        rw [show min (Int.toNat 1) 64 = 1 from rfl, show (2 : Int) ^ 1 = 2 from rfl, Int.fdiv_eq_ediv_of_nonneg _ (by omega)]
        omega
      refine num64 (by omega) (by omega) ?_
      generalize hc : (i + j) / 2 = c
      refine call_own (H.less hle hV (i := c) (j := a) (by omega) (by omega)) fun v μ' h' hle' hap hR => ?_
      obtain ⟨rfl, e2, rfl⟩ := hR
      obtain rfl := e2.symm
      clear hle' hap
      refine if_intro (fun hl => ?_) (fun hl => ?_)
      · refine num_eq (x := ((c + 1 : Nat) : Int)) (by rw [wrap64 (by omega) (by omega)]; omega) ?_
        exact ⟨(c + 1, j), ⟨by dsimp only; omega, by dsimp only; omega, hj, fun x h3 h4 => by
          dsimp only at h4
          exact lt_of_not hO hl (sorted_le hO h2 h3 (by omega) (by omega)), hi'⟩, by dsimp only; omega, ⟨⟨rfl, rfl, rfl, rfl, rfl, rfl, trivial⟩, ⟨rfl, trivial⟩, rfl, rfl⟩⟩
      · exact ⟨(i, c), ⟨hi, by dsimp only; omega, by dsimp only; omega, lo, fun x h3 h4 => by
          dsimp only at h3
          exact hO.ntrans _ _ _ (sorted_le hO h2 (by omega) h3 h4) hl⟩, by dsimp only; omega, ⟨⟨rfl, rfl, rfl, rfl, rfl, rfl, trivial⟩, ⟨rfl, trivial⟩, rfl, rfl⟩⟩
    · obtain rfl : i = j := by omega
      refine loop_intro (fun p : Nat × Array α => a ≤ p.1 ∧ p.1 + 1 ≤ i ∧ V p.2 ∧ Rot a (a + 1) (p.1 + 1) d p.2 ∧ PermIn a b d p.2)
        (fun (k, c) => ⟨[(1, .val (.int .i64 a)), (2, .val (.int .i64 (a + 1 : Nat))), (3, .val (.int .i64 b)), (4, .loc 0 r1 0), (8, .val (.int .i64 i)), (11, .val (.int .i64 k))], fblk r1 lf sf lb sb, 1, μ, J c⟩) (fun p => i - p.1)
        (a, d) ⟨Nat.le_refl _, hi, hV, Rot.up0 _ _, permIn_refl _ _ _⟩ (fun (_, _) => ⟨rfl, rfl⟩) ⟨⟨rfl, rfl, rfl, rfl, rfl, rfl, trivial⟩, ⟨rfl, trivial⟩, rfl, rfl⟩ ?_
      rintro ⟨k, c⟩ ⟨hk1, hk2, hs, hr, hp⟩
      dsimp only at hk1 hk2 hs hr hp
      refine num_eq (x := ((i - 1 : Nat) : Int)) (by rw [wrap64 (by omega) (by omega)]; omega) ?_
      refine ifd (fun h3 => ?_) (fun h3 => ?_)
      · refine num_eq (x := ((k + 1 : Nat) : Int)) (by rw [wrap64 (by omega) (by omega)]; omega) ?_
        refine call_own (H.swap hle hs (i := k) (j := k + 1) (by omega) (by omega)) fun v μ' h' hle' hap hR => ?_
        obtain ⟨rfl, e2, rfl⟩ := hR
        obtain rfl := e2.symm
        clear hle' hap
        refine num_eq (x := ((k + 1 : Nat) : Int)) (by rw [wrap64 (by omega) (by omega)]; omega) ?_
        exact ⟨(k + 1, swp c k (k + 1)), ⟨by dsimp only; omega, by dsimp only; omega, H.sw hs (by omega) (by omega), hr.up hk1 (by omega), permIn_trans _ _ _ _ _ hp (swp_permIn _ _ _ _ _ (by omega) (by omega) (by omega) (by omega) (by rw [H.size hs]; exact hb))⟩, by dsimp only; omega, ⟨⟨rfl, rfl, rfl, rfl, rfl, rfl, trivial⟩, ⟨rfl, trivial⟩, rfl, rfl⟩⟩
      · obtain rfl : i = k + 1 := by omega
        exact ret_plain ⟨rfl, rfl, c, hp, merge_first hO h2 hi hj lo hi' hr, rfl, hs⟩
  refine num_eq (x := ((b - m : Nat) : Int)) (by rw [wrap64 (by omega) (by omega)]; omega) ?_
  refine ifd (fun g2 => ?_) (fun g2 => ?_)
  · obtain rfl : b = m + 1 := by omega
    refine loop_intro (fun p : Nat × Nat => a ≤ p.1 ∧ p.1 ≤ p.2 ∧ p.2 ≤ m ∧ (∀ x, a ≤ x → x < p.1 → lt d[m]! d[x]! = false) ∧ ∀ x, p.2 ≤ x → x < m → lt d[m]! d[x]! = true)
      (fun (i, j) => ⟨[(1, .val (.int .i64 a)), (2, .val (.int .i64 m)), (3, .val (.int .i64 (m + 1 : Nat))), (4, .loc 0 r1 0), (12, .val (.int .i64 i)), (13, .val (.int .i64 j))], fblk r1 lf sf lb sb, 1, μ, J d⟩) (fun p => p.2 - p.1)
      (a, m) ⟨Nat.le_refl _, by dsimp only; omega, Nat.le_refl _, fun x h3 h4 => by dsimp only at h4; omega, fun x h3 h4 => by dsimp only at h3; omega⟩ (fun (_, _) => ⟨rfl, rfl⟩) ⟨⟨rfl, rfl, rfl, rfl, rfl, rfl, trivial⟩, ⟨rfl, trivial⟩, rfl, rfl⟩ ?_
    rintro ⟨i, j⟩ ⟨hi, hij, hj, lo, hi'⟩
    dsimp only at hi hij hj lo hi'
    refine ifd (fun h => ?_) (fun h => ?_)
    · refine num64 (by omega) (by omega) ?_
      refine num_eq (wrapu64 (by omega) (by omega)) ?_
      refine need_intro (by omega) ?_
      refine num_eq (x := (((i + j) / 2 : Nat) : Int)) ?_ ?_
      · show Int.fdiv ((i : Int) + j) (2 ^ (min (Int.toNat 1) 64)) = _
        rw [show min (Int.toNat 1) 64 = 1 from rfl, show (2 : Int) ^ 1 = 2 from rfl, Int.fdiv_eq_ediv_of_nonneg _ (by omega)]
        omega
      refine num64 (by omega) (by omega) ?_
      generalize hc : (i + j) / 2 = c
      refine call_own (H.less hle hV (i := m) (j := c) (by omega) (by omega)) fun v μ' h' hle' hap hR => ?_
      obtain ⟨rfl, e2, rfl⟩ := hR
      obtain rfl := e2.symm
      clear hle' hap
      refine if_intro (fun hl => ?_) (fun hl => ?_)
      · have hl' : lt d[m]! d[c]! = false := by simpa using hl
        refine num_eq (x := ((c + 1 : Nat) : Int)) (by rw [wrap64 (by omega) (by omega)]; omega) ?_
        exact ⟨(c + 1, j), ⟨by dsimp only; omega, by dsimp only; omega, hj, fun x h3 h4 => by
          dsimp only at h4
          exact hO.ntrans _ _ _ hl' (sorted_le hO h1 h3 (by omega) (by omega)), hi'⟩, by dsimp only; omega, ⟨⟨rfl, rfl, rfl, rfl, rfl, rfl, trivial⟩, ⟨rfl, trivial⟩, rfl, rfl⟩⟩
      · have hl' : lt d[m]! d[c]! = true := by simpa using hl
        exact ⟨(i, c), ⟨hi, by dsimp only; omega, by dsimp only; omega, lo, fun x h3 h4 => by
          dsimp only at h3
          exact lt_of_not' hO hl' (sorted_le hO h1 (by omega) h3 h4)⟩, by dsimp only; omega, ⟨⟨rfl, rfl, rfl, rfl, rfl, rfl, trivial⟩, ⟨rfl, trivial⟩, rfl, rfl⟩⟩
    · obtain rfl : i = j := by omega
      refine loop_intro (fun p : Nat × Array α => i ≤ p.1 ∧ p.1 ≤ m ∧ V p.2 ∧ Rot p.1 m (m + 1) d p.2 ∧ PermIn a (m + 1) d p.2)
        (fun (k, c) => ⟨[(1, .val (.int .i64 a)), (2, .val (.int .i64 m)), (3, .val (.int .i64 (m + 1 : Nat))), (4, .loc 0 r1 0), (12, .val (.int .i64 i)), (15, .val (.int .i64 k))], fblk r1 lf sf lb sb, 1, μ, J c⟩) (fun p => p.1)
        (m, d) ⟨hj, Nat.le_refl _, hV, Rot.down0 _ _, permIn_refl _ _ _⟩ (fun (_, _) => ⟨rfl, rfl⟩) ⟨⟨rfl, rfl, rfl, rfl, rfl, rfl, trivial⟩, ⟨rfl, trivial⟩, rfl, rfl⟩ ?_
      rintro ⟨k, c⟩ ⟨hk1, hk2, hs, hr, hp⟩
      dsimp only at hk1 hk2 hs hr hp
      refine ifd (fun h3 => ?_) (fun h3 => ?_)
      · obtain ⟨k, rfl⟩ : ∃ k', k = k' + 1 := ⟨k - 1, by omega⟩
        refine num_eq (x := ((k : Nat) : Int)) (by rw [wrap64 (by omega) (by omega)]; omega) ?_
        refine call_own (H.swap hle hs (i := k + 1) (j := k) (by omega) (by omega)) fun v μ' h' hle' hap hR => ?_
        obtain ⟨rfl, e2, rfl⟩ := hR
        obtain rfl := e2.symm
        clear hle' hap
        refine num_eq (x := ((k : Nat) : Int)) (by rw [wrap64 (by omega) (by omega)]; omega) ?_
        exact ⟨(k, swp c (k + 1) k), ⟨by dsimp only; omega, by dsimp only; omega, H.sw hs (by omega) (by omega), hr.down (by omega) (by omega), permIn_trans _ _ _ _ _ hp (swp_permIn _ _ _ _ _ (by omega) (by omega) (by omega) (by omega) (by rw [H.size hs]; exact hb))⟩, by dsimp only; omega, ⟨⟨rfl, rfl, rfl, rfl, rfl, rfl, trivial⟩, ⟨rfl, trivial⟩, rfl, rfl⟩⟩
      · obtain rfl : k = i := by omega
        exact ret_plain ⟨rfl, rfl, c, hp, merge_last hO h1 hi hj lo hi' hr, rfl, hs⟩
  refine num64 (by omega) (by omega) ?_
  refine num_eq (wrapu64 (by omega) (by omega)) ?_
  refine need_intro (by omega) ?_
  refine num_eq (x := (((a + b) / 2 : Nat) : Int)) ?_ ?_
  · show Int.fdiv ((a : Int) + b) (2 ^ (min (Int.toNat 1) 64)) = _
    rw [show min (Int.toNat 1) 64 = 1 from rfl, show (2 : Int) ^ 1 = 2 from rfl, Int.fdiv_eq_ediv_of_nonneg _ (by omega)]
    omega
  refine num64 (by omega) (by omega) ?_
  generalize hmid : (a + b) / 2 = mid
  refine num_eq (x := ((mid + m : Nat) : Int)) (by rw [wrap64 (by omega) (by omega)]; omega) ?_
  refine ifd (fun g3 => ?_) (fun g3 => ?_)
  · refine num_eq (x := ((mid + m - b : Nat) : Int)) (by rw [wrap64 (by omega) (by omega)]; omega) ?_
    refine num_eq (x := ((mid + m - 1 : Nat) : Int)) (by rw [wrap64 (by omega) (by omega)]; omega) ?_
    refine loop_intro (fun p : Nat × Nat => mid + m - b ≤ p.1 ∧ p.1 ≤ p.2 ∧ p.2 ≤ mid ∧ (∀ x, mid + m - b ≤ x → x < p.1 → lt d[mid + m - 1 - x]! d[x]! = false) ∧ ∀ x, p.2 ≤ x → x < mid → lt d[mid + m - 1 - x]! d[x]! = true)
      (fun (i, j) => ⟨[(1, .val (.int .i64 a)), (2, .val (.int .i64 m)), (3, .val (.int .i64 b)), (4, .loc 0 r1 0), (16, .val (.int .i64 mid)), (17, .val (.int .i64 (mid + m : Nat))), (18, .val (.int .i64 i)), (19, .val (.int .i64 j)), (20, .val (.int .i64 (mid + m - 1 : Nat)))], fblk r1 lf sf lb sb, 1, μ, J d⟩) (fun p => p.2 - p.1)
      (mid + m - b, mid) ⟨Nat.le_refl _, by dsimp only; omega, Nat.le_refl _, fun x h3 h4 => by dsimp only at h4; omega, fun x h3 h4 => by dsimp only at h3; omega⟩ (fun (_, _) => ⟨rfl, rfl⟩) ⟨⟨rfl, rfl, rfl, rfl, rfl, rfl, rfl, rfl, rfl, trivial⟩, ⟨rfl, trivial⟩, rfl, rfl⟩ ?_
    rintro ⟨i, j⟩ ⟨hi, hij, hj, lo, hi'⟩
    dsimp only at hi hij hj lo hi'
    refine ifd (fun h => ?_) (fun h => ?_)
    · refine num64 (by omega) (by omega) ?_
      refine num_eq (wrapu64 (by omega) (by omega)) ?_
      refine need_intro (by omega) ?_
      refine num_eq (x := (((i + j) / 2 : Nat) : Int)) ?_ ?_
      · show Int.fdiv ((i : Int) + j) (2 ^ (min (Int.toNat 1) 64)) = _
        rw [show min (Int.toNat 1) 64 = 1 from rfl, show (2 : Int) ^ 1 = 2 from rfl, Int.fdiv_eq_ediv_of_nonneg _ (by omega)]
        omega
      refine num64 (by omega) (by omega) ?_
      generalize hc : (i + j) / 2 = c
      refine num_eq (x := ((mid + m - 1 - c : Nat) : Int)) (by rw [wrap64 (by omega) (by omega)]; omega) ?_
      refine call_own (H.less hle hV (i := mid + m - 1 - c) (j := c) (by omega) (by omega)) fun v μ' h' hle' hap hR => ?_
      obtain ⟨rfl, e2, rfl⟩ := hR
      obtain rfl := e2.symm
      clear hle' hap
      refine if_intro (fun hl => ?_) (fun hl => ?_)
      · have hl' : lt d[mid + m - 1 - c]! d[c]! = false := by simpa using hl
        refine num_eq (x := ((c + 1 : Nat) : Int)) (by rw [wrap64 (by omega) (by omega)]; omega) ?_
        exact ⟨(c + 1, j), ⟨by dsimp only; omega, by dsimp only; omega, hj, fun x h3 h4 => by
          dsimp only at h4
          exact merge_lo hO h1 h2 hl' (by omega) (by omega) (by omega) (by omega) (by omega), hi'⟩, by dsimp only; omega, ⟨⟨rfl, rfl, rfl, rfl, rfl, rfl, rfl, rfl, rfl, trivial⟩, ⟨rfl, trivial⟩, rfl, rfl⟩⟩
      · have hl' : lt d[mid + m - 1 - c]! d[c]! = true := by simpa using hl
        exact ⟨(i, c), ⟨hi, by dsimp only; omega, by dsimp only; omega, lo, fun x h3 h4 => by
          dsimp only at h3
          exact merge_hi hO h1 h2 hl' (by omega) h3 (by omega) (by omega) (by omega)⟩, by dsimp only; omega, ⟨⟨rfl, rfl, rfl, rfl, rfl, rfl, rfl, rfl, rfl, trivial⟩, ⟨rfl, trivial⟩, rfl, rfl⟩⟩
    obtain rfl : i = j := by omega
    obtain ⟨e, he⟩ : ∃ e, e = mid + m - i := ⟨_, rfl⟩
    have hcut : Cut lt a i m e b d := merge_cut (mid := mid) (s0 := mid + m - b) (r0 := mid) hO h1 h2 (by omega) (by omega) hi hj (by omega) (by omega) (by omega) (by omega) (by omega) lo hi'
    refine num_eq (x := ((e : Nat) : Int)) (by rw [wrap64 (by omega) (by omega)]; omega) ?_
    refine ifd (fun k1 => ?_) (fun k1 => ?_)
    · refine ifd (fun k2 => ?_) (fun k2 => ?_)
      · refine call_own (rotateF_spec H hle hV (a := i) (m := m) (b := e) (by omega) (by omega) (by omega)) fun v μ' h' hle' hap hR => ?_
        obtain ⟨rfl, e2, d1, hr, hp1, rfl, hV1⟩ := hR
        obtain rfl := e2.symm
        clear hle' hap
        replace hp1 : PermIn a b d d1 := permIn_mono _ _ _ _ _ _ (by omega) (by omega) (by omega) hp1
        obtain ⟨S, s1, s2, s3, s4⟩ := merge_facts (mid := mid) h1 h2 hcut (hr) (by omega)
        refine ifd (fun k3 => ?_) (fun k3 => ?_)
        · refine ifd (fun k4 => ?_) (fun k4 => ?_)
          · refine call_own (IH a i mid d1 _ (by omega) (by omega) (by omega) (by omega) hV1 hle s1 s2) fun v μ' h' hle' hap hR => ?_
            obtain ⟨rfl, e2, d4, hp4, hs4, rfl, hV4⟩ := hR
            obtain rfl := e2.symm
            clear hle' hap
            have hz4 : mid ≤ (d1).size := by rw [H.size hV1]; omega
            refine ifd (fun k5 => ?_) (fun k5 => ?_)
            · refine ifd (fun k6 => ?_) (fun k6 => ?_)
              · refine call_own (IH _ e b d4 _ (by omega) (by omega) (by omega) (by omega) hV4 hle (SortedIn.same s3 fun k h5 h6 => hp4.2.1 k (by omega)) (SortedIn.same s4 fun k h5 h6 => hp4.2.1 k (by omega))) fun v μ' h' hle' hap hR => ?_
                obtain ⟨rfl, e2, d5, hp5, hs5, rfl, hV5⟩ := hR
                obtain rfl := e2.symm
                clear hle' hap
                exact ret_plain ⟨rfl, rfl, d5, permIn_trans _ _ _ _ _ (permIn_trans _ _ _ _ _ hp1 (permIn_mono _ _ _ _ _ _ (Nat.le_refl _) (by omega) (by rw [H.size hV1]; exact hb) hp4)) (permIn_mono _ _ _ _ _ _ (by omega) (Nat.le_refl _) (by rw [H.size hV4]; exact hb) hp5), sorted_join (SortedIn.same hs4 fun k h5 h6 => hp5.2.1 k (by omega)) hs5 (Split.permR (S.permL hz4 hp4) (by rw [H.size hV4]; exact hb) hp5), rfl, hV5⟩
              · have k7 : e = b := by omega
                exact ret_plain ⟨rfl, rfl, d4, (permIn_trans _ _ _ _ _ hp1 (permIn_mono _ _ _ _ _ _ (Nat.le_refl _) (by omega) (by rw [H.size hV1]; exact hb) hp4)), sorted_join hs4 (by have h := (SortedIn.same s3 fun k h5 h6 => hp4.2.1 k (by omega)); rwa [k7] at h) (S.permL hz4 hp4), rfl, hV4⟩
            · have k7 : e = mid := by omega
              exact ret_plain ⟨rfl, rfl, d4, (permIn_trans _ _ _ _ _ hp1 (permIn_mono _ _ _ _ _ _ (Nat.le_refl _) (by omega) (by rw [H.size hV1]; exact hb) hp4)), sorted_join hs4 (by have h := (SortedIn.same s4 fun k h5 h6 => hp4.2.1 k (by omega)); rwa [k7] at h) (S.permL hz4 hp4), rfl, hV4⟩
          · obtain rfl : mid = i := by omega
            refine ifd (fun k5 => ?_) (fun k5 => ?_)
            · refine ifd (fun k6 => ?_) (fun k6 => ?_)
              · refine call_own (IH _ e b d1 _ (by omega) (by omega) (by omega) (by omega) hV1 hle s3 s4) fun v μ' h' hle' hap hR => ?_
                obtain ⟨rfl, e2, d5, hp5, hs5, rfl, hV5⟩ := hR
                obtain rfl := e2.symm
                clear hle' hap
                exact ret_plain ⟨rfl, rfl, d5, permIn_trans _ _ _ _ _ hp1 (permIn_mono _ _ _ _ _ _ (by omega) (Nat.le_refl _) (by rw [H.size hV1]; exact hb) hp5), sorted_join (SortedIn.same s1 fun k h5 h6 => hp5.2.1 k (by omega)) hs5 (Split.permR S (by rw [H.size hV1]; exact hb) hp5), rfl, hV5⟩
              · have k7 : e = b := by omega
                exact ret_plain ⟨rfl, rfl, d1, hp1, sorted_join s1 (by have h := s3; rwa [k7] at h) S, rfl, hV1⟩
            · have k7 : e = mid := by omega
              exact ret_plain ⟨rfl, rfl, d1, hp1, sorted_join s1 (by have h := s4; rwa [k7] at h) S, rfl, hV1⟩
        · obtain rfl : a = i := by omega
          refine ifd (fun k5 => ?_) (fun k5 => ?_)
          · refine ifd (fun k6 => ?_) (fun k6 => ?_)
            · refine call_own (IH _ e b d1 _ (by omega) (by omega) (by omega) (by omega) hV1 hle s3 s4) fun v μ' h' hle' hap hR => ?_
              obtain ⟨rfl, e2, d5, hp5, hs5, rfl, hV5⟩ := hR
              obtain rfl := e2.symm
              clear hle' hap
              exact ret_plain ⟨rfl, rfl, d5, permIn_trans _ _ _ _ _ hp1 (permIn_mono _ _ _ _ _ _ (by omega) (Nat.le_refl _) (by rw [H.size hV1]; exact hb) hp5), sorted_join (SortedIn.same s2 fun k h5 h6 => hp5.2.1 k (by omega)) hs5 (Split.permR S (by rw [H.size hV1]; exact hb) hp5), rfl, hV5⟩
            · have k7 : e = b := by omega
              exact ret_plain ⟨rfl, rfl, d1, hp1, sorted_join s2 (by have h := s3; rwa [k7] at h) S, rfl, hV1⟩
          · have k7 : e = mid := by omega
            exact ret_plain ⟨rfl, rfl, d1, hp1, sorted_join s2 (by have h := s4; rwa [k7] at h) S, rfl, hV1⟩
      · obtain ⟨S, s1, s2, s3, s4⟩ := merge_facts (mid := mid) h1 h2 hcut (Rot.left (by omega) (by omega) d) (by omega)
        refine ifd (fun k3 => ?_) (fun k3 => ?_)
        · refine ifd (fun k4 => ?_) (fun k4 => ?_)
          · refine call_own (IH a i mid d _ (by omega) (by omega) (by omega) (by omega) hV hle s1 s2) fun v μ' h' hle' hap hR => ?_
            obtain ⟨rfl, e2, d4, hp4, hs4, rfl, hV4⟩ := hR
            obtain rfl := e2.symm
            clear hle' hap
            have hz4 : mid ≤ (d).size := by rw [H.size hV]; omega
            refine ifd (fun k5 => ?_) (fun k5 => ?_)
            · refine ifd (fun k6 => ?_) (fun k6 => ?_)
              · refine call_own (IH _ e b d4 _ (by omega) (by omega) (by omega) (by omega) hV4 hle (SortedIn.same s3 fun k h5 h6 => hp4.2.1 k (by omega)) (SortedIn.same s4 fun k h5 h6 => hp4.2.1 k (by omega))) fun v μ' h' hle' hap hR => ?_
                obtain ⟨rfl, e2, d5, hp5, hs5, rfl, hV5⟩ := hR
                obtain rfl := e2.symm
                clear hle' hap
                exact ret_plain ⟨rfl, rfl, d5, permIn_trans _ _ _ _ _ (permIn_trans _ _ _ _ _ (permIn_refl d a b) (permIn_mono _ _ _ _ _ _ (Nat.le_refl _) (by omega) (by rw [H.size hV]; exact hb) hp4)) (permIn_mono _ _ _ _ _ _ (by omega) (Nat.le_refl _) (by rw [H.size hV4]; exact hb) hp5), sorted_join (SortedIn.same hs4 fun k h5 h6 => hp5.2.1 k (by omega)) hs5 (Split.permR (S.permL hz4 hp4) (by rw [H.size hV4]; exact hb) hp5), rfl, hV5⟩
              · have k7 : e = b := by omega
                exact ret_plain ⟨rfl, rfl, d4, (permIn_trans _ _ _ _ _ (permIn_refl d a b) (permIn_mono _ _ _ _ _ _ (Nat.le_refl _) (by omega) (by rw [H.size hV]; exact hb) hp4)), sorted_join hs4 (by have h := (SortedIn.same s3 fun k h5 h6 => hp4.2.1 k (by omega)); rwa [k7] at h) (S.permL hz4 hp4), rfl, hV4⟩
            · have k7 : e = mid := by omega
              exact ret_plain ⟨rfl, rfl, d4, (permIn_trans _ _ _ _ _ (permIn_refl d a b) (permIn_mono _ _ _ _ _ _ (Nat.le_refl _) (by omega) (by rw [H.size hV]; exact hb) hp4)), sorted_join hs4 (by have h := (SortedIn.same s4 fun k h5 h6 => hp4.2.1 k (by omega)); rwa [k7] at h) (S.permL hz4 hp4), rfl, hV4⟩
          · obtain rfl : mid = i := by omega
            refine ifd (fun k5 => ?_) (fun k5 => ?_)
            · refine ifd (fun k6 => ?_) (fun k6 => ?_)
              · refine call_own (IH _ e b d _ (by omega) (by omega) (by omega) (by omega) hV hle s3 s4) fun v μ' h' hle' hap hR => ?_
                obtain ⟨rfl, e2, d5, hp5, hs5, rfl, hV5⟩ := hR
                obtain rfl := e2.symm
                clear hle' hap
                exact ret_plain ⟨rfl, rfl, d5, permIn_trans _ _ _ _ _ (permIn_refl d a b) (permIn_mono _ _ _ _ _ _ (by omega) (Nat.le_refl _) (by rw [H.size hV]; exact hb) hp5), sorted_join (SortedIn.same s1 fun k h5 h6 => hp5.2.1 k (by omega)) hs5 (Split.permR S (by rw [H.size hV]; exact hb) hp5), rfl, hV5⟩
              · have k7 : e = b := by omega
                exact ret_plain ⟨rfl, rfl, d, (permIn_refl d a b), sorted_join s1 (by have h := s3; rwa [k7] at h) S, rfl, hV⟩
            · have k7 : e = mid := by omega
              exact ret_plain ⟨rfl, rfl, d, (permIn_refl d a b), sorted_join s1 (by have h := s4; rwa [k7] at h) S, rfl, hV⟩
        · obtain rfl : a = i := by omega
          refine ifd (fun k5 => ?_) (fun k5 => ?_)
          · refine ifd (fun k6 => ?_) (fun k6 => ?_)
            · refine call_own (IH _ e b d _ (by omega) (by omega) (by omega) (by omega) hV hle s3 s4) fun v μ' h' hle' hap hR => ?_
              obtain ⟨rfl, e2, d5, hp5, hs5, rfl, hV5⟩ := hR
              obtain rfl := e2.symm
              clear hle' hap
              exact ret_plain ⟨rfl, rfl, d5, permIn_trans _ _ _ _ _ (permIn_refl d a b) (permIn_mono _ _ _ _ _ _ (by omega) (Nat.le_refl _) (by rw [H.size hV]; exact hb) hp5), sorted_join (SortedIn.same s2 fun k h5 h6 => hp5.2.1 k (by omega)) hs5 (Split.permR S (by rw [H.size hV]; exact hb) hp5), rfl, hV5⟩
            · have k7 : e = b := by omega
              exact ret_plain ⟨rfl, rfl, d, (permIn_refl d a b), sorted_join s2 (by have h := s3; rwa [k7] at h) S, rfl, hV⟩
          · have k7 : e = mid := by omega
            exact ret_plain ⟨rfl, rfl, d, (permIn_refl d a b), sorted_join s2 (by have h := s4; rwa [k7] at h) S, rfl, hV⟩
    · obtain ⟨S, s1, s2, s3, s4⟩ := merge_facts (mid := mid) h1 h2 hcut (Rot.right (by omega) (by omega) d) (by omega)
      refine ifd (fun k3 => ?_) (fun k3 => ?_)
      · refine ifd (fun k4 => ?_) (fun k4 => ?_)
        · refine call_own (IH a i mid d _ (by omega) (by omega) (by omega) (by omega) hV hle s1 s2) fun v μ' h' hle' hap hR => ?_
          obtain ⟨rfl, e2, d4, hp4, hs4, rfl, hV4⟩ := hR
          obtain rfl := e2.symm
          clear hle' hap
          have hz4 : mid ≤ (d).size := by rw [H.size hV]; omega
          refine ifd (fun k5 => ?_) (fun k5 => ?_)
          · refine ifd (fun k6 => ?_) (fun k6 => ?_)
            · refine call_own (IH _ e b d4 _ (by omega) (by omega) (by omega) (by omega) hV4 hle (SortedIn.same s3 fun k h5 h6 => hp4.2.1 k (by omega)) (SortedIn.same s4 fun k h5 h6 => hp4.2.1 k (by omega))) fun v μ' h' hle' hap hR => ?_
              obtain ⟨rfl, e2, d5, hp5, hs5, rfl, hV5⟩ := hR
              obtain rfl := e2.symm
              clear hle' hap
              exact ret_plain ⟨rfl, rfl, d5, permIn_trans _ _ _ _ _ (permIn_trans _ _ _ _ _ (permIn_refl d a b) (permIn_mono _ _ _ _ _ _ (Nat.le_refl _) (by omega) (by rw [H.size hV]; exact hb) hp4)) (permIn_mono _ _ _ _ _ _ (by omega) (Nat.le_refl _) (by rw [H.size hV4]; exact hb) hp5), sorted_join (SortedIn.same hs4 fun k h5 h6 => hp5.2.1 k (by omega)) hs5 (Split.permR (S.permL hz4 hp4) (by rw [H.size hV4]; exact hb) hp5), rfl, hV5⟩
            · have k7 : e = b := by omega
              exact ret_plain ⟨rfl, rfl, d4, (permIn_trans _ _ _ _ _ (permIn_refl d a b) (permIn_mono _ _ _ _ _ _ (Nat.le_refl _) (by omega) (by rw [H.size hV]; exact hb) hp4)), sorted_join hs4 (by have h := (SortedIn.same s3 fun k h5 h6 => hp4.2.1 k (by omega)); rwa [k7] at h) (S.permL hz4 hp4), rfl, hV4⟩
          · have k7 : e = mid := by omega
            exact ret_plain ⟨rfl, rfl, d4, (permIn_trans _ _ _ _ _ (permIn_refl d a b) (permIn_mono _ _ _ _ _ _ (Nat.le_refl _) (by omega) (by rw [H.size hV]; exact hb) hp4)), sorted_join hs4 (by have h := (SortedIn.same s4 fun k h5 h6 => hp4.2.1 k (by omega)); rwa [k7] at h) (S.permL hz4 hp4), rfl, hV4⟩
        · obtain rfl : mid = i := by omega
          refine ifd (fun k5 => ?_) (fun k5 => ?_)
          · refine ifd (fun k6 => ?_) (fun k6 => ?_)
            · refine call_own (IH _ e b d _ (by omega) (by omega) (by omega) (by omega) hV hle s3 s4) fun v μ' h' hle' hap hR => ?_
              obtain ⟨rfl, e2, d5, hp5, hs5, rfl, hV5⟩ := hR
              obtain rfl := e2.symm
              clear hle' hap
              exact ret_plain ⟨rfl, rfl, d5, permIn_trans _ _ _ _ _ (permIn_refl d a b) (permIn_mono _ _ _ _ _ _ (by omega) (Nat.le_refl _) (by rw [H.size hV]; exact hb) hp5), sorted_join (SortedIn.same s1 fun k h5 h6 => hp5.2.1 k (by omega)) hs5 (Split.permR S (by rw [H.size hV]; exact hb) hp5), rfl, hV5⟩
            · have k7 : e = b := by omega
              exact ret_plain ⟨rfl, rfl, d, (permIn_refl d a b), sorted_join s1 (by have h := s3; rwa [k7] at h) S, rfl, hV⟩
          · have k7 : e = mid := by omega
            exact ret_plain ⟨rfl, rfl, d, (permIn_refl d a b), sorted_join s1 (by have h := s4; rwa [k7] at h) S, rfl, hV⟩
      · obtain rfl : a = i := by omega
        refine ifd (fun k5 => ?_) (fun k5 => ?_)
        · refine ifd (fun k6 => ?_) (fun k6 => ?_)
          · refine call_own (IH _ e b d _ (by omega) (by omega) (by omega) (by omega) hV hle s3 s4) fun v μ' h' hle' hap hR => ?_
            obtain ⟨rfl, e2, d5, hp5, hs5, rfl, hV5⟩ := hR
            obtain rfl := e2.symm
            clear hle' hap
            exact ret_plain ⟨rfl, rfl, d5, permIn_trans _ _ _ _ _ (permIn_refl d a b) (permIn_mono _ _ _ _ _ _ (by omega) (Nat.le_refl _) (by rw [H.size hV]; exact hb) hp5), sorted_join (SortedIn.same s2 fun k h5 h6 => hp5.2.1 k (by omega)) hs5 (Split.permR S (by rw [H.size hV]; exact hb) hp5), rfl, hV5⟩
          · have k7 : e = b := by omega
            exact ret_plain ⟨rfl, rfl, d, (permIn_refl d a b), sorted_join s2 (by have h := s3; rwa [k7] at h) S, rfl, hV⟩
        · have k7 : e = mid := by omega
          exact ret_plain ⟨rfl, rfl, d, (permIn_refl d a b), sorted_join s2 (by have h := s4; rwa [k7] at h) S, rfl, hV⟩
  · refine num_eq (x := ((mid + m - 1 : Nat) : Int)) (by rw [wrap64 (by omega) (by omega)]; omega) ?_
    refine loop_intro (fun p : Nat × Nat => a ≤ p.1 ∧ p.1 ≤ p.2 ∧ p.2 ≤ m ∧ (∀ x, a ≤ x → x < p.1 → lt d[mid + m - 1 - x]! d[x]! = false) ∧ ∀ x, p.2 ≤ x → x < m → lt d[mid + m - 1 - x]! d[x]! = true)
      (fun (i, j) => ⟨[(1, .val (.int .i64 a)), (2, .val (.int .i64 m)), (3, .val (.int .i64 b)), (4, .loc 0 r1 0), (16, .val (.int .i64 mid)), (17, .val (.int .i64 (mid + m : Nat))), (18, .val (.int .i64 i)), (19, .val (.int .i64 j)), (20, .val (.int .i64 (mid + m - 1 : Nat)))], fblk r1 lf sf lb sb, 1, μ, J d⟩) (fun p => p.2 - p.1)
      (a, m) ⟨Nat.le_refl _, by dsimp only; omega, Nat.le_refl _, fun x h3 h4 => by dsimp only at h4; omega, fun x h3 h4 => by dsimp only at h3; omega⟩ (fun (_, _) => ⟨rfl, rfl⟩) ⟨⟨rfl, rfl, rfl, rfl, rfl, rfl, rfl, rfl, rfl, trivial⟩, ⟨rfl, trivial⟩, rfl, rfl⟩ ?_
    rintro ⟨i, j⟩ ⟨hi, hij, hj, lo, hi'⟩
    dsimp only at hi hij hj lo hi'
    refine ifd (fun h => ?_) (fun h => ?_)
    · refine num64 (by omega) (by omega) ?_
      refine num_eq (wrapu64 (by omega) (by omega)) ?_
      refine need_intro (by omega) ?_
      refine num_eq (x := (((i + j) / 2 : Nat) : Int)) ?_ ?_
      · show Int.fdiv ((i : Int) + j) (2 ^ (min (Int.toNat 1) 64)) = _
        rw [show min (Int.toNat 1) 64 = 1 from rfl, show (2 : Int) ^ 1 = 2 from rfl, Int.fdiv_eq_ediv_of_nonneg _ (by omega)]
        omega
      refine num64 (by omega) (by omega) ?_
      generalize hc : (i + j) / 2 = c
      refine num_eq (x := ((mid + m - 1 - c : Nat) : Int)) (by rw [wrap64 (by omega) (by omega)]; omega) ?_
      refine call_own (H.less hle hV (i := mid + m - 1 - c) (j := c) (by omega) (by omega)) fun v μ' h' hle' hap hR => ?_
      obtain ⟨rfl, e2, rfl⟩ := hR
      obtain rfl := e2.symm
      clear hle' hap
      refine if_intro (fun hl => ?_) (fun hl => ?_)
      · have hl' : lt d[mid + m - 1 - c]! d[c]! = false := by simpa using hl
        refine num_eq (x := ((c + 1 : Nat) : Int)) (by rw [wrap64 (by omega) (by omega)]; omega) ?_
        exact ⟨(c + 1, j), ⟨by dsimp only; omega, by dsimp only; omega, hj, fun x h3 h4 => by
          dsimp only at h4
          exact merge_lo hO h1 h2 hl' (by omega) (by omega) (by omega) (by omega) (by omega), hi'⟩, by dsimp only; omega, ⟨⟨rfl, rfl, rfl, rfl, rfl, rfl, rfl, rfl, rfl, trivial⟩, ⟨rfl, trivial⟩, rfl, rfl⟩⟩
      · have hl' : lt d[mid + m - 1 - c]! d[c]! = true := by simpa using hl
        exact ⟨(i, c), ⟨hi, by dsimp only; omega, by dsimp only; omega, lo, fun x h3 h4 => by
          dsimp only at h3
          exact merge_hi hO h1 h2 hl' (by omega) h3 (by omega) (by omega) (by omega)⟩, by dsimp only; omega, ⟨⟨rfl, rfl, rfl, rfl, rfl, rfl, rfl, rfl, rfl, trivial⟩, ⟨rfl, trivial⟩, rfl, rfl⟩⟩
    obtain rfl : i = j := by omega
    obtain ⟨e, he⟩ : ∃ e, e = mid + m - i := ⟨_, rfl⟩
    have hcut : Cut lt a i m e b d := merge_cut (mid := mid) (s0 := a) (r0 := m) hO h1 h2 (by omega) (by omega) hi hj (by omega) (by omega) (by omega) (by omega) (by omega) lo hi'
    refine num_eq (x := ((e : Nat) : Int)) (by rw [wrap64 (by omega) (by omega)]; omega) ?_
    refine ifd (fun k1 => ?_) (fun k1 => ?_)
    · refine ifd (fun k2 => ?_) (fun k2 => ?_)
      · refine call_own (rotateF_spec H hle hV (a := i) (m := m) (b := e) (by omega) (by omega) (by omega)) fun v μ' h' hle' hap hR => ?_
        obtain ⟨rfl, e2, d1, hr, hp1, rfl, hV1⟩ := hR
        obtain rfl := e2.symm
        clear hle' hap
        replace hp1 : PermIn a b d d1 := permIn_mono _ _ _ _ _ _ (by omega) (by omega) (by omega) hp1
        obtain ⟨S, s1, s2, s3, s4⟩ := merge_facts (mid := mid) h1 h2 hcut (hr) (by omega)
        refine ifd (fun k3 => ?_) (fun k3 => ?_)
        · refine ifd (fun k4 => ?_) (fun k4 => ?_)
          · refine call_own (IH a i mid d1 _ (by omega) (by omega) (by omega) (by omega) hV1 hle s1 s2) fun v μ' h' hle' hap hR => ?_
            obtain ⟨rfl, e2, d4, hp4, hs4, rfl, hV4⟩ := hR
            obtain rfl := e2.symm
            clear hle' hap
            have hz4 : mid ≤ (d1).size := by rw [H.size hV1]; omega
            refine ifd (fun k5 => ?_) (fun k5 => ?_)
            · refine ifd (fun k6 => ?_) (fun k6 => ?_)
              · refine call_own (IH _ e b d4 _ (by omega) (by omega) (by omega) (by omega) hV4 hle (SortedIn.same s3 fun k h5 h6 => hp4.2.1 k (by omega)) (SortedIn.same s4 fun k h5 h6 => hp4.2.1 k (by omega))) fun v μ' h' hle' hap hR => ?_
                obtain ⟨rfl, e2, d5, hp5, hs5, rfl, hV5⟩ := hR
                obtain rfl := e2.symm
                clear hle' hap
                exact ret_plain ⟨rfl, rfl, d5, permIn_trans _ _ _ _ _ (permIn_trans _ _ _ _ _ hp1 (permIn_mono _ _ _ _ _ _ (Nat.le_refl _) (by omega) (by rw [H.size hV1]; exact hb) hp4)) (permIn_mono _ _ _ _ _ _ (by omega) (Nat.le_refl _) (by rw [H.size hV4]; exact hb) hp5), sorted_join (SortedIn.same hs4 fun k h5 h6 => hp5.2.1 k (by omega)) hs5 (Split.permR (S.permL hz4 hp4) (by rw [H.size hV4]; exact hb) hp5), rfl, hV5⟩
              · have k7 : e = b := by omega
                exact ret_plain ⟨rfl, rfl, d4, (permIn_trans _ _ _ _ _ hp1 (permIn_mono _ _ _ _ _ _ (Nat.le_refl _) (by omega) (by rw [H.size hV1]; exact hb) hp4)), sorted_join hs4 (by have h := (SortedIn.same s3 fun k h5 h6 => hp4.2.1 k (by omega)); rwa [k7] at h) (S.permL hz4 hp4), rfl, hV4⟩
            · have k7 : e = mid := by omega
              exact ret_plain ⟨rfl, rfl, d4, (permIn_trans _ _ _ _ _ hp1 (permIn_mono _ _ _ _ _ _ (Nat.le_refl _) (by omega) (by rw [H.size hV1]; exact hb) hp4)), sorted_join hs4 (by have h := (SortedIn.same s4 fun k h5 h6 => hp4.2.1 k (by omega)); rwa [k7] at h) (S.permL hz4 hp4), rfl, hV4⟩
          · obtain rfl : mid = i := by omega
            refine ifd (fun k5 => ?_) (fun k5 => ?_)
            · refine ifd (fun k6 => ?_) (fun k6 => ?_)
              · refine call_own (IH _ e b d1 _ (by omega) (by omega) (by omega) (by omega) hV1 hle s3 s4) fun v μ' h' hle' hap hR => ?_
                obtain ⟨rfl, e2, d5, hp5, hs5, rfl, hV5⟩ := hR
                obtain rfl := e2.symm
                clear hle' hap
                exact ret_plain ⟨rfl, rfl, d5, permIn_trans _ _ _ _ _ hp1 (permIn_mono _ _ _ _ _ _ (by omega) (Nat.le_refl _) (by rw [H.size hV1]; exact hb) hp5), sorted_join (SortedIn.same s1 fun k h5 h6 => hp5.2.1 k (by omega)) hs5 (Split.permR S (by rw [H.size hV1]; exact hb) hp5), rfl, hV5⟩
              · have k7 : e = b := by omega
                exact ret_plain ⟨rfl, rfl, d1, hp1, sorted_join s1 (by have h := s3; rwa [k7] at h) S, rfl, hV1⟩
            · have k7 : e = mid := by omega
              exact ret_plain ⟨rfl, rfl, d1, hp1, sorted_join s1 (by have h := s4; rwa [k7] at h) S, rfl, hV1⟩
        · obtain rfl : a = i := by omega
          refine ifd (fun k5 => ?_) (fun k5 => ?_)
          · refine ifd (fun k6 => ?_) (fun k6 => ?_)
            · refine call_own (IH _ e b d1 _ (by omega) (by omega) (by omega) (by omega) hV1 hle s3 s4) fun v μ' h' hle' hap hR => ?_
              obtain ⟨rfl, e2, d5, hp5, hs5, rfl, hV5⟩ := hR
              obtain rfl := e2.symm
              clear hle' hap
              exact ret_plain ⟨rfl, rfl, d5, permIn_trans _ _ _ _ _ hp1 (permIn_mono _ _ _ _ _ _ (by omega) (Nat.le_refl _) (by rw [H.size hV1]; exact hb) hp5), sorted_join (SortedIn.same s2 fun k h5 h6 => hp5.2.1 k (by omega)) hs5 (Split.permR S (by rw [H.size hV1]; exact hb) hp5), rfl, hV5⟩
            · have k7 : e = b := by omega
              exact ret_plain ⟨rfl, rfl, d1, hp1, sorted_join s2 (by have h := s3; rwa [k7] at h) S, rfl, hV1⟩
          · have k7 : e = mid := by omega
            exact ret_plain ⟨rfl, rfl, d1, hp1, sorted_join s2 (by have h := s4; rwa [k7] at h) S, rfl, hV1⟩
      · obtain ⟨S, s1, s2, s3, s4⟩ := merge_facts (mid := mid) h1 h2 hcut (Rot.left (by omega) (by omega) d) (by omega)
        refine ifd (fun k3 => ?_) (fun k3 => ?_)
        · refine ifd (fun k4 => ?_) (fun k4 => ?_)
          · refine call_own (IH a i mid d _ (by omega) (by omega) (by omega) (by omega) hV hle s1 s2) fun v μ' h' hle' hap hR => ?_
            obtain ⟨rfl, e2, d4, hp4, hs4, rfl, hV4⟩ := hR
            obtain rfl := e2.symm
            clear hle' hap
            have hz4 : mid ≤ (d).size := by rw [H.size hV]; omega
            refine ifd (fun k5 => ?_) (fun k5 => ?_)
            · refine ifd (fun k6 => ?_) (fun k6 => ?_)
              · refine call_own (IH _ e b d4 _ (by omega) (by omega) (by omega) (by omega) hV4 hle (SortedIn.same s3 fun k h5 h6 => hp4.2.1 k (by omega)) (SortedIn.same s4 fun k h5 h6 => hp4.2.1 k (by omega))) fun v μ' h' hle' hap hR => ?_
                obtain ⟨rfl, e2, d5, hp5, hs5, rfl, hV5⟩ := hR
                obtain rfl := e2.symm
                clear hle' hap
                exact ret_plain ⟨rfl, rfl, d5, permIn_trans _ _ _ _ _ (permIn_trans _ _ _ _ _ (permIn_refl d a b) (permIn_mono _ _ _ _ _ _ (Nat.le_refl _) (by omega) (by rw [H.size hV]; exact hb) hp4)) (permIn_mono _ _ _ _ _ _ (by omega) (Nat.le_refl _) (by rw [H.size hV4]; exact hb) hp5), sorted_join (SortedIn.same hs4 fun k h5 h6 => hp5.2.1 k (by omega)) hs5 (Split.permR (S.permL hz4 hp4) (by rw [H.size hV4]; exact hb) hp5), rfl, hV5⟩
              · have k7 : e = b := by omega
                exact ret_plain ⟨rfl, rfl, d4, (permIn_trans _ _ _ _ _ (permIn_refl d a b) (permIn_mono _ _ _ _ _ _ (Nat.le_refl _) (by omega) (by rw [H.size hV]; exact hb) hp4)), sorted_join hs4 (by have h := (SortedIn.same s3 fun k h5 h6 => hp4.2.1 k (by omega)); rwa [k7] at h) (S.permL hz4 hp4), rfl, hV4⟩
            · have k7 : e = mid := by omega
              exact ret_plain ⟨rfl, rfl, d4, (permIn_trans _ _ _ _ _ (permIn_refl d a b) (permIn_mono _ _ _ _ _ _ (Nat.le_refl _) (by omega) (by rw [H.size hV]; exact hb) hp4)), sorted_join hs4 (by have h := (SortedIn.same s4 fun k h5 h6 => hp4.2.1 k (by omega)); rwa [k7] at h) (S.permL hz4 hp4), rfl, hV4⟩
          · obtain rfl : mid = i := by omega
            refine ifd (fun k5 => ?_) (fun k5 => ?_)
            · refine ifd (fun k6 => ?_) (fun k6 => ?_)
              · refine call_own (IH _ e b d _ (by omega) (by omega) (by omega) (by omega) hV hle s3 s4) fun v μ' h' hle' hap hR => ?_
                obtain ⟨rfl, e2, d5, hp5, hs5, rfl, hV5⟩ := hR
                obtain rfl := e2.symm
                clear hle' hap
                exact ret_plain ⟨rfl, rfl, d5, permIn_trans _ _ _ _ _ (permIn_refl d a b) (permIn_mono _ _ _ _ _ _ (by omega) (Nat.le_refl _) (by rw [H.size hV]; exact hb) hp5), sorted_join (SortedIn.same s1 fun k h5 h6 => hp5.2.1 k (by omega)) hs5 (Split.permR S (by rw [H.size hV]; exact hb) hp5), rfl, hV5⟩
              · have k7 : e = b := by omega
                exact ret_plain ⟨rfl, rfl, d, (permIn_refl d a b), sorted_join s1 (by have h := s3; rwa [k7] at h) S, rfl, hV⟩
            · have k7 : e = mid := by omega
              exact ret_plain ⟨rfl, rfl, d, (permIn_refl d a b), sorted_join s1 (by have h := s4; rwa [k7] at h) S, rfl, hV⟩
        · obtain rfl : a = i := by omega
          refine ifd (fun k5 => ?_) (fun k5 => ?_)
          · refine ifd (fun k6 => ?_) (fun k6 => ?_)
            · refine call_own (IH _ e b d _ (by omega) (by omega) (by omega) (by omega) hV hle s3 s4) fun v μ' h' hle' hap hR => ?_
              obtain ⟨rfl, e2, d5, hp5, hs5, rfl, hV5⟩ := hR
              obtain rfl := e2.symm
              clear hle' hap
              exact ret_plain ⟨rfl, rfl, d5, permIn_trans _ _ _ _ _ (permIn_refl d a b) (permIn_mono _ _ _ _ _ _ (by omega) (Nat.le_refl _) (by rw [H.size hV]; exact hb) hp5), sorted_join (SortedIn.same s2 fun k h5 h6 => hp5.2.1 k (by omega)) hs5 (Split.permR S (by rw [H.size hV]; exact hb) hp5), rfl, hV5⟩
            · have k7 : e = b := by omega
              exact ret_plain ⟨rfl, rfl, d, (permIn_refl d a b), sorted_join s2 (by have h := s3; rwa [k7] at h) S, rfl, hV⟩
          · have k7 : e = mid := by omega
            exact ret_plain ⟨rfl, rfl, d, (permIn_refl d a b), sorted_join s2 (by have h := s4; rwa [k7] at h) S, rfl, hV⟩
    · obtain ⟨S, s1, s2, s3, s4⟩ := merge_facts (mid := mid) h1 h2 hcut (Rot.right (by omega) (by omega) d) (by omega)
      refine ifd (fun k3 => ?_) (fun k3 => ?_)
      · refine ifd (fun k4 => ?_) (fun k4 => ?_)
        · refine call_own (IH a i mid d _ (by omega) (by omega) (by omega) (by omega) hV hle s1 s2) fun v μ' h' hle' hap hR => ?_
          obtain ⟨rfl, e2, d4, hp4, hs4, rfl, hV4⟩ := hR
          obtain rfl := e2.symm
          clear hle' hap
          have hz4 : mid ≤ (d).size := by rw [H.size hV]; omega
          refine ifd (fun k5 => ?_) (fun k5 => ?_)
          · refine ifd (fun k6 => ?_) (fun k6 => ?_)
            · refine call_own (IH _ e b d4 _ (by omega) (by omega) (by omega) (by omega) hV4 hle (SortedIn.same s3 fun k h5 h6 => hp4.2.1 k (by omega)) (SortedIn.same s4 fun k h5 h6 => hp4.2.1 k (by omega))) fun v μ' h' hle' hap hR => ?_
              obtain ⟨rfl, e2, d5, hp5, hs5, rfl, hV5⟩ := hR
              obtain rfl := e2.symm
              clear hle' hap
              exact ret_plain ⟨rfl, rfl, d5, permIn_trans _ _ _ _ _ (permIn_trans _ _ _ _ _ (permIn_refl d a b) (permIn_mono _ _ _ _ _ _ (Nat.le_refl _) (by omega) (by rw [H.size hV]; exact hb) hp4)) (permIn_mono _ _ _ _ _ _ (by omega) (Nat.le_refl _) (by rw [H.size hV4]; exact hb) hp5), sorted_join (SortedIn.same hs4 fun k h5 h6 => hp5.2.1 k (by omega)) hs5 (Split.permR (S.permL hz4 hp4) (by rw [H.size hV4]; exact hb) hp5), rfl, hV5⟩
            · have k7 : e = b := by omega
              exact ret_plain ⟨rfl, rfl, d4, (permIn_trans _ _ _ _ _ (permIn_refl d a b) (permIn_mono _ _ _ _ _ _ (Nat.le_refl _) (by omega) (by rw [H.size hV]; exact hb) hp4)), sorted_join hs4 (by have h := (SortedIn.same s3 fun k h5 h6 => hp4.2.1 k (by omega)); rwa [k7] at h) (S.permL hz4 hp4), rfl, hV4⟩
          · have k7 : e = mid := by omega
            exact ret_plain ⟨rfl, rfl, d4, (permIn_trans _ _ _ _ _ (permIn_refl d a b) (permIn_mono _ _ _ _ _ _ (Nat.le_refl _) (by omega) (by rw [H.size hV]; exact hb) hp4)), sorted_join hs4 (by have h := (SortedIn.same s4 fun k h5 h6 => hp4.2.1 k (by omega)); rwa [k7] at h) (S.permL hz4 hp4), rfl, hV4⟩
        · obtain rfl : mid = i := by omega
          refine ifd (fun k5 => ?_) (fun k5 => ?_)
          · refine ifd (fun k6 => ?_) (fun k6 => ?_)
            · refine call_own (IH _ e b d _ (by omega) (by omega) (by omega) (by omega) hV hle s3 s4) fun v μ' h' hle' hap hR => ?_
              obtain ⟨rfl, e2, d5, hp5, hs5, rfl, hV5⟩ := hR
              obtain rfl := e2.symm
              clear hle' hap
              exact ret_plain ⟨rfl, rfl, d5, permIn_trans _ _ _ _ _ (permIn_refl d a b) (permIn_mono _ _ _ _ _ _ (by omega) (Nat.le_refl _) (by rw [H.size hV]; exact hb) hp5), sorted_join (SortedIn.same s1 fun k h5 h6 => hp5.2.1 k (by omega)) hs5 (Split.permR S (by rw [H.size hV]; exact hb) hp5), rfl, hV5⟩
            · have k7 : e = b := by omega
              exact ret_plain ⟨rfl, rfl, d, (permIn_refl d a b), sorted_join s1 (by have h := s3; rwa [k7] at h) S, rfl, hV⟩
          · have k7 : e = mid := by omega
            exact ret_plain ⟨rfl, rfl, d, (permIn_refl d a b), sorted_join s1 (by have h := s4; rwa [k7] at h) S, rfl, hV⟩
      · obtain rfl : a = i := by omega
        refine ifd (fun k5 => ?_) (fun k5 => ?_)
        · refine ifd (fun k6 => ?_) (fun k6 => ?_)
          · refine call_own (IH _ e b d _ (by omega) (by omega) (by omega) (by omega) hV hle s3 s4) fun v μ' h' hle' hap hR => ?_
            obtain ⟨rfl, e2, d5, hp5, hs5, rfl, hV5⟩ := hR
            obtain rfl := e2.symm
            clear hle' hap
            exact ret_plain ⟨rfl, rfl, d5, permIn_trans _ _ _ _ _ (permIn_refl d a b) (permIn_mono _ _ _ _ _ _ (by omega) (Nat.le_refl _) (by rw [H.size hV]; exact hb) hp5), sorted_join (SortedIn.same s2 fun k h5 h6 => hp5.2.1 k (by omega)) hs5 (Split.permR S (by rw [H.size hV]; exact hb) hp5), rfl, hV5⟩
          · have k7 : e = b := by omega
            exact ret_plain ⟨rfl, rfl, d, (permIn_refl d a b), sorted_join s2 (by have h := s3; rwa [k7] at h) S, rfl, hV⟩
        · have k7 : e = mid := by omega
          exact ret_plain ⟨rfl, rfl, d, (permIn_refl d a b), sorted_join s2 (by have h := s4; rwa [k7] at h) S, rfl, hV⟩
end
end Go.Vx

/- Contracts: a row sorted by its owner's functions: sort.SliceStable. -/
namespace Go.Vx
open Go.Proofs Classical
open Go.Sort
/-- All blocks of s are sorted. -/
def Bl {α : Type} [Inhabited α] (lt : α → α → Bool) (n s : Nat) (d : Array α) : Prop := ∀ t, SortedIn lt (t * s) (min n (t * s + s)) d
section
variable {α : Type} [Inhabited α] {lt : α → α → Bool} {n s q : Nat} {d d' : Array α}
theorem SortedIn.none {a b : Nat} (h : b ≤ a) : SortedIn lt a b d := fun i j hi hij hj => by omega
/-- The blocks but one: those left of it are done. -/
theorem Bl.grow (h : ∀ t, t < q → SortedIn lt (t * s) (t * s + s) d) (p : PermIn (q * s) (q * s + s) d d') (h2 : SortedIn lt (q * s) (q * s + s) d') : ∀ t, t < q + 1 → SortedIn lt (t * s) (t * s + s) d' := fun t ht => by
  rcases Nat.eq_or_lt_of_le (Nat.le_of_lt_succ ht) with e | e
  · rw [e]; exact h2
  · have h3 : t * s + s ≤ q * s := by rw [← Nat.succ_mul]; exact Nat.mul_le_mul_right s e
    exact SortedIn.same (h t e) fun k h5 h6 => p.2.1 k (by omega)
theorem Bl.last (h : ∀ t, t < q → SortedIn lt (t * s) (t * s + s) d) (h1 : q * s ≤ n) (hn : n < q * s + s) (p : PermIn (q * s) n d d') (h2 : SortedIn lt (q * s) n d') : Bl lt n s d' := fun t => by
  rcases Nat.lt_trichotomy t q with e | e | e
  · have h3 : t * s + s ≤ q * s := by rw [← Nat.succ_mul]; exact Nat.mul_le_mul_right s e
    rw [Nat.min_eq_right (by omega)]
    exact SortedIn.same (h t e) fun k h5 h6 => p.2.1 k (by omega)
  · rw [e, Nat.min_eq_left (by omega)]; exact h2
  · have h3 : q * s + s ≤ t * s := by rw [← Nat.succ_mul]; exact Nat.mul_le_mul_right s e
    exact SortedIn.none (by omega)
theorem twice (q s : Nat) : q * (2 * s) = 2 * q * s := by rw [← Nat.mul_assoc, Nat.mul_comm q 2]
theorem Bl.keep {a b m : Nat} (h : ∀ t, m ≤ t → SortedIn lt (t * s) (min n (t * s + s)) d) {m' : Nat} (hm : m ≤ m') (p : PermIn a b d d') (hb : b ≤ m' * s) : ∀ t, m' ≤ t → SortedIn lt (t * s) (min n (t * s + s)) d' := fun t ht =>
  SortedIn.same (h t (by omega)) fun k h5 h6 => p.2.1 k (.inr (by have := Nat.mul_le_mul_right s ht; omega))
end
section
variable {α : Type} [Inhabited α] {lf sf : FuncId} {lb sb : List Value} {n : Nat} {lt : α → α → Bool} {μ0 : Mem} {J : Array α → Mem} {V : Array α → Prop} {μ : Mem} {d0 : Array α}
set_option maxHeartbeats 1000000 in
theorem stableF_spec (H : SortBy lf sf lb sb n lt μ0 J V) (hO : SWO lt) (hle : μ0.Le μ) (hV : V d0) :
    SpecH Try.prog 132 [fdata lf sf lb sb, .int .i64 n] μ (J d0) fun v μ' h' => v = .tuple #[] ∧ μ' = μ ∧ ∃ d', PermIn 0 n d0 d' ∧ SortedIn lt 0 n d' ∧ h' = J d' ∧ V d' := by
  have hn := H.max
  refine SpecH.mk [] Try.func132 (by kernel_rfl) ?_
  intro r1
  refine loop_intro (fun p : Nat × Array α => p.1 * 20 ≤ n ∧ V p.2 ∧ PermIn 0 n d0 p.2 ∧ ∀ t, t < p.1 → SortedIn lt (t * 20) (t * 20 + 20) p.2)
    (fun (q, c) => ⟨[(1, .val (.int .i64 n)), (2, .loc 0 r1 0), (4, .val (.int .i64 20)), (5, .val (.int .i64 (q * 20 : Nat))), (6, .val (.int .i64 (q * 20 + 20 : Nat)))], fblk r1 lf sf lb sb, 1, μ, J c⟩) (fun p => n - p.1 * 20)
    (0, d0) ⟨by simp, hV, permIn_refl _ _ _, fun t h => by simp at h⟩ (fun (_, _) => ⟨rfl, rfl⟩) ⟨⟨rfl, rfl, rfl, rfl, rfl, trivial⟩, ⟨rfl, trivial⟩, rfl, rfl⟩ ?_
  rintro ⟨q, c⟩ ⟨hq, hs, hp, hB⟩
  dsimp only at hq hs hp hB
  have hcs := H.size hs
  refine ifd (fun h => ?_) (fun h => ?_)
  · have hI := insertionSort_holds hO c (q * 20) (q * 20 + 20) (by omega) (by omega)
    refine call_own (insertionSortF_spec H hle hs (a := q * 20) (b := q * 20 + 20) (by omega) (by omega)) fun v μ' h' hle' hap hR => ?_
    obtain ⟨rfl, e2, rfl, hV2⟩ := hR
    obtain rfl := e2.symm
    clear hle' hap
    refine num_eq (x := (((q + 1) * 20 + 20 : Nat) : Int)) (by rw [wrap64 (by omega) (by omega)]; omega) ?_
    refine ⟨(q + 1, insertionSort lt c (q * 20) (q * 20 + 20)), ⟨by dsimp only; omega, hV2, permIn_trans _ _ _ _ _ hp (permIn_mono _ _ _ _ _ _ (Nat.zero_le _) (by omega) (by omega) hI.1), Bl.grow hB hI.1 hI.2⟩, by dsimp only; omega, ⟨⟨rfl, rfl, rfl, ?_, rfl, trivial⟩, ⟨rfl, trivial⟩, rfl, rfl⟩⟩
    show some _ = some _
    rw [show (q + 1) * 20 = q * 20 + 20 by omega]
  have hI := insertionSort_holds hO c (q * 20) n (by omega) (by omega)
  refine call_own (insertionSortF_spec H hle hs (a := q * 20) (b := n) (by omega) (by omega)) fun v μ' h' hle' hap hR => ?_
  obtain ⟨rfl, e2, rfl, hV2⟩ := hR
  obtain rfl := e2.symm
  clear hle' hap
  have hp2 := permIn_trans _ _ _ _ _ hp (permIn_mono _ _ _ _ _ _ (Nat.zero_le _) (Nat.le_refl _) (by omega) hI.1)
  have hB2 : Bl lt n 20 (insertionSort lt c (q * 20) n) := Bl.last hB hq (by omega) hI.1 hI.2
  generalize insertionSort lt c (q * 20) n = d1 at *
  refine loop_intro (fun p : Nat × Nat × Nat × Array α => 20 ≤ p.1 ∧ p.1 ≤ 2 * n + 20 ∧ V p.2.2.2 ∧ PermIn 0 n d0 p.2.2.2 ∧ Bl lt n p.1 p.2.2.2)
    (fun (s, a, b, c) => ⟨[(1, .val (.int .i64 n)), (2, .loc 0 r1 0), (4, .val (.int .i64 s))], fblk r1 lf sf lb sb, 1, μ, J c⟩) (fun p => n - p.1)
    (20, q * 20, n, d1) ⟨Nat.le_refl _, by dsimp only; omega, hV2, hp2, hB2⟩ (fun (_, _, _, _) => ⟨rfl, rfl⟩) ⟨⟨rfl, rfl, rfl, trivial⟩, ⟨rfl, trivial⟩, rfl, rfl⟩ ?_
  clear hV2 hp2 hB2 hI hB hp hs hcs h hq
  rintro ⟨s, a, b, c⟩ ⟨hs1, hs2, hs, hp, hB⟩
  dsimp only at hs1 hs2 hs hp hB
  refine ifd (fun h => ?_) (fun h => ?_)
  · refine num_eq (x := ((2 * s : Nat) : Int)) (by rw [wrap64 (by omega) (by omega)]; omega) ?_
    refine loop_intro (fun p : Nat × Array α => p.1 * (2 * s) ≤ n ∧ V p.2 ∧ PermIn 0 n d0 p.2 ∧ (∀ t, t < p.1 → SortedIn lt (t * (2 * s)) (t * (2 * s) + 2 * s) p.2) ∧ ∀ t, 2 * p.1 ≤ t → SortedIn lt (t * s) (min n (t * s + s)) p.2)
      (fun (q, c) => ⟨[(1, .val (.int .i64 n)), (2, .loc 0 r1 0), (4, .val (.int .i64 s)), (5, .val (.int .i64 (q * (2 * s) : Nat))), (6, .val (.int .i64 (q * (2 * s) + 2 * s : Nat)))], fblk r1 lf sf lb sb, 1, μ, J c⟩) (fun p => n - p.1 * (2 * s))
      (0, c) ⟨by simp, hs, hp, fun t h => by simp at h, fun t _ => hB t⟩ (fun (_, _) => ⟨rfl, rfl⟩) ⟨⟨rfl, rfl, rfl, by show some _ = some _; rw [Nat.zero_mul]; rfl, by show some _ = some _; rw [Nat.zero_mul, Nat.zero_add], trivial⟩, ⟨rfl, trivial⟩, rfl, rfl⟩ ?_
    clear hp hs hB
    rintro ⟨q, c⟩ ⟨hq, hs, hp, hL, hB⟩
    dsimp only at hq hs hp hL hB
    have hcs := H.size hs
    have e1 : 2 * q * s = q * (2 * s) := (twice q s).symm
    have e2 : (2 * q + 1) * s = q * (2 * s) + s := by rw [Nat.succ_mul, e1]
    have e3 : (2 * (q + 1)) * s = q * (2 * s) + 2 * s := by rw [← twice, Nat.succ_mul]
    have e4 : (q + 1) * (2 * s) = q * (2 * s) + 2 * s := Nat.succ_mul _ _
    have b1 := hB (2 * q) (Nat.le_refl _)
    have b2 := hB (2 * q + 1) (by omega)
    rw [e1] at b1
    rw [e2] at b2
    refine ifd (fun h2 => ?_) (fun h2 => ?_)
    · rw [Nat.min_eq_right (by omega)] at b1 b2
      refine num_eq (x := ((q * (2 * s) + s : Nat) : Int)) (by rw [wrap64 (by omega) (by omega)]; omega) ?_
      refine call_own (symMergeF_spec H hO (n + 1) (q * (2 * s)) (q * (2 * s) + s) (q * (2 * s) + 2 * s) c _ (by omega) (by omega) (by omega) (by omega) hs hle b1 (by rw [show q * (2 * s) + 2 * s = q * (2 * s) + s + s by omega]; exact b2)) fun v μ' h' hle' hap hR => ?_
      obtain ⟨rfl, e2, d4, hp4, hs4, rfl, hV4⟩ := hR
      obtain rfl := e2.symm
      clear hle' hap
      refine num_eq (x := ((2 * s : Nat) : Int)) (by rw [wrap64 (by omega) (by omega)]; omega) ?_
      refine num_eq (x := (((q + 1) * (2 * s) + 2 * s : Nat) : Int)) (by rw [wrap64 (by omega) (by omega), e4]; omega) ?_
      refine ⟨(q + 1, d4), ⟨by dsimp only; omega, hV4, permIn_trans _ _ _ _ _ hp (permIn_mono _ _ _ _ _ _ (Nat.zero_le _) (by omega) (by omega) hp4), Bl.grow hL hp4 hs4, Bl.keep hB (by dsimp only; omega) hp4 (by dsimp only; omega)⟩, by dsimp only; omega, ⟨⟨rfl, rfl, rfl, ?_, rfl, trivial⟩, ⟨rfl, trivial⟩, rfl, rfl⟩⟩
      show some _ = some _
      rw [e4]
    · refine num_eq (x := ((q * (2 * s) + s : Nat) : Int)) (by rw [wrap64 (by omega) (by omega)]; omega) ?_
      refine ifd (fun h3 => ?_) (fun h3 => ?_)
      · rw [Nat.min_eq_right (by omega)] at b1
        rw [Nat.min_eq_left (by omega)] at b2
        refine call_own (symMergeF_spec H hO (n + 1) (q * (2 * s)) (q * (2 * s) + s) n c _ (by omega) (by omega) (by omega) (by omega) hs hle b1 b2) fun v μ' h' hle' hap hR => ?_
        obtain ⟨rfl, e2, d4, hp4, hs4, rfl, hV4⟩ := hR
        obtain rfl := e2.symm
        clear hle' hap
        refine num_eq (x := ((2 * s : Nat) : Int)) (by rw [wrap64 (by omega) (by omega)]; omega) ?_
        exact ⟨(2 * s, 0, 0, d4), ⟨by dsimp only; omega, by dsimp only; omega, hV4, permIn_trans _ _ _ _ _ hp (permIn_mono _ _ _ _ _ _ (Nat.zero_le _) (by omega) (by omega) hp4), Bl.last hL (by dsimp only; omega) (by dsimp only; omega) hp4 hs4⟩, by dsimp only; omega, ⟨⟨rfl, rfl, rfl, trivial⟩, ⟨rfl, trivial⟩, rfl, rfl⟩⟩
      · rw [Nat.min_eq_left (by omega)] at b1
        refine num_eq (x := ((2 * s : Nat) : Int)) (by rw [wrap64 (by omega) (by omega)]; omega) ?_
        exact ⟨(2 * s, 0, 0, c), ⟨by dsimp only; omega, by dsimp only; omega, hs, hp, Bl.last hL (by dsimp only; omega) (by dsimp only; omega) (permIn_refl _ _ _) b1⟩, by dsimp only; omega, ⟨⟨rfl, rfl, rfl, trivial⟩, ⟨rfl, trivial⟩, rfl, rfl⟩⟩
  · have hz := hB 0
    rw [Nat.zero_mul, Nat.zero_add, Nat.min_eq_left (by omega)] at hz
    exact ret_plain ⟨rfl, rfl, c, hp, hz, rfl, hs⟩
end
section
variable {α : Type} [Inhabited α] {enc : α → Value} {μ h0 : Mem} {r : Nat} {ty t e : TypeId} {i ie : TypeInfo} {ke : Nat} {ti : TI} {rest : List Value} {d0 : Array α} {n cap : Nat} {lf : FuncId} {lb : List Value} {lt : α → α → Bool}
theorem stableF_tiny {sf : FuncId} {sb : List Value} (hn : n ≤ 1) : SpecH Try.prog 132 [fdata lf sf lb sb, .int .i64 n] μ h0 fun v μ' h' => v = .tuple #[] ∧ μ' = μ ∧ h' = h0 := by
  refine SpecH.mk [] Try.func132 (by kernel_rfl) ?_
  intro r1
  refine loop_intro (fun _ : Unit => True)
    (fun _ => ⟨[(1, .val (.int .i64 n)), (2, .loc 0 r1 0), (4, .val (.int .i64 20)), (5, .val (.int .i64 0)), (6, .val (.int .i64 20))], fblk r1 lf sf lb sb, 1, μ, h0⟩) (fun _ => 0)
    () trivial (fun _ => ⟨rfl, rfl⟩) ⟨⟨rfl, rfl, rfl, rfl, rfl, trivial⟩, ⟨rfl, trivial⟩, rfl, rfl⟩ ?_
  intro _ _
  refine ifd (fun h => by omega) (fun h => ?_)
  refine call_own (insertionSortF_tiny hn) fun v μ' h' hle' hap hR => ?_
  obtain ⟨rfl, e1, rfl⟩ := hR
  obtain rfl := e1.symm
  refine loop_intro (fun _ : Unit => True)
    (fun _ => ⟨[(1, .val (.int .i64 n)), (2, .loc 0 r1 0), (4, .val (.int .i64 20))], fblk r1 lf sf lb sb, 1, μ, h'⟩) (fun _ => 0)
    () trivial (fun _ => ⟨rfl, rfl⟩) ⟨⟨rfl, rfl, rfl, trivial⟩, ⟨rfl, trivial⟩, rfl, rfl⟩ ?_
  intro _ _
  refine ifd (fun h => by omega) (fun h => ?_)
  exact ret_plain ⟨rfl, rfl, rfl⟩
theorem SortStable_spec (T : SlTy t e i ie ke) (hti : TIok Try.prog e ti) (h1 : ti.agg = false → ti.size = 1) (hE : Els ti.size (d0.map enc)) (hn : d0.size = n) (hmax : n ≤ 1000000000000) (hO : SWO lt)
    (less : ∀ {μ' : Mem} {d : Array α} {i j : Nat}, μ.Le μ' → PermIn 0 n d0 d → i < n → j < n → SpecH Try.prog lf (.int .i64 i :: .int .i64 j :: lb) μ' (RowV h0 r ty rest (d.map enc)) fun v μ'' h' => v = .bool (lt d[i]! d[j]!) ∧ μ'' = μ' ∧ h' = RowV h0 r ty rest (d.map enc)) :
    SpecH Try.prog 62 [.iface t (.slice (some ⟨r, 0, none⟩) n cap), .func (.func lf) #[] lb.toArray] μ (RowV h0 r ty rest (d0.map enc)) fun v μ' h' => v = .tuple #[] ∧ ∃ d', PermIn 0 n d0 d' ∧ SortedIn lt 0 n d' ∧ h' = RowV h0 r ty rest (d'.map enc) := by
  refine SpecH.mk [] Try.func62 (by kernel_rfl) ?_
  refine call_plain (valueOf_spec T _ _ _) fun v μ1 hle1 hR => ?_
  obtain ⟨rv, rfl, hrv⟩ := hR
  intro r4
  obtain ⟨k, bs, hk, hsw⟩ := swapper_spec (μ := μ1) T (some ⟨r, 0, none⟩) (n := n) cap
  refine call_gives hsw ?_
  refine call_gives (valueLen_spec T hrv) ?_
  by_cases h2 : 2 ≤ n
  · obtain ⟨rfl, rfl⟩ := hk h2
    refine call_own (stableF_spec (SortBy.row (cap := cap) hti h1 hE hn hmax less) hO hle1 (permIn_refl _ _ _)) fun v μ' h' hle hap hR => ?_
    obtain ⟨rfl, _, d', p1, p2, rfl, _⟩ := hR
    exact ret_plain ⟨rfl, d', p1, p2, rfl⟩
  · refine call_own (stableF_tiny (by omega)) fun v μ' h' hle hap hR => ?_
    obtain ⟨rfl, e1, rfl⟩ := hR
    exact ret_plain ⟨rfl, d0, permIn_refl _ _ _, fun a b _ h3 h4 => by omega, rfl⟩
end
end Go.Vx

/- Contracts: the least disequalities, the program's side: sorting. -/
namespace Go.Vx
open Go.Proofs Classical
open Go.Sort
noncomputable abbrev El := List B × Value
noncomputable instance : Inhabited (List B) := ⟨[]⟩
theorem slDs : SlTy 35 43 Try.t35 Try.t43 23 := ⟨by kernel_rfl, by kernel_rfl, by kernel_rfl, by kernel_rfl, fun _ => by kernel_rfl, by kernel_rfl⟩
noncomputable def ltD (a b : El) : Bool := decide (cmpB a.1 b.1 < 0)
theorem swo_ltD : SWO ltD := ⟨fun x => cmpB_ord.swo.irrefl x.1, fun x y z => cmpB_ord.swo.trans x.1 y.1 z.1, fun x y z => cmpB_ord.swo.ntrans x.1 y.1 z.1⟩
/-- Elements that stand for their substitutions. -/
def Elts (μ : Mem) (l : List El) : Prop := ∀ p ∈ l, RepV μ (dsOf p.1).d p.2
section
variable {μ h0 : Mem} {r : Nat} {ty : TypeId} {rest : List Value}
theorem Elts.mono {μ' : Mem} {l : List El} (h : Elts μ l) (hle : μ.Le μ') : Elts μ' l := fun p hp => RepV.mono hle (h p hp)
theorem Elts.els {d : Array El} (h : Elts μ d.toList) : Els 1 (d.map Prod.snd) := fun x hx => by
  simp only [Array.toList_map, List.mem_map] at hx
  obtain ⟨p, hp, rfl⟩ := hx
  obtain ⟨q, e, _⟩ := dsOf_inv (h p hp)
  rw [e]
  exact ⟨rfl, fun u hu => by simp only [vcells, List.mem_singleton] at hu; rw [hu]; rfl⟩
theorem Elts.at {d : Array El} {n : Nat} (h : Elts μ d.toList) (hn : d.size = n) {i : Nat} (hi : i < n) : ∃ p : Ds.P, d[i]!.2 = .slice p.1 d[i]!.1.length p.2 ∧ Sl μ 5 p.1 d[i]!.1.length ((d[i]!.1.map B.bd).map Bd.d) := by
  have hm : d[i]! ∈ d.toList := by
    rw [getElem!_pos d i (by omega)]
    exact Array.getElem_mem_toList _
  exact dsOf_inv (h _ hm)
theorem rd1 {d : Array Value} (hE : Els 1 d) {i : Nat} {v : Value} {K : List Value → Prop} (hi : i < d.size) (e : d[i]! = v) (hv : vcells v = [v]) (h : K [v]) : extVC μ (RowV h0 r ty rest d) ⟨r, i * 1, none⟩ 1 K :=
  own_intro [v] rfl (fun j x hx => by
    match j, hx with
    | 0, hx =>
      cases hx
      rw [Addr.add_lit', Nat.add_zero]
      have := RowV.cell (h0 := h0) (r := r) (ty := ty) (rest := rest) hE hi (c := 0) (v := v) (by rw [e, hv]; rfl)
      simpa using this) h
theorem rdE {d : Array El} {n i : Nat} {K : List Value → Prop} {p : Ds.P} (h : Elts μ d.toList) (hn : d.size = n) (hi : i < n) (e : d[i]!.2 = .slice p.1 d[i]!.1.length p.2) (k : K [.slice p.1 d[i]!.1.length p.2]) :
    extVC μ (RowV h0 r ty rest (d.map Prod.snd)) ⟨r, i * 1, none⟩ 1 K :=
  rd1 h.els (by simp; omega) (by rw [map_get (by omega)]; exact e) rfl k
theorem minLess_spec {rs n cap i j : Nat} {d : Array El} (hs : h0 rs = some (.cells #[.slice (some ⟨r, 0, none⟩) n cap] 35 (0, 0))) (hne : rs ≠ r) (hP : Elts μ d.toList) (hn : d.size = n) (hi : i < n) (hj : j < n) :
    SpecH Try.prog 63 [.int .i64 i, .int .i64 j, .pointer (some ⟨rs, 0, none⟩)] μ (RowV h0 r ty rest (d.map Prod.snd)) fun v μ' h' => v = .bool (ltD d[i]! d[j]!) ∧ μ' = μ ∧ h' = RowV h0 r ty rest (d.map Prod.snd) := by
  have hrs : RowV h0 r ty rest (d.map Prod.snd) rs = some (.cells #[.slice (some ⟨r, 0, none⟩) n cap] 35 (0, 0)) := (Mem.set_ne hne).trans hs
  obtain ⟨p, e1, hs1⟩ := hP.at hn hi
  obtain ⟨q, e2, hs2⟩ := hP.at hn hj
  refine SpecH.mk [] Try.func63 (by kernel_rfl) ?_
  refine own_intro [.slice (some ⟨r, 0, none⟩) n cap] rfl (box_at hrs) ?_
  refine idxV i rfl hi ?_
  refine rdE hP hn hi e1 ?_
  refine own_intro [.slice (some ⟨r, 0, none⟩) n cap] rfl (box_at hrs) ?_
  refine idxV j rfl hj ?_
  refine rdE hP hn hj e2 ?_
  refine call_gives (orderBindings_spec hs1 hs2) ?_
  exact ret_plain ⟨rfl, rfl, rfl⟩
end
end Go.Vx
