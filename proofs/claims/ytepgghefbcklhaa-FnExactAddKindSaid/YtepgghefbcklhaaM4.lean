/- Texts of the proof, part 4: Sa Sb Sc Ln Sg Sd Se Sh Si Sj Vr Vs Vt Vu Vv Vw Wa Wc Xb Xc. -/
import Derived.Test.YtepgghefbcklhaaM3
import Derived.Sort.AssemblyPlain
import Derived.Lib.ReflectliteSwap
/- Plain: parts of a row changed about; sorted parts merged. -/
namespace Go.Vx
open Go.Sort
section
variable {α : Type} {lt : α → α → Bool}
theorem lt_asymm (hS : SWO lt) {x y : α} (h : lt x y = true) : lt y x = false := by
  cases g : lt y x with
  | false => rfl
  | true => have := hS.trans _ _ _ h g; rw [hS.irrefl] at this; cases this
theorem lt_of_not (hS : SWO lt) {x y z : α} (h : lt x z = true) (g : lt x y = false) : lt y z = true := by
  cases k : lt y z with
  | true => rfl
  | false => have := hS.ntrans _ _ _ g k; rw [h] at this; cases this
theorem lt_of_not' (hS : SWO lt) {x y z : α} (h : lt x z = true) (g : lt y z = false) : lt x y = true := by
  cases k : lt x y with
  | true => rfl
  | false => have := hS.ntrans _ _ _ k g; rw [h] at this; cases this
end
section
variable {α : Type} [Inhabited α] {lt : α → α → Bool} {d c R : Array α}
/-- [a, a + n) and [b, b + n) changed about. -/
structure Sw (a b n : Nat) (d d' : Array α) : Prop where
  size : d'.size = d.size
  fst : ∀ t, t < n → d'[a + t]! = d[b + t]!
  snd : ∀ t, t < n → d'[b + t]! = d[a + t]!
  out : ∀ k, k < a ∨ a + n ≤ k → k < b ∨ b + n ≤ k → d'[k]! = d[k]!
theorem Sw.nil (a b : Nat) (d : Array α) : Sw a b 0 d d := ⟨rfl, fun t h => by omega, fun t h => by omega, fun _ _ _ => rfl⟩
theorem Sw.step {a b n : Nat} (h : Sw a b n d c) (h1 : a + n < b) (h2 : b + n < d.size) : Sw a b (n + 1) d (swp c (a + n) (b + n)) := by
  have g : ∀ k, (swp c (a + n) (b + n))[k]! = if k = b + n then c[a + n]! else if k = a + n then c[b + n]! else c[k]! := fun k => swp_get c (by rw [h.size]; omega) (by rw [h.size]; omega) k
  refine ⟨by rw [Go.Sort.swp_size, h.size], fun t ht => ?_, fun t ht => ?_, fun k hk1 hk2 => ?_⟩
  · rw [g, if_neg (by omega)]
    by_cases e : t = n
    · subst e; rw [if_pos rfl, h.out _ (by omega) (by omega)]
    · rw [if_neg (by omega), h.fst t (by omega)]
  · rw [g]
    by_cases e : t = n
    · subst e; rw [if_pos rfl, h.out _ (by omega) (by omega)]
    · rw [if_neg (by omega), if_neg (by omega), h.snd t (by omega)]
  · rw [g, if_neg (by omega), if_neg (by omega), h.out k (by omega) (by omega)]
/-- [a, m) and [m, b) changed about. -/
structure Rot (a m b : Nat) (d d' : Array α) : Prop where
  size : d'.size = d.size
  out : ∀ k, k < a ∨ b ≤ k → d'[k]! = d[k]!
  lo : ∀ t, t < b - m → d'[a + t]! = d[m + t]!
  hi : ∀ t, t < m - a → d'[a + (b - m) + t]! = d[a + t]!
theorem Rot.same {m i : Nat} (hi : i ≤ m) (s : Sw (m - i) m i d R) : Rot (m - i) m (m + i) d R where
  size := s.size
  out k hk := s.out k (by omega) (by omega)
  lo t ht := s.fst t (by omega)
  hi t ht := by rw [show m - i + (m + i - m) + t = m + t by omega]; exact s.snd t (by omega)
theorem Rot.gt {m i j : Nat} (hi : i ≤ m) (hj : j < i) (s : Sw (m - i) m j d c) (r : Rot (m - (i - j)) m (m + j) c R) : Rot (m - i) m (m + j) d R where
  size := r.size.trans s.size
  out k hk := by rw [r.out k (by omega), s.out k (by omega) (by omega)]
  lo t ht := by rw [r.out _ (by omega), s.fst t (by omega)]
  hi t ht := by
    by_cases h : t < j
    · have := r.lo t (by omega)
      rw [show m - i + (m + j - m) + t = m - (i - j) + t by omega, this, s.snd t h]
    · obtain ⟨u, rfl⟩ : ∃ u, t = j + u := ⟨t - j, by omega⟩
      have := r.hi u (by omega)
      rw [show m - i + (m + j - m) + (j + u) = m - (i - j) + (m + j - m) + u by omega, this, s.out _ (by omega) (by omega), show m - (i - j) + u = m - i + (j + u) by omega]
theorem Rot.ls {m i j : Nat} (hi : i ≤ m) (hj : i < j) (s : Sw (m - i) (m + j - i) i d c) (r : Rot (m - i) m (m + (j - i)) c R) : Rot (m - i) m (m + j) d R where
  size := r.size.trans s.size
  out k hk := by rw [r.out k (by omega), s.out k (by omega) (by omega)]
  lo t ht := by
    by_cases h : t < j - i
    · rw [r.lo t (by omega), s.out _ (by omega) (by omega)]
    · obtain ⟨u, rfl⟩ : ∃ u, t = j - i + u := ⟨t - (j - i), by omega⟩
      have := r.hi u (by omega)
      rw [show m - i + (j - i + u) = m - i + (m + (j - i) - m) + u by omega, this, s.fst u (by omega), show m + j - i + u = m + (j - i + u) by omega]
  hi t ht := by
    rw [show m - i + (m + j - m) + t = m + j - i + t by omega, r.out _ (by omega), s.snd t (by omega)]
section
variable {s m e : Nat}
theorem Rot.at1 (r : Rot s m e d R) {k : Nat} (h : k < s) : R[k]! = d[k]! := r.out k (.inl h)
theorem Rot.at2 (r : Rot s m e d R) {k : Nat} (h : s ≤ k) (h2 : k < s + (e - m)) : R[k]! = d[m + (k - s)]! := by
  have := r.lo (k - s) (by omega)
  rwa [show s + (k - s) = k by omega] at this
theorem Rot.at3 (r : Rot s m e d R) {k : Nat} (hm : m ≤ e) (h : s + (e - m) ≤ k) (h2 : k < e) (hs : s ≤ m) : R[k]! = d[s + (k - (s + (e - m)))]! := by
  have := r.hi (k - (s + (e - m))) (by omega)
  rwa [show s + (e - m) + (k - (s + (e - m))) = k by omega] at this
theorem Rot.at4 (r : Rot s m e d R) {k : Nat} (h : e ≤ k) : R[k]! = d[k]! := r.out k (.inr h)
/-- Nothing right of q is less than anything left of it. -/
def Split (lt : α → α → Bool) (a q b : Nat) (d : Array α) : Prop := ∀ x y, a ≤ x → x < q → q ≤ y → y < b → lt d[y]! d[x]! = false
theorem sorted_join {a q b : Nat} (h1 : SortedIn lt a q d) (h2 : SortedIn lt q b d) (h : Split lt a q b d) : SortedIn lt a b d := fun i j hi hij hj => by
  by_cases h3 : j < q
  · exact h1 i j hi hij h3
  · by_cases h4 : i < q
    · exact h i j hi h4 (by omega) hj
    · exact h2 i j (by omega) hij hj
theorem SortedIn.sub {a b a' b' : Nat} (h : SortedIn lt a b d) (h1 : a ≤ a') (h2 : b' ≤ b) : SortedIn lt a' b' d := fun i j hi hij hj => h i j (by omega) hij (by omega)
/-- What a change about of [s, m) and [m, e) leaves: left and right of q = s + (e - m). -/
structure Cut (lt : α → α → Bool) (a s m e b : Nat) (d : Array α) : Prop where
  sa : a ≤ s
  sm : s ≤ m
  me : m ≤ e
  eb : e ≤ b
  lo : ∀ x y, a ≤ x → x < s → e ≤ y → y < b → lt d[y]! d[x]! = false
  hi : ∀ x y, s ≤ x → x < m → m ≤ y → y < e → lt d[x]! d[y]! = false
theorem Cut.split {a b : Nat} (k : Cut lt a s m e b d) (h1 : SortedIn lt a m d) (h2 : SortedIn lt m b d) (r : Rot s m e d R) : Split lt a (s + (e - m)) b R := fun x y hx hxq hy hyb => by
  have := k.sa; have := k.sm; have := k.me; have := k.eb
  by_cases g1 : x < s
  · rw [r.at1 g1]
    by_cases g2 : y < e
    · rw [r.at3 k.me hy g2 k.sm]; exact h1 _ _ hx (by omega) (by omega)
    · rw [r.at4 (by omega)]; exact k.lo _ _ hx g1 (by omega) hyb
  · rw [r.at2 (by omega) hxq]
    by_cases g2 : y < e
    · rw [r.at3 k.me hy g2 k.sm]; exact k.hi _ _ (by omega) (by omega) (by omega) (by omega)
    · rw [r.at4 (by omega)]; exact h2 _ _ (by omega) (by omega) hyb
theorem Rot.s1 {a : Nat} (r : Rot s m e d R) (h1 : SortedIn lt a m d) (hs : s ≤ m) : SortedIn lt a s R := fun i j hi hij hj => by
  rw [r.at1 hj, r.at1 (by omega)]; exact h1 _ _ hi hij (by omega)
theorem Rot.s2 {b : Nat} (r : Rot s m e d R) (h2 : SortedIn lt m b d) (he : e ≤ b) (hm : m ≤ e) : SortedIn lt s (s + (e - m)) R := fun i j hi hij hj => by
  rw [r.at2 (by omega) hj, r.at2 hi (by omega)]; exact h2 _ _ (by omega) (by omega) (by omega)
theorem Rot.s3 {a : Nat} (r : Rot s m e d R) (h1 : SortedIn lt a m d) (ha : a ≤ s) (hs : s ≤ m) (hm : m ≤ e) : SortedIn lt (s + (e - m)) e R := fun i j hi hij hj => by
  rw [r.at3 hm (by omega) hj hs, r.at3 hm hi (by omega) hs]; exact h1 _ _ (by omega) (by omega) (by omega)
theorem Rot.s4 {b : Nat} (r : Rot s m e d R) (h2 : SortedIn lt m b d) (hm : m ≤ e) : SortedIn lt e b R := fun i j hi hij hj => by
  rw [r.at4 (by omega), r.at4 (by omega)]; exact h2 _ _ (by omega) hij hj
/-- One step to the right: an element moves from a towards i. -/
theorem Rot.up {a i : Nat} (h : Rot a (a + 1) (i + 1) d c) (ha : a ≤ i) (hi : i + 1 < d.size) : Rot a (a + 1) (i + 2) d (swp c i (i + 1)) := by
  have g : ∀ k, (swp c i (i + 1))[k]! = if k = i + 1 then c[i]! else if k = i then c[i + 1]! else c[k]! := fun k => swp_get c (by rw [h.size]; omega) (by rw [h.size]; omega) k
  refine ⟨by rw [Go.Sort.swp_size, h.size], fun k hk => ?_, fun t ht => ?_, fun t ht => ?_⟩
  · rw [g, if_neg (by omega), if_neg (by omega), h.out k (by omega)]
  · rw [g, if_neg (by omega)]
    by_cases e : a + t = i
    · rw [if_pos e, h.out _ (by omega), show a + 1 + t = i + 1 by omega]
    · rw [if_neg e, h.lo t (by omega)]
  · obtain rfl : t = 0 := by omega
    rw [g, if_pos (by omega)]
    have := h.hi 0 (by omega)
    rwa [show a + (i + 1 - (a + 1)) + 0 = i by omega] at this
theorem Rot.up0 (a : Nat) (d : Array α) : Rot a (a + 1) (a + 1) d d := ⟨rfl, fun _ _ => rfl, fun t h => by omega, fun t h => by congr 1; omega⟩
/-- One step to the left: an element moves from m down to k. -/
theorem Rot.down {k m : Nat} (h : Rot (k + 1) m (m + 1) d c) (hk : k < m) (hm : m < d.size) : Rot k m (m + 1) d (swp c (k + 1) k) := by
  have g : ∀ x, (swp c (k + 1) k)[x]! = if x = k then c[k + 1]! else if x = k + 1 then c[k]! else c[x]! := fun x => swp_get c (by rw [h.size]; omega) (by rw [h.size]; omega) x
  refine ⟨by rw [Go.Sort.swp_size, h.size], fun x hx => ?_, fun t ht => ?_, fun t ht => ?_⟩
  · rw [g, if_neg (by omega), if_neg (by omega), h.out x (by omega)]
  · obtain rfl : t = 0 := by omega
    rw [g, if_pos (by omega)]
    have := h.lo 0 (by omega)
    rwa [show k + 1 + 0 = k + 1 by omega] at this
  · rw [g, if_neg (by omega)]
    cases t with
    | zero => rw [if_pos (by omega), h.out _ (by omega)]; congr 1
    | succ t =>
      rw [if_neg (by omega)]
      have := h.hi t (by omega)
      rw [show k + (m + 1 - m) + (t + 1) = k + 1 + (m + 1 - m) + t by omega, this, show k + 1 + t = k + (t + 1) by omega]
theorem Rot.down0 (m : Nat) (d : Array α) : Rot m m (m + 1) d d := ⟨rfl, fun _ _ => rfl, fun t h => by congr 1, fun t h => by omega⟩
end
end
end Go.Vx

/- Contracts: a row sorted by its owner's functions: insertion, turning round, a heap. -/
namespace Go.Vx
open Go.Proofs Classical
open Go.Sort
/-- The two functions that a sort is handed. -/
abbrev fdata (lf sf : FuncId) (lb sb : List Value) : Value := .agg #[.func (.func lf) #[] lb.toArray, .func (.func sf) #[] sb.toArray]
abbrev fblk (r : Nat) (lf sf : FuncId) (lb sb : List Value) : List (Nat × Option LB) := [(0, some (.cells r [.val (.func (.func lf) #[] lb.toArray), .val (.func (.func sf) #[] sb.toArray)] 177))]
/-- What those functions do: J d is the owned memory that holds the row d. -/
structure SortBy {α : Type} [Inhabited α] (lf sf : FuncId) (lb sb : List Value) (n : Nat) (lt : α → α → Bool) (μ0 : Mem) (J : Array α → Mem) (V : Array α → Prop) : Prop where
  max : n ≤ 1000000000000
  size : ∀ {d}, V d → d.size = n
  sw : ∀ {d : Array α} {i j : Nat}, V d → i < n → j < n → V (swp d i j)
  dom : ∀ {d d' : Array α} {b : Nat}, V d → V d' → J d b = none → J d' b = none
  less : ∀ {μ : Mem} {d : Array α} {i j : Nat}, μ0.Le μ → V d → i < n → j < n → SpecH Try.prog lf (.int .i64 i :: .int .i64 j :: lb) μ (J d) fun v μ' h' => v = .bool (lt d[i]! d[j]!) ∧ μ' = μ ∧ h' = J d
  swap : ∀ {μ : Mem} {d : Array α} {i j : Nat}, μ0.Le μ → V d → i < n → j < n → SpecH Try.prog sf (.int .i64 i :: .int .i64 j :: sb) μ (J d) fun v μ' h' => v = .tuple #[] ∧ μ' = μ ∧ h' = J (swp d i j)
section
variable {α : Type} [Inhabited α] {lf sf : FuncId} {lb sb : List Value} {n : Nat} {lt : α → α → Bool} {μ0 : Mem} {J : Array α → Mem} {V : Array α → Prop} {μ : Mem} {d : Array α}
theorem insertionSortF_spec (H : SortBy lf sf lb sb n lt μ0 J V) {a b : Nat} (hle : μ0.Le μ) (hV : V d) (ha : a ≤ b) (hb : b ≤ n) :
    SpecH Try.prog 191 [fdata lf sf lb sb, .int .i64 a, .int .i64 b] μ (J d) fun v μ' h' => v = .tuple #[] ∧ μ' = μ ∧ h' = J (insertionSort lt d a b) ∧ V (insertionSort lt d a b) := by
  have hn := H.max
  refine SpecH.mk [] Try.func191 (by kernel_rfl) ?_
  intro r1
  rw [insertionSort]
  generalize hD : insOuter lt a b (a + 1) d = D
  refine num_eq (x := ((a + 1 : Nat) : Int)) (by rw [wrap64 (by omega) (by omega)]; omega) ?_
  refine loop_intro (fun p : Nat × Array α => a + 1 ≤ p.1 ∧ p.1 ≤ max b (a + 1) ∧ V p.2 ∧ insOuter lt a b p.1 p.2 = D)
    (fun (i, d) => ⟨[(1, .val (.int .i64 a)), (2, .val (.int .i64 b)), (3, .loc 0 r1 0), (6, .val (.int .i64 i))], fblk r1 lf sf lb sb, 1, μ, J d⟩) (fun p => b - p.1)
    (a + 1, d) ⟨by omega, by omega, hV, hD⟩ (fun (_, _) => ⟨rfl, rfl⟩) ⟨⟨rfl, rfl, rfl, rfl, trivial⟩, ⟨rfl, trivial⟩, rfl, rfl⟩ ?_
  rintro ⟨i, d1⟩ ⟨hi1, hi2, hs, hJ⟩
  dsimp only at hi1 hi2 hs hJ
  rw [insOuter] at hJ
  refine ifd (fun h => ?_) (fun h => ?_)
  · rw [if_pos (by omega)] at hJ
    refine loop_intro (fun p : Nat × Array α => p.1 < n ∧ V p.2 ∧ insInner lt a p.1 p.2 = insInner lt a i d1)
      (fun (j, d) => ⟨[(1, .val (.int .i64 a)), (2, .val (.int .i64 b)), (3, .loc 0 r1 0), (6, .val (.int .i64 i)), (7, .val (.int .i64 j))], fblk r1 lf sf lb sb, 1, μ, J d⟩) (fun p => p.1)
      (i, d1) ⟨by omega, hs, rfl⟩ (fun (_, _) => ⟨rfl, rfl⟩) ⟨⟨rfl, rfl, rfl, rfl, rfl, trivial⟩, ⟨rfl, trivial⟩, rfl, rfl⟩ ?_
    rintro ⟨j, d2⟩ ⟨hj, hs2, hJ2⟩
    dsimp only at hj hs2 hJ2
    refine ifd (fun hja => ?_) (fun hja => ?_)
    · obtain ⟨j, rfl⟩ : ∃ k, j = k + 1 := ⟨j - 1, by omega⟩
      rw [insInner] at hJ2
      refine num_eq (x := ((j : Nat) : Int)) (by rw [wrap64 (by omega) (by omega)]; omega) ?_
      refine call_own (H.less hle hs2 (i := j + 1) (j := j) (by omega) (by omega)) fun v μ' h' hle' hap hR => ?_
      obtain ⟨rfl, e2, rfl⟩ := hR
      obtain rfl := e2.symm
      clear hle' hap
      have g : decide (j + 1 > a) = true := decide_eq_true (by omega)
      refine if_intro (fun hl => ?_) (fun hl => ?_)
      · rw [g, hl, Bool.and_self, if_pos rfl] at hJ2
        refine num_eq (x := ((j : Nat) : Int)) (by rw [wrap64 (by omega) (by omega)]; omega) ?_
        refine call_own (H.swap hle hs2 (i := j + 1) (j := j) (by omega) (by omega)) fun v μ' h' hle' hap hR => ?_
        obtain ⟨rfl, e2, rfl⟩ := hR
        obtain rfl := e2.symm
        clear hle' hap
        refine num_eq (x := ((j : Nat) : Int)) (by rw [wrap64 (by omega) (by omega)]; omega) ?_
        exact ⟨(j, swp d2 (j + 1) j), ⟨by dsimp only; omega, H.sw hs2 (by omega) (by omega), hJ2⟩, by dsimp only; omega, ⟨⟨rfl, rfl, rfl, rfl, rfl, trivial⟩, ⟨rfl, trivial⟩, rfl, rfl⟩⟩
      · rw [hl, Bool.and_false, if_neg (by simp)] at hJ2
        exact num64 (by omega) (by omega) ⟨(i + 1, d2), ⟨by dsimp only; omega, by dsimp only; omega, hs2, by dsimp only; rw [hJ2]; exact hJ⟩, by dsimp only; omega, ⟨⟨rfl, rfl, rfl, rfl, trivial⟩, ⟨rfl, trivial⟩, rfl, rfl⟩⟩
    · have hJ3 : insInner lt a j d2 = d2 := by
        cases j with
        | zero => rfl
        | succ j => rw [insInner, if_neg]; simp; omega
      rw [hJ3] at hJ2
      exact num64 (by omega) (by omega) ⟨(i + 1, d2), ⟨by dsimp only; omega, by dsimp only; omega, hs2, by dsimp only; rw [hJ2]; exact hJ⟩, by dsimp only; omega, ⟨⟨rfl, rfl, rfl, rfl, trivial⟩, ⟨rfl, trivial⟩, rfl, rfl⟩⟩
  · rw [if_neg (by omega)] at hJ
    subst hJ
    exact ret_plain ⟨rfl, rfl, rfl, hs⟩
theorem reverseRangeF_spec (H : SortBy lf sf lb sb n lt μ0 J V) {a b : Nat} (hle : μ0.Le μ) (hV : V d) (hb1 : 1 ≤ b) (ha : a ≤ b) (hb : b ≤ n) :
    SpecH Try.prog 205 [fdata lf sf lb sb, .int .i64 a, .int .i64 b] μ (J d) fun v μ' h' => v = .tuple #[] ∧ μ' = μ ∧ h' = J (reverseRange d a b) ∧ V (reverseRange d a b) := by
  have hn := H.max
  refine SpecH.mk [] Try.func205 (by kernel_rfl) ?_
  intro r1
  rw [reverseRange]
  generalize hD : reverseLoop a (b - 1) d = D
  refine num_eq (x := ((b - 1 : Nat) : Int)) (by rw [wrap64 (by omega) (by omega)]; omega) ?_
  refine loop_intro (fun p : Nat × Nat × Array α => p.2.1 < n ∧ p.1 ≤ n ∧ V p.2.2 ∧ reverseLoop p.1 p.2.1 p.2.2 = D)
    (fun (i, j, d) => ⟨[(3, .loc 0 r1 0), (6, .val (.int .i64 i)), (7, .val (.int .i64 j))], fblk r1 lf sf lb sb, 1, μ, J d⟩) (fun p => p.2.1)
    (a, b - 1, d) ⟨by dsimp only; omega, by dsimp only; omega, hV, hD⟩ (fun (_, _, _) => ⟨rfl, rfl⟩) ⟨⟨rfl, rfl, rfl, trivial⟩, ⟨rfl, trivial⟩, rfl, rfl⟩ ?_
  rintro ⟨i, j, d1⟩ ⟨hj, hi, hs, hJ⟩
  dsimp only at hj hi hs hJ
  rw [reverseLoop] at hJ
  refine ifd (fun h => ?_) (fun h => ?_)
  · rw [if_pos (by omega)] at hJ
    refine call_own (H.swap hle hs (i := i) (j := j) (by omega) (by omega)) fun v μ' h' hle' hap hR => ?_
    obtain ⟨rfl, e2, rfl⟩ := hR
    obtain rfl := e2.symm
    clear hle' hap
    refine num_eq (x := ((i + 1 : Nat) : Int)) (by rw [wrap64 (by omega) (by omega)]; omega) ?_
    refine num_eq (x := ((j - 1 : Nat) : Int)) (by rw [wrap64 (by omega) (by omega)]; omega) ?_
    exact ⟨(i + 1, j - 1, swp d1 i j), ⟨by dsimp only; omega, by dsimp only; omega, H.sw hs (by omega) (by omega), hJ⟩, by dsimp only; omega, ⟨⟨rfl, rfl, rfl, trivial⟩, ⟨rfl, trivial⟩, rfl, rfl⟩⟩
  · rw [if_neg (by omega)] at hJ
    subst hJ
    exact ret_plain ⟨rfl, rfl, rfl, hs⟩
theorem siftDownF_spec (H : SortBy lf sf lb sb n lt μ0 J V) {lo hi first : Nat} (hle : μ0.Le μ) (hV : V d) (hb : first + hi ≤ n) (hl : lo ≤ n) :
    SpecH Try.prog 222 [fdata lf sf lb sb, .int .i64 lo, .int .i64 hi, .int .i64 first] μ (J d) fun v μ' h' => v = .tuple #[] ∧ μ' = μ ∧ h' = J (siftDown lt hi first lo d) ∧ V (siftDown lt hi first lo d) := by
  have hn := H.max
  refine SpecH.mk [] Try.func222 (by kernel_rfl) ?_
  intro r1
  generalize hD : siftDown lt hi first lo d = D
  refine loop_intro (fun p : Nat × Array α => p.1 ≤ n ∧ V p.2 ∧ siftDown lt hi first p.1 p.2 = D)
    (fun (i, d) => ⟨[(2, .val (.int .i64 hi)), (3, .val (.int .i64 first)), (4, .loc 0 r1 0), (8, .val (.int .i64 i))], fblk r1 lf sf lb sb, 1, μ, J d⟩) (fun p => hi - p.1)
    (lo, d) ⟨hl, hV, hD⟩ (fun (_, _) => ⟨rfl, rfl⟩) ⟨⟨rfl, rfl, rfl, rfl, trivial⟩, ⟨rfl, trivial⟩, rfl, rfl⟩ ?_
  rintro ⟨i, d1⟩ ⟨hi1, hs, hJ⟩
  dsimp only at hi1 hs hJ
  rw [siftDown] at hJ
  refine num_eq (x := ((2 * i : Nat) : Int)) (by rw [wrap64 (by omega) (by omega)]; omega) ?_
  refine num_eq (x := ((2 * i + 1 : Nat) : Int)) (by rw [wrap64 (by omega) (by omega)]; omega) ?_
  refine ifd (fun h => ?_) (fun h => ?_)
  · rw [dif_pos (by omega)] at hJ
    subst hJ
    exact ret_plain ⟨rfl, rfl, rfl, hs⟩
  rw [dif_neg (by omega)] at hJ
  refine num_eq (x := ((2 * i + 1 + 1 : Nat) : Int)) (by rw [wrap64 (by omega) (by omega)]; omega) ?_
  refine ifd (fun h2 => ?_) (fun h2 => ?_)
  · refine num_eq (x := ((first + (2 * i + 1) : Nat) : Int)) (by rw [wrap64 (by omega) (by omega)]; omega) ?_
    refine num_eq (x := ((first + (2 * i + 1) : Nat) : Int)) (by rw [wrap64 (by omega) (by omega)]; omega) ?_
    refine num_eq (x := ((first + (2 * i + 1) + 1 : Nat) : Int)) (by rw [wrap64 (by omega) (by omega)]; omega) ?_
    refine call_own (H.less hle hs (i := first + (2 * i + 1)) (j := first + (2 * i + 1) + 1) (by omega) (by omega)) fun v μ' h' hle' hap hR => ?_
    obtain ⟨rfl, e2, rfl⟩ := hR
    obtain rfl := e2.symm
    clear hle' hap
    have g : decide (2 * i + 1 + 1 < hi) = true := decide_eq_true (by omega)
    refine if_intro (fun hl => ?_) (fun hl => ?_)
    · rw [g, hl, Bool.and_self, if_pos rfl] at hJ
      refine num_eq (x := ((2 * i + 2 : Nat) : Int)) (by rw [wrap64 (by omega) (by omega)]; omega) ?_
      refine num_eq (x := ((first + i : Nat) : Int)) (by rw [wrap64 (by omega) (by omega)]; omega) ?_
      refine num_eq (x := ((first + (2 * i + 2) : Nat) : Int)) (by rw [wrap64 (by omega) (by omega)]; omega) ?_
      refine call_own (H.less hle hs (i := first + i) (j := first + (2 * i + 2)) (by omega) (by omega)) fun v μ' h' hle' hap hR => ?_
      obtain ⟨rfl, e2, rfl⟩ := hR
      obtain rfl := e2.symm
      clear hle' hap
      refine if_intro (fun hl => ?_) (fun hl => ?_)
      · rw [if_pos (by simpa using hl)] at hJ
        subst hJ
        exact ret_plain ⟨rfl, rfl, rfl, hs⟩
      · rw [if_neg (by simpa using hl)] at hJ
        try rw [dif_pos (by omega)] at hJ
        refine num_eq (x := ((first + i : Nat) : Int)) (by rw [wrap64 (by omega) (by omega)]; omega) ?_
        refine num_eq (x := ((first + (2 * i + 2) : Nat) : Int)) (by rw [wrap64 (by omega) (by omega)]; omega) ?_
        refine call_own (H.swap hle hs (i := first + i) (j := first + (2 * i + 2)) (by omega) (by omega)) fun v μ' h' hle' hap hR => ?_
        obtain ⟨rfl, e2, rfl⟩ := hR
        obtain rfl := e2.symm
        clear hle' hap
        exact ⟨(2 * i + 2, swp d1 (first + i) (first + (2 * i + 2))), ⟨by dsimp only; omega, H.sw hs (by omega) (by omega), hJ⟩, by dsimp only; omega, ⟨⟨rfl, rfl, rfl, rfl, trivial⟩, ⟨rfl, trivial⟩, rfl, rfl⟩⟩
    · rw [hl, Bool.and_false, if_neg (by simp)] at hJ
      refine num_eq (x := ((first + i : Nat) : Int)) (by rw [wrap64 (by omega) (by omega)]; omega) ?_
      refine num_eq (x := ((first + (2 * i + 1) : Nat) : Int)) (by rw [wrap64 (by omega) (by omega)]; omega) ?_
      refine call_own (H.less hle hs (i := first + i) (j := first + (2 * i + 1)) (by omega) (by omega)) fun v μ' h' hle' hap hR => ?_
      obtain ⟨rfl, e2, rfl⟩ := hR
      obtain rfl := e2.symm
      clear hle' hap
      refine if_intro (fun hl => ?_) (fun hl => ?_)
      · rw [if_pos (by simpa using hl)] at hJ
        subst hJ
        exact ret_plain ⟨rfl, rfl, rfl, hs⟩
      · rw [if_neg (by simpa using hl)] at hJ
        try rw [dif_pos (by omega)] at hJ
        refine num_eq (x := ((first + i : Nat) : Int)) (by rw [wrap64 (by omega) (by omega)]; omega) ?_
        refine num_eq (x := ((first + (2 * i + 1) : Nat) : Int)) (by rw [wrap64 (by omega) (by omega)]; omega) ?_
        refine call_own (H.swap hle hs (i := first + i) (j := first + (2 * i + 1)) (by omega) (by omega)) fun v μ' h' hle' hap hR => ?_
        obtain ⟨rfl, e2, rfl⟩ := hR
        obtain rfl := e2.symm
        clear hle' hap
        exact ⟨(2 * i + 1, swp d1 (first + i) (first + (2 * i + 1))), ⟨by dsimp only; omega, H.sw hs (by omega) (by omega), hJ⟩, by dsimp only; omega, ⟨⟨rfl, rfl, rfl, rfl, trivial⟩, ⟨rfl, trivial⟩, rfl, rfl⟩⟩
  · have g : decide (2 * i + 1 + 1 < hi) = false := decide_eq_false (by omega)
    rw [g, Bool.false_and, if_neg (by simp)] at hJ
    refine num_eq (x := ((first + i : Nat) : Int)) (by rw [wrap64 (by omega) (by omega)]; omega) ?_
    refine num_eq (x := ((first + (2 * i + 1) : Nat) : Int)) (by rw [wrap64 (by omega) (by omega)]; omega) ?_
    refine call_own (H.less hle hs (i := first + i) (j := first + (2 * i + 1)) (by omega) (by omega)) fun v μ' h' hle' hap hR => ?_
    obtain ⟨rfl, e2, rfl⟩ := hR
    obtain rfl := e2.symm
    clear hle' hap
    refine if_intro (fun hl => ?_) (fun hl => ?_)
    · rw [if_pos (by simpa using hl)] at hJ
      subst hJ
      exact ret_plain ⟨rfl, rfl, rfl, hs⟩
    · rw [if_neg (by simpa using hl)] at hJ
      try rw [dif_pos (by omega)] at hJ
      refine num_eq (x := ((first + i : Nat) : Int)) (by rw [wrap64 (by omega) (by omega)]; omega) ?_
      refine num_eq (x := ((first + (2 * i + 1) : Nat) : Int)) (by rw [wrap64 (by omega) (by omega)]; omega) ?_
      refine call_own (H.swap hle hs (i := first + i) (j := first + (2 * i + 1)) (by omega) (by omega)) fun v μ' h' hle' hap hR => ?_
      obtain ⟨rfl, e2, rfl⟩ := hR
      obtain rfl := e2.symm
      clear hle' hap
      exact ⟨(2 * i + 1, swp d1 (first + i) (first + (2 * i + 1))), ⟨by dsimp only; omega, H.sw hs (by omega) (by omega), hJ⟩, by dsimp only; omega, ⟨⟨rfl, rfl, rfl, rfl, trivial⟩, ⟨rfl, trivial⟩, rfl, rfl⟩⟩
theorem heapSortF_spec (H : SortBy lf sf lb sb n lt μ0 J V) {a b : Nat} (hle : μ0.Le μ) (hV : V d) (ha : a < b) (hb : b ≤ n) :
    SpecH Try.prog 202 [fdata lf sf lb sb, .int .i64 a, .int .i64 b] μ (J d) fun v μ' h' => v = .tuple #[] ∧ μ' = μ ∧ h' = J (heapSort lt d a b) ∧ V (heapSort lt d a b) := by
  have hn := H.max
  refine SpecH.mk [] Try.func202 (by kernel_rfl) ?_
  intro r1
  rw [heapSort]
  generalize hD1 : heapBuild lt (b - a) a ((b - a - 1) / 2 + 1) d = D1
  generalize hD : heapPop lt a (b - a) D1 = D
  refine num_eq (x := ((b - a : Nat) : Int)) (by rw [wrap64 (by omega) (by omega)]; omega) ?_
  refine num_eq (x := ((b - a - 1 : Nat) : Int)) (by rw [wrap64 (by omega) (by omega)]; omega) ?_
  refine need_intro (by decide) ?_
  refine num_eq (x := (((b - a - 1) / 2 + 1 : Nat) : Int) - 1) (by rw [Int.tdiv_eq_ediv_of_nonneg (by omega), wrap64 (by omega) (by omega)]; omega) ?_
  refine loop_intro (fun p : Nat × Array α => p.1 ≤ b - a ∧ V p.2 ∧ heapBuild lt (b - a) a p.1 p.2 = D1)
    (fun (k, d) => ⟨[(3, .loc 0 r1 0), (6, .val (.int .i64 a)), (7, .val (.int .i64 0)), (8, .val (.int .i64 (b - a : Nat))), (9, .val (.int .i64 ((k : Int) - 1)))], fblk r1 lf sf lb sb, 1, μ, J d⟩) (fun p => p.1)
    ((b - a - 1) / 2 + 1, d) ⟨by dsimp only; omega, hV, hD1⟩ (fun (_, _) => ⟨rfl, rfl⟩) ⟨⟨rfl, rfl, rfl, rfl, rfl, trivial⟩, ⟨rfl, trivial⟩, rfl, rfl⟩ ?_
  rintro ⟨k, d1⟩ ⟨hk, hs, hJ⟩
  dsimp only at hk hs hJ
  refine ifd (fun h => ?_) (fun h => ?_)
  · obtain ⟨k, rfl⟩ : ∃ m, k = m + 1 := ⟨k - 1, by omega⟩
    rw [heapBuild] at hJ
    have e : (((k + 1 : Nat) : Int) - 1) = (k : Nat) := by omega
    rw [e]
    refine call_own (siftDownF_spec H (lo := k) (hi := b - a) (first := a) hle hs (by omega) (by omega)) fun v μ' h' hle' hap hR => ?_
    obtain ⟨rfl, e2, rfl, hs2⟩ := hR
    obtain rfl := e2.symm
    refine num_eq (x := (k : Int) - 1) (by rw [wrap64 (by omega) (by omega)]) ?_
    exact ⟨(k, siftDown lt (b - a) a k d1), ⟨by dsimp only; omega, hs2, hJ⟩, by dsimp only; omega, ⟨⟨rfl, rfl, rfl, rfl, rfl, trivial⟩, ⟨rfl, trivial⟩, rfl, rfl⟩⟩
  obtain rfl : k = 0 := by omega
  have hJ : d1 = D1 := hJ
  subst hJ
  refine num_eq (x := ((b - a : Nat) : Int) - 1) (by rw [wrap64 (by omega) (by omega)]) ?_
  refine loop_intro (fun p : Nat × Array α => p.1 ≤ b - a ∧ V p.2 ∧ heapPop lt a p.1 p.2 = D)
    (fun (k, d) => ⟨[(3, .loc 0 r1 0), (6, .val (.int .i64 a)), (7, .val (.int .i64 0)), (10, .val (.int .i64 ((k : Int) - 1)))], fblk r1 lf sf lb sb, 1, μ, J d⟩) (fun p => p.1)
    (b - a, d1) ⟨by dsimp only; omega, hs, hD⟩ (fun (_, _) => ⟨rfl, rfl⟩) ⟨⟨rfl, rfl, rfl, rfl, trivial⟩, ⟨rfl, trivial⟩, rfl, rfl⟩ ?_
  rintro ⟨k, d2⟩ ⟨hk, hs2, hJ⟩
  dsimp only at hk hs2 hJ
  refine ifd (fun h => ?_) (fun h => ?_)
  · obtain ⟨k, rfl⟩ : ∃ m, k = m + 1 := ⟨k - 1, by omega⟩
    rw [heapPop] at hJ
    have e : (((k + 1 : Nat) : Int) - 1) = (k : Nat) := by omega
    rw [e]
    refine num_eq (x := ((a + k : Nat) : Int)) (by rw [wrap64 (by omega) (by omega)]; omega) ?_
    refine call_own (H.swap hle hs2 (i := a) (j := a + k) (by omega) (by omega)) fun v μ' h' hle' hap hR => ?_
    obtain ⟨rfl, e2, rfl⟩ := hR
    obtain rfl := e2.symm
    clear hle' hap
    refine call_own (siftDownF_spec H (d := swp d2 a (a + k)) (lo := 0) (hi := k) (first := a) hle (H.sw hs2 (by omega) (by omega)) (by omega) (by omega)) fun v μ' h' hle' hap hR => ?_
    obtain ⟨rfl, e2, rfl, hs3⟩ := hR
    obtain rfl := e2.symm
    refine num_eq (x := (k : Int) - 1) (by rw [wrap64 (by omega) (by omega)]) ?_
    exact ⟨(k, _), ⟨by dsimp only; omega, hs3, hJ⟩, by dsimp only; omega, ⟨⟨rfl, rfl, rfl, rfl, trivial⟩, ⟨rfl, trivial⟩, rfl, rfl⟩⟩
  obtain rfl : k = 0 := by omega
  have hJ : d2 = D := hJ
  subst hJ
  exact ret_plain ⟨rfl, rfl, rfl, hs2⟩
end
end Go.Vx

/- Contracts: the choice of a pivot, by the owner's functions. -/
namespace Go.Vx
open Go.Proofs Classical
open Go.Sort
theorem parts_set {g : Mem} {r : Nat} {o : Obj} (h : g r = none) : Parts (g.set r o) (Mem.nil.set r o) g := fun b => by
  by_cases e : b = r
  · subst e; exact .inl ⟨by rw [Mem.set_at, Mem.set_at], h⟩
  · exact .inr ⟨by rw [Mem.set_ne e], by rw [Mem.set_ne e]; rfl⟩
section
variable {α : Type} {J : Array α → Mem} {μ : Mem} {d : Array α} {rs : Nat} {s : Int}
/-- A row beside a counter. -/
abbrev JS (J : Array α → Mem) (rs : Nat) (s : Int) (d : Array α) : Mem := (J d).set rs (.cells #[.int .i64 s] 3 (0, 0))
theorem rdC {K : List Value → Prop} (h : K [.int .i64 s]) : extVC μ (JS J rs s d) ⟨rs, 0, none⟩ 1 K := own_intro _ rfl (box_at (Mem.set_at _ _ _)) h
theorem wrC {v : Int} {K : Mem → Prop} (h : K (JS J rs v d)) : stoVC (JS J rs s d) ⟨rs, 0, none⟩ [.int .i64 v] K := by
  refine sto_intro [.int .i64 s] 3 (Mem.set_at _ _ _) rfl (Nat.le_refl _) ?_
  have e : Mem.set (JS J rs s d) rs (.cells #[.int .i64 v] 3 (0, 0)) = JS J rs v d := by rw [Mem.set_set]
  show K (Mem.set (JS J rs s d) rs (.cells #[.int .i64 v] 3 (0, 0)))
  rw [e]; exact h
end
section
variable {α : Type} [Inhabited α] {lf sf : FuncId} {lb sb : List Value} {n : Nat} {lt : α → α → Bool} {μ0 : Mem} {J : Array α → Mem} {V : Array α → Prop} {μ : Mem} {d : Array α} {rs : Nat} {s : Int}
/-- The same beside a block of one's own. -/
theorem SortBy.beside (H : SortBy lf sf lb sb n lt μ0 J V) (o : Obj) (h : ∀ d, V d → J d rs = none) : SortBy lf sf lb sb n lt μ0 (fun d => (J d).set rs o) V where
  max := H.max
  size := H.size
  sw := H.sw
  dom hV hV' hb := by
    simp only [Mem.set_get] at hb ⊢
    split at hb
    · cases hb
    · rename_i e; rw [if_neg e]; exact H.dom hV hV' hb
  less hle hV hi hj := (SpecH.frame (parts_set (h _ hV)).symm (H.less hle hV hi hj)).weaken fun v μ' h' _ _ ⟨g, ⟨e1, e2, e3⟩, p⟩ => ⟨e1, e2, by rw [e3] at p; exact p.eq (parts_set (h _ hV)).symm⟩
  swap hle hV hi hj := (SpecH.frame (parts_set (h _ hV)).symm (H.swap hle hV hi hj)).weaken fun v μ' h' _ _ ⟨g, ⟨e1, e2, e3⟩, p⟩ => ⟨e1, e2, by rw [e3] at p; exact p.eq (parts_set (h _ (H.sw hV hi hj))).symm⟩
theorem order2F_spec (H : ∀ s, SortBy lf sf lb sb n lt μ0 (JS J rs s) V) {a b : Nat} (hle : μ0.Le μ) (hV : V d) (ha : a < n) (hb : b < n) :
    SpecH Try.prog 232 [fdata lf sf lb sb, .int .i64 a, .int .i64 b, .pointer (some ⟨rs, 0, none⟩)] μ (JS J rs s d) fun v μ' h' =>
      ∃ x y : Nat, ((x = a ∧ y = b) ∨ (x = b ∧ y = a)) ∧ v = .tuple #[.int .i64 x, .int .i64 y] ∧ μ' = μ ∧ ∃ s', h' = JS J rs s' d := by
  refine SpecH.mk [] Try.func232 (by kernel_rfl) ?_
  intro r1
  refine call_own ((H s).less hle hV (i := b) (j := a) hb ha) fun v μ' h' hle' hap hR => ?_
  obtain ⟨rfl, e2, rfl⟩ := hR
  obtain rfl := e2.symm
  refine if_intro (fun hl => ?_) (fun hl => ?_)
  · refine rdC ?_
    refine num_intro fun x _ => ?_
    refine wrC ?_
    exact ret_plain ⟨b, a, .inr ⟨rfl, rfl⟩, rfl, rfl, _, rfl⟩
  · exact ret_plain ⟨a, b, .inl ⟨rfl, rfl⟩, rfl, rfl, _, rfl⟩
theorem medianF_spec (H : ∀ s, SortBy lf sf lb sb n lt μ0 (JS J rs s) V) {a b c : Nat} (hle : μ0.Le μ) (hV : V d) (ha : a < n) (hb : b < n) (hc : c < n) :
    SpecH Try.prog 226 [fdata lf sf lb sb, .int .i64 a, .int .i64 b, .int .i64 c, .pointer (some ⟨rs, 0, none⟩)] μ (JS J rs s d) fun v μ' h' =>
      ∃ x : Nat, (x = a ∨ x = b ∨ x = c) ∧ v = .int .i64 x ∧ μ' = μ ∧ ∃ s', h' = JS J rs s' d := by
  refine SpecH.mk [] Try.func226 (by kernel_rfl) ?_
  intro r1
  refine call_own (order2F_spec H hle hV ha hb) fun v μ' h' hle' hap hR => ?_
  obtain ⟨x1, y1, o1, rfl, e1, s1, rfl⟩ := hR
  obtain rfl := e1.symm
  refine call_own (order2F_spec H (a := y1) (b := c) hle hV (by omega) hc) fun v μ' h' hle' hap hR => ?_
  obtain ⟨x2, y2, o2, rfl, e2, s2, rfl⟩ := hR
  obtain rfl := e2.symm
  refine call_own (order2F_spec H (a := x1) (b := x2) hle hV (by omega) (by omega)) fun v μ' h' hle' hap hR => ?_
  obtain ⟨x3, y3, o3, rfl, e3, s3, rfl⟩ := hR
  obtain rfl := e3.symm
  exact ret_plain ⟨y3, by omega, rfl, rfl, _, rfl⟩
theorem medianAdjacentF_spec (H : ∀ s, SortBy lf sf lb sb n lt μ0 (JS J rs s) V) {a : Nat} (hle : μ0.Le μ) (hV : V d) (ha : 1 ≤ a) (hb : a + 1 < n) :
    SpecH Try.prog 225 [fdata lf sf lb sb, .int .i64 a, .pointer (some ⟨rs, 0, none⟩)] μ (JS J rs s d) fun v μ' h' =>
      ∃ x : Nat, (x + 1 = a ∨ x = a ∨ x = a + 1) ∧ v = .int .i64 x ∧ μ' = μ ∧ ∃ s', h' = JS J rs s' d := by
  have hn := (H 0).max
  refine SpecH.mk [] Try.func225 (by kernel_rfl) ?_
  intro r1
  refine num_eq (x := ((a - 1 : Nat) : Int)) (by rw [wrap64 (by omega) (by omega)]; omega) ?_
  refine num_eq (x := ((a + 1 : Nat) : Int)) (by rw [wrap64 (by omega) (by omega)]; omega) ?_
  refine call_own (medianF_spec H (a := a - 1) (b := a) (c := a + 1) hle hV (by omega) (by omega) (by omega)) fun v μ' h' hle' hap hR => ?_
  obtain ⟨x1, o1, rfl, e1, s1, rfl⟩ := hR
  obtain rfl := e1.symm
  exact ret_plain ⟨x1, by omega, rfl, rfl, _, rfl⟩
set_option maxHeartbeats 4000000 in
theorem choosePivotF_spec (H : SortBy lf sf lb sb n lt μ0 J V) {a b : Nat} (hle : μ0.Le μ) (hV : V d) (ha : a < b) (hb : b ≤ n) :
    SpecH Try.prog 204 [fdata lf sf lb sb, .int .i64 a, .int .i64 b] μ (J d) fun v μ' h' =>
      ∃ p k : Nat, a ≤ p ∧ p < b ∧ k ≤ 2 ∧ v = .tuple #[.int .i64 p, .int .i64 k] ∧ h' = J d := by
  have hn := H.max
  refine SpecH.mk [9] Try.func204 (by kernel_rfl) ?_
  intro r1
  refine num_eq (x := ((b - a : Nat) : Int)) (by rw [wrap64 (by omega) (by omega)]; omega) ?_
  intro rs hm ho
  have hdom : ∀ d', V d' → J d' rs = none := fun d' hV' => H.dom hV hV' ho
  have H2 : ∀ s, SortBy lf sf lb sb n lt μ0 (JS J rs s) V := fun s => H.beside _ hdom
  have hp : ∀ s, Parts (JS J rs s d) (Mem.nil.set rs (.cells #[.int .i64 s] 3 (0, 0))) (J d) := fun s => parts_set (hdom d hV)
  generalize hH : Mem.set (J d) rs _ = H1
  obtain rfl : H1 = JS J rs 0 d := hH.symm
  clear hH hm
  refine need_intro (by decide) ?_
  refine num_eq (x := (((b - a) / 4 : Nat) : Int)) (by rw [Int.tdiv_eq_ediv_of_nonneg (by omega), wrap64 (by omega) (by omega)]; omega) ?_
  refine num_eq (x := (((b - a) / 4 * 1 : Nat) : Int)) (by rw [wrap64 (by omega) (by omega)]; omega) ?_
  refine num_eq (x := ((a + (b - a) / 4 * 1 : Nat) : Int)) (by rw [wrap64 (by omega) (by omega)]; omega) ?_
  refine need_intro (by decide) ?_
  refine num_eq (x := (((b - a) / 4 : Nat) : Int)) (by rw [Int.tdiv_eq_ediv_of_nonneg (by omega), wrap64 (by omega) (by omega)]; omega) ?_
  refine num_eq (x := (((b - a) / 4 * 2 : Nat) : Int)) (by rw [wrap64 (by omega) (by omega)]; omega) ?_
  refine num_eq (x := ((a + (b - a) / 4 * 2 : Nat) : Int)) (by rw [wrap64 (by omega) (by omega)]; omega) ?_
  refine need_intro (by decide) ?_
  refine num_eq (x := (((b - a) / 4 : Nat) : Int)) (by rw [Int.tdiv_eq_ediv_of_nonneg (by omega), wrap64 (by omega) (by omega)]; omega) ?_
  refine num_eq (x := (((b - a) / 4 * 3 : Nat) : Int)) (by rw [wrap64 (by omega) (by omega)]; omega) ?_
  refine num_eq (x := ((a + (b - a) / 4 * 3 : Nat) : Int)) (by rw [wrap64 (by omega) (by omega)]; omega) ?_
  refine ifd (fun h8 => ?_) (fun h8 => ?_)
  · refine ifd (fun h50 => ?_) (fun h50 => ?_)
    · refine call_own (medianAdjacentF_spec H2 (a := a + (b - a) / 4 * 1) hle hV (by omega) (by omega)) fun v μ' h' hle' hap hR => ?_
      obtain ⟨x1, o1, rfl, e1, s1, rfl⟩ := hR
      obtain rfl := e1.symm
      refine call_own (medianAdjacentF_spec H2 (a := a + (b - a) / 4 * 2) hle hV (by omega) (by omega)) fun v μ' h' hle' hap hR => ?_
      obtain ⟨x2, o2, rfl, e1, s2, rfl⟩ := hR
      obtain rfl := e1.symm
      refine call_own (medianAdjacentF_spec H2 (a := a + (b - a) / 4 * 3) hle hV (by omega) (by omega)) fun v μ' h' hle' hap hR => ?_
      obtain ⟨x3, o3, rfl, e1, s3, rfl⟩ := hR
      obtain rfl := e1.symm
      refine call_own (medianF_spec H2 (a := x1) (b := x2) (c := x3) hle hV (by omega) (by omega) (by omega)) fun v μ' h' hle' hap hR => ?_
      obtain ⟨x4, o4, rfl, e1, s4, rfl⟩ := hR
      obtain rfl := e1.symm
      refine rdC ?_
      refine ifd (fun h1 => ?_) (fun h1 => ?_)
      · exact ret_own _ _ (hp _) ⟨x4, 1, by omega, by omega, by omega, rfl, rfl⟩
      refine ifd (fun h1 => ?_) (fun h1 => ?_)
      · exact ret_own _ _ (hp _) ⟨x4, 2, by omega, by omega, by omega, rfl, rfl⟩
      exact ret_own _ _ (hp _) ⟨x4, 0, by omega, by omega, by omega, rfl, rfl⟩
    · refine call_own (medianF_spec H2 (a := a + (b - a) / 4 * 1) (b := a + (b - a) / 4 * 2) (c := a + (b - a) / 4 * 3) hle hV (by omega) (by omega) (by omega)) fun v μ' h' hle' hap hR => ?_
      obtain ⟨x4, o4, rfl, e1, s4, rfl⟩ := hR
      obtain rfl := e1.symm
      refine rdC ?_
      refine ifd (fun h1 => ?_) (fun h1 => ?_)
      · exact ret_own _ _ (hp _) ⟨x4, 1, by omega, by omega, by omega, rfl, rfl⟩
      refine ifd (fun h1 => ?_) (fun h1 => ?_)
      · exact ret_own _ _ (hp _) ⟨x4, 2, by omega, by omega, by omega, rfl, rfl⟩
      exact ret_own _ _ (hp _) ⟨x4, 0, by omega, by omega, by omega, rfl, rfl⟩
  · refine rdC ?_
    refine ifd (fun h1 => ?_) (fun h1 => ?_)
    · exact ret_own _ _ (hp _) ⟨a + (b - a) / 4 * 2, 1, by omega, by omega, by omega, rfl, rfl⟩
    refine ifd (fun h1 => ?_) (fun h1 => ?_)
    · exact ret_own _ _ (hp _) ⟨a + (b - a) / 4 * 2, 2, by omega, by omega, by omega, rfl, rfl⟩
    exact ret_own _ _ (hp _) ⟨a + (b - a) / 4 * 2, 0, by omega, by omega, by omega, rfl, rfl⟩
end
end Go.Vx

/- Contracts: lengths in bits. -/
namespace Go.Vx
open Go.Proofs Classical
open Go.Sort
theorem bitsLen_shift {x k : Nat} (h : 2 ^ k ≤ x) : bitsLen x = bitsLen (x / 2 ^ k) + k := by
  have hpos : 0 < 2 ^ k := Nat.two_pow_pos k
  apply Nat.le_antisymm
  · rw [bitsLen_le_iff, Nat.pow_add]
    have := lt_two_pow_bitsLen (x / 2 ^ k)
    rw [Nat.div_lt_iff_lt_mul hpos] at this
    exact this
  · have h1 : k < bitsLen x := by
      rcases Nat.lt_or_ge k (bitsLen x) with h2 | h2
      · exact h2
      · have := (bitsLen_le_iff x k).1 h2; omega
    have h3 : bitsLen (x / 2 ^ k) ≤ bitsLen x - k := by
      rw [bitsLen_le_iff, Nat.div_lt_iff_lt_mul hpos, ← Nat.pow_add]
      have : bitsLen x - k + k = bitsLen x := by omega
      rw [this]; exact lt_two_pow_bitsLen x
    omega
section
variable {μ : Mem}
theorem Len64_spec {x : Nat} (hx : x < 18446744073709551616) : Gives Try.prog 201 [.int .u64 x] μ (.int .i64 (bitsLen x)) := by
  obtain ⟨L, hL⟩ : ∃ L, L = bitsLen x := ⟨_, rfl⟩
  rw [← hL]
  refine Spec.mk Try.func201 (by kernel_rfl) ?_
  refine ifd (fun h1 => ?_) (fun h1 => ?_)
  · refine need_intro (by decide) ?_
    refine num_eq (x := ((x / 4294967296 : Nat) : Int)) (by
      show (x : Int).fdiv 4294967296 = _
      rw [Int.fdiv_eq_ediv_of_nonneg _ (by decide)]; rfl) ?_
    have b1 : bitsLen x = bitsLen (x / 4294967296) + 32 := bitsLen_shift (k := 32) (by omega)
    have b2 : x / 4294967296 < 4294967296 := by omega
    generalize x / 4294967296 = y at *
    refine ifd (fun h2 => ?_) (fun h2 => ?_)
    · refine need_intro (by decide) ?_
      refine num_eq (x := ((y / 65536 : Nat) : Int)) (by
        show (y : Int).fdiv 65536 = _
        rw [Int.fdiv_eq_ediv_of_nonneg _ (by decide)]; rfl) ?_
      have b3 : bitsLen y = bitsLen (y / 65536) + 16 := bitsLen_shift (k := 16) (by omega)
      have b4 : y / 65536 < 65536 := by omega
      generalize y / 65536 = z at *
      refine num_eq (x := 32 + 16) (by decide) ?_
      refine ifd (fun h3 => ?_) (fun h3 => ?_)
      · refine need_intro (by decide) ?_
        refine num_eq (x := ((z / 256 : Nat) : Int)) (by
          show (z : Int).fdiv 256 = _
          rw [Int.fdiv_eq_ediv_of_nonneg _ (by decide)]; rfl) ?_
        have b5 : bitsLen z = bitsLen (z / 256) + 8 := bitsLen_shift (k := 8) (by omega)
        have b6 : z / 256 < 256 := by omega
        generalize z / 256 = w at *
        refine num_eq (x := 32 + 16 + 8) (by decide) ?_
        have b7 : bitsLen w ≤ 8 := (bitsLen_le_iff w 8).2 b6
        refine num_eq (x := (w : Int)) (by
          show (w : Int) % 256 = _
          omega) ?_
        refine byte_intro w (UInt8.ofNat (bitsLen w)) rfl ?_ ?_
        · clear b5 b7
          try clear hw
          revert w
          decide +kernel
        refine num_eq (x := (bitsLen w : Int)) (by
          rw [UInt8.toNat_ofNat', Nat.mod_eq_of_lt (by omega), wrap64 (by omega) (by omega)]) ?_
        refine num_eq (x := (L : Int)) (by rw [wrap64 (by omega) (by omega)]; omega) ?_
        exact ret_gives rfl rfl
      · obtain ⟨w, hw⟩ : ∃ w, w = z := ⟨_, rfl⟩
        have b5 : bitsLen z = bitsLen w + 0 := by rw [hw]; rfl
        have b6 : w < 256 := by omega
        rw [← hw]
        have b7 : bitsLen w ≤ 8 := (bitsLen_le_iff w 8).2 b6
        refine num_eq (x := (w : Int)) (by
          show (w : Int) % 256 = _
          omega) ?_
        refine byte_intro w (UInt8.ofNat (bitsLen w)) rfl ?_ ?_
        · clear b5 b7
          try clear hw
          revert w
          decide +kernel
        refine num_eq (x := (bitsLen w : Int)) (by
          rw [UInt8.toNat_ofNat', Nat.mod_eq_of_lt (by omega), wrap64 (by omega) (by omega)]) ?_
        refine num_eq (x := (L : Int)) (by rw [wrap64 (by omega) (by omega)]; omega) ?_
        exact ret_gives rfl rfl
    · obtain ⟨z, hz⟩ : ∃ z, z = y := ⟨_, rfl⟩
      have b3 : bitsLen y = bitsLen z + 0 := by rw [hz]; rfl
      have b4 : z < 65536 := by omega
      rw [← hz]
      refine ifd (fun h3 => ?_) (fun h3 => ?_)
      · refine need_intro (by decide) ?_
        refine num_eq (x := ((z / 256 : Nat) : Int)) (by
          show (z : Int).fdiv 256 = _
          rw [Int.fdiv_eq_ediv_of_nonneg _ (by decide)]; rfl) ?_
        have b5 : bitsLen z = bitsLen (z / 256) + 8 := bitsLen_shift (k := 8) (by omega)
        have b6 : z / 256 < 256 := by omega
        generalize z / 256 = w at *
        refine num_eq (x := 32 + 8) (by decide) ?_
        have b7 : bitsLen w ≤ 8 := (bitsLen_le_iff w 8).2 b6
        refine num_eq (x := (w : Int)) (by
          show (w : Int) % 256 = _
          omega) ?_
        refine byte_intro w (UInt8.ofNat (bitsLen w)) rfl ?_ ?_
        · clear b5 b7
          try clear hw
          revert w
          decide +kernel
        refine num_eq (x := (bitsLen w : Int)) (by
          rw [UInt8.toNat_ofNat', Nat.mod_eq_of_lt (by omega), wrap64 (by omega) (by omega)]) ?_
        refine num_eq (x := (L : Int)) (by rw [wrap64 (by omega) (by omega)]; omega) ?_
        exact ret_gives rfl rfl
      · obtain ⟨w, hw⟩ : ∃ w, w = z := ⟨_, rfl⟩
        have b5 : bitsLen z = bitsLen w + 0 := by rw [hw]; rfl
        have b6 : w < 256 := by omega
        rw [← hw]
        have b7 : bitsLen w ≤ 8 := (bitsLen_le_iff w 8).2 b6
        refine num_eq (x := (w : Int)) (by
          show (w : Int) % 256 = _
          omega) ?_
        refine byte_intro w (UInt8.ofNat (bitsLen w)) rfl ?_ ?_
        · clear b5 b7
          try clear hw
          revert w
          decide +kernel
        refine num_eq (x := (bitsLen w : Int)) (by
          rw [UInt8.toNat_ofNat', Nat.mod_eq_of_lt (by omega), wrap64 (by omega) (by omega)]) ?_
        refine num_eq (x := (L : Int)) (by rw [wrap64 (by omega) (by omega)]; omega) ?_
        exact ret_gives rfl rfl
  · obtain ⟨y, hy⟩ : ∃ y, y = x := ⟨_, rfl⟩
    have b1 : bitsLen x = bitsLen y + 0 := by rw [hy]; rfl
    have b2 : y < 4294967296 := by omega
    rw [← hy]
    refine ifd (fun h2 => ?_) (fun h2 => ?_)
    · refine need_intro (by decide) ?_
      refine num_eq (x := ((y / 65536 : Nat) : Int)) (by
        show (y : Int).fdiv 65536 = _
        rw [Int.fdiv_eq_ediv_of_nonneg _ (by decide)]; rfl) ?_
      have b3 : bitsLen y = bitsLen (y / 65536) + 16 := bitsLen_shift (k := 16) (by omega)
      have b4 : y / 65536 < 65536 := by omega
      generalize y / 65536 = z at *
      refine num_eq (x := 0 + 16) (by decide) ?_
      refine ifd (fun h3 => ?_) (fun h3 => ?_)
      · refine need_intro (by decide) ?_
        refine num_eq (x := ((z / 256 : Nat) : Int)) (by
          show (z : Int).fdiv 256 = _
          rw [Int.fdiv_eq_ediv_of_nonneg _ (by decide)]; rfl) ?_
        have b5 : bitsLen z = bitsLen (z / 256) + 8 := bitsLen_shift (k := 8) (by omega)
        have b6 : z / 256 < 256 := by omega
        generalize z / 256 = w at *
        refine num_eq (x := 0 + 16 + 8) (by decide) ?_
        have b7 : bitsLen w ≤ 8 := (bitsLen_le_iff w 8).2 b6
        refine num_eq (x := (w : Int)) (by
          show (w : Int) % 256 = _
          omega) ?_
        refine byte_intro w (UInt8.ofNat (bitsLen w)) rfl ?_ ?_
        · clear b5 b7
          try clear hw
          revert w
          decide +kernel
        refine num_eq (x := (bitsLen w : Int)) (by
          rw [UInt8.toNat_ofNat', Nat.mod_eq_of_lt (by omega), wrap64 (by omega) (by omega)]) ?_
        refine num_eq (x := (L : Int)) (by rw [wrap64 (by omega) (by omega)]; omega) ?_
        exact ret_gives rfl rfl
      · obtain ⟨w, hw⟩ : ∃ w, w = z := ⟨_, rfl⟩
        have b5 : bitsLen z = bitsLen w + 0 := by rw [hw]; rfl
        have b6 : w < 256 := by omega
        rw [← hw]
        have b7 : bitsLen w ≤ 8 := (bitsLen_le_iff w 8).2 b6
        refine num_eq (x := (w : Int)) (by
          show (w : Int) % 256 = _
          omega) ?_
        refine byte_intro w (UInt8.ofNat (bitsLen w)) rfl ?_ ?_
        · clear b5 b7
          try clear hw
          revert w
          decide +kernel
        refine num_eq (x := (bitsLen w : Int)) (by
          rw [UInt8.toNat_ofNat', Nat.mod_eq_of_lt (by omega), wrap64 (by omega) (by omega)]) ?_
        refine num_eq (x := (L : Int)) (by rw [wrap64 (by omega) (by omega)]; omega) ?_
        exact ret_gives rfl rfl
    · obtain ⟨z, hz⟩ : ∃ z, z = y := ⟨_, rfl⟩
      have b3 : bitsLen y = bitsLen z + 0 := by rw [hz]; rfl
      have b4 : z < 65536 := by omega
      rw [← hz]
      refine ifd (fun h3 => ?_) (fun h3 => ?_)
      · refine need_intro (by decide) ?_
        refine num_eq (x := ((z / 256 : Nat) : Int)) (by
          show (z : Int).fdiv 256 = _
          rw [Int.fdiv_eq_ediv_of_nonneg _ (by decide)]; rfl) ?_
        have b5 : bitsLen z = bitsLen (z / 256) + 8 := bitsLen_shift (k := 8) (by omega)
        have b6 : z / 256 < 256 := by omega
        generalize z / 256 = w at *
        refine num_eq (x := 0 + 8) (by decide) ?_
        have b7 : bitsLen w ≤ 8 := (bitsLen_le_iff w 8).2 b6
        refine num_eq (x := (w : Int)) (by
          show (w : Int) % 256 = _
          omega) ?_
        refine byte_intro w (UInt8.ofNat (bitsLen w)) rfl ?_ ?_
        · clear b5 b7
          try clear hw
          revert w
          decide +kernel
        refine num_eq (x := (bitsLen w : Int)) (by
          rw [UInt8.toNat_ofNat', Nat.mod_eq_of_lt (by omega), wrap64 (by omega) (by omega)]) ?_
        refine num_eq (x := (L : Int)) (by rw [wrap64 (by omega) (by omega)]; omega) ?_
        exact ret_gives rfl rfl
      · obtain ⟨w, hw⟩ : ∃ w, w = z := ⟨_, rfl⟩
        have b5 : bitsLen z = bitsLen w + 0 := by rw [hw]; rfl
        have b6 : w < 256 := by omega
        rw [← hw]
        have b7 : bitsLen w ≤ 8 := (bitsLen_le_iff w 8).2 b6
        refine num_eq (x := (w : Int)) (by
          show (w : Int) % 256 = _
          omega) ?_
        refine byte_intro w (UInt8.ofNat (bitsLen w)) rfl ?_ ?_
        · clear b5 b7
          try clear hw
          revert w
          decide +kernel
        refine num_eq (x := (bitsLen w : Int)) (by
          rw [UInt8.toNat_ofNat', Nat.mod_eq_of_lt (by omega), wrap64 (by omega) (by omega)]) ?_
        refine num_eq (x := (L : Int)) (by rw [wrap64 (by omega) (by omega)]; omega) ?_
        exact ret_gives rfl rfl
theorem Len_spec {x : Nat} (hx : x < 18446744073709551616) : Gives Try.prog 151 [.int .u64 x] μ (.int .i64 (bitsLen x)) := by
  refine Spec.mk Try.func151 (by kernel_rfl) ?_
  refine call_gives (Len64_spec hx) ?_
  exact ret_gives rfl rfl
theorem and_le {x m : Int} (h0 : 0 ≤ m) (h1 : m < 18446744073709551616) : 0 ≤ bits .and .u64 x m ∧ bits .and .u64 x m ≤ m := by
  have e : bits .and .u64 x m = (((BitVec.ofInt 64 x &&& BitVec.ofInt 64 m).toNat : Nat) : Int) % 18446744073709551616 := rfl
  have h2 : (BitVec.ofInt 64 m).toNat = m.toNat := by
    rw [BitVec.toNat_ofInt]
    congr 1
    exact Int.emod_eq_of_lt h0 h1
  have h3 : (BitVec.ofInt 64 x &&& BitVec.ofInt 64 m).toNat ≤ m.toNat := by
    rw [BitVec.toNat_and, h2]
    exact Nat.and_le_right
  rw [e]
  omega
end
end Go.Vx

/- Contracts: patterns broken, by the owner's functions. -/
namespace Go.Vx
open Go.Proofs Classical
open Go.Sort
section
variable {α : Type} {J : Array α → Mem} {μ : Mem} {d : Array α} {rs : Nat} {s : Int}
/-- A row beside a state of the generator. -/
abbrev JX (J : Array α → Mem) (rs : Nat) (s : Int) (d : Array α) : Mem := (J d).set rs (.cells #[.int .u64 s] 241 (0, 0))
theorem rdX' {K : List Value → Prop} (h : K [.int .u64 s]) : extVC μ (JX J rs s d) ⟨rs, 0, none⟩ 1 K := own_intro _ rfl (box_at (Mem.set_at _ _ _)) h
theorem wrX' {v : Int} {K : Mem → Prop} (h : K (JX J rs v d)) : stoVC (JX J rs s d) ⟨rs, 0, none⟩ [.int .u64 v] K := by
  refine sto_intro [.int .u64 s] 241 (Mem.set_at _ _ _) rfl (Nat.le_refl _) ?_
  have e : Mem.set (JX J rs s d) rs (.cells #[.int .u64 v] 241 (0, 0)) = JX J rs v d := by rw [Mem.set_set]
  show K (Mem.set (JX J rs s d) rs (.cells #[.int .u64 v] 241 (0, 0)))
  rw [e]; exact h
theorem NextF_spec : SpecH Try.prog 224 [.pointer (some ⟨rs, 0, none⟩)] μ (JX J rs s d) fun v μ' h' => ∃ s', v = .int .u64 s' ∧ μ' = μ ∧ h' = JX J rs s' d := by
  refine SpecH.mk [] Try.func224 (by kernel_rfl) ?_
  refine rdX' ?_
  refine rdX' ?_
  refine need_intro (by decide) ?_
  refine num_intro fun _ _ => ?_
  refine num_intro fun _ _ => ?_
  refine wrX' ?_
  refine rdX' ?_
  refine rdX' ?_
  refine need_intro (by decide) ?_
  refine num_intro fun _ _ => ?_
  refine num_intro fun _ _ => ?_
  refine wrX' ?_
  refine rdX' ?_
  refine rdX' ?_
  refine need_intro (by decide) ?_
  refine num_intro fun _ _ => ?_
  refine num_intro fun _ _ => ?_
  refine wrX' ?_
  refine rdX' ?_
  exact ret_plain ⟨_, rfl, rfl, rfl⟩
end
section
variable {α : Type} [Inhabited α] {lf sf : FuncId} {lb sb : List Value} {n : Nat} {lt : α → α → Bool} {μ0 : Mem} {J : Array α → Mem} {V : Array α → Prop} {μ : Mem} {d : Array α} {rs : Nat} {s : Int}
theorem nextPowerOfTwoF_spec {x : Nat} (hx : x ≤ 1000000000000) : Gives Try.prog 223 [.int .i64 x] μ (.int .u64 ((2 ^ bitsLen x : Nat) : Int)) := by
  refine Spec.mk Try.func223 (by kernel_rfl) ?_
  have h1 : bitsLen x ≤ 40 := (bitsLen_le_iff x 40).2 (by omega)
  have h2 : 2 ^ bitsLen x ≤ 2 ^ 40 := Nat.pow_le_pow_right (by decide) h1
  have h3 : (2 : Nat) ^ 40 = 1099511627776 := by decide
  refine num_eq (x := (x : Int)) (by
    show (x : Int) % 18446744073709551616 = _
    omega) ?_
  refine call_gives (Len_spec (by omega)) ?_
  refine num_eq (x := (bitsLen x : Int)) (by
    show ((bitsLen x : Nat) : Int) % 18446744073709551616 = _
    omega) ?_
  refine need_intro (by omega) ?_
  refine num_eq (x := ((2 ^ bitsLen x : Nat) : Int)) (by
    have e : min ((bitsLen x : Int).toNat) IntKind.u64.bits = bitsLen x := by
      show min ((bitsLen x : Int).toNat) 64 = bitsLen x
      omega
    rw [e]
    have h4 : ((2 : Int) ^ bitsLen x) = ((2 ^ bitsLen x : Nat) : Int) := by rw [Int.natCast_pow]; rfl
    show (1 * (2 : Int) ^ bitsLen x) % 18446744073709551616 = _
    rw [Int.one_mul, h4]
    generalize 2 ^ bitsLen x = P at *
    omega) ?_
  exact ret_gives rfl rfl
theorem breakPatternsF_spec (H : SortBy lf sf lb sb n lt μ0 J V) {a b : Nat} (hle : μ0.Le μ) (hV : V d) (ha : a + 8 ≤ b) (hb : b ≤ n) :
    SpecH Try.prog 203 [fdata lf sf lb sb, .int .i64 a, .int .i64 b] μ (J d) fun v μ' h' => v = .tuple #[] ∧ ∃ d', PermIn a b d d' ∧ h' = J d' ∧ V d' := by
  have hn := H.max
  refine SpecH.mk [7] Try.func203 (by kernel_rfl) ?_
  intro r1
  refine num_eq (x := ((b - a : Nat) : Int)) (by rw [wrap64 (by omega) (by omega)]; omega) ?_
  refine ifd (fun h8 => ?_) (fun h8 => by omega)
  refine num_intro fun s0 _ => ?_
  intro rs hm ho
  have hdom : ∀ d', V d' → J d' rs = none := fun d' hV' => H.dom hV hV' ho
  have H2 : ∀ s, SortBy lf sf lb sb n lt μ0 (JX J rs s) V := fun s => H.beside _ hdom
  generalize hH : Mem.set (J d) rs _ = H1
  obtain rfl : H1 = JX J rs 0 d := hH.symm
  clear hH hm
  refine wrX' ?_
  refine call_gives (nextPowerOfTwoF_spec (x := b - a) (by omega)) ?_
  have hP1 : 1 ≤ 2 ^ bitsLen (b - a) := Nat.two_pow_pos _
  have hP2 : 2 ^ bitsLen (b - a) ≤ 2 * (b - a) := two_pow_bitsLen_le (by omega)
  generalize 2 ^ bitsLen (b - a) = P at *
  refine need_intro (by decide) ?_
  refine num_eq (x := (((b - a) / 4 : Nat) : Int)) (by rw [Int.tdiv_eq_ediv_of_nonneg (by omega), wrap64 (by omega) (by omega)]; omega) ?_
  refine num_eq (x := (((b - a) / 4 * 2 : Nat) : Int)) (by rw [wrap64 (by omega) (by omega)]; omega) ?_
  refine num_eq (x := ((a + (b - a) / 4 * 2 : Nat) : Int)) (by rw [wrap64 (by omega) (by omega)]; omega) ?_
  refine num_eq (x := ((a + (b - a) / 4 * 2 - 1 : Nat) : Int)) (by rw [wrap64 (by omega) (by omega)]; omega) ?_
  refine loop_intro (fun p : Nat × Array α × Int => a + (b - a) / 4 * 2 ≤ p.1 + 1 ∧ p.1 ≤ a + (b - a) / 4 * 2 + 2 ∧ V p.2.1 ∧ PermIn a b d p.2.1)
    (fun (i, d, s) => ⟨[(1, .val (.int .i64 a)), (3, .loc 0 r1 0), (6, .val (.int .i64 (b - a : Nat))), (7, .val (.pointer (some ⟨rs, 0, none⟩))), (8, .val (.int .u64 P)), (9, .val (.int .i64 i))], fblk r1 lf sf lb sb, 1, μ, JX J rs s d⟩) (fun p => a + (b - a) / 4 * 2 + 3 - p.1)
    (a + (b - a) / 4 * 2 - 1, d, s0) ⟨by dsimp only; omega, by dsimp only; omega, hV, permIn_refl _ _ _⟩ (fun (_, _, _) => ⟨rfl, rfl⟩) ⟨⟨rfl, rfl, rfl, rfl, rfl, rfl, trivial⟩, ⟨rfl, trivial⟩, rfl, rfl⟩ ?_
  rintro ⟨i, d1, s1⟩ ⟨hi1, hi2, hV1, hp⟩
  dsimp only at hi1 hi2 hV1 hp
  have hs1 : d1.size = n := H.size hV1
  have hs0 : d.size = n := H.size hV
  refine need_intro (by decide) ?_
  refine num_eq (x := (((b - a) / 4 : Nat) : Int)) (by rw [Int.tdiv_eq_ediv_of_nonneg (by omega), wrap64 (by omega) (by omega)]; omega) ?_
  refine num_eq (x := (((b - a) / 4 * 2 : Nat) : Int)) (by rw [wrap64 (by omega) (by omega)]; omega) ?_
  refine num_eq (x := ((a + (b - a) / 4 * 2 : Nat) : Int)) (by rw [wrap64 (by omega) (by omega)]; omega) ?_
  refine num_eq (x := ((a + (b - a) / 4 * 2 + 1 : Nat) : Int)) (by rw [wrap64 (by omega) (by omega)]; omega) ?_
  refine ifd (fun hlx => ?_) (fun hlx => ?_)
  rotate_left
  · exact ret_own _ _ (parts_set (hdom d1 hV1)) ⟨rfl, d1, hp, rfl, hV1⟩
  refine call_own (NextF_spec) fun v μ' h' hle' hap hR => ?_
  obtain ⟨s2, rfl, e1, rfl⟩ := hR
  obtain rfl := e1.symm
  refine num_eq (x := ((P - 1 : Nat) : Int)) (by
    show ((P : Int) - 1) % 18446744073709551616 = _
    omega) ?_
  refine num_intro fun y hy => ?_
  obtain ⟨hy1, hy2⟩ := and_le (x := s2) (m := ((P - 1 : Nat) : Int)) (by omega) (by omega)
  rw [← hy] at hy1 hy2
  obtain ⟨o, rfl⟩ := Int.eq_ofNat_of_zero_le hy1
  clear hy
  refine num_eq (x := (o : Int)) (wrap64 (by omega) (by omega)) ?_
  refine ifd (fun ho => ?_) (fun ho => ?_)
  · refine num_eq (x := ((o - (b - a) : Nat) : Int)) (by rw [wrap64 (by omega) (by omega)]; omega) ?_
    have ho2 : o - (b - a) < b - a := by omega
    generalize o - (b - a) = q at *
    refine num_eq (x := ((a + q : Nat) : Int)) (by rw [wrap64 (by omega) (by omega)]; omega) ?_
    refine call_own ((H2 s2).swap hle hV1 (i := i) (j := a + q) (by omega) (by omega)) fun v μ' h' hle' hap hR => ?_
    obtain ⟨rfl, e2, rfl⟩ := hR
    obtain rfl := e2.symm
    refine num_eq (x := ((i + 1 : Nat) : Int)) (by rw [wrap64 (by omega) (by omega)]; omega) ?_
    exact ⟨(i + 1, swp d1 i (a + q), s2), ⟨by dsimp only; omega, by dsimp only; omega, H.sw hV1 (by omega) (by omega), permIn_trans _ _ _ _ _ hp (swp_permIn d1 a b i (a + q) (by omega) (by omega) (by omega) (by omega) (by omega))⟩, by dsimp only; omega, ⟨⟨rfl, rfl, rfl, rfl, rfl, rfl, trivial⟩, ⟨rfl, trivial⟩, rfl, rfl⟩⟩
  · refine num_eq (x := ((a + o : Nat) : Int)) (by rw [wrap64 (by omega) (by omega)]; omega) ?_
    refine call_own ((H2 s2).swap hle hV1 (i := i) (j := a + o) (by omega) (by omega)) fun v μ' h' hle' hap hR => ?_
    obtain ⟨rfl, e2, rfl⟩ := hR
    obtain rfl := e2.symm
    refine num_eq (x := ((i + 1 : Nat) : Int)) (by rw [wrap64 (by omega) (by omega)]; omega) ?_
    exact ⟨(i + 1, swp d1 i (a + o), s2), ⟨by dsimp only; omega, by dsimp only; omega, H.sw hV1 (by omega) (by omega), permIn_trans _ _ _ _ _ hp (swp_permIn d1 a b i (a + o) (by omega) (by omega) (by omega) (by omega) (by omega))⟩, by dsimp only; omega, ⟨⟨rfl, rfl, rfl, rfl, rfl, rfl, trivial⟩, ⟨rfl, trivial⟩, rfl, rfl⟩⟩
end
end Go.Vx

/- Contracts: the partitions, by the owner's functions. -/
namespace Go.Vx
open Go.Proofs Classical
open Go.Sort
section
variable {α : Type} [Inhabited α] {lf sf : FuncId} {lb sb : List Value} {n : Nat} {lt : α → α → Bool} {μ0 : Mem} {J : Array α → Mem} {V : Array α → Prop} {μ : Mem} {d : Array α}
theorem partitionEqualF_spec (H : SortBy lf sf lb sb n lt μ0 J V) {a b pivot : Nat} (hle : μ0.Le μ) (hV : V d) (hap : a ≤ pivot) (hpb : pivot < b) (hb : b ≤ n) :
    SpecH Try.prog 207 [fdata lf sf lb sb, .int .i64 a, .int .i64 b, .int .i64 pivot] μ (J d) fun v μ' h' => v = .int .i64 (partitionEqual lt d a b pivot).1 ∧ μ' = μ ∧ h' = J (partitionEqual lt d a b pivot).2 ∧ V (partitionEqual lt d a b pivot).2 := by
  have hn := H.max
  refine SpecH.mk [] Try.func207 (by kernel_rfl) ?_
  intro r1
  rw [partitionEqual]
  generalize hR : partEqLoop lt a (a + 1) (b - 1) (swp d a pivot) = R
  refine call_own (H.swap hle hV (i := a) (j := pivot) (by omega) (by omega)) fun v μ' h' hle' hap hR => ?_
  obtain ⟨rfl, e2, rfl⟩ := hR
  obtain rfl := e2.symm
  clear hle' hap
  refine num_eq (x := ((a + 1 : Nat) : Int)) (by rw [wrap64 (by omega) (by omega)]; omega) ?_
  refine num_eq (x := ((b - 1 : Nat) : Int)) (by rw [wrap64 (by omega) (by omega)]; omega) ?_
  refine loop_intro (fun p : Nat × Nat × Array α => a < p.1 ∧ p.1 ≤ p.2.1 + 2 ∧ p.2.1 < b ∧ V p.2.2 ∧ partEqLoop lt a p.1 p.2.1 p.2.2 = R)
    (fun (i, j, d) => ⟨[(1, .val (.int .i64 a)), (4, .loc 0 r1 0), (9, .val (.int .i64 i)), (10, .val (.int .i64 j))], fblk r1 lf sf lb sb, 1, μ, J d⟩) (fun p => p.2.1 + 1 - p.1)
    (a + 1, b - 1, swp d a pivot) ⟨by dsimp only; omega, by dsimp only; omega, by dsimp only; omega, H.sw hV (by omega) (by omega), hR⟩ (fun (_, _, _) => ⟨rfl, rfl⟩) ⟨⟨rfl, rfl, rfl, rfl, trivial⟩, ⟨rfl, trivial⟩, rfl, rfl⟩ ?_
  clear hR
  rintro ⟨i, j, d1⟩ ⟨hai, hij0, hjb, hs, hR⟩
  dsimp only at hai hij0 hjb hs hR
  rw [partEqLoop_eq] at hR
  generalize hU : scanUp (fun x => !lt d1[a]! x) d1 j i = U at *
  refine loop_intro (fun i' : Nat => i ≤ i' ∧ i' ≤ j + 2 ∧ scanUp (fun x => !lt d1[a]! x) d1 j i' = U) (fun i' => ⟨[(1, .val (.int .i64 a)), (4, .loc 0 r1 0), (9, .val (.int .i64 i')), (10, .val (.int .i64 j))], fblk r1 lf sf lb sb, 1, μ, J d1⟩) (fun i' => j + 1 - i')
    i ⟨by omega, by omega, hU⟩ (fun _ => ⟨rfl, rfl⟩) ⟨⟨rfl, rfl, rfl, rfl, trivial⟩, ⟨rfl, trivial⟩, rfl, rfl⟩ ?_
  clear hU
  rintro i' ⟨h1, h2, hU⟩
  rw [scanUp] at hU
  refine ifd (fun hij => ?_) (fun hij => ?_)
  refine call_own (H.less hle hs (i := a) (j := i') (by omega) (by omega)) fun v μ' h' hle' hap hR => ?_
  obtain ⟨rfl, e2, rfl⟩ := hR
  obtain rfl := e2.symm
  clear hle' hap
  refine if_intro (fun hl => ?_) (fun hl => ?_)
  · rw [if_pos (by simp only [Bool.and_eq_true, decide_eq_true_eq]; exact ⟨by omega, hl⟩)] at hU
    refine num_eq (x := ((i' + 1 : Nat) : Int)) (by rw [wrap64 (by omega) (by omega)]; omega) ?_
    exact ⟨i' + 1, ⟨by omega, by omega, hU⟩, by omega, ⟨⟨rfl, rfl, rfl, rfl, trivial⟩, ⟨rfl, trivial⟩, rfl, rfl⟩⟩
  rw [if_neg (by simp only [Bool.and_eq_true, hl]; simp)] at hU
  rotate_left
  rw [if_neg (by simp; omega)] at hU
  obtain rfl := hU
  rotate_left
  obtain rfl := hU
  rotate_left
  all_goals
    generalize hV : scanDown (fun x => lt d1[a]! x) d1 i' j = V at *
    refine loop_intro (fun j' : Nat => j' ≤ j ∧ 0 ≤ j' ∧ scanDown (fun x => lt d1[a]! x) d1 i' j' = V) (fun j' => ⟨[(1, .val (.int .i64 a)), (4, .loc 0 r1 0), (9, .val (.int .i64 i')), (10, .val (.int .i64 j'))], fblk r1 lf sf lb sb, 1, μ, J d1⟩) (fun j' => j')
      j ⟨by omega, by omega, hV⟩ (fun _ => ⟨rfl, rfl⟩) ⟨⟨rfl, rfl, rfl, rfl, trivial⟩, ⟨rfl, trivial⟩, rfl, rfl⟩ ?_
    clear hV
    rintro j' ⟨g1, g2, hV⟩
    refine ifd (fun hij2 => ?_) (fun hij2 => ?_)
    obtain ⟨k, rfl⟩ : ∃ k, j' = k + 1 := ⟨j' - 1, by omega⟩
    rw [scanDown] at hV
    refine call_own (H.less hle hs (i := a) (j := k + 1) (by omega) (by omega)) fun v μ' h' hle' hap hR => ?_
    obtain ⟨rfl, e2, rfl⟩ := hR
    obtain rfl := e2.symm
    clear hle' hap
    refine if_intro (fun hl => ?_) (fun hl => ?_)
    · rw [if_pos (by simp only [Bool.and_eq_true, decide_eq_true_eq]; exact ⟨by omega, hl⟩)] at hV
      refine num_eq (x := ((k : Nat) : Int)) (by rw [wrap64 (by omega) (by omega)]; omega) ?_
      exact ⟨k, ⟨by omega, by omega, hV⟩, by omega, ⟨⟨rfl, rfl, rfl, rfl, trivial⟩, ⟨rfl, trivial⟩, rfl, rfl⟩⟩
    rw [if_neg (by simp only [Bool.and_eq_true, hl]; simp)] at hV
    obtain rfl := hV
    generalize k + 1 = j' at *
    rotate_left
    replace hV : j' = V := by
      cases j' with
      | zero => exact hV
      | succ k => rwa [scanDown, if_neg (by simp; omega)] at hV
    obtain rfl := hV
    rotate_left
  all_goals
    refine ifd (fun hgt => ?_) (fun hgt => ?_)
    · rw [if_pos (by omega)] at hR
      subst hR
      exact ret_plain ⟨rfl, rfl, rfl, hs⟩
    · rw [if_neg (by omega)] at hR
      refine call_own (H.swap hle hs (i := i') (j := j') (by omega) (by omega)) fun v μ' h' hle' hap hR => ?_
      obtain ⟨rfl, e2, rfl⟩ := hR
      obtain rfl := e2.symm
      clear hle' hap
      refine num_eq (x := ((i' + 1 : Nat) : Int)) (by rw [wrap64 (by omega) (by omega)]; omega) ?_
      refine num_eq (x := ((j' - 1 : Nat) : Int)) (by rw [wrap64 (by omega) (by omega)]; omega) ?_
      exact ⟨(i' + 1, j' - 1, swp d1 i' j'), ⟨by dsimp only; omega, by dsimp only; omega, by dsimp only; omega, H.sw hs (by omega) (by omega), hR⟩, by dsimp only; omega, ⟨⟨rfl, rfl, rfl, rfl, trivial⟩, ⟨rfl, trivial⟩, rfl, rfl⟩⟩
set_option maxHeartbeats 4000000 in
theorem partitionF_spec (H : SortBy lf sf lb sb n lt μ0 J V) {a b pivot : Nat} (hle : μ0.Le μ) (hV : V d) (hap : a ≤ pivot) (hpb : pivot < b) (hb : b ≤ n) :
    SpecH Try.prog 208 [fdata lf sf lb sb, .int .i64 a, .int .i64 b, .int .i64 pivot] μ (J d) fun v μ' h' => (∃ ap, v = .tuple #[.int .i64 (partition lt d a b pivot).1, .bool ap]) ∧ μ' = μ ∧ h' = J (partition lt d a b pivot).2.2 ∧ V (partition lt d a b pivot).2.2 := by
  have hn := H.max
  refine SpecH.mk [] Try.func208 (by kernel_rfl) ?_
  intro r1
  rw [partition_fst, partition_arr]
  generalize hR : partLoop lt a (a + 1) (b - 1) (swp d a pivot) = R
  refine call_own (H.swap hle hV (i := a) (j := pivot) (by omega) (by omega)) fun v μ' h' hle' hap hR => ?_
  obtain ⟨rfl, e2, rfl⟩ := hR
  obtain rfl := e2.symm
  clear hle' hap
  refine num_eq (x := ((a + 1 : Nat) : Int)) (by rw [wrap64 (by omega) (by omega)]; omega) ?_
  refine num_eq (x := ((b - 1 : Nat) : Int)) (by rw [wrap64 (by omega) (by omega)]; omega) ?_
  have hs : V (swp d a pivot) := H.sw hV (by omega) (by omega)
  generalize swp d a pivot = d1 at *
  obtain ⟨i, hi⟩ : ∃ i, i = a + 1 := ⟨_, rfl⟩
  obtain ⟨j, hj⟩ : ∃ j, j = b - 1 := ⟨_, rfl⟩
  have hai : a < i := by omega
  have hij0 : i ≤ j + 2 := by omega
  have hjb : j < b := by omega
  rw [← hi, ← hj] at hR ⊢
  clear hi hj
  rw [partLoop_eq] at hR
  generalize hU : scanUp (fun x => lt x d1[a]!) d1 j i = U at *
  refine loop_intro (fun i' : Nat => i ≤ i' ∧ i' ≤ j + 2 ∧ scanUp (fun x => lt x d1[a]!) d1 j i' = U) (fun i' => ⟨[(1, .val (.int .i64 a)), (4, .loc 0 r1 0), (10, .val (.int .i64 i')), (11, .val (.int .i64 j))], fblk r1 lf sf lb sb, 1, μ, J d1⟩) (fun i' => j + 1 - i')
    i ⟨by omega, by omega, hU⟩ (fun _ => ⟨rfl, rfl⟩) ⟨⟨rfl, rfl, rfl, rfl, trivial⟩, ⟨rfl, trivial⟩, rfl, rfl⟩ ?_
  clear hU
  rintro i' ⟨h1, h2, hU⟩
  rw [scanUp] at hU
  refine ifd (fun hij => ?_) (fun hij => ?_)
  refine call_own (H.less hle hs (i := i') (j := a) (by omega) (by omega)) fun v μ' h' hle' hap hR => ?_
  obtain ⟨rfl, e2, rfl⟩ := hR
  obtain rfl := e2.symm
  clear hle' hap
  refine if_intro (fun hl => ?_) (fun hl => ?_)
  · rw [if_pos (by simp only [Bool.and_eq_true, decide_eq_true_eq]; exact ⟨by omega, hl⟩)] at hU
    refine num_eq (x := ((i' + 1 : Nat) : Int)) (by rw [wrap64 (by omega) (by omega)]; omega) ?_
    exact ⟨i' + 1, ⟨by omega, by omega, hU⟩, by omega, ⟨⟨rfl, rfl, rfl, rfl, trivial⟩, ⟨rfl, trivial⟩, rfl, rfl⟩⟩
  rw [if_neg (by simp only [Bool.and_eq_true, hl]; simp)] at hU
  rotate_left
  rw [if_neg (by simp; omega)] at hU
  obtain rfl := hU
  rotate_left
  obtain rfl := hU
  rotate_left
  all_goals
    generalize hV : scanDown (fun x => !lt x d1[a]!) d1 i' j = V at *
    refine loop_intro (fun j' : Nat => j' ≤ j ∧ 0 ≤ j' ∧ scanDown (fun x => !lt x d1[a]!) d1 i' j' = V) (fun j' => ⟨[(1, .val (.int .i64 a)), (4, .loc 0 r1 0), (10, .val (.int .i64 i')), (11, .val (.int .i64 j'))], fblk r1 lf sf lb sb, 1, μ, J d1⟩) (fun j' => j')
      j ⟨by omega, by omega, hV⟩ (fun _ => ⟨rfl, rfl⟩) ⟨⟨rfl, rfl, rfl, rfl, trivial⟩, ⟨rfl, trivial⟩, rfl, rfl⟩ ?_
    clear hV
    rintro j' ⟨g1, g2, hV⟩
    refine ifd (fun hij2 => ?_) (fun hij2 => ?_)
    obtain ⟨k, rfl⟩ : ∃ k, j' = k + 1 := ⟨j' - 1, by omega⟩
    rw [scanDown] at hV
    refine call_own (H.less hle hs (i := k + 1) (j := a) (by omega) (by omega)) fun v μ' h' hle' hap hR => ?_
    obtain ⟨rfl, e2, rfl⟩ := hR
    obtain rfl := e2.symm
    clear hle' hap
    refine if_intro (fun hl => ?_) (fun hl => ?_)
    · rw [if_pos (by simp only [Bool.and_eq_true, decide_eq_true_eq]; exact ⟨by omega, hl⟩)] at hV
      refine num_eq (x := ((k : Nat) : Int)) (by rw [wrap64 (by omega) (by omega)]; omega) ?_
      exact ⟨k, ⟨by omega, by omega, hV⟩, by omega, ⟨⟨rfl, rfl, rfl, rfl, trivial⟩, ⟨rfl, trivial⟩, rfl, rfl⟩⟩
    rw [if_neg (by simp only [Bool.and_eq_true, hl]; simp)] at hV
    obtain rfl := hV
    generalize k + 1 = j' at *
    rotate_left
    replace hV : j' = V := by
      cases j' with
      | zero => exact hV
      | succ k => rwa [scanDown, if_neg (by simp; omega)] at hV
    obtain rfl := hV
    rotate_left
  all_goals
    refine ifd (fun hgt => ?_) (fun hgt => ?_)
    · rw [if_pos (by omega)] at hR
      subst hR
      refine call_own (H.swap hle hs (i := j') (j := a) (by omega) (by omega)) fun v μ' h' hle' hap hR => ?_
      obtain ⟨rfl, e2, rfl⟩ := hR
      obtain rfl := e2.symm
      clear hle' hap
      exact ret_plain ⟨⟨_, rfl⟩, rfl, rfl, H.sw hs (by omega) (by omega)⟩
    · rw [if_neg (by omega)] at hR
      refine call_own (H.swap hle hs (i := i') (j := j') (by omega) (by omega)) fun v μ' h' hle' hap hR => ?_
      obtain ⟨rfl, e2, rfl⟩ := hR
      obtain rfl := e2.symm
      clear hle' hap
      refine num_eq (x := ((i' + 1 : Nat) : Int)) (by rw [wrap64 (by omega) (by omega)]; omega) ?_
      refine num_eq (x := ((j' - 1 : Nat) : Int)) (by rw [wrap64 (by omega) (by omega)]; omega) ?_
      refine loop_intro (fun p : Nat × Nat × Array α => a < p.1 ∧ p.1 ≤ p.2.1 + 2 ∧ p.2.1 < b ∧ V p.2.2 ∧ partLoop lt a p.1 p.2.1 p.2.2 = R)
        (fun (i, j, d) => ⟨[(1, .val (.int .i64 a)), (4, .loc 0 r1 0), (10, .val (.int .i64 i)), (11, .val (.int .i64 j))], fblk r1 lf sf lb sb, 1, μ, J d⟩) (fun p => p.2.1 + 1 - p.1)
        (i' + 1, j' - 1, swp d1 i' j') ⟨by dsimp only; omega, by dsimp only; omega, by dsimp only; omega, H.sw hs (by omega) (by omega), hR⟩ (fun (_, _, _) => ⟨rfl, rfl⟩) ⟨⟨rfl, rfl, rfl, rfl, trivial⟩, ⟨rfl, trivial⟩, rfl, rfl⟩ ?_
      clear hR hgt hs hai hij0 hjb h1 h2 g1 g2
      rintro ⟨i, j, d1⟩ ⟨hai, hij0, hjb, hs, hR⟩
      dsimp only at hai hij0 hjb hs hR
      rw [partLoop_eq] at hR
      generalize hU : scanUp (fun x => lt x d1[a]!) d1 j i = U at *
      refine loop_intro (fun i' : Nat => i ≤ i' ∧ i' ≤ j + 2 ∧ scanUp (fun x => lt x d1[a]!) d1 j i' = U) (fun i' => ⟨[(1, .val (.int .i64 a)), (4, .loc 0 r1 0), (10, .val (.int .i64 i')), (11, .val (.int .i64 j))], fblk r1 lf sf lb sb, 1, μ, J d1⟩) (fun i' => j + 1 - i')
        i ⟨by omega, by omega, hU⟩ (fun _ => ⟨rfl, rfl⟩) ⟨⟨rfl, rfl, rfl, rfl, trivial⟩, ⟨rfl, trivial⟩, rfl, rfl⟩ ?_
      clear hU
      rintro i' ⟨h1, h2, hU⟩
      rw [scanUp] at hU
      refine ifd (fun hij => ?_) (fun hij => ?_)
      refine call_own (H.less hle hs (i := i') (j := a) (by omega) (by omega)) fun v μ' h' hle' hap hR => ?_
      obtain ⟨rfl, e2, rfl⟩ := hR
      obtain rfl := e2.symm
      clear hle' hap
      refine if_intro (fun hl => ?_) (fun hl => ?_)
      · rw [if_pos (by simp only [Bool.and_eq_true, decide_eq_true_eq]; exact ⟨by omega, hl⟩)] at hU
        refine num_eq (x := ((i' + 1 : Nat) : Int)) (by rw [wrap64 (by omega) (by omega)]; omega) ?_
        exact ⟨i' + 1, ⟨by omega, by omega, hU⟩, by omega, ⟨⟨rfl, rfl, rfl, rfl, trivial⟩, ⟨rfl, trivial⟩, rfl, rfl⟩⟩
      rw [if_neg (by simp only [Bool.and_eq_true, hl]; simp)] at hU
      rotate_left
      rw [if_neg (by simp; omega)] at hU
      obtain rfl := hU
      rotate_left
      obtain rfl := hU
      rotate_left
      all_goals
        generalize hV : scanDown (fun x => !lt x d1[a]!) d1 i' j = V at *
        refine loop_intro (fun j' : Nat => j' ≤ j ∧ 0 ≤ j' ∧ scanDown (fun x => !lt x d1[a]!) d1 i' j' = V) (fun j' => ⟨[(1, .val (.int .i64 a)), (4, .loc 0 r1 0), (10, .val (.int .i64 i')), (11, .val (.int .i64 j'))], fblk r1 lf sf lb sb, 1, μ, J d1⟩) (fun j' => j')
          j ⟨by omega, by omega, hV⟩ (fun _ => ⟨rfl, rfl⟩) ⟨⟨rfl, rfl, rfl, rfl, trivial⟩, ⟨rfl, trivial⟩, rfl, rfl⟩ ?_
        clear hV
        rintro j' ⟨g1, g2, hV⟩
        refine ifd (fun hij2 => ?_) (fun hij2 => ?_)
        obtain ⟨k, rfl⟩ : ∃ k, j' = k + 1 := ⟨j' - 1, by omega⟩
        rw [scanDown] at hV
        refine call_own (H.less hle hs (i := k + 1) (j := a) (by omega) (by omega)) fun v μ' h' hle' hap hR => ?_
        obtain ⟨rfl, e2, rfl⟩ := hR
        obtain rfl := e2.symm
        clear hle' hap
        refine if_intro (fun hl => ?_) (fun hl => ?_)
        · rw [if_pos (by simp only [Bool.and_eq_true, decide_eq_true_eq]; exact ⟨by omega, hl⟩)] at hV
          refine num_eq (x := ((k : Nat) : Int)) (by rw [wrap64 (by omega) (by omega)]; omega) ?_
          exact ⟨k, ⟨by omega, by omega, hV⟩, by omega, ⟨⟨rfl, rfl, rfl, rfl, trivial⟩, ⟨rfl, trivial⟩, rfl, rfl⟩⟩
        rw [if_neg (by simp only [Bool.and_eq_true, hl]; simp)] at hV
        obtain rfl := hV
        generalize k + 1 = j' at *
        rotate_left
        replace hV : j' = V := by
          cases j' with
          | zero => exact hV
          | succ k => rwa [scanDown, if_neg (by simp; omega)] at hV
        obtain rfl := hV
        rotate_left
      all_goals
        refine ifd (fun hgt => ?_) (fun hgt => ?_)
        · rw [if_pos (by omega)] at hR
          subst hR
          refine call_own (H.swap hle hs (i := j') (j := a) (by omega) (by omega)) fun v μ' h' hle' hap hR => ?_
          obtain ⟨rfl, e2, rfl⟩ := hR
          obtain rfl := e2.symm
          clear hle' hap
          exact ret_plain ⟨⟨_, rfl⟩, rfl, rfl, H.sw hs (by omega) (by omega)⟩
        · rw [if_neg (by omega)] at hR
          refine call_own (H.swap hle hs (i := i') (j := j') (by omega) (by omega)) fun v μ' h' hle' hap hR => ?_
          obtain ⟨rfl, e2, rfl⟩ := hR
          obtain rfl := e2.symm
          clear hle' hap
          refine num_eq (x := ((i' + 1 : Nat) : Int)) (by rw [wrap64 (by omega) (by omega)]; omega) ?_
          refine num_eq (x := ((j' - 1 : Nat) : Int)) (by rw [wrap64 (by omega) (by omega)]; omega) ?_
          exact ⟨(i' + 1, j' - 1, swp d1 i' j'), ⟨by dsimp only; omega, by dsimp only; omega, by dsimp only; omega, H.sw hs (by omega) (by omega), hR⟩, by dsimp only; omega, ⟨⟨rfl, rfl, rfl, rfl, trivial⟩, ⟨rfl, trivial⟩, rfl, rfl⟩⟩
end
end Go.Vx

/- Contracts: a few steps of insertion, by the owner's functions. -/
namespace Go.Vx
open Go.Proofs Classical
open Go.Sort
section
variable {α : Type} [Inhabited α] {lf sf : FuncId} {lb sb : List Value} {n : Nat} {lt : α → α → Bool} {μ0 : Mem} {J : Array α → Mem} {V : Array α → Prop} {μ : Mem} {d : Array α}
set_option maxHeartbeats 8000000 in
theorem partialInsertionSortF_spec (H : SortBy lf sf lb sb n lt μ0 J V) {a b : Nat} (hle : μ0.Le μ) (hV : V d) (ha : a < b) (hb : b ≤ n) :
    SpecH Try.prog 206 [fdata lf sf lb sb, .int .i64 a, .int .i64 b] μ (J d) fun v μ' h' => v = .bool (partialInsertionSort lt d a b).2 ∧ μ' = μ ∧ h' = J (partialInsertionSort lt d a b).1 ∧ V (partialInsertionSort lt d a b).1 := by
  have hn := H.max
  refine SpecH.mk [] Try.func206 (by kernel_rfl) ?_
  intro r1
  rw [partialInsertionSort]
  generalize hR : partialIns lt a b 5 (a + 1) d = R
  refine num_eq (x := ((a + 1 : Nat) : Int)) (by rw [wrap64 (by omega) (by omega)]; omega) ?_
  refine loop_intro (fun p : Nat × Nat × Array α => p.1 ≤ 5 ∧ a < p.2.1 ∧ p.2.1 ≤ b ∧ V p.2.2 ∧ partialIns lt a b p.1 p.2.1 p.2.2 = R)
    (fun (t, i, d) => ⟨[(1, .val (.int .i64 a)), (2, .val (.int .i64 b)), (3, .loc 0 r1 0), (7, .val (.int .i64 i)), (8, .val (.int .i64 (5 - (t : Int))))], fblk r1 lf sf lb sb, 1, μ, J d⟩) (fun p => p.1)
    (5, a + 1, d) ⟨by dsimp only; omega, by dsimp only; omega, by dsimp only; omega, hV, hR⟩ (fun (_, _, _) => ⟨rfl, rfl⟩) ⟨⟨rfl, rfl, rfl, rfl, rfl, trivial⟩, ⟨rfl, trivial⟩, rfl, rfl⟩ ?_
  clear hR
  rintro ⟨t, i, d1⟩ ⟨ht, hai, hib, hs, hR⟩
  dsimp only at ht hai hib hs hR
  refine ifd (fun h5 => ?_) (fun h5 => ?_)
  rotate_left
  · obtain rfl : t = 0 := by omega
    rw [partialIns] at hR
    subst hR
    exact ret_plain ⟨rfl, rfl, rfl, hs⟩
  obtain ⟨t, rfl⟩ : ∃ k, t = k + 1 := ⟨t - 1, by omega⟩
  rw [partialIns_succ] at hR
  generalize hS : scanSorted lt d1 b i = S at *
  refine loop_intro (fun i' : Nat => i ≤ i' ∧ i' ≤ b ∧ scanSorted lt d1 b i' = S) (fun i' => ⟨[(1, .val (.int .i64 a)), (2, .val (.int .i64 b)), (3, .loc 0 r1 0), (7, .val (.int .i64 i')), (8, .val (.int .i64 (5 - ((t + 1 : Nat) : Int))))], fblk r1 lf sf lb sb, 1, μ, J d1⟩) (fun i' => b - i')
    i ⟨by omega, by omega, hS⟩ (fun _ => ⟨rfl, rfl⟩) ⟨⟨rfl, rfl, rfl, rfl, rfl, trivial⟩, ⟨rfl, trivial⟩, rfl, rfl⟩ ?_
  clear hS
  rintro i' ⟨h1, h2, hS⟩
  rw [scanSorted] at hS
  refine ifd (fun hlt => ?_) (fun hlt => ?_)
  rotate_left
  · rw [if_neg (by simp; omega)] at hS
    obtain rfl := hS
    rw [if_pos (by omega)] at hR
    subst hR
    refine ifd (fun _ => ?_) (fun h => absurd (by omega) h)
    exact ret_plain ⟨rfl, rfl, rfl, hs⟩
  refine num_eq (x := ((i' - 1 : Nat) : Int)) (by rw [wrap64 (by omega) (by omega)]; omega) ?_
  refine call_own (H.less hle hs (i := i') (j := i' - 1) (by omega) (by omega)) fun v μ' h' hle' hap hR => ?_
  obtain ⟨rfl, e2, rfl⟩ := hR
  obtain rfl := e2.symm
  clear hle' hap
  refine if_intro (fun hl => ?_) (fun hl => ?_)
  · rw [if_pos (by simp only [Bool.and_eq_true, decide_eq_true_eq]; exact ⟨by omega, hl⟩)] at hS
    refine num_eq (x := ((i' + 1 : Nat) : Int)) (by rw [wrap64 (by omega) (by omega)]; omega) ?_
    exact ⟨i' + 1, ⟨by omega, by omega, hS⟩, by omega, ⟨⟨rfl, rfl, rfl, rfl, rfl, trivial⟩, ⟨rfl, trivial⟩, rfl, rfl⟩⟩
  rw [if_neg (by simp only [Bool.and_eq_true, hl]; simp)] at hS
  obtain rfl := hS
  refine ifd (fun h => absurd h (by omega)) (fun _ => ?_)
  rw [if_neg (by omega)] at hR
  refine num_eq (x := ((b - a : Nat) : Int)) (by rw [wrap64 (by omega) (by omega)]; omega) ?_
  refine ifd (fun h50 => ?_) (fun h50 => ?_)
  · rw [if_pos (by omega)] at hR
    subst hR
    exact ret_plain ⟨rfl, rfl, rfl, hs⟩
  rw [if_neg (by omega)] at hR
  refine num_eq (x := ((i' - 1 : Nat) : Int)) (by rw [wrap64 (by omega) (by omega)]; omega) ?_
  refine call_own (H.swap hle hs (i := i') (j := i' - 1) (by omega) (by omega)) fun v μ' h' hle' hap hR => ?_
  obtain ⟨rfl, e2, rfl⟩ := hR
  obtain rfl := e2.symm
  clear hle' hap
  have hs2 : V (swp d1 i' (i' - 1)) := H.sw hs (by omega) (by omega)
  generalize swp d1 i' (i' - 1) = d2 at *
  refine num_eq (x := ((i' - a : Nat) : Int)) (by rw [wrap64 (by omega) (by omega)]; omega) ?_
  unfold fixDown at hR
  refine ifd (fun hd2 => ?_) (fun hd2 => ?_)
  · rw [if_pos (by omega)] at hR
    refine num_eq (x := ((i' - 1 : Nat) : Int)) (by rw [wrap64 (by omega) (by omega)]; omega) ?_
    generalize hD : shiftDown lt (i' - 1) d2 = D2 at *
    refine loop_intro (fun p : Nat × Array α => p.1 ≤ i' - 1 ∧ V p.2 ∧ shiftDown lt p.1 p.2 = D2) (fun (j, d) => ⟨[(1, .val (.int .i64 a)), (2, .val (.int .i64 b)), (3, .loc 0 r1 0), (7, .val (.int .i64 i')), (8, .val (.int .i64 (5 - ((t + 1 : Nat) : Int)))), (9, .val (.int .i64 j))], fblk r1 lf sf lb sb, 1, μ, J d⟩) (fun p => p.1)
      (i' - 1, d2) ⟨by dsimp only; omega, hs2, hD⟩ (fun (_, _) => ⟨rfl, rfl⟩) ⟨⟨rfl, rfl, rfl, rfl, rfl, rfl, trivial⟩, ⟨rfl, trivial⟩, rfl, rfl⟩ ?_
    clear hD
    rintro ⟨j, d3⟩ ⟨hj, hs3, hD⟩
    dsimp only at hj hs3 hD
    refine ifd (fun hj1 => ?_) (fun hj1 => ?_)
    · obtain ⟨k, rfl⟩ : ∃ k, j = k + 1 := ⟨j - 1, by omega⟩
      rw [shiftDown] at hD
      refine num_eq (x := ((k : Nat) : Int)) (by rw [wrap64 (by omega) (by omega)]; omega) ?_
      refine call_own (H.less hle hs3 (i := k + 1) (j := k) (by omega) (by omega)) fun v μ' h' hle' hap hR => ?_
      obtain ⟨rfl, e2, rfl⟩ := hR
      obtain rfl := e2.symm
      clear hle' hap
      refine if_intro (fun hl2 => ?_) (fun hl2 => ?_)
      · rw [if_pos hl2] at hD
        obtain rfl := hD
        refine num_eq (x := ((b - i' : Nat) : Int)) (by rw [wrap64 (by omega) (by omega)]; omega) ?_
        unfold fixUp at hR
        refine ifd (fun hu2 => ?_) (fun hu2 => ?_)
        · rw [if_pos (by omega)] at hR
          refine num_eq (x := ((i' + 1 : Nat) : Int)) (by rw [wrap64 (by omega) (by omega)]; omega) ?_
          generalize hE : shiftUp lt b (i' + 1) d3 = D4 at *
          refine loop_intro (fun p : Nat × Array α => i' + 1 ≤ p.1 ∧ p.1 ≤ b + 1 ∧ V p.2 ∧ shiftUp lt b p.1 p.2 = D4) (fun (j, d) => ⟨[(1, .val (.int .i64 a)), (2, .val (.int .i64 b)), (3, .loc 0 r1 0), (7, .val (.int .i64 i')), (8, .val (.int .i64 (5 - ((t + 1 : Nat) : Int)))), (10, .val (.int .i64 j))], fblk r1 lf sf lb sb, 1, μ, J d⟩) (fun p => b - p.1)
            (i' + 1, d3) ⟨by dsimp only; omega, by dsimp only; omega, hs3, hE⟩ (fun (_, _) => ⟨rfl, rfl⟩) ⟨⟨rfl, rfl, rfl, rfl, rfl, rfl, trivial⟩, ⟨rfl, trivial⟩, rfl, rfl⟩ ?_
          clear hE
          rintro ⟨j2, d5⟩ ⟨hj2, hjb2, hs5, hE⟩
          dsimp only at hj2 hjb2 hs5 hE
          rw [shiftUp] at hE
          refine ifd (fun hj1 => ?_) (fun hj1 => ?_)
          · rw [if_pos (by omega)] at hE
            refine num_eq (x := ((j2 - 1 : Nat) : Int)) (by rw [wrap64 (by omega) (by omega)]; omega) ?_
            refine call_own (H.less hle hs5 (i := j2) (j := j2 - 1) (by omega) (by omega)) fun v μ' h' hle' hap hR => ?_
            obtain ⟨rfl, e2, rfl⟩ := hR
            obtain rfl := e2.symm
            clear hle' hap
            refine if_intro (fun hl3 => ?_) (fun hl3 => ?_)
            · rw [if_pos hl3] at hE
              obtain rfl := hE
              refine num_eq (x := 5 - (t : Int)) (by rw [wrap64 (by omega) (by omega)]; omega) ?_
              exact ⟨(t, i', d5), ⟨by dsimp only; omega, by dsimp only; omega, by dsimp only; omega, hs5, hR⟩, by dsimp only; omega, ⟨⟨rfl, rfl, rfl, rfl, rfl, trivial⟩, ⟨rfl, trivial⟩, rfl, rfl⟩⟩
            · rw [if_neg (by simp only [hl3]; simp)] at hE
              refine num_eq (x := ((j2 - 1 : Nat) : Int)) (by rw [wrap64 (by omega) (by omega)]; omega) ?_
              refine call_own (H.swap hle hs5 (i := j2) (j := j2 - 1) (by omega) (by omega)) fun v μ' h' hle' hap hR => ?_
              obtain ⟨rfl, e2, rfl⟩ := hR
              obtain rfl := e2.symm
              clear hle' hap
              refine num_eq (x := ((j2 + 1 : Nat) : Int)) (by rw [wrap64 (by omega) (by omega)]; omega) ?_
              exact ⟨(j2 + 1, swp d5 j2 (j2 - 1)), ⟨by dsimp only; omega, by dsimp only; omega, H.sw hs5 (by omega) (by omega), hE⟩, by dsimp only; omega, ⟨⟨rfl, rfl, rfl, rfl, rfl, rfl, trivial⟩, ⟨rfl, trivial⟩, rfl, rfl⟩⟩
          · rw [if_neg (by omega)] at hE
            obtain rfl := hE
            refine num_eq (x := 5 - (t : Int)) (by rw [wrap64 (by omega) (by omega)]; omega) ?_
            exact ⟨(t, i', d5), ⟨by dsimp only; omega, by dsimp only; omega, by dsimp only; omega, hs5, hR⟩, by dsimp only; omega, ⟨⟨rfl, rfl, rfl, rfl, rfl, trivial⟩, ⟨rfl, trivial⟩, rfl, rfl⟩⟩
        · rw [if_neg (by omega)] at hR
          refine num_eq (x := 5 - (t : Int)) (by rw [wrap64 (by omega) (by omega)]; omega) ?_
          exact ⟨(t, i', d3), ⟨by dsimp only; omega, by dsimp only; omega, by dsimp only; omega, hs3, hR⟩, by dsimp only; omega, ⟨⟨rfl, rfl, rfl, rfl, rfl, trivial⟩, ⟨rfl, trivial⟩, rfl, rfl⟩⟩
      · rw [if_neg (by simp only [hl2]; simp)] at hD
        refine num_eq (x := ((k : Nat) : Int)) (by rw [wrap64 (by omega) (by omega)]; omega) ?_
        refine call_own (H.swap hle hs3 (i := k + 1) (j := k) (by omega) (by omega)) fun v μ' h' hle' hap hR => ?_
        obtain ⟨rfl, e2, rfl⟩ := hR
        obtain rfl := e2.symm
        clear hle' hap
        refine num_eq (x := ((k : Nat) : Int)) (by rw [wrap64 (by omega) (by omega)]; omega) ?_
        exact ⟨(k, swp d3 (k + 1) k), ⟨by dsimp only; omega, H.sw hs3 (by omega) (by omega), hD⟩, by dsimp only; omega, ⟨⟨rfl, rfl, rfl, rfl, rfl, rfl, trivial⟩, ⟨rfl, trivial⟩, rfl, rfl⟩⟩
    · obtain rfl : j = 0 := by omega
      have hD : d3 = D2 := hD
      obtain rfl := hD
      refine num_eq (x := ((b - i' : Nat) : Int)) (by rw [wrap64 (by omega) (by omega)]; omega) ?_
      unfold fixUp at hR
      refine ifd (fun hu2 => ?_) (fun hu2 => ?_)
      · rw [if_pos (by omega)] at hR
        refine num_eq (x := ((i' + 1 : Nat) : Int)) (by rw [wrap64 (by omega) (by omega)]; omega) ?_
        generalize hE : shiftUp lt b (i' + 1) d3 = D4 at *
        refine loop_intro (fun p : Nat × Array α => i' + 1 ≤ p.1 ∧ p.1 ≤ b + 1 ∧ V p.2 ∧ shiftUp lt b p.1 p.2 = D4) (fun (j, d) => ⟨[(1, .val (.int .i64 a)), (2, .val (.int .i64 b)), (3, .loc 0 r1 0), (7, .val (.int .i64 i')), (8, .val (.int .i64 (5 - ((t + 1 : Nat) : Int)))), (10, .val (.int .i64 j))], fblk r1 lf sf lb sb, 1, μ, J d⟩) (fun p => b - p.1)
          (i' + 1, d3) ⟨by dsimp only; omega, by dsimp only; omega, hs3, hE⟩ (fun (_, _) => ⟨rfl, rfl⟩) ⟨⟨rfl, rfl, rfl, rfl, rfl, rfl, trivial⟩, ⟨rfl, trivial⟩, rfl, rfl⟩ ?_
        clear hE
        rintro ⟨j2, d5⟩ ⟨hj2, hjb2, hs5, hE⟩
        dsimp only at hj2 hjb2 hs5 hE
        rw [shiftUp] at hE
        refine ifd (fun hj1 => ?_) (fun hj1 => ?_)
        · rw [if_pos (by omega)] at hE
          refine num_eq (x := ((j2 - 1 : Nat) : Int)) (by rw [wrap64 (by omega) (by omega)]; omega) ?_
          refine call_own (H.less hle hs5 (i := j2) (j := j2 - 1) (by omega) (by omega)) fun v μ' h' hle' hap hR => ?_
          obtain ⟨rfl, e2, rfl⟩ := hR
          obtain rfl := e2.symm
          clear hle' hap
          refine if_intro (fun hl3 => ?_) (fun hl3 => ?_)
          · rw [if_pos hl3] at hE
            obtain rfl := hE
            refine num_eq (x := 5 - (t : Int)) (by rw [wrap64 (by omega) (by omega)]; omega) ?_
            exact ⟨(t, i', d5), ⟨by dsimp only; omega, by dsimp only; omega, by dsimp only; omega, hs5, hR⟩, by dsimp only; omega, ⟨⟨rfl, rfl, rfl, rfl, rfl, trivial⟩, ⟨rfl, trivial⟩, rfl, rfl⟩⟩
          · rw [if_neg (by simp only [hl3]; simp)] at hE
            refine num_eq (x := ((j2 - 1 : Nat) : Int)) (by rw [wrap64 (by omega) (by omega)]; omega) ?_
            refine call_own (H.swap hle hs5 (i := j2) (j := j2 - 1) (by omega) (by omega)) fun v μ' h' hle' hap hR => ?_
            obtain ⟨rfl, e2, rfl⟩ := hR
            obtain rfl := e2.symm
            clear hle' hap
            refine num_eq (x := ((j2 + 1 : Nat) : Int)) (by rw [wrap64 (by omega) (by omega)]; omega) ?_
            exact ⟨(j2 + 1, swp d5 j2 (j2 - 1)), ⟨by dsimp only; omega, by dsimp only; omega, H.sw hs5 (by omega) (by omega), hE⟩, by dsimp only; omega, ⟨⟨rfl, rfl, rfl, rfl, rfl, rfl, trivial⟩, ⟨rfl, trivial⟩, rfl, rfl⟩⟩
        · rw [if_neg (by omega)] at hE
          obtain rfl := hE
          refine num_eq (x := 5 - (t : Int)) (by rw [wrap64 (by omega) (by omega)]; omega) ?_
          exact ⟨(t, i', d5), ⟨by dsimp only; omega, by dsimp only; omega, by dsimp only; omega, hs5, hR⟩, by dsimp only; omega, ⟨⟨rfl, rfl, rfl, rfl, rfl, trivial⟩, ⟨rfl, trivial⟩, rfl, rfl⟩⟩
      · rw [if_neg (by omega)] at hR
        refine num_eq (x := 5 - (t : Int)) (by rw [wrap64 (by omega) (by omega)]; omega) ?_
        exact ⟨(t, i', d3), ⟨by dsimp only; omega, by dsimp only; omega, by dsimp only; omega, hs3, hR⟩, by dsimp only; omega, ⟨⟨rfl, rfl, rfl, rfl, rfl, trivial⟩, ⟨rfl, trivial⟩, rfl, rfl⟩⟩
  · rw [if_neg (by omega)] at hR
    refine num_eq (x := ((b - i' : Nat) : Int)) (by rw [wrap64 (by omega) (by omega)]; omega) ?_
    unfold fixUp at hR
    refine ifd (fun hu2 => ?_) (fun hu2 => ?_)
    · rw [if_pos (by omega)] at hR
      refine num_eq (x := ((i' + 1 : Nat) : Int)) (by rw [wrap64 (by omega) (by omega)]; omega) ?_
      generalize hE : shiftUp lt b (i' + 1) d2 = D4 at *
      refine loop_intro (fun p : Nat × Array α => i' + 1 ≤ p.1 ∧ p.1 ≤ b + 1 ∧ V p.2 ∧ shiftUp lt b p.1 p.2 = D4) (fun (j, d) => ⟨[(1, .val (.int .i64 a)), (2, .val (.int .i64 b)), (3, .loc 0 r1 0), (7, .val (.int .i64 i')), (8, .val (.int .i64 (5 - ((t + 1 : Nat) : Int)))), (10, .val (.int .i64 j))], fblk r1 lf sf lb sb, 1, μ, J d⟩) (fun p => b - p.1)
        (i' + 1, d2) ⟨by dsimp only; omega, by dsimp only; omega, hs2, hE⟩ (fun (_, _) => ⟨rfl, rfl⟩) ⟨⟨rfl, rfl, rfl, rfl, rfl, rfl, trivial⟩, ⟨rfl, trivial⟩, rfl, rfl⟩ ?_
      clear hE
      rintro ⟨j2, d5⟩ ⟨hj2, hjb2, hs5, hE⟩
      dsimp only at hj2 hjb2 hs5 hE
      rw [shiftUp] at hE
      refine ifd (fun hj1 => ?_) (fun hj1 => ?_)
      · rw [if_pos (by omega)] at hE
        refine num_eq (x := ((j2 - 1 : Nat) : Int)) (by rw [wrap64 (by omega) (by omega)]; omega) ?_
        refine call_own (H.less hle hs5 (i := j2) (j := j2 - 1) (by omega) (by omega)) fun v μ' h' hle' hap hR => ?_
        obtain ⟨rfl, e2, rfl⟩ := hR
        obtain rfl := e2.symm
        clear hle' hap
        refine if_intro (fun hl3 => ?_) (fun hl3 => ?_)
        · rw [if_pos hl3] at hE
          obtain rfl := hE
          refine num_eq (x := 5 - (t : Int)) (by rw [wrap64 (by omega) (by omega)]; omega) ?_
          exact ⟨(t, i', d5), ⟨by dsimp only; omega, by dsimp only; omega, by dsimp only; omega, hs5, hR⟩, by dsimp only; omega, ⟨⟨rfl, rfl, rfl, rfl, rfl, trivial⟩, ⟨rfl, trivial⟩, rfl, rfl⟩⟩
        · rw [if_neg (by simp only [hl3]; simp)] at hE
          refine num_eq (x := ((j2 - 1 : Nat) : Int)) (by rw [wrap64 (by omega) (by omega)]; omega) ?_
          refine call_own (H.swap hle hs5 (i := j2) (j := j2 - 1) (by omega) (by omega)) fun v μ' h' hle' hap hR => ?_
          obtain ⟨rfl, e2, rfl⟩ := hR
          obtain rfl := e2.symm
          clear hle' hap
          refine num_eq (x := ((j2 + 1 : Nat) : Int)) (by rw [wrap64 (by omega) (by omega)]; omega) ?_
          exact ⟨(j2 + 1, swp d5 j2 (j2 - 1)), ⟨by dsimp only; omega, by dsimp only; omega, H.sw hs5 (by omega) (by omega), hE⟩, by dsimp only; omega, ⟨⟨rfl, rfl, rfl, rfl, rfl, rfl, trivial⟩, ⟨rfl, trivial⟩, rfl, rfl⟩⟩
      · rw [if_neg (by omega)] at hE
        obtain rfl := hE
        refine num_eq (x := 5 - (t : Int)) (by rw [wrap64 (by omega) (by omega)]; omega) ?_
        exact ⟨(t, i', d5), ⟨by dsimp only; omega, by dsimp only; omega, by dsimp only; omega, hs5, hR⟩, by dsimp only; omega, ⟨⟨rfl, rfl, rfl, rfl, rfl, trivial⟩, ⟨rfl, trivial⟩, rfl, rfl⟩⟩
    · rw [if_neg (by omega)] at hR
      refine num_eq (x := 5 - (t : Int)) (by rw [wrap64 (by omega) (by omega)]; omega) ?_
      exact ⟨(t, i', d2), ⟨by dsimp only; omega, by dsimp only; omega, by dsimp only; omega, hs2, hR⟩, by dsimp only; omega, ⟨⟨rfl, rfl, rfl, rfl, rfl, trivial⟩, ⟨rfl, trivial⟩, rfl, rfl⟩⟩
end
end Go.Vx

/- Contracts: a row sorted by its owner's functions. -/
namespace Go.Vx
open Go.Proofs Classical
open Go.Sort
section
variable {α : Type} [Inhabited α] {lf sf : FuncId} {lb sb : List Value} {n : Nat} {lt : α → α → Bool} {μ0 : Mem} {J : Array α → Mem} {V : Array α → Prop}
set_option maxHeartbeats 16000000 in
theorem pdqsortF_spec (H : SortBy lf sf lb sb n lt μ0 J V) (hO : SWO lt) : ∀ (m : Nat) (a b limit : Nat) (d : Array α) (μ : Mem), b - a < m → a ≤ b → b ≤ n → V d → μ0.Le μ → limit ≤ 64 → Below lt a b d →
    SpecH Try.prog 152 [fdata lf sf lb sb, .int .i64 a, .int .i64 b, .int .i64 limit] μ (J d) fun v μ' h' => v = .tuple #[] ∧ ∃ d', PermIn a b d d' ∧ SortedIn lt a b d' ∧ h' = J d' ∧ V d' := by
  intro m
  induction m with
  | zero => intro a b limit d μ h; omega
  | succ m ih =>
  intro a0 b0 limit0 d0 μ hm hab0 hb0 hV0 hle0 hl0 hB0
  have hn := H.max
  refine SpecH.mk [] Try.func152 (by kernel_rfl) ?_
  intro r1
  refine loop_intro (fun p : Nat × Nat × Nat × Bool × Bool × Array α × Mem => p.1 ≤ p.2.1 ∧ p.2.1 ≤ n ∧ p.2.1 - p.1 ≤ b0 - a0 ∧ p.2.2.1 ≤ 64 ∧ V p.2.2.2.2.2.1 ∧ Below lt p.1 p.2.1 p.2.2.2.2.2.1 ∧ μ0.Le p.2.2.2.2.2.2 ∧ ∀ R, PermIn p.1 p.2.1 p.2.2.2.2.2.1 R → SortedIn lt p.1 p.2.1 R → PermIn a0 b0 d0 R ∧ SortedIn lt a0 b0 R)
    (fun (a, b, limit, wb, wp, d, μ') => ⟨[(1, .val (.int .i64 a)), (2, .val (.int .i64 b)), (3, .val (.int .i64 limit)), (4, .loc 0 r1 0), (8, .val (.bool wb)), (9, .val (.bool wp))], fblk r1 lf sf lb sb, 1, μ', J d⟩) (fun p => p.2.1 - p.1)
    (a0, b0, limit0, true, true, d0, μ) ⟨hab0, hb0, Nat.le_refl _, hl0, hV0, hB0, hle0, fun R h1 h2 => ⟨h1, h2⟩⟩ (fun (_, _, _, _, _, _, _) => ⟨rfl, rfl⟩) ⟨⟨rfl, rfl, rfl, rfl, rfl, rfl, trivial⟩, ⟨rfl, trivial⟩, rfl, rfl⟩ ?_
  rintro ⟨a, b, limit, wb, wp, d, μ1⟩ ⟨hab, hb, hlen, hlim, hs, hB, hle, hfin⟩
  dsimp only at hab hb hlen hlim hs hB hle hfin
  refine num_eq (x := ((b - a : Nat) : Int)) (by rw [wrap64 (by omega) (by omega)]; omega) ?_
  refine ifd (fun h12 => ?_) (fun h12 => ?_)
  · refine call_own (insertionSortF_spec H hle hs hab hb) fun v μ' h' hle' hap hR => ?_
    obtain ⟨rfl, e1, rfl, hV2⟩ := hR
    have hsz := H.size hs
    have q := insertionSort_holds (lt := lt) hO d a b hab (by omega)
    exact ret_plain ⟨rfl, _, (hfin _ q.1 q.2).1, (hfin _ q.1 q.2).2, rfl, hV2⟩
  refine ifd (fun hl => ?_) (fun hl => ?_)
  · refine call_own (heapSortF_spec H hle hs (by omega) hb) fun v μ' h' hle' hap hR => ?_
    obtain ⟨rfl, e1, rfl, hV2⟩ := hR
    have hsz := H.size hs
    have q := heapSort_holds (lt := lt) hO d a b hab (by omega)
    exact ret_plain ⟨rfl, _, (hfin _ q.1 q.2).1, (hfin _ q.1 q.2).2, rfl, hV2⟩
  cases wb with
  | false =>
    refine if_intro (fun _ => ?_) (fun h => nomatch h)
    refine call_own (breakPatternsF_spec H hle hs (by omega) hb) fun v μ2 h' hle' hap hR => ?_
    obtain ⟨rfl, d1, p1, rfl, hs1⟩ := hR
    have hsz := H.size hs
    replace hB := hB.perm (by omega) p1
    replace hfin := fun R h1 h2 => hfin R (permIn_trans _ _ _ _ _ p1 h1) h2
    replace hle := hle.trans hle'
    clear hs p1 hle' hsz
    refine num_eq (x := ((limit - 1 : Nat) : Int)) (by rw [wrap64 (by omega) (by omega)]; omega) ?_
    refine call_own (choosePivotF_spec H hle hs1 (by omega) hb) fun v μ3 h' hle' hap hR => ?_
    obtain ⟨p, k, hp1, hp2, hk, rfl, rfl⟩ := hR
    replace hle := hle.trans hle'
    clear hle' hap
    refine ifd (fun hk2 => ?_) (fun hk2 => ?_)
    · refine call_own (reverseRangeF_spec H hle hs1 (by omega) hab hb) fun v μ4 h' hle' hap hR => ?_
      obtain ⟨rfl, e1, rfl, hs2⟩ := hR
      obtain rfl := e1.symm
      clear hle' hap
      have hsz := H.size hs1
      have p2 := reverseRange_holds d1 a b hab (by omega)
      generalize reverseRange d1 a b = d2 at *
      replace hB := hB.perm (by omega) p2
      replace hfin := fun R h1 h2 => hfin R (permIn_trans _ _ _ _ _ p2 h1) h2
      clear p2 hsz
      refine num_eq (x := ((b - 1 : Nat) : Int)) (by rw [wrap64 (by omega) (by omega)]; omega) ?_
      refine num_eq (x := ((p - a : Nat) : Int)) (by rw [wrap64 (by omega) (by omega)]; omega) ?_
      refine num_eq (x := (((b - 1) - (p - a) : Nat) : Int)) (by rw [wrap64 (by omega) (by omega)]; omega) ?_
      refine if_intro (fun h => nomatch h) (fun _ => ?_)
      refine ifd (fun ha0 => ?_) (fun ha0 => ?_)
      · refine num_eq (x := ((a - 1 : Nat) : Int)) (by rw [wrap64 (by omega) (by omega)]; omega) ?_
        refine call_own (H.less hle hs2 (i := a - 1) (j := (b - 1) - (p - a)) (by omega) (by omega)) fun v μ' h' hle' hap hR => ?_
        obtain ⟨rfl, e2, rfl⟩ := hR
        obtain rfl := e2.symm
        clear hle' hap
        have hsz := H.size hs2
        refine if_intro (fun hnl => ?_) (fun hnl => ?_)
        · refine call_own (partitionEqualF_spec H (pivot := (b - 1) - (p - a)) hle hs2 (by omega) (by omega) hb) fun v μ6 h' hle' hap hR => ?_
          obtain ⟨rfl, e1, rfl, hs4⟩ := hR
          obtain rfl := e1.symm
          obtain ⟨mid, d4, hx⟩ : ∃ mid d4, partitionEqual lt d2 a b ((b - 1) - (p - a)) = (mid, d4) := ⟨_, _, rfl⟩
          rw [hx] at hs4 ⊢
          have q := round_eq hO (partitionEqual_holds lt) (by omega) (by omega) (by omega) (by omega) hB (by simpa using hnl) hx
          have qa := q.1
          exact ⟨(mid, b, limit - 1, false, wp, d4, _), ⟨q.2.1, hb, by dsimp only; omega, by dsimp only; omega, hs4, q.2.2.2.1, hle, fun R h1 h2 => hfin R (q.2.2.2.2 R h1 h2).1 (q.2.2.2.2 R h1 h2).2⟩, by dsimp only; omega, ⟨⟨rfl, rfl, rfl, rfl, rfl, rfl, trivial⟩, ⟨rfl, trivial⟩, rfl, rfl⟩⟩
        · refine call_own (partitionF_spec H (pivot := (b - 1) - (p - a)) hle hs2 (by omega) (by omega) hb) fun v μ6 h' hle' hap hR => ?_
          obtain ⟨⟨ap, rfl⟩, e1, rfl, hs4⟩ := hR
          have hsz' := H.size hs2
          obtain rfl := e1.symm
          obtain ⟨mid, ap', d4, hx⟩ : ∃ mid ap' d4, partition lt d2 a b ((b - 1) - (p - a)) = (mid, ap', d4) := ⟨_, _, _, rfl⟩
          rw [hx] at hs4 ⊢
          obtain ⟨q1, q2, q3, q4, q5, q6, q7⟩ := round_part hO (partition_holds lt) (by omega) (by omega) (by omega) hB hx
          refine num_eq (x := ((mid - a : Nat) : Int)) (by rw [wrap64 (by omega) (by omega)]; omega) ?_
          refine num_eq (x := ((b - mid : Nat) : Int)) (by rw [wrap64 (by omega) (by omega)]; omega) ?_
          refine need_intro (by decide) ?_
          refine num_eq (x := (((b - a) / 8 : Nat) : Int)) (by rw [Int.tdiv_eq_ediv_of_nonneg (by omega), wrap64 (by omega) (by omega)]; omega) ?_
          refine ifd (fun hlt => ?_) (fun hlt => ?_)
          · refine call_own (ih a mid (limit - 1) d4 _ (by omega) (by omega) (by omega) hs4 hle (by omega) q4) fun v μ7 h' hle7 hap hR => ?_
            obtain ⟨rfl, L, g1, g2, rfl, hs5⟩ := hR
            obtain ⟨g3, g4⟩ := q6 L g1 g2
            refine num_eq (x := ((mid + 1 : Nat) : Int)) (by rw [wrap64 (by omega) (by omega)]; omega) ?_
            exact ⟨(mid + 1, b, limit - 1, _, ap, L, μ7), ⟨by dsimp only; omega, hb, by dsimp only; omega, by dsimp only; omega, hs5, g3, hle.trans hle7, fun R h1 h2 => hfin R (g4 R h1 h2).1 (g4 R h1 h2).2⟩, by dsimp only; omega, ⟨⟨rfl, rfl, rfl, rfl, rfl, rfl, trivial⟩, ⟨rfl, trivial⟩, rfl, rfl⟩⟩
          · refine num_eq (x := ((mid + 1 : Nat) : Int)) (by rw [wrap64 (by omega) (by omega)]; omega) ?_
            refine call_own (ih (mid + 1) b (limit - 1) d4 _ (by omega) (by omega) (by omega) hs4 hle (by omega) q5) fun v μ7 h' hle7 hap hR => ?_
            obtain ⟨rfl, L, g1, g2, rfl, hs5⟩ := hR
            obtain ⟨g3, g4⟩ := q7 L g1 g2
            exact ⟨(a, mid, limit - 1, _, ap, L, μ7), ⟨by dsimp only; omega, by dsimp only; omega, by dsimp only; omega, by dsimp only; omega, hs5, g3, hle.trans hle7, fun R h1 h2 => hfin R (g4 R h1 h2).1 (g4 R h1 h2).2⟩, by dsimp only; omega, ⟨⟨rfl, rfl, rfl, rfl, rfl, rfl, trivial⟩, ⟨rfl, trivial⟩, rfl, rfl⟩⟩
      · refine call_own (partitionF_spec H (pivot := (b - 1) - (p - a)) hle hs2 (by omega) (by omega) hb) fun v μ6 h' hle' hap hR => ?_
        obtain ⟨⟨ap, rfl⟩, e1, rfl, hs4⟩ := hR
        have hsz' := H.size hs2
        obtain rfl := e1.symm
        obtain ⟨mid, ap', d4, hx⟩ : ∃ mid ap' d4, partition lt d2 a b ((b - 1) - (p - a)) = (mid, ap', d4) := ⟨_, _, _, rfl⟩
        rw [hx] at hs4 ⊢
        obtain ⟨q1, q2, q3, q4, q5, q6, q7⟩ := round_part hO (partition_holds lt) (by omega) (by omega) (by omega) hB hx
        refine num_eq (x := ((mid - a : Nat) : Int)) (by rw [wrap64 (by omega) (by omega)]; omega) ?_
        refine num_eq (x := ((b - mid : Nat) : Int)) (by rw [wrap64 (by omega) (by omega)]; omega) ?_
        refine need_intro (by decide) ?_
        refine num_eq (x := (((b - a) / 8 : Nat) : Int)) (by rw [Int.tdiv_eq_ediv_of_nonneg (by omega), wrap64 (by omega) (by omega)]; omega) ?_
        refine ifd (fun hlt => ?_) (fun hlt => ?_)
        · refine call_own (ih a mid (limit - 1) d4 _ (by omega) (by omega) (by omega) hs4 hle (by omega) q4) fun v μ7 h' hle7 hap hR => ?_
          obtain ⟨rfl, L, g1, g2, rfl, hs5⟩ := hR
          obtain ⟨g3, g4⟩ := q6 L g1 g2
          refine num_eq (x := ((mid + 1 : Nat) : Int)) (by rw [wrap64 (by omega) (by omega)]; omega) ?_
          exact ⟨(mid + 1, b, limit - 1, _, ap, L, μ7), ⟨by dsimp only; omega, hb, by dsimp only; omega, by dsimp only; omega, hs5, g3, hle.trans hle7, fun R h1 h2 => hfin R (g4 R h1 h2).1 (g4 R h1 h2).2⟩, by dsimp only; omega, ⟨⟨rfl, rfl, rfl, rfl, rfl, rfl, trivial⟩, ⟨rfl, trivial⟩, rfl, rfl⟩⟩
        · refine num_eq (x := ((mid + 1 : Nat) : Int)) (by rw [wrap64 (by omega) (by omega)]; omega) ?_
          refine call_own (ih (mid + 1) b (limit - 1) d4 _ (by omega) (by omega) (by omega) hs4 hle (by omega) q5) fun v μ7 h' hle7 hap hR => ?_
          obtain ⟨rfl, L, g1, g2, rfl, hs5⟩ := hR
          obtain ⟨g3, g4⟩ := q7 L g1 g2
          exact ⟨(a, mid, limit - 1, _, ap, L, μ7), ⟨by dsimp only; omega, by dsimp only; omega, by dsimp only; omega, by dsimp only; omega, hs5, g3, hle.trans hle7, fun R h1 h2 => hfin R (g4 R h1 h2).1 (g4 R h1 h2).2⟩, by dsimp only; omega, ⟨⟨rfl, rfl, rfl, rfl, rfl, rfl, trivial⟩, ⟨rfl, trivial⟩, rfl, rfl⟩⟩
    · refine if_intro (fun h => nomatch h) (fun _ => ?_)
      refine ifd (fun ha0 => ?_) (fun ha0 => ?_)
      · refine num_eq (x := ((a - 1 : Nat) : Int)) (by rw [wrap64 (by omega) (by omega)]; omega) ?_
        refine call_own (H.less hle hs1 (i := a - 1) (j := p) (by omega) (by omega)) fun v μ' h' hle' hap hR => ?_
        obtain ⟨rfl, e2, rfl⟩ := hR
        obtain rfl := e2.symm
        clear hle' hap
        have hsz := H.size hs1
        refine if_intro (fun hnl => ?_) (fun hnl => ?_)
        · refine call_own (partitionEqualF_spec H (pivot := p) hle hs1 (by omega) (by omega) hb) fun v μ6 h' hle' hap hR => ?_
          obtain ⟨rfl, e1, rfl, hs4⟩ := hR
          obtain rfl := e1.symm
          obtain ⟨mid, d4, hx⟩ : ∃ mid d4, partitionEqual lt d1 a b (p) = (mid, d4) := ⟨_, _, rfl⟩
          rw [hx] at hs4 ⊢
          have q := round_eq hO (partitionEqual_holds lt) (by omega) (by omega) (by omega) (by omega) hB (by simpa using hnl) hx
          have qa := q.1
          exact ⟨(mid, b, limit - 1, false, wp, d4, _), ⟨q.2.1, hb, by dsimp only; omega, by dsimp only; omega, hs4, q.2.2.2.1, hle, fun R h1 h2 => hfin R (q.2.2.2.2 R h1 h2).1 (q.2.2.2.2 R h1 h2).2⟩, by dsimp only; omega, ⟨⟨rfl, rfl, rfl, rfl, rfl, rfl, trivial⟩, ⟨rfl, trivial⟩, rfl, rfl⟩⟩
        · refine call_own (partitionF_spec H (pivot := p) hle hs1 (by omega) (by omega) hb) fun v μ6 h' hle' hap hR => ?_
          obtain ⟨⟨ap, rfl⟩, e1, rfl, hs4⟩ := hR
          have hsz' := H.size hs1
          obtain rfl := e1.symm
          obtain ⟨mid, ap', d4, hx⟩ : ∃ mid ap' d4, partition lt d1 a b (p) = (mid, ap', d4) := ⟨_, _, _, rfl⟩
          rw [hx] at hs4 ⊢
          obtain ⟨q1, q2, q3, q4, q5, q6, q7⟩ := round_part hO (partition_holds lt) (by omega) (by omega) (by omega) hB hx
          refine num_eq (x := ((mid - a : Nat) : Int)) (by rw [wrap64 (by omega) (by omega)]; omega) ?_
          refine num_eq (x := ((b - mid : Nat) : Int)) (by rw [wrap64 (by omega) (by omega)]; omega) ?_
          refine need_intro (by decide) ?_
          refine num_eq (x := (((b - a) / 8 : Nat) : Int)) (by rw [Int.tdiv_eq_ediv_of_nonneg (by omega), wrap64 (by omega) (by omega)]; omega) ?_
          refine ifd (fun hlt => ?_) (fun hlt => ?_)
          · refine call_own (ih a mid (limit - 1) d4 _ (by omega) (by omega) (by omega) hs4 hle (by omega) q4) fun v μ7 h' hle7 hap hR => ?_
            obtain ⟨rfl, L, g1, g2, rfl, hs5⟩ := hR
            obtain ⟨g3, g4⟩ := q6 L g1 g2
            refine num_eq (x := ((mid + 1 : Nat) : Int)) (by rw [wrap64 (by omega) (by omega)]; omega) ?_
            exact ⟨(mid + 1, b, limit - 1, _, ap, L, μ7), ⟨by dsimp only; omega, hb, by dsimp only; omega, by dsimp only; omega, hs5, g3, hle.trans hle7, fun R h1 h2 => hfin R (g4 R h1 h2).1 (g4 R h1 h2).2⟩, by dsimp only; omega, ⟨⟨rfl, rfl, rfl, rfl, rfl, rfl, trivial⟩, ⟨rfl, trivial⟩, rfl, rfl⟩⟩
          · refine num_eq (x := ((mid + 1 : Nat) : Int)) (by rw [wrap64 (by omega) (by omega)]; omega) ?_
            refine call_own (ih (mid + 1) b (limit - 1) d4 _ (by omega) (by omega) (by omega) hs4 hle (by omega) q5) fun v μ7 h' hle7 hap hR => ?_
            obtain ⟨rfl, L, g1, g2, rfl, hs5⟩ := hR
            obtain ⟨g3, g4⟩ := q7 L g1 g2
            exact ⟨(a, mid, limit - 1, _, ap, L, μ7), ⟨by dsimp only; omega, by dsimp only; omega, by dsimp only; omega, by dsimp only; omega, hs5, g3, hle.trans hle7, fun R h1 h2 => hfin R (g4 R h1 h2).1 (g4 R h1 h2).2⟩, by dsimp only; omega, ⟨⟨rfl, rfl, rfl, rfl, rfl, rfl, trivial⟩, ⟨rfl, trivial⟩, rfl, rfl⟩⟩
      · refine call_own (partitionF_spec H (pivot := p) hle hs1 (by omega) (by omega) hb) fun v μ6 h' hle' hap hR => ?_
        obtain ⟨⟨ap, rfl⟩, e1, rfl, hs4⟩ := hR
        have hsz' := H.size hs1
        obtain rfl := e1.symm
        obtain ⟨mid, ap', d4, hx⟩ : ∃ mid ap' d4, partition lt d1 a b (p) = (mid, ap', d4) := ⟨_, _, _, rfl⟩
        rw [hx] at hs4 ⊢
        obtain ⟨q1, q2, q3, q4, q5, q6, q7⟩ := round_part hO (partition_holds lt) (by omega) (by omega) (by omega) hB hx
        refine num_eq (x := ((mid - a : Nat) : Int)) (by rw [wrap64 (by omega) (by omega)]; omega) ?_
        refine num_eq (x := ((b - mid : Nat) : Int)) (by rw [wrap64 (by omega) (by omega)]; omega) ?_
        refine need_intro (by decide) ?_
        refine num_eq (x := (((b - a) / 8 : Nat) : Int)) (by rw [Int.tdiv_eq_ediv_of_nonneg (by omega), wrap64 (by omega) (by omega)]; omega) ?_
        refine ifd (fun hlt => ?_) (fun hlt => ?_)
        · refine call_own (ih a mid (limit - 1) d4 _ (by omega) (by omega) (by omega) hs4 hle (by omega) q4) fun v μ7 h' hle7 hap hR => ?_
          obtain ⟨rfl, L, g1, g2, rfl, hs5⟩ := hR
          obtain ⟨g3, g4⟩ := q6 L g1 g2
          refine num_eq (x := ((mid + 1 : Nat) : Int)) (by rw [wrap64 (by omega) (by omega)]; omega) ?_
          exact ⟨(mid + 1, b, limit - 1, _, ap, L, μ7), ⟨by dsimp only; omega, hb, by dsimp only; omega, by dsimp only; omega, hs5, g3, hle.trans hle7, fun R h1 h2 => hfin R (g4 R h1 h2).1 (g4 R h1 h2).2⟩, by dsimp only; omega, ⟨⟨rfl, rfl, rfl, rfl, rfl, rfl, trivial⟩, ⟨rfl, trivial⟩, rfl, rfl⟩⟩
        · refine num_eq (x := ((mid + 1 : Nat) : Int)) (by rw [wrap64 (by omega) (by omega)]; omega) ?_
          refine call_own (ih (mid + 1) b (limit - 1) d4 _ (by omega) (by omega) (by omega) hs4 hle (by omega) q5) fun v μ7 h' hle7 hap hR => ?_
          obtain ⟨rfl, L, g1, g2, rfl, hs5⟩ := hR
          obtain ⟨g3, g4⟩ := q7 L g1 g2
          exact ⟨(a, mid, limit - 1, _, ap, L, μ7), ⟨by dsimp only; omega, by dsimp only; omega, by dsimp only; omega, by dsimp only; omega, hs5, g3, hle.trans hle7, fun R h1 h2 => hfin R (g4 R h1 h2).1 (g4 R h1 h2).2⟩, by dsimp only; omega, ⟨⟨rfl, rfl, rfl, rfl, rfl, rfl, trivial⟩, ⟨rfl, trivial⟩, rfl, rfl⟩⟩
  | true =>
    refine if_intro (fun h => nomatch h) (fun _ => ?_)
    have hs1 := hs
    refine call_own (choosePivotF_spec H hle hs1 (by omega) hb) fun v μ3 h' hle' hap hR => ?_
    obtain ⟨p, k, hp1, hp2, hk, rfl, rfl⟩ := hR
    replace hle := hle.trans hle'
    clear hle' hap
    refine ifd (fun hk2 => ?_) (fun hk2 => ?_)
    · refine call_own (reverseRangeF_spec H hle hs1 (by omega) hab hb) fun v μ4 h' hle' hap hR => ?_
      obtain ⟨rfl, e1, rfl, hs2⟩ := hR
      obtain rfl := e1.symm
      clear hle' hap
      have hsz := H.size hs1
      have p2 := reverseRange_holds d a b hab (by omega)
      generalize reverseRange d a b = d2 at *
      replace hB := hB.perm (by omega) p2
      replace hfin := fun R h1 h2 => hfin R (permIn_trans _ _ _ _ _ p2 h1) h2
      clear p2 hsz
      refine num_eq (x := ((b - 1 : Nat) : Int)) (by rw [wrap64 (by omega) (by omega)]; omega) ?_
      refine num_eq (x := ((p - a : Nat) : Int)) (by rw [wrap64 (by omega) (by omega)]; omega) ?_
      refine num_eq (x := (((b - 1) - (p - a) : Nat) : Int)) (by rw [wrap64 (by omega) (by omega)]; omega) ?_
      refine if_intro (fun _ => ?_) (fun h => nomatch h)
      refine if_intro (fun hwp => ?_) (fun hwp => ?_)
      · refine ifd (fun _ => ?_) (fun h => absurd rfl h)
        refine call_own (partialInsertionSortF_spec H hle hs2 (by omega) hb) fun v μ5 h' hle' hap hR => ?_
        obtain ⟨rfl, e1, rfl, hs3⟩ := hR
        obtain rfl := e1.symm
        clear hle' hap
        have hsz := H.size hs2
        have q := partialInsertionSort_holds (lt := lt) hO d2 a b (by omega) (by omega) hB
        refine if_intro (fun hok => ?_) (fun hok => ?_)
        · exact ret_plain ⟨rfl, _, (hfin _ q.1 (q.2 hok)).1, (hfin _ q.1 (q.2 hok)).2, rfl, hs3⟩
        · have q1 := q.1
          clear q hok
          generalize (partialInsertionSort lt d2 a b).1 = d3 at *
          replace hB := hB.perm (by omega) q1
          replace hfin := fun R h1 h2 => hfin R (permIn_trans _ _ _ _ _ q1 h1) h2
          clear q1 hsz
          refine ifd (fun ha0 => ?_) (fun ha0 => ?_)
          · refine num_eq (x := ((a - 1 : Nat) : Int)) (by rw [wrap64 (by omega) (by omega)]; omega) ?_
            refine call_own (H.less hle hs3 (i := a - 1) (j := (b - 1) - (p - a)) (by omega) (by omega)) fun v μ' h' hle' hap hR => ?_
            obtain ⟨rfl, e2, rfl⟩ := hR
            obtain rfl := e2.symm
            clear hle' hap
            have hsz := H.size hs3
            refine if_intro (fun hnl => ?_) (fun hnl => ?_)
            · refine call_own (partitionEqualF_spec H (pivot := (b - 1) - (p - a)) hle hs3 (by omega) (by omega) hb) fun v μ6 h' hle' hap hR => ?_
              obtain ⟨rfl, e1, rfl, hs4⟩ := hR
              obtain rfl := e1.symm
              obtain ⟨mid, d4, hx⟩ : ∃ mid d4, partitionEqual lt d3 a b ((b - 1) - (p - a)) = (mid, d4) := ⟨_, _, rfl⟩
              rw [hx] at hs4 ⊢
              have q := round_eq hO (partitionEqual_holds lt) (by omega) (by omega) (by omega) (by omega) hB (by simpa using hnl) hx
              have qa := q.1
              exact ⟨(mid, b, limit, true, wp, d4, _), ⟨q.2.1, hb, by dsimp only; omega, by dsimp only; omega, hs4, q.2.2.2.1, hle, fun R h1 h2 => hfin R (q.2.2.2.2 R h1 h2).1 (q.2.2.2.2 R h1 h2).2⟩, by dsimp only; omega, ⟨⟨rfl, rfl, rfl, rfl, rfl, rfl, trivial⟩, ⟨rfl, trivial⟩, rfl, rfl⟩⟩
            · refine call_own (partitionF_spec H (pivot := (b - 1) - (p - a)) hle hs3 (by omega) (by omega) hb) fun v μ6 h' hle' hap hR => ?_
              obtain ⟨⟨ap, rfl⟩, e1, rfl, hs4⟩ := hR
              have hsz' := H.size hs3
              obtain rfl := e1.symm
              obtain ⟨mid, ap', d4, hx⟩ : ∃ mid ap' d4, partition lt d3 a b ((b - 1) - (p - a)) = (mid, ap', d4) := ⟨_, _, _, rfl⟩
              rw [hx] at hs4 ⊢
              obtain ⟨q1, q2, q3, q4, q5, q6, q7⟩ := round_part hO (partition_holds lt) (by omega) (by omega) (by omega) hB hx
              refine num_eq (x := ((mid - a : Nat) : Int)) (by rw [wrap64 (by omega) (by omega)]; omega) ?_
              refine num_eq (x := ((b - mid : Nat) : Int)) (by rw [wrap64 (by omega) (by omega)]; omega) ?_
              refine need_intro (by decide) ?_
              refine num_eq (x := (((b - a) / 8 : Nat) : Int)) (by rw [Int.tdiv_eq_ediv_of_nonneg (by omega), wrap64 (by omega) (by omega)]; omega) ?_
              refine ifd (fun hlt => ?_) (fun hlt => ?_)
              · refine call_own (ih a mid (limit) d4 _ (by omega) (by omega) (by omega) hs4 hle (by omega) q4) fun v μ7 h' hle7 hap hR => ?_
                obtain ⟨rfl, L, g1, g2, rfl, hs5⟩ := hR
                obtain ⟨g3, g4⟩ := q6 L g1 g2
                refine num_eq (x := ((mid + 1 : Nat) : Int)) (by rw [wrap64 (by omega) (by omega)]; omega) ?_
                exact ⟨(mid + 1, b, limit, _, ap, L, μ7), ⟨by dsimp only; omega, hb, by dsimp only; omega, by dsimp only; omega, hs5, g3, hle.trans hle7, fun R h1 h2 => hfin R (g4 R h1 h2).1 (g4 R h1 h2).2⟩, by dsimp only; omega, ⟨⟨rfl, rfl, rfl, rfl, rfl, rfl, trivial⟩, ⟨rfl, trivial⟩, rfl, rfl⟩⟩
              · refine num_eq (x := ((mid + 1 : Nat) : Int)) (by rw [wrap64 (by omega) (by omega)]; omega) ?_
                refine call_own (ih (mid + 1) b (limit) d4 _ (by omega) (by omega) (by omega) hs4 hle (by omega) q5) fun v μ7 h' hle7 hap hR => ?_
                obtain ⟨rfl, L, g1, g2, rfl, hs5⟩ := hR
                obtain ⟨g3, g4⟩ := q7 L g1 g2
                exact ⟨(a, mid, limit, _, ap, L, μ7), ⟨by dsimp only; omega, by dsimp only; omega, by dsimp only; omega, by dsimp only; omega, hs5, g3, hle.trans hle7, fun R h1 h2 => hfin R (g4 R h1 h2).1 (g4 R h1 h2).2⟩, by dsimp only; omega, ⟨⟨rfl, rfl, rfl, rfl, rfl, rfl, trivial⟩, ⟨rfl, trivial⟩, rfl, rfl⟩⟩
          · refine call_own (partitionF_spec H (pivot := (b - 1) - (p - a)) hle hs3 (by omega) (by omega) hb) fun v μ6 h' hle' hap hR => ?_
            obtain ⟨⟨ap, rfl⟩, e1, rfl, hs4⟩ := hR
            have hsz' := H.size hs3
            obtain rfl := e1.symm
            obtain ⟨mid, ap', d4, hx⟩ : ∃ mid ap' d4, partition lt d3 a b ((b - 1) - (p - a)) = (mid, ap', d4) := ⟨_, _, _, rfl⟩
            rw [hx] at hs4 ⊢
            obtain ⟨q1, q2, q3, q4, q5, q6, q7⟩ := round_part hO (partition_holds lt) (by omega) (by omega) (by omega) hB hx
            refine num_eq (x := ((mid - a : Nat) : Int)) (by rw [wrap64 (by omega) (by omega)]; omega) ?_
            refine num_eq (x := ((b - mid : Nat) : Int)) (by rw [wrap64 (by omega) (by omega)]; omega) ?_
            refine need_intro (by decide) ?_
            refine num_eq (x := (((b - a) / 8 : Nat) : Int)) (by rw [Int.tdiv_eq_ediv_of_nonneg (by omega), wrap64 (by omega) (by omega)]; omega) ?_
            refine ifd (fun hlt => ?_) (fun hlt => ?_)
            · refine call_own (ih a mid (limit) d4 _ (by omega) (by omega) (by omega) hs4 hle (by omega) q4) fun v μ7 h' hle7 hap hR => ?_
              obtain ⟨rfl, L, g1, g2, rfl, hs5⟩ := hR
              obtain ⟨g3, g4⟩ := q6 L g1 g2
              refine num_eq (x := ((mid + 1 : Nat) : Int)) (by rw [wrap64 (by omega) (by omega)]; omega) ?_
              exact ⟨(mid + 1, b, limit, _, ap, L, μ7), ⟨by dsimp only; omega, hb, by dsimp only; omega, by dsimp only; omega, hs5, g3, hle.trans hle7, fun R h1 h2 => hfin R (g4 R h1 h2).1 (g4 R h1 h2).2⟩, by dsimp only; omega, ⟨⟨rfl, rfl, rfl, rfl, rfl, rfl, trivial⟩, ⟨rfl, trivial⟩, rfl, rfl⟩⟩
            · refine num_eq (x := ((mid + 1 : Nat) : Int)) (by rw [wrap64 (by omega) (by omega)]; omega) ?_
              refine call_own (ih (mid + 1) b (limit) d4 _ (by omega) (by omega) (by omega) hs4 hle (by omega) q5) fun v μ7 h' hle7 hap hR => ?_
              obtain ⟨rfl, L, g1, g2, rfl, hs5⟩ := hR
              obtain ⟨g3, g4⟩ := q7 L g1 g2
              exact ⟨(a, mid, limit, _, ap, L, μ7), ⟨by dsimp only; omega, by dsimp only; omega, by dsimp only; omega, by dsimp only; omega, hs5, g3, hle.trans hle7, fun R h1 h2 => hfin R (g4 R h1 h2).1 (g4 R h1 h2).2⟩, by dsimp only; omega, ⟨⟨rfl, rfl, rfl, rfl, rfl, rfl, trivial⟩, ⟨rfl, trivial⟩, rfl, rfl⟩⟩
      · refine ifd (fun ha0 => ?_) (fun ha0 => ?_)
        · refine num_eq (x := ((a - 1 : Nat) : Int)) (by rw [wrap64 (by omega) (by omega)]; omega) ?_
          refine call_own (H.less hle hs2 (i := a - 1) (j := (b - 1) - (p - a)) (by omega) (by omega)) fun v μ' h' hle' hap hR => ?_
          obtain ⟨rfl, e2, rfl⟩ := hR
          obtain rfl := e2.symm
          clear hle' hap
          have hsz := H.size hs2
          refine if_intro (fun hnl => ?_) (fun hnl => ?_)
          · refine call_own (partitionEqualF_spec H (pivot := (b - 1) - (p - a)) hle hs2 (by omega) (by omega) hb) fun v μ6 h' hle' hap hR => ?_
            obtain ⟨rfl, e1, rfl, hs4⟩ := hR
            obtain rfl := e1.symm
            obtain ⟨mid, d4, hx⟩ : ∃ mid d4, partitionEqual lt d2 a b ((b - 1) - (p - a)) = (mid, d4) := ⟨_, _, rfl⟩
            rw [hx] at hs4 ⊢
            have q := round_eq hO (partitionEqual_holds lt) (by omega) (by omega) (by omega) (by omega) hB (by simpa using hnl) hx
            have qa := q.1
            exact ⟨(mid, b, limit, true, wp, d4, _), ⟨q.2.1, hb, by dsimp only; omega, by dsimp only; omega, hs4, q.2.2.2.1, hle, fun R h1 h2 => hfin R (q.2.2.2.2 R h1 h2).1 (q.2.2.2.2 R h1 h2).2⟩, by dsimp only; omega, ⟨⟨rfl, rfl, rfl, rfl, rfl, rfl, trivial⟩, ⟨rfl, trivial⟩, rfl, rfl⟩⟩
          · refine call_own (partitionF_spec H (pivot := (b - 1) - (p - a)) hle hs2 (by omega) (by omega) hb) fun v μ6 h' hle' hap hR => ?_
            obtain ⟨⟨ap, rfl⟩, e1, rfl, hs4⟩ := hR
            have hsz' := H.size hs2
            obtain rfl := e1.symm
            obtain ⟨mid, ap', d4, hx⟩ : ∃ mid ap' d4, partition lt d2 a b ((b - 1) - (p - a)) = (mid, ap', d4) := ⟨_, _, _, rfl⟩
            rw [hx] at hs4 ⊢
            obtain ⟨q1, q2, q3, q4, q5, q6, q7⟩ := round_part hO (partition_holds lt) (by omega) (by omega) (by omega) hB hx
            refine num_eq (x := ((mid - a : Nat) : Int)) (by rw [wrap64 (by omega) (by omega)]; omega) ?_
            refine num_eq (x := ((b - mid : Nat) : Int)) (by rw [wrap64 (by omega) (by omega)]; omega) ?_
            refine need_intro (by decide) ?_
            refine num_eq (x := (((b - a) / 8 : Nat) : Int)) (by rw [Int.tdiv_eq_ediv_of_nonneg (by omega), wrap64 (by omega) (by omega)]; omega) ?_
            refine ifd (fun hlt => ?_) (fun hlt => ?_)
            · refine call_own (ih a mid (limit) d4 _ (by omega) (by omega) (by omega) hs4 hle (by omega) q4) fun v μ7 h' hle7 hap hR => ?_
              obtain ⟨rfl, L, g1, g2, rfl, hs5⟩ := hR
              obtain ⟨g3, g4⟩ := q6 L g1 g2
              refine num_eq (x := ((mid + 1 : Nat) : Int)) (by rw [wrap64 (by omega) (by omega)]; omega) ?_
              exact ⟨(mid + 1, b, limit, _, ap, L, μ7), ⟨by dsimp only; omega, hb, by dsimp only; omega, by dsimp only; omega, hs5, g3, hle.trans hle7, fun R h1 h2 => hfin R (g4 R h1 h2).1 (g4 R h1 h2).2⟩, by dsimp only; omega, ⟨⟨rfl, rfl, rfl, rfl, rfl, rfl, trivial⟩, ⟨rfl, trivial⟩, rfl, rfl⟩⟩
            · refine num_eq (x := ((mid + 1 : Nat) : Int)) (by rw [wrap64 (by omega) (by omega)]; omega) ?_
              refine call_own (ih (mid + 1) b (limit) d4 _ (by omega) (by omega) (by omega) hs4 hle (by omega) q5) fun v μ7 h' hle7 hap hR => ?_
              obtain ⟨rfl, L, g1, g2, rfl, hs5⟩ := hR
              obtain ⟨g3, g4⟩ := q7 L g1 g2
              exact ⟨(a, mid, limit, _, ap, L, μ7), ⟨by dsimp only; omega, by dsimp only; omega, by dsimp only; omega, by dsimp only; omega, hs5, g3, hle.trans hle7, fun R h1 h2 => hfin R (g4 R h1 h2).1 (g4 R h1 h2).2⟩, by dsimp only; omega, ⟨⟨rfl, rfl, rfl, rfl, rfl, rfl, trivial⟩, ⟨rfl, trivial⟩, rfl, rfl⟩⟩
        · refine call_own (partitionF_spec H (pivot := (b - 1) - (p - a)) hle hs2 (by omega) (by omega) hb) fun v μ6 h' hle' hap hR => ?_
          obtain ⟨⟨ap, rfl⟩, e1, rfl, hs4⟩ := hR
          have hsz' := H.size hs2
          obtain rfl := e1.symm
          obtain ⟨mid, ap', d4, hx⟩ : ∃ mid ap' d4, partition lt d2 a b ((b - 1) - (p - a)) = (mid, ap', d4) := ⟨_, _, _, rfl⟩
          rw [hx] at hs4 ⊢
          obtain ⟨q1, q2, q3, q4, q5, q6, q7⟩ := round_part hO (partition_holds lt) (by omega) (by omega) (by omega) hB hx
          refine num_eq (x := ((mid - a : Nat) : Int)) (by rw [wrap64 (by omega) (by omega)]; omega) ?_
          refine num_eq (x := ((b - mid : Nat) : Int)) (by rw [wrap64 (by omega) (by omega)]; omega) ?_
          refine need_intro (by decide) ?_
          refine num_eq (x := (((b - a) / 8 : Nat) : Int)) (by rw [Int.tdiv_eq_ediv_of_nonneg (by omega), wrap64 (by omega) (by omega)]; omega) ?_
          refine ifd (fun hlt => ?_) (fun hlt => ?_)
          · refine call_own (ih a mid (limit) d4 _ (by omega) (by omega) (by omega) hs4 hle (by omega) q4) fun v μ7 h' hle7 hap hR => ?_
            obtain ⟨rfl, L, g1, g2, rfl, hs5⟩ := hR
            obtain ⟨g3, g4⟩ := q6 L g1 g2
            refine num_eq (x := ((mid + 1 : Nat) : Int)) (by rw [wrap64 (by omega) (by omega)]; omega) ?_
            exact ⟨(mid + 1, b, limit, _, ap, L, μ7), ⟨by dsimp only; omega, hb, by dsimp only; omega, by dsimp only; omega, hs5, g3, hle.trans hle7, fun R h1 h2 => hfin R (g4 R h1 h2).1 (g4 R h1 h2).2⟩, by dsimp only; omega, ⟨⟨rfl, rfl, rfl, rfl, rfl, rfl, trivial⟩, ⟨rfl, trivial⟩, rfl, rfl⟩⟩
          · refine num_eq (x := ((mid + 1 : Nat) : Int)) (by rw [wrap64 (by omega) (by omega)]; omega) ?_
            refine call_own (ih (mid + 1) b (limit) d4 _ (by omega) (by omega) (by omega) hs4 hle (by omega) q5) fun v μ7 h' hle7 hap hR => ?_
            obtain ⟨rfl, L, g1, g2, rfl, hs5⟩ := hR
            obtain ⟨g3, g4⟩ := q7 L g1 g2
            exact ⟨(a, mid, limit, _, ap, L, μ7), ⟨by dsimp only; omega, by dsimp only; omega, by dsimp only; omega, by dsimp only; omega, hs5, g3, hle.trans hle7, fun R h1 h2 => hfin R (g4 R h1 h2).1 (g4 R h1 h2).2⟩, by dsimp only; omega, ⟨⟨rfl, rfl, rfl, rfl, rfl, rfl, trivial⟩, ⟨rfl, trivial⟩, rfl, rfl⟩⟩
    · refine if_intro (fun _ => ?_) (fun h => nomatch h)
      refine if_intro (fun hwp => ?_) (fun hwp => ?_)
      · refine ifd (fun hk1 => ?_) (fun hk1 => ?_)
        · refine call_own (partialInsertionSortF_spec H hle hs1 (by omega) hb) fun v μ5 h' hle' hap hR => ?_
          obtain ⟨rfl, e1, rfl, hs3⟩ := hR
          obtain rfl := e1.symm
          clear hle' hap
          have hsz := H.size hs1
          have q := partialInsertionSort_holds (lt := lt) hO d a b (by omega) (by omega) hB
          refine if_intro (fun hok => ?_) (fun hok => ?_)
          · exact ret_plain ⟨rfl, _, (hfin _ q.1 (q.2 hok)).1, (hfin _ q.1 (q.2 hok)).2, rfl, hs3⟩
          · have q1 := q.1
            clear q hok
            generalize (partialInsertionSort lt d a b).1 = d3 at *
            replace hB := hB.perm (by omega) q1
            replace hfin := fun R h1 h2 => hfin R (permIn_trans _ _ _ _ _ q1 h1) h2
            clear q1 hsz
            refine ifd (fun ha0 => ?_) (fun ha0 => ?_)
            · refine num_eq (x := ((a - 1 : Nat) : Int)) (by rw [wrap64 (by omega) (by omega)]; omega) ?_
              refine call_own (H.less hle hs3 (i := a - 1) (j := p) (by omega) (by omega)) fun v μ' h' hle' hap hR => ?_
              obtain ⟨rfl, e2, rfl⟩ := hR
              obtain rfl := e2.symm
              clear hle' hap
              have hsz := H.size hs3
              refine if_intro (fun hnl => ?_) (fun hnl => ?_)
              · refine call_own (partitionEqualF_spec H (pivot := p) hle hs3 (by omega) (by omega) hb) fun v μ6 h' hle' hap hR => ?_
                obtain ⟨rfl, e1, rfl, hs4⟩ := hR
                obtain rfl := e1.symm
                obtain ⟨mid, d4, hx⟩ : ∃ mid d4, partitionEqual lt d3 a b (p) = (mid, d4) := ⟨_, _, rfl⟩
                rw [hx] at hs4 ⊢
                have q := round_eq hO (partitionEqual_holds lt) (by omega) (by omega) (by omega) (by omega) hB (by simpa using hnl) hx
                have qa := q.1
                exact ⟨(mid, b, limit, true, wp, d4, _), ⟨q.2.1, hb, by dsimp only; omega, by dsimp only; omega, hs4, q.2.2.2.1, hle, fun R h1 h2 => hfin R (q.2.2.2.2 R h1 h2).1 (q.2.2.2.2 R h1 h2).2⟩, by dsimp only; omega, ⟨⟨rfl, rfl, rfl, rfl, rfl, rfl, trivial⟩, ⟨rfl, trivial⟩, rfl, rfl⟩⟩
              · refine call_own (partitionF_spec H (pivot := p) hle hs3 (by omega) (by omega) hb) fun v μ6 h' hle' hap hR => ?_
                obtain ⟨⟨ap, rfl⟩, e1, rfl, hs4⟩ := hR
                have hsz' := H.size hs3
                obtain rfl := e1.symm
                obtain ⟨mid, ap', d4, hx⟩ : ∃ mid ap' d4, partition lt d3 a b (p) = (mid, ap', d4) := ⟨_, _, _, rfl⟩
                rw [hx] at hs4 ⊢
                obtain ⟨q1, q2, q3, q4, q5, q6, q7⟩ := round_part hO (partition_holds lt) (by omega) (by omega) (by omega) hB hx
                refine num_eq (x := ((mid - a : Nat) : Int)) (by rw [wrap64 (by omega) (by omega)]; omega) ?_
                refine num_eq (x := ((b - mid : Nat) : Int)) (by rw [wrap64 (by omega) (by omega)]; omega) ?_
                refine need_intro (by decide) ?_
                refine num_eq (x := (((b - a) / 8 : Nat) : Int)) (by rw [Int.tdiv_eq_ediv_of_nonneg (by omega), wrap64 (by omega) (by omega)]; omega) ?_
                refine ifd (fun hlt => ?_) (fun hlt => ?_)
                · refine call_own (ih a mid (limit) d4 _ (by omega) (by omega) (by omega) hs4 hle (by omega) q4) fun v μ7 h' hle7 hap hR => ?_
                  obtain ⟨rfl, L, g1, g2, rfl, hs5⟩ := hR
                  obtain ⟨g3, g4⟩ := q6 L g1 g2
                  refine num_eq (x := ((mid + 1 : Nat) : Int)) (by rw [wrap64 (by omega) (by omega)]; omega) ?_
                  exact ⟨(mid + 1, b, limit, _, ap, L, μ7), ⟨by dsimp only; omega, hb, by dsimp only; omega, by dsimp only; omega, hs5, g3, hle.trans hle7, fun R h1 h2 => hfin R (g4 R h1 h2).1 (g4 R h1 h2).2⟩, by dsimp only; omega, ⟨⟨rfl, rfl, rfl, rfl, rfl, rfl, trivial⟩, ⟨rfl, trivial⟩, rfl, rfl⟩⟩
                · refine num_eq (x := ((mid + 1 : Nat) : Int)) (by rw [wrap64 (by omega) (by omega)]; omega) ?_
                  refine call_own (ih (mid + 1) b (limit) d4 _ (by omega) (by omega) (by omega) hs4 hle (by omega) q5) fun v μ7 h' hle7 hap hR => ?_
                  obtain ⟨rfl, L, g1, g2, rfl, hs5⟩ := hR
                  obtain ⟨g3, g4⟩ := q7 L g1 g2
                  exact ⟨(a, mid, limit, _, ap, L, μ7), ⟨by dsimp only; omega, by dsimp only; omega, by dsimp only; omega, by dsimp only; omega, hs5, g3, hle.trans hle7, fun R h1 h2 => hfin R (g4 R h1 h2).1 (g4 R h1 h2).2⟩, by dsimp only; omega, ⟨⟨rfl, rfl, rfl, rfl, rfl, rfl, trivial⟩, ⟨rfl, trivial⟩, rfl, rfl⟩⟩
            · refine call_own (partitionF_spec H (pivot := p) hle hs3 (by omega) (by omega) hb) fun v μ6 h' hle' hap hR => ?_
              obtain ⟨⟨ap, rfl⟩, e1, rfl, hs4⟩ := hR
              have hsz' := H.size hs3
              obtain rfl := e1.symm
              obtain ⟨mid, ap', d4, hx⟩ : ∃ mid ap' d4, partition lt d3 a b (p) = (mid, ap', d4) := ⟨_, _, _, rfl⟩
              rw [hx] at hs4 ⊢
              obtain ⟨q1, q2, q3, q4, q5, q6, q7⟩ := round_part hO (partition_holds lt) (by omega) (by omega) (by omega) hB hx
              refine num_eq (x := ((mid - a : Nat) : Int)) (by rw [wrap64 (by omega) (by omega)]; omega) ?_
              refine num_eq (x := ((b - mid : Nat) : Int)) (by rw [wrap64 (by omega) (by omega)]; omega) ?_
              refine need_intro (by decide) ?_
              refine num_eq (x := (((b - a) / 8 : Nat) : Int)) (by rw [Int.tdiv_eq_ediv_of_nonneg (by omega), wrap64 (by omega) (by omega)]; omega) ?_
              refine ifd (fun hlt => ?_) (fun hlt => ?_)
              · refine call_own (ih a mid (limit) d4 _ (by omega) (by omega) (by omega) hs4 hle (by omega) q4) fun v μ7 h' hle7 hap hR => ?_
                obtain ⟨rfl, L, g1, g2, rfl, hs5⟩ := hR
                obtain ⟨g3, g4⟩ := q6 L g1 g2
                refine num_eq (x := ((mid + 1 : Nat) : Int)) (by rw [wrap64 (by omega) (by omega)]; omega) ?_
                exact ⟨(mid + 1, b, limit, _, ap, L, μ7), ⟨by dsimp only; omega, hb, by dsimp only; omega, by dsimp only; omega, hs5, g3, hle.trans hle7, fun R h1 h2 => hfin R (g4 R h1 h2).1 (g4 R h1 h2).2⟩, by dsimp only; omega, ⟨⟨rfl, rfl, rfl, rfl, rfl, rfl, trivial⟩, ⟨rfl, trivial⟩, rfl, rfl⟩⟩
              · refine num_eq (x := ((mid + 1 : Nat) : Int)) (by rw [wrap64 (by omega) (by omega)]; omega) ?_
                refine call_own (ih (mid + 1) b (limit) d4 _ (by omega) (by omega) (by omega) hs4 hle (by omega) q5) fun v μ7 h' hle7 hap hR => ?_
                obtain ⟨rfl, L, g1, g2, rfl, hs5⟩ := hR
                obtain ⟨g3, g4⟩ := q7 L g1 g2
                exact ⟨(a, mid, limit, _, ap, L, μ7), ⟨by dsimp only; omega, by dsimp only; omega, by dsimp only; omega, by dsimp only; omega, hs5, g3, hle.trans hle7, fun R h1 h2 => hfin R (g4 R h1 h2).1 (g4 R h1 h2).2⟩, by dsimp only; omega, ⟨⟨rfl, rfl, rfl, rfl, rfl, rfl, trivial⟩, ⟨rfl, trivial⟩, rfl, rfl⟩⟩
        · refine ifd (fun ha0 => ?_) (fun ha0 => ?_)
          · refine num_eq (x := ((a - 1 : Nat) : Int)) (by rw [wrap64 (by omega) (by omega)]; omega) ?_
            refine call_own (H.less hle hs1 (i := a - 1) (j := p) (by omega) (by omega)) fun v μ' h' hle' hap hR => ?_
            obtain ⟨rfl, e2, rfl⟩ := hR
            obtain rfl := e2.symm
            clear hle' hap
            have hsz := H.size hs1
            refine if_intro (fun hnl => ?_) (fun hnl => ?_)
            · refine call_own (partitionEqualF_spec H (pivot := p) hle hs1 (by omega) (by omega) hb) fun v μ6 h' hle' hap hR => ?_
              obtain ⟨rfl, e1, rfl, hs4⟩ := hR
              obtain rfl := e1.symm
              obtain ⟨mid, d4, hx⟩ : ∃ mid d4, partitionEqual lt d a b (p) = (mid, d4) := ⟨_, _, rfl⟩
              rw [hx] at hs4 ⊢
              have q := round_eq hO (partitionEqual_holds lt) (by omega) (by omega) (by omega) (by omega) hB (by simpa using hnl) hx
              have qa := q.1
              exact ⟨(mid, b, limit, true, wp, d4, _), ⟨q.2.1, hb, by dsimp only; omega, by dsimp only; omega, hs4, q.2.2.2.1, hle, fun R h1 h2 => hfin R (q.2.2.2.2 R h1 h2).1 (q.2.2.2.2 R h1 h2).2⟩, by dsimp only; omega, ⟨⟨rfl, rfl, rfl, rfl, rfl, rfl, trivial⟩, ⟨rfl, trivial⟩, rfl, rfl⟩⟩
            · refine call_own (partitionF_spec H (pivot := p) hle hs1 (by omega) (by omega) hb) fun v μ6 h' hle' hap hR => ?_
              obtain ⟨⟨ap, rfl⟩, e1, rfl, hs4⟩ := hR
              have hsz' := H.size hs1
              obtain rfl := e1.symm
              obtain ⟨mid, ap', d4, hx⟩ : ∃ mid ap' d4, partition lt d a b (p) = (mid, ap', d4) := ⟨_, _, _, rfl⟩
              rw [hx] at hs4 ⊢
              obtain ⟨q1, q2, q3, q4, q5, q6, q7⟩ := round_part hO (partition_holds lt) (by omega) (by omega) (by omega) hB hx
              refine num_eq (x := ((mid - a : Nat) : Int)) (by rw [wrap64 (by omega) (by omega)]; omega) ?_
              refine num_eq (x := ((b - mid : Nat) : Int)) (by rw [wrap64 (by omega) (by omega)]; omega) ?_
              refine need_intro (by decide) ?_
              refine num_eq (x := (((b - a) / 8 : Nat) : Int)) (by rw [Int.tdiv_eq_ediv_of_nonneg (by omega), wrap64 (by omega) (by omega)]; omega) ?_
              refine ifd (fun hlt => ?_) (fun hlt => ?_)
              · refine call_own (ih a mid (limit) d4 _ (by omega) (by omega) (by omega) hs4 hle (by omega) q4) fun v μ7 h' hle7 hap hR => ?_
                obtain ⟨rfl, L, g1, g2, rfl, hs5⟩ := hR
                obtain ⟨g3, g4⟩ := q6 L g1 g2
                refine num_eq (x := ((mid + 1 : Nat) : Int)) (by rw [wrap64 (by omega) (by omega)]; omega) ?_
                exact ⟨(mid + 1, b, limit, _, ap, L, μ7), ⟨by dsimp only; omega, hb, by dsimp only; omega, by dsimp only; omega, hs5, g3, hle.trans hle7, fun R h1 h2 => hfin R (g4 R h1 h2).1 (g4 R h1 h2).2⟩, by dsimp only; omega, ⟨⟨rfl, rfl, rfl, rfl, rfl, rfl, trivial⟩, ⟨rfl, trivial⟩, rfl, rfl⟩⟩
              · refine num_eq (x := ((mid + 1 : Nat) : Int)) (by rw [wrap64 (by omega) (by omega)]; omega) ?_
                refine call_own (ih (mid + 1) b (limit) d4 _ (by omega) (by omega) (by omega) hs4 hle (by omega) q5) fun v μ7 h' hle7 hap hR => ?_
                obtain ⟨rfl, L, g1, g2, rfl, hs5⟩ := hR
                obtain ⟨g3, g4⟩ := q7 L g1 g2
                exact ⟨(a, mid, limit, _, ap, L, μ7), ⟨by dsimp only; omega, by dsimp only; omega, by dsimp only; omega, by dsimp only; omega, hs5, g3, hle.trans hle7, fun R h1 h2 => hfin R (g4 R h1 h2).1 (g4 R h1 h2).2⟩, by dsimp only; omega, ⟨⟨rfl, rfl, rfl, rfl, rfl, rfl, trivial⟩, ⟨rfl, trivial⟩, rfl, rfl⟩⟩
          · refine call_own (partitionF_spec H (pivot := p) hle hs1 (by omega) (by omega) hb) fun v μ6 h' hle' hap hR => ?_
            obtain ⟨⟨ap, rfl⟩, e1, rfl, hs4⟩ := hR
            have hsz' := H.size hs1
            obtain rfl := e1.symm
            obtain ⟨mid, ap', d4, hx⟩ : ∃ mid ap' d4, partition lt d a b (p) = (mid, ap', d4) := ⟨_, _, _, rfl⟩
            rw [hx] at hs4 ⊢
            obtain ⟨q1, q2, q3, q4, q5, q6, q7⟩ := round_part hO (partition_holds lt) (by omega) (by omega) (by omega) hB hx
            refine num_eq (x := ((mid - a : Nat) : Int)) (by rw [wrap64 (by omega) (by omega)]; omega) ?_
            refine num_eq (x := ((b - mid : Nat) : Int)) (by rw [wrap64 (by omega) (by omega)]; omega) ?_
            refine need_intro (by decide) ?_
            refine num_eq (x := (((b - a) / 8 : Nat) : Int)) (by rw [Int.tdiv_eq_ediv_of_nonneg (by omega), wrap64 (by omega) (by omega)]; omega) ?_
            refine ifd (fun hlt => ?_) (fun hlt => ?_)
            · refine call_own (ih a mid (limit) d4 _ (by omega) (by omega) (by omega) hs4 hle (by omega) q4) fun v μ7 h' hle7 hap hR => ?_
              obtain ⟨rfl, L, g1, g2, rfl, hs5⟩ := hR
              obtain ⟨g3, g4⟩ := q6 L g1 g2
              refine num_eq (x := ((mid + 1 : Nat) : Int)) (by rw [wrap64 (by omega) (by omega)]; omega) ?_
              exact ⟨(mid + 1, b, limit, _, ap, L, μ7), ⟨by dsimp only; omega, hb, by dsimp only; omega, by dsimp only; omega, hs5, g3, hle.trans hle7, fun R h1 h2 => hfin R (g4 R h1 h2).1 (g4 R h1 h2).2⟩, by dsimp only; omega, ⟨⟨rfl, rfl, rfl, rfl, rfl, rfl, trivial⟩, ⟨rfl, trivial⟩, rfl, rfl⟩⟩
            · refine num_eq (x := ((mid + 1 : Nat) : Int)) (by rw [wrap64 (by omega) (by omega)]; omega) ?_
              refine call_own (ih (mid + 1) b (limit) d4 _ (by omega) (by omega) (by omega) hs4 hle (by omega) q5) fun v μ7 h' hle7 hap hR => ?_
              obtain ⟨rfl, L, g1, g2, rfl, hs5⟩ := hR
              obtain ⟨g3, g4⟩ := q7 L g1 g2
              exact ⟨(a, mid, limit, _, ap, L, μ7), ⟨by dsimp only; omega, by dsimp only; omega, by dsimp only; omega, by dsimp only; omega, hs5, g3, hle.trans hle7, fun R h1 h2 => hfin R (g4 R h1 h2).1 (g4 R h1 h2).2⟩, by dsimp only; omega, ⟨⟨rfl, rfl, rfl, rfl, rfl, rfl, trivial⟩, ⟨rfl, trivial⟩, rfl, rfl⟩⟩
      · refine ifd (fun ha0 => ?_) (fun ha0 => ?_)
        · refine num_eq (x := ((a - 1 : Nat) : Int)) (by rw [wrap64 (by omega) (by omega)]; omega) ?_
          refine call_own (H.less hle hs1 (i := a - 1) (j := p) (by omega) (by omega)) fun v μ' h' hle' hap hR => ?_
          obtain ⟨rfl, e2, rfl⟩ := hR
          obtain rfl := e2.symm
          clear hle' hap
          have hsz := H.size hs1
          refine if_intro (fun hnl => ?_) (fun hnl => ?_)
          · refine call_own (partitionEqualF_spec H (pivot := p) hle hs1 (by omega) (by omega) hb) fun v μ6 h' hle' hap hR => ?_
            obtain ⟨rfl, e1, rfl, hs4⟩ := hR
            obtain rfl := e1.symm
            obtain ⟨mid, d4, hx⟩ : ∃ mid d4, partitionEqual lt d a b (p) = (mid, d4) := ⟨_, _, rfl⟩
            rw [hx] at hs4 ⊢
            have q := round_eq hO (partitionEqual_holds lt) (by omega) (by omega) (by omega) (by omega) hB (by simpa using hnl) hx
            have qa := q.1
            exact ⟨(mid, b, limit, true, wp, d4, _), ⟨q.2.1, hb, by dsimp only; omega, by dsimp only; omega, hs4, q.2.2.2.1, hle, fun R h1 h2 => hfin R (q.2.2.2.2 R h1 h2).1 (q.2.2.2.2 R h1 h2).2⟩, by dsimp only; omega, ⟨⟨rfl, rfl, rfl, rfl, rfl, rfl, trivial⟩, ⟨rfl, trivial⟩, rfl, rfl⟩⟩
          · refine call_own (partitionF_spec H (pivot := p) hle hs1 (by omega) (by omega) hb) fun v μ6 h' hle' hap hR => ?_
            obtain ⟨⟨ap, rfl⟩, e1, rfl, hs4⟩ := hR
            have hsz' := H.size hs1
            obtain rfl := e1.symm
            obtain ⟨mid, ap', d4, hx⟩ : ∃ mid ap' d4, partition lt d a b (p) = (mid, ap', d4) := ⟨_, _, _, rfl⟩
            rw [hx] at hs4 ⊢
            obtain ⟨q1, q2, q3, q4, q5, q6, q7⟩ := round_part hO (partition_holds lt) (by omega) (by omega) (by omega) hB hx
            refine num_eq (x := ((mid - a : Nat) : Int)) (by rw [wrap64 (by omega) (by omega)]; omega) ?_
            refine num_eq (x := ((b - mid : Nat) : Int)) (by rw [wrap64 (by omega) (by omega)]; omega) ?_
            refine need_intro (by decide) ?_
            refine num_eq (x := (((b - a) / 8 : Nat) : Int)) (by rw [Int.tdiv_eq_ediv_of_nonneg (by omega), wrap64 (by omega) (by omega)]; omega) ?_
            refine ifd (fun hlt => ?_) (fun hlt => ?_)
            · refine call_own (ih a mid (limit) d4 _ (by omega) (by omega) (by omega) hs4 hle (by omega) q4) fun v μ7 h' hle7 hap hR => ?_
              obtain ⟨rfl, L, g1, g2, rfl, hs5⟩ := hR
              obtain ⟨g3, g4⟩ := q6 L g1 g2
              refine num_eq (x := ((mid + 1 : Nat) : Int)) (by rw [wrap64 (by omega) (by omega)]; omega) ?_
              exact ⟨(mid + 1, b, limit, _, ap, L, μ7), ⟨by dsimp only; omega, hb, by dsimp only; omega, by dsimp only; omega, hs5, g3, hle.trans hle7, fun R h1 h2 => hfin R (g4 R h1 h2).1 (g4 R h1 h2).2⟩, by dsimp only; omega, ⟨⟨rfl, rfl, rfl, rfl, rfl, rfl, trivial⟩, ⟨rfl, trivial⟩, rfl, rfl⟩⟩
            · refine num_eq (x := ((mid + 1 : Nat) : Int)) (by rw [wrap64 (by omega) (by omega)]; omega) ?_
              refine call_own (ih (mid + 1) b (limit) d4 _ (by omega) (by omega) (by omega) hs4 hle (by omega) q5) fun v μ7 h' hle7 hap hR => ?_
              obtain ⟨rfl, L, g1, g2, rfl, hs5⟩ := hR
              obtain ⟨g3, g4⟩ := q7 L g1 g2
              exact ⟨(a, mid, limit, _, ap, L, μ7), ⟨by dsimp only; omega, by dsimp only; omega, by dsimp only; omega, by dsimp only; omega, hs5, g3, hle.trans hle7, fun R h1 h2 => hfin R (g4 R h1 h2).1 (g4 R h1 h2).2⟩, by dsimp only; omega, ⟨⟨rfl, rfl, rfl, rfl, rfl, rfl, trivial⟩, ⟨rfl, trivial⟩, rfl, rfl⟩⟩
        · refine call_own (partitionF_spec H (pivot := p) hle hs1 (by omega) (by omega) hb) fun v μ6 h' hle' hap hR => ?_
          obtain ⟨⟨ap, rfl⟩, e1, rfl, hs4⟩ := hR
          have hsz' := H.size hs1
          obtain rfl := e1.symm
          obtain ⟨mid, ap', d4, hx⟩ : ∃ mid ap' d4, partition lt d a b (p) = (mid, ap', d4) := ⟨_, _, _, rfl⟩
          rw [hx] at hs4 ⊢
          obtain ⟨q1, q2, q3, q4, q5, q6, q7⟩ := round_part hO (partition_holds lt) (by omega) (by omega) (by omega) hB hx
          refine num_eq (x := ((mid - a : Nat) : Int)) (by rw [wrap64 (by omega) (by omega)]; omega) ?_
          refine num_eq (x := ((b - mid : Nat) : Int)) (by rw [wrap64 (by omega) (by omega)]; omega) ?_
          refine need_intro (by decide) ?_
          refine num_eq (x := (((b - a) / 8 : Nat) : Int)) (by rw [Int.tdiv_eq_ediv_of_nonneg (by omega), wrap64 (by omega) (by omega)]; omega) ?_
          refine ifd (fun hlt => ?_) (fun hlt => ?_)
          · refine call_own (ih a mid (limit) d4 _ (by omega) (by omega) (by omega) hs4 hle (by omega) q4) fun v μ7 h' hle7 hap hR => ?_
            obtain ⟨rfl, L, g1, g2, rfl, hs5⟩ := hR
            obtain ⟨g3, g4⟩ := q6 L g1 g2
            refine num_eq (x := ((mid + 1 : Nat) : Int)) (by rw [wrap64 (by omega) (by omega)]; omega) ?_
            exact ⟨(mid + 1, b, limit, _, ap, L, μ7), ⟨by dsimp only; omega, hb, by dsimp only; omega, by dsimp only; omega, hs5, g3, hle.trans hle7, fun R h1 h2 => hfin R (g4 R h1 h2).1 (g4 R h1 h2).2⟩, by dsimp only; omega, ⟨⟨rfl, rfl, rfl, rfl, rfl, rfl, trivial⟩, ⟨rfl, trivial⟩, rfl, rfl⟩⟩
          · refine num_eq (x := ((mid + 1 : Nat) : Int)) (by rw [wrap64 (by omega) (by omega)]; omega) ?_
            refine call_own (ih (mid + 1) b (limit) d4 _ (by omega) (by omega) (by omega) hs4 hle (by omega) q5) fun v μ7 h' hle7 hap hR => ?_
            obtain ⟨rfl, L, g1, g2, rfl, hs5⟩ := hR
            obtain ⟨g3, g4⟩ := q7 L g1 g2
            exact ⟨(a, mid, limit, _, ap, L, μ7), ⟨by dsimp only; omega, by dsimp only; omega, by dsimp only; omega, by dsimp only; omega, hs5, g3, hle.trans hle7, fun R h1 h2 => hfin R (g4 R h1 h2).1 (g4 R h1 h2).2⟩, by dsimp only; omega, ⟨⟨rfl, rfl, rfl, rfl, rfl, rfl, trivial⟩, ⟨rfl, trivial⟩, rfl, rfl⟩⟩
end
end Go.Vx

/- Contracts: what sort.Slice asks of package reflectlite; rows in owned memory that are changed about by it. -/
namespace Go.Vx
open Go.Proofs Classical
open Go.Sort
open Go.Extern Go.Extern.Rtype Go.RowKit Go.Lib
section
variable {P : Program} {f : FuncId} {args : List Value} {μ h0 : Mem}
/-- A function that answers at once. -/
theorem SpecH.ext {R : Value → Mem → Mem → Prop} (h : ∀ w, Holds μ w → Holds h0 w → Apart μ h0 → ∃ v w' μ' h', (callFunc f args.toArray).run P w = .ok (.value v) w' ∧ R v μ' h' ∧ Step μ h0 w μ' h' w') : SpecH P f args μ h0 R :=
  ⟨trivial, fun w h1 h2 h3 => by
    obtain ⟨v, w', μ', h', e, hr, hS⟩ := h w h1 h2 h3
    exact .inr ⟨v, w', e, v, μ', h', rfl, hr, hS⟩⟩
theorem Step.same {w : World} (h1 : Holds μ w) (h2 : Holds h0 w) (h3 : Apart μ h0) : Step μ h0 w μ h0 w :=
  ⟨Mem.Le.refl _, h1, h2, h3, fun b h h' => absurd h h', fun b h => .inr h, Nat.le_refl _, fun _ _ _ => rfl, rfl, rfl, rfl⟩
/-- A row of its own is written over. -/
theorem Step.row {w : World} {r : Nat} {cs cs' : Array Value} {ty : TypeId} (h1 : Holds μ w) (h2 : Holds h0 w) (h3 : Apart μ h0) (hr : h0 r = some (.cells cs ty (0, 0))) : Step μ h0 w μ (h0.set r (.cells cs' ty (0, 0))) (w.setRow r cs') := by
  have hne : ∀ b, μ b ≠ none → b ≠ r := fun b hb e => by
    subst e; rw [h3 b hb] at hr; cases hr
  have hg : w.heap[r]? = some (.cells cs ty (0, 0)) := h2 _ _ hr
  refine ⟨Mem.Le.refl _, fun b o hb => ?_, fun b o hb => ?_, fun b hb => ?_, fun b h h' => absurd h h', fun b h => ?_, by simp, fun b _ hb => setRow_other w r b _ fun e => ?_, rfl, rfl, rfl⟩
  · rw [setRow_other w r b _ (hne b (by simp [hb]))]; exact h1 b o hb
  · rw [Mem.set_get] at hb
    split at hb
    · rename_i e; subst e; cases hb; rw [setRow_heap w b _ _ ty (0, 0) hg]
    · rename_i e; rw [setRow_other w r b _ e]; exact h2 b o hb
  · rw [Mem.set_ne (hne b hb)]; exact h3 b hb
  · by_cases e : b = r
    · subst e; exact .inr (by rw [hr]; simp)
    · rw [Mem.set_ne e] at h; exact .inr h
  · subst e; rw [hr] at hb; cases hb
/-- A new block. -/
theorem Step.alloc {w : World} {o : Obj} (h1 : Holds μ w) (h2 : Holds h0 w) (h3 : Apart μ h0) : Step μ h0 w (μ.set w.heap.size o) h0 (w.alloc o) ∧ μ w.heap.size = none := by
  have hlt : ∀ b o, w.heap[b]? = some o → b < w.heap.size := fun b o h => (Array.getElem?_eq_some_iff.1 h).1
  have hm : μ w.heap.size = none := by
    cases e : μ w.heap.size with
    | none => rfl
    | some o => have := hlt _ _ (h1 _ _ e); omega
  have hh : h0 w.heap.size = none := by
    cases e : h0 w.heap.size with
    | none => rfl
    | some o => have := hlt _ _ (h2 _ _ e); omega
  have hk : ∀ b, b < w.heap.size → (w.alloc o).heap[b]? = w.heap[b]? := fun b hb => by
    show (w.heap.push o)[b]? = _
    rw [Array.getElem?_push, if_neg (by omega)]
  refine ⟨⟨fun b x hb => ?_, fun b x hb => ?_, fun b x hb => ?_, fun b hb => ?_, fun b h h' => ?_, fun b h => .inr h, by show w.heap.size ≤ (w.heap.push o).size; simp, fun b hb _ => hk b hb, rfl, rfl, rfl⟩, hm⟩
  · rw [Mem.set_ne (fun e => by subst e; rw [hm] at hb; cases hb)]; exact hb
  · rw [Mem.set_get] at hb
    split at hb
    · rename_i e; subst e; cases hb; show (w.heap.push o)[w.heap.size]? = some o; simp
    · rw [hk b (hlt _ _ (h1 _ _ hb))]; exact h1 _ _ hb
  · rw [hk b (hlt _ _ (h2 _ _ hb))]; exact h2 _ _ hb
  · rw [Mem.set_get] at hb
    split at hb
    · rename_i e; subst e; exact hh
    · exact h3 b hb
  · rw [Mem.set_get] at h'
    split at h'
    · rename_i e; subst e; exact .inl (Nat.le_refl _)
    · exact absurd h h'
end
/-- What the model is told of a slice type. -/
structure SlTy (t e : TypeId) (i ie : TypeInfo) (ke : Nat) : Prop where
  hi : Try.prog.info? t = some i
  hd : i.desc = .slice e
  pk : Try.prog.packed t = false
  hie : Try.prog.info? e = some ie
  hke : ∀ w, (Extern.Rtype.kind e).run Try.prog w = .ok ke w
  h9 : swapperK 2 ie ke = 9
theorem SlTy.nine {t e : TypeId} {i ie : TypeInfo} {ke : Nat} (T : SlTy t e i ie ke) {n : Nat} (h : 2 ≤ n) : swapperK n ie ke = 9 := by
  rw [← T.h9]
  unfold swapperK
  have h0 : (n == 0) = false := by simp; omega
  have h1 : (n == 1) = false := by simp; omega
  have h2 : ((2 : Nat) == 0) = false := rfl
  have h3 : ((2 : Nat) == 1) = false := rfl
  simp only [h0, h1, h2, h3]
section
variable {μ : Mem}
theorem valueOf_spec {t e : TypeId} {i ie : TypeInfo} {ke : Nat} (T : SlTy t e i ie ke) (p : Option Addr) (n c : Nat) : Spec Try.prog 130 [.iface t (.slice p n c)] μ fun v μ' => ∃ r, v = .agg #[typeHandle Try.prog t, .pointer (some ⟨r, 0, none⟩), .int .u64 151] ∧ μ' r = some (.cells #[.slice p n c] t (0, 0)) := by
  refine SpecH.ext fun w h1 h2 h3 => ?_
  have hv := run_valueOf_slice (P := Try.prog) t e i T.hi T.hd p n c w
  refine ⟨_, _, _, _, ?_, ⟨w.heap.size, rfl, Mem.set_at _ _ _⟩, (Step.alloc h1 h2 h3).1⟩
  rw [run_callFunc_extern Try.func130 (by kernel_rfl) (by kernel_rfl) (by kernel_rfl) (e := fun args => Extern.ReflectliteValue.unpack (args.getD 0 (.tuple #[]))) (by kernel_rfl),
    show Sem.run Try.prog ((fun args : Array Value => Extern.ReflectliteValue.unpack (args.getD 0 (.tuple #[]))) #[.iface t (.slice p n c)]) w = _ from hv]
  rfl
theorem valueLen_spec {t e : TypeId} {i ie : TypeInfo} {ke : Nat} (T : SlTy t e i ie ke) {p : Option Addr} {n c r : Nat} (hr : μ r = some (.cells #[.slice p n c] t (0, 0))) : Gives Try.prog 133 [.agg #[typeHandle Try.prog t, .pointer (some ⟨r, 0, none⟩), .int .u64 151]] μ (.int .i64 n) := by
  refine SpecH.ext fun w h1 h2 h3 => ?_
  have hc : w.cell? ⟨r, 0, none⟩ = some (.slice p n c) := by simp [World.cell?, h1 _ _ hr]
  have hl := run_valueLen_slice (P := Try.prog) t e i T.hi T.hd T.pk ⟨r, 0, none⟩ p n c w hc
  refine ⟨_, _, _, _, ?_, ⟨rfl, rfl⟩, Step.same h1 h2 h3⟩
  rw [run_callFunc_extern Try.func133 (by kernel_rfl) (by kernel_rfl) (by kernel_rfl) (e := Extern.ReflectliteValue.method (Extern.ReflectliteValue.valueError "reflectlite.Value.Len" 0) Extern.ReflectliteValue.len) (by kernel_rfl), hl]
  rfl
theorem swapper_spec {t e : TypeId} {i ie : TypeInfo} {ke : Nat} (T : SlTy t e i ie ke) (p : Option Addr) {n : Nat} (c : Nat) : ∃ (k : FuncId) (bs : List Value), (2 ≤ n → k = 190 ∧ bs = [.slice p n c, typeHandle Try.prog e]) ∧ Gives Try.prog 131 [.iface t (.slice p n c)] μ (.func (.func k) #[] bs.toArray) := by
  have go : ∀ (f : Nat) (bs : List Value), Try.prog.funcs.findIdx? (·.name == "internal/reflectlite" ++ ".Swapper$" ++ toString (swapperK n ie ke)) = some f → (if swapperK n ie ke ≤ 2 then (#[] : Array Value) else #[.slice p n c, typeHandle Try.prog e]) = bs.toArray →
      Gives Try.prog 131 [.iface t (.slice p n c)] μ (.func (.func f) #[] bs.toArray) := fun f bs hf hbs => by
    refine SpecH.ext fun w h1 h2 h3 => ?_
    have hs := run_swapper_slice (P := Try.prog) t e i ie T.hi T.hd T.hie ke T.hke p n c f hf w
    rw [hbs] at hs
    refine ⟨_, _, _, _, ?_, ⟨rfl, rfl⟩, Step.same h1 h2 h3⟩
    rw [run_callFunc_extern Try.func131 (by kernel_rfl) (by kernel_rfl) (by kernel_rfl) (e := Extern.ReflectliteSwapper.swapper "internal/reflectlite" (Extern.ReflectliteValue.valueError "Swapper")) (by kernel_rfl), hs]
    rfl
  by_cases h2 : 2 ≤ n
  · refine ⟨190, [.slice p n c, typeHandle Try.prog e], fun _ => ⟨rfl, rfl⟩, go _ _ ?_ ?_⟩
    · rw [T.nine h2]; kernel_rfl
    · rw [T.nine h2]; rfl
  · by_cases h0 : n = 0
    · subst h0
      refine ⟨182, [], fun h => by omega, go _ _ ?_ ?_⟩
      · have : swapperK 0 ie ke = 1 := rfl
        have e : Try.prog.funcs.findIdx? (·.name == "internal/reflectlite" ++ ".Swapper$" ++ toString (1 : Nat)) = some 182 := by kernel_rfl
        rw [this]; exact e
      · rfl
    · obtain rfl : n = 1 := by omega
      refine ⟨183, [], fun h => by omega, go _ _ ?_ ?_⟩
      · have : swapperK 1 ie ke = 2 := rfl
        have e : Try.prog.funcs.findIdx? (·.name == "internal/reflectlite" ++ ".Swapper$" ++ toString (2 : Nat)) = some 183 := by kernel_rfl
        rw [this]; exact e
      · rfl
end
end Go.Vx

/- Contracts: sort.Slice over a row in owned memory. -/
namespace Go.Vx
open Go.Proofs Classical
open Go.Sort
open Go.Extern Go.Extern.Rtype Go.RowKit Go.Lib
/-- A row in owned memory: its elements' cells, then the rest of its block. -/
def RowV (h0 : Mem) (r : Nat) (ty : TypeId) (rest : List Value) (d : Array Value) : Mem := h0.set r (.cells (List.toArray (d.toList.flatMap vcells ++ rest)) ty (0, 0))
/-- Elements of es cells. -/
def Els (es : Nat) (d : Array Value) : Prop := ∀ x ∈ d.toList, (vcells x).length = es ∧ ∀ u ∈ vcells x, u.oneCell' = true
theorem flat_put {es : Nat} : ∀ {l : List Value}, (∀ y ∈ l, (vcells y).length = es) → ∀ {i : Nat}, i < l.length → ∀ {y : Value}, (vcells y).length = es → ∀ rest : List Value,
    (l.flatMap vcells ++ rest).take (i * es) ++ vcells y ++ (l.flatMap vcells ++ rest).drop (i * es + es) = (l.set i y).flatMap vcells ++ rest
  | [], _, i, hi, _, _, _ => by simp at hi
  | z :: r, hl, 0, _, y, hy, rest => by
    have hz := hl z (by simp)
    simp only [Nat.zero_mul, List.take_zero, List.nil_append, Nat.zero_add, List.set_cons_zero, List.flatMap_cons, List.append_assoc]
    rw [← hz, List.drop_left]
  | z :: r, hl, i + 1, hi, y, hy, rest => by
    have hz := hl z (by simp)
    have ih := flat_put (l := r) (fun y h => hl y (List.mem_cons_of_mem _ h)) (i := i) (by simpa using hi) hy rest
    simp only [List.set_cons_succ, List.flatMap_cons, List.append_assoc] at ih ⊢
    have e1 : (i + 1) * es = (vcells z).length + i * es := by rw [hz, Nat.add_mul, Nat.one_mul, Nat.add_comm]
    rw [e1, List.take_length_add_append, Nat.add_assoc, List.drop_length_add_append, List.append_assoc, ih]
theorem arrV_at {d : Array Value} {k : Nat} (h : k < d.size) : d.toList[k]? = some d[k]! := by
  rw [Array.getElem?_toList, getElem!_pos d k h, Array.getElem?_eq_getElem h]
theorem arrV_mem {d : Array Value} {k : Nat} (h : k < d.size) : d[k]! ∈ d.toList := List.mem_of_getElem? (arrV_at h)
theorem Els.perm {es n : Nat} {d d' : Array Value} (hn : d.size = n) (h : Els es d) (p : PermIn 0 n d d') : Els es d' := fun x hx => by
  obtain ⟨i, hi⟩ := List.mem_iff_getElem?.1 hx
  have hi2 : i < d'.size := by have := (List.getElem?_eq_some_iff.1 hi).1; simpa using this
  rw [arrV_at hi2] at hi
  cases hi
  exact permIn_all d d' 0 n (fun x => (vcells x).length = es ∧ ∀ u ∈ vcells x, u.oneCell' = true) (by omega) p (fun j _ hj => h _ (arrV_mem (by omega))) i (by omega) (by rw [p.1] at hi2; omega)
section
variable {P : Program} {μ h0 : Mem} {r : Nat} {ty : TypeId} {rest : List Value} {d : Array Value} {es : Nat}
/-- A cell of an element is read. -/
theorem RowV.cell (hE : Els es d) {i c : Nat} {v : Value} (hi : i < d.size) (hv : (vcells d[i]!)[c]? = some v) : (RowV h0 r ty rest d).cell ⟨r, i * es + c, none⟩ = some v := by
  have h := flat_at (fun y hy => (hE y hy).1) (arrV_at hi) hv
  simp only [Mem.cell, RowV, Mem.set_at, Option.isSome_none]
  have h2 := (List.getElem?_eq_some_iff.1 h).1
  simp only [List.getElem?_toArray]
  rw [List.getElem?_append_left h2, h]
  rfl
theorem load_row {e : TypeId} {ti : TI} (hti : TIok P e ti) (w : World) (a : Addr) (x : Value) (hl : (vcells x).length = ti.size) (h : ∀ j v, (vcells x)[j]? = some v → w.cell? (a.add j) = some v) (h1 : ti.agg = false → ti.size = 1) (h2 : ∀ u ∈ vcells x, u.oneCell' = true) :
    ∃ y, (loadVar e a).run P w = .ok y w ∧ vcells y = vcells x := by
  have hr := run_loadVar_cells hti w a (vcells x) hl h h1
  refine ⟨_, hr, ?_⟩
  cases hg : ti.agg with
  | true => simp [vcells]
  | false =>
    rw [h1 hg] at hl
    match hc : vcells x, hl with
    | [u], _ =>
      have := h2 u (by rw [hc]; simp)
      simp only [Bool.false_eq_true, if_false, List.getD_cons_zero]
      cases u <;> first | rfl | (simp [Value.oneCell'] at this)
/-- Swapper's function: two elements change about. -/
theorem swap9_spec {e : TypeId} {ti : TI} (hti : TIok Try.prog e ti) (h1 : ti.agg = false → ti.size = 1) (hE : Els ti.size d) {n cap i j : Nat} (hd : d.size = n) (hi : i < n) (hj : j < n) :
    SpecH Try.prog 190 [.int .i64 i, .int .i64 j, .slice (some ⟨r, 0, none⟩) n cap, typeHandle Try.prog e] μ (RowV h0 r ty rest d) fun v μ' h' => v = .tuple #[] ∧ μ' = μ ∧ h' = RowV h0 r ty rest (swp d i j) := by
  refine SpecH.ext fun w hm hh ha => ?_
  subst hd
  have hX := hE _ (arrV_mem hi)
  have hY := hE _ (arrV_mem hj)
  have hcell : ∀ k, k < d.size → ∀ c v, (vcells d[k]!)[c]? = some v → w.cell? ((⟨r, k * ti.size, none⟩ : Addr).add c) = some v := fun k hk c v hv => by
    rw [Addr.add_lit']; exact hh.cell (RowV.cell hE hk hv)
  obtain ⟨X, l1, eX⟩ := load_row hti w ⟨r, i * ti.size, none⟩ d[i]! hX.1 (hcell i hi) h1 hX.2
  obtain ⟨Y, l2, eY⟩ := load_row hti w ⟨r, j * ti.size, none⟩ d[j]! hY.1 (hcell j hj) h1 hY.2
  have hb : ∀ k, k < d.size → k * ti.size + ti.size ≤ d.size * ti.size := fun k hk => by
    have := Nat.mul_le_mul_right ti.size (show k + 1 ≤ d.size from hk); rwa [Nat.add_mul, Nat.one_mul] at this
  have hlen : (d.toList.flatMap vcells).length = d.size * ti.size := by rw [flat_len _ fun y hy => (hE y hy).1]; simp
  have hg : w.heap[r]? = some (.cells (List.toArray (d.toList.flatMap vcells ++ rest)) ty (0, 0)) := hh _ _ (Mem.set_at _ _ _)
  have s1 := run_storeVar hti w r (i * ti.size) _ ty hg Y (by rw [eY]; exact hY.1) (by have := hb i hi; simp [hlen]; omega) (by rw [eY]; exact hY.2)
  have e1 := flat_put (fun y hy => (hE y hy).1) (l := d.toList) (i := i) (by simpa using hi) (y := d[j]!) hY.1 rest
  rw [eY, hY.1] at s1
  simp only [e1] at s1
  have hE2 : ∀ y ∈ d.toList.set i d[j]!, (vcells y).length = ti.size := fun y hy => by
    rcases List.mem_or_eq_of_mem_set hy with h | h
    · exact (hE y h).1
    · subst h; exact hY.1
  have hlen2 : ((d.toList.set i d[j]!).flatMap vcells).length = d.size * ti.size := by rw [flat_len _ hE2]; simp
  have hg2 : (w.setRow r (List.toArray ((d.toList.set i d[j]!).flatMap vcells ++ rest))).heap[r]? = some (.cells (List.toArray ((d.toList.set i d[j]!).flatMap vcells ++ rest)) ty (0, 0)) := setRow_heap w r _ _ ty (0, 0) hg
  have s2 := run_storeVar hti _ r (j * ti.size) _ ty hg2 X (by rw [eX]; exact hX.1) (by have := hb j hj; simp [hlen2]; omega) (by rw [eX]; exact hX.2)
  have e2 := flat_put hE2 (i := j) (by simpa using hj) (y := d[i]!) hX.1 rest
  rw [eX, hX.1] at s2
  simp only [e2] at s2
  have hsw : (d.toList.set i d[j]!).set j d[i]! = (swp d i j).toList := by rw [swp, Array.toList_setIfInBounds, Array.toList_setIfInBounds]
  rw [hsw] at s2
  have hss : ∀ z z', (w.setRow r z).setRow r z' = w.setRow r z' := fun z z' => setRow_setRow w r z z'
  have hS := Step.row (cs' := List.toArray ((swp d i j).toList.flatMap vcells ++ rest)) hm hh ha (Mem.set_at _ _ _)
  refine ⟨.tuple #[], w.setRow r (List.toArray ((swp d i j).toList.flatMap vcells ++ rest)), μ, RowV h0 r ty rest (swp d i j), ?_, ⟨rfl, rfl, rfl⟩, ?_⟩
  rotate_left
  · rw [RowV, Mem.set_set] at hS; exact hS
  rw [run_callFunc_extern Try.func190 (by kernel_rfl) (by kernel_rfl) (by kernel_rfl) (e := Extern.ReflectliteSwapper.swap false) (by kernel_rfl)]
  show (Sem.run _ (ReflectliteSwapper.swap false #[.int .i64 i, .int .i64 j, .slice (some ⟨r, 0, none⟩) d.size cap, typeHandle Try.prog e]) w).andThen _ = _
  have i0 : ¬ ((i : Int) < 0) := by omega
  have i1 : ¬ ((i : Int) ≥ d.size) := by omega
  have j0 : ¬ ((j : Int) < 0) := by omega
  have j1 : ¬ ((j : Int) ≥ d.size) := by omega
  rw [rl_swap]
  simp [i0, i1, j0, j1, ofHandle, handleType, typeHandle, ReflectliteSwapper.exchange, hti.run_sizeOf, Addr.add_lit', l1, l2, s1, s2, hss, Result.andThen]
end
section
variable {μ h0 : Mem} {lf sf : FuncId} {lb sb : List Value} {n : Nat}
theorem insertionSortF_tiny (hn : n ≤ 1) : SpecH Try.prog 191 [fdata lf sf lb sb, .int .i64 0, .int .i64 n] μ h0 fun v μ' h' => v = .tuple #[] ∧ μ' = μ ∧ h' = h0 := by
  refine SpecH.mk [] Try.func191 (by kernel_rfl) ?_
  intro r1
  refine num_eq (x := ((1 : Nat) : Int)) (by decide) ?_
  refine loop_intro (fun i : Nat => i = 1)
    (fun i => ⟨[(1, .val (.int .i64 0)), (2, .val (.int .i64 n)), (3, .loc 0 r1 0), (6, .val (.int .i64 i))], fblk r1 lf sf lb sb, 1, μ, h0⟩) (fun i => n - i)
    1 rfl (fun _ => ⟨rfl, rfl⟩) ⟨⟨rfl, rfl, rfl, rfl, trivial⟩, ⟨rfl, trivial⟩, rfl, rfl⟩ ?_
  rintro i rfl
  refine ifd (fun h => by omega) (fun h => ?_)
  exact ret_plain ⟨rfl, rfl, rfl⟩
theorem pdqsortF_tiny (hn : n ≤ 1) {limit : Int} : SpecH Try.prog 152 [fdata lf sf lb sb, .int .i64 0, .int .i64 n, .int .i64 limit] μ h0 fun v μ' h' => v = .tuple #[] ∧ μ' = μ ∧ h' = h0 := by
  refine SpecH.mk [] Try.func152 (by kernel_rfl) ?_
  intro r1
  refine loop_intro (fun _ : Unit => True)
    (fun _ => ⟨[(1, .val (.int .i64 0)), (2, .val (.int .i64 n)), (3, .val (.int .i64 limit)), (4, .loc 0 r1 0), (8, .val (.bool true)), (9, .val (.bool true))], fblk r1 lf sf lb sb, 1, μ, h0⟩) (fun _ => 0)
    () trivial (fun _ => ⟨rfl, rfl⟩) ⟨⟨rfl, rfl, rfl, rfl, rfl, rfl, trivial⟩, ⟨rfl, trivial⟩, rfl, rfl⟩ ?_
  intro _ _
  refine num_eq (x := (n : Int)) (by rw [wrap64 (by omega) (by omega)]; omega) ?_
  refine ifd (fun h12 => ?_) (fun h12 => by omega)
  refine call_own (insertionSortF_tiny hn) fun v μ' h' hle' hap hR => ?_
  obtain ⟨rfl, e1, rfl⟩ := hR
  obtain rfl := e1.symm
  exact ret_plain ⟨rfl, rfl, rfl⟩
end
section
variable {α : Type} [Inhabited α] {enc : α → Value} {μ h0 : Mem} {r : Nat} {ty t e : TypeId} {i ie : TypeInfo} {ke : Nat} {ti : TI} {rest : List Value} {d0 : Array α} {n cap : Nat} {lf : FuncId} {lb : List Value} {lt : α → α → Bool}
theorem map_get {d : Array α} {k : Nat} (h : k < d.size) : (d.map enc)[k]! = enc d[k]! := by
  rw [getElem!_pos _ k (by simpa using h), getElem!_pos d k h, Array.getElem_map]
theorem swp_map {d : Array α} {a b : Nat} (ha : a < d.size) (hb : b < d.size) : (swp d a b).map enc = swp (d.map enc) a b := by
  unfold swp
  rw [map_get hb, map_get ha]
  simp
theorem permIn_map {d d' : Array α} (hn : d.size = n) (p : PermIn 0 n d d') : PermIn 0 n (d.map enc) (d'.map enc) := by
  obtain ⟨h1, h2, h3⟩ := p
  refine ⟨by simp [h1], fun k hk => ?_, ?_⟩
  · have hk2 : n ≤ k := by omega
    rw [getElem!_neg _ k (by simp; omega), getElem!_neg _ k (by simp; omega)]
  · have e1 : d'.extract 0 n = d' := by rw [← hn, ← h1]; exact Array.extract_size
    have e2 : d.extract 0 n = d := by rw [← hn]; exact Array.extract_size
    have e3 : (d'.map enc).extract 0 n = d'.map enc := by rw [← hn, ← h1, show d'.size = (d'.map enc).size by simp]; exact Array.extract_size
    have e4 : (d.map enc).extract 0 n = d.map enc := by rw [← hn, show d.size = (d.map enc).size by simp]; exact Array.extract_size
    rw [e1, e2] at h3
    rw [e3, e4]
    simpa using h3.map enc
theorem permIn_list {d d' : Array α} (hn : d.size = n) (p : PermIn 0 n d d') : d'.toList.Perm d.toList := by
  obtain ⟨h1, h2, h3⟩ := p
  have e1 : d'.extract 0 n = d' := by rw [← hn, ← h1]; exact Array.extract_size
  have e2 : d.extract 0 n = d := by rw [← hn]; exact Array.extract_size
  rwa [e1, e2] at h3
/-- A row of owned memory and its owner's test make a sort. -/
theorem SortBy.row (hti : TIok Try.prog e ti) (h1 : ti.agg = false → ti.size = 1) (hE : Els ti.size (d0.map enc)) (hn : d0.size = n) (hmax : n ≤ 1000000000000)
    (less : ∀ {μ' : Mem} {d : Array α} {i j : Nat}, μ.Le μ' → PermIn 0 n d0 d → i < n → j < n → SpecH Try.prog lf (.int .i64 i :: .int .i64 j :: lb) μ' (RowV h0 r ty rest (d.map enc)) fun v μ'' h' => v = .bool (lt d[i]! d[j]!) ∧ μ'' = μ' ∧ h' = RowV h0 r ty rest (d.map enc)) :
    SortBy lf 190 lb [.slice (some ⟨r, 0, none⟩) n cap, typeHandle Try.prog e] n lt μ (fun d => RowV h0 r ty rest (d.map enc)) (PermIn 0 n d0) where
  max := hmax
  size hV := hV.1.trans hn
  sw hV hi hj := permIn_trans _ _ _ _ _ hV (swp_permIn _ _ _ _ _ (Nat.zero_le _) hi (Nat.zero_le _) hj (by rw [hV.1, hn]; exact Nat.le_refl _))
  dom {d d' b} _ _ hb := by
    simp only [RowV, Mem.set_get] at hb ⊢
    split at hb
    · cases hb
    · rename_i e; rw [if_neg e]; exact hb
  less hle hV hi hj := less hle hV hi hj
  swap {μ d i j} hle hV hi hj := by
    have hs : d.size = n := hV.1.trans hn
    have := swap9_spec (μ := μ) (h0 := h0) (r := r) (ty := ty) (rest := rest) (cap := cap) hti h1 (d := d.map enc) (hE.perm (by simp [hn]) (permIn_map hn hV)) (by simpa using hs) hi hj
    rwa [← swp_map (by omega) (by omega)] at this
theorem SortSlice_spec (T : SlTy t e i ie ke) (hti : TIok Try.prog e ti) (h1 : ti.agg = false → ti.size = 1) (hE : Els ti.size (d0.map enc)) (hn : d0.size = n) (hmax : n ≤ 1000000000000) (hO : SWO lt)
    (less : ∀ {μ' : Mem} {d : Array α} {i j : Nat}, μ.Le μ' → PermIn 0 n d0 d → i < n → j < n → SpecH Try.prog lf (.int .i64 i :: .int .i64 j :: lb) μ' (RowV h0 r ty rest (d.map enc)) fun v μ'' h' => v = .bool (lt d[i]! d[j]!) ∧ μ'' = μ' ∧ h' = RowV h0 r ty rest (d.map enc)) :
    SpecH Try.prog 93 [.iface t (.slice (some ⟨r, 0, none⟩) n cap), .func (.func lf) #[] lb.toArray] μ (RowV h0 r ty rest (d0.map enc)) fun v μ' h' => v = .tuple #[] ∧ ∃ d', PermIn 0 n d0 d' ∧ SortedIn lt 0 n d' ∧ h' = RowV h0 r ty rest (d'.map enc) := by
  refine SpecH.mk [] Try.func93 (by kernel_rfl) ?_
  refine call_plain (valueOf_spec T _ _ _) fun v μ1 hle1 hR => ?_
  obtain ⟨rv, rfl, hrv⟩ := hR
  intro r4
  obtain ⟨k, bs, hk, hsw⟩ := swapper_spec (μ := μ1) T (some ⟨r, 0, none⟩) (n := n) cap
  refine call_gives hsw ?_
  refine call_gives (valueLen_spec T hrv) ?_
  refine num_eq (x := (n : Int)) (by
    show (n : Int) % 18446744073709551616 = _
    omega) ?_
  refine call_gives (Len_spec (by omega)) ?_
  have hL : bitsLen n ≤ 40 := (bitsLen_le_iff n 40).2 (by omega)
  by_cases h2 : 2 ≤ n
  · obtain ⟨rfl, rfl⟩ := hk h2
    refine call_own (pdqsortF_spec (SortBy.row (cap := cap) hti h1 hE hn hmax less) hO (n + 1) 0 n (bitsLen n) d0 _ (by omega) (by omega) (Nat.le_refl _) (permIn_refl _ _ _) hle1 (by omega) (.inl rfl)) fun v μ' h' hle hap hR => ?_
    obtain ⟨rfl, d', p1, p2, rfl, _⟩ := hR
    exact ret_plain ⟨rfl, d', p1, p2, rfl⟩
  · refine call_own (pdqsortF_tiny (by omega)) fun v μ' h' hle hap hR => ?_
    obtain ⟨rfl, e1, rfl⟩ := hR
    exact ret_plain ⟨rfl, d0, permIn_refl _ _ _, fun a b _ h3 h4 => by omega, rfl⟩
end
end Go.Vx

/- Contracts: lists of bindings, and the reference's substitutions. -/
namespace Go.Vx
open Go.Proofs Classical
/-! ### Plain -/
noncomputable def Tm.toT (t : Tm) : T := if h : ∃ x : T, x.tm = t then h.choose else .nil
theorem T.toT_tm (x : T) : x.tm.toT = x := by
  have h : ∃ y : T, y.tm = x.tm := ⟨x, rfl⟩
  rw [Tm.toT, dif_pos h]
  exact T.tm_inj h.choose_spec
theorem Tm.Ok.toT {t : Tm} (h : t.Ok) : t.toT.ok ∧ t.toT.tm = t := by
  obtain ⟨x, h1, rfl⟩ := h.lift
  rw [T.toT_tm]; exact ⟨h1, rfl⟩
structure B where
  var : Int
  to : T
def B.bd (b : B) : Bd := ⟨b.var, b.to.tm⟩
noncomputable def Bd.b (b : Bd) : B := ⟨b.var, b.to.toT⟩
/-- Binding i of a list is fine. -/
def okAt (l : List Bd) (i : Nat) (b : Bd) : Prop := (0 ≤ b.var ∧ b.var ≤ 100000) ∧ b.to.Ok ∧ ∀ j c, j + 1 = i → l[j]? = some c → c.var < b.var
def valsOk (l : List Bd) : Prop := l.length ≤ 400 ∧ ∀ i b, l[i]? = some b → okAt l i b
theorem valsOk.lift {l : List Bd} (h : valsOk l) : (l.map Bd.b).map B.bd = l ∧ (∀ b ∈ l.map Bd.b, b.to.ok) := by
  have h2 : ∀ b ∈ l, b.to.Ok := fun b hb => by
    obtain ⟨i, hi⟩ := List.mem_iff_getElem?.1 hb
    exact (h.2 i b hi).2.1
  clear h
  induction l with
  | nil => simp
  | cons b l ih =>
    have h1 := (h2 b (by simp)).toT
    obtain ⟨i1, i2⟩ := ih fun b hb => h2 b (by simp [hb])
    refine ⟨?_, ?_⟩
    · simp only [List.map_cons, i1, List.cons.injEq, and_true, Bd.b, B.bd, h1.2]
    · intro c hc
      simp only [List.map_cons, List.mem_cons] at hc
      rcases hc with rfl | hc
      · exact h1.1
      · exact i2 c hc
def sub : List B → Int → Option T
  | [], _ => none
  | b :: r, n => if b.var = n then some b.to else sub r n
def T.subst (f : Int → Option T) : T → T
  | .var n => (f n).getD (.var n)
  | .pair a b => .pair (a.subst f) (b.subst f)
  | .nil => .nil
  | .sym s => .sym s
  | .num n => .num n
theorem drop_at {α : Type} {l : List α} {i : Nat} {a : α} (h : l[i]? = some a) : l.drop i = a :: l.drop (i + 1) := by
  obtain ⟨h1, h2⟩ := List.getElem?_eq_some_iff.1 h
  rw [List.drop_eq_getElem_cons h1, h2]
/-- A term and whether it is one. -/
def optV (P : T → Value → Prop) (o : Option T) (v : Value) : Prop := match o with
  | some y => ∃ tv, v = .tuple #[tv, .bool true] ∧ P y tv
  | none => v = .tuple #[.agg #[.int .i64 0, .int .i64 0, .string ⟨#[]⟩, .slice none 0 0], .bool false]
section
variable {μ : Mem}
theorem T.fits (x : T) : (upTo (x.size : Int) 5000 ≤ 5000) ↔ x.size ≤ 5000 := by unfold upTo; omega
/-- An element's term. -/
theorem Bd.toV {b : Bd} {p : Option Addr × Nat} (h : RepV μ b.d (.agg (b.cs p).toArray)) : RepV μ b.to.d (.agg (b.to.cs p).toArray) := by
  obtain ⟨q, e, hto⟩ := Bd.inv h
  have hq : q = p := by
    have h2 := congrArg (fun v => match v with | Value.agg a => a[4]? | _ => none) e
    simp [Bd.cs] at h2
    exact Prod.ext h2.1.symm h2.2.symm
  rw [← hq]; exact hto
/-! ### The reference's -/
theorem l02Pair_spec {a b : T} {va vb : Value} (ha : RepV μ a.tm.d va) (hb : RepV μ b.tm.d vb) : Spec Try.prog 194 [va, vb] μ fun v μ' => RepV μ' (T.pair a b).tm.d v := by
  obtain ⟨p, rfl⟩ := Tm.invV ha
  obtain ⟨q, rfl⟩ := Tm.invV hb
  refine Spec.mk Try.func194 (by kernel_rfl) ?_
  intro r1 r2 r3 r4
  refine ret_frz [3] fun μ' hle hno hrow => .inl ?_
  rw [T.tm, Tm.d_mk]
  exact ⟨_, rfl, RepS.int (RepS.int (RepS.str (RepS.last (Rows.sl hrow (.cons (ha.mono hle) (Tm.d_n _) (.cons (hb.mono hle) (Tm.d_n _) .nil)) (show 2 ≤ maxLen by decide)))))⟩
theorem l02Fits_spec (x : T) {v : Value} (hv : RepV μ x.tm.d v) : Gives Try.prog 140 [v] μ (.bool (decide (x.size ≤ 5000))) := by
  obtain ⟨p, rfl⟩ := Tm.invV hv
  refine Spec.mk Try.func140 (by kernel_rfl) ?_
  intro r
  refine call_gives (l02Count_spec x.tm hv (by decide) (by decide)) (ret_gives ?_ rfl)
  rw [T.cnt_tm]
  exact isI (T.fits x)
theorem l04Get_spec {bs : List B} {base : Option Addr} {cap : Nat} {n : Int} (hsl : Sl μ 5 base bs.length ((bs.map B.bd).map Bd.d)) :
    Spec Try.prog 70 [.slice base bs.length cap, .int .i64 n] μ fun v μ' => optV (fun y tv => RepV μ y.tm.d tv) (sub bs n) v ∧ μ' = μ := by
  have hn := maxLen_le hsl.max
  refine Spec.mk Try.func70 (by kernel_rfl) ?_
  intro r
  refine loop_intro (fun i : Nat => i ≤ bs.length ∧ sub bs n = sub (bs.drop i) n) (fun i => ⟨[(1, .val (.int .i64 n)), (4, .loc 0 r 0), (8, .val (.slice base bs.length cap)), (9, .val (.int .i64 bs.length)), (10, .val (.int .i64 i))], [(0, some (.cells r [.val (.int .i64 0), .val (.int .i64 0), .val (.string ⟨#[]⟩), .val (.slice none 0 0)] 66))], 1, μ, Mem.nil⟩) (fun i => bs.length - i)
    0 ⟨by omega, rfl⟩ (fun i => ⟨rfl, rfl⟩) ⟨⟨rfl, rfl, rfl, rfl, rfl, trivial⟩, ⟨rfl, trivial⟩, rfl, rfl⟩ ?_
  rintro i ⟨hi, he⟩
  refine ifd (fun h => ?_) (fun h => ?_)
  · obtain ⟨b, hb⟩ := at_some (l := bs) (i := i) (by omega)
    have hb' : (bs.map B.bd)[i]? = some b.bd := by simp [hb]
    obtain ⟨ad, p, hel, hr⟩ := Bd.elem hsl hb'
    have hto := Bd.toV hr
    rw [drop_at hb] at he
    refine elem_intro hel ?_
    intro r2
    refine ifd (fun h2 => ?_) (fun h2 => ?_)
    · have h2 : b.var = n := h2
      have e2 : sub bs n = some b.to := by rw [he, sub, if_pos h2]
      rw [e2]
      exact ret_plain ⟨⟨_, rfl, hto⟩, rfl⟩
    · have h2 : ¬ b.var = n := h2
      have e2 : sub bs n = sub (bs.drop (i + 1)) n := by rw [he, sub, if_neg h2]
      exact num64 (by omega) (by omega) ⟨i + 1, ⟨by omega, e2⟩, by omega, ⟨⟨rfl, rfl, rfl, rfl, rfl, trivial⟩, ⟨rfl, trivial⟩, rfl, rfl⟩⟩
  · obtain rfl : i = bs.length := by omega
    rw [List.drop_length] at he
    rw [he]
    exact ret_plain ⟨rfl, rfl⟩
theorem l04Put_spec {bs : List B} {base : Option Addr} {cap : Nat} : ∀ (x : T) {μ : Mem} {v : Value}, Sl μ 5 base bs.length ((bs.map B.bd).map Bd.d) → RepV μ x.tm.d v →
    Spec Try.prog 139 [.slice base bs.length cap, v] μ fun v μ' => RepV μ' (x.subst (sub bs)).tm.d v := by
  intro x
  induction x with
  | var n =>
    intro μ v hsl hv
    obtain ⟨p, rfl⟩ := Tm.invV hv
    refine Spec.mk Try.func139 (by kernel_rfl) ?_
    intro r1 r2
    refine ifd (fun _ => ?_) (fun h => absurd rfl h)
    refine call_plain (l04Get_spec hsl) fun v' μ' hle hR => ?_
    obtain ⟨hR, e2⟩ := hR
    obtain rfl := e2.symm
    have hR : optV (fun y tv => RepV μ y.tm.d tv) (sub bs n) v' := hR
    simp only [T.subst]
    cases hs : sub bs n with
    | some y =>
      rw [hs] at hR
      obtain ⟨tv, rfl, htv⟩ := hR
      obtain ⟨q, rfl⟩ := Tm.invV htv
      intro r3
      refine if_intro (fun _ => ret_plain htv) (fun h => nomatch h)
    | none =>
      rw [hs] at hR
      obtain rfl := hR
      intro r3
      refine if_intro (fun h => nomatch h) (fun _ => ?_)
      refine ifd (fun h => absurd h (by simp [T.tm, Tm.kind])) (fun _ => ?_)
      exact ret_plain hv
  | pair a b iha ihb =>
    intro μ v hsl hv
    obtain ⟨base', cap', rfl, hsa⟩ := Tm.inv hv
    obtain ⟨ad, ad', p, p', h1, h2, hra, hrb⟩ := T.parts hsa
    refine Spec.mk Try.func139 (by kernel_rfl) ?_
    intro r1 r2
    refine ifd (fun h => absurd h (by simp [T.tm, Tm.kind])) (fun _ => ?_)
    refine ifd (fun _ => ?_) (fun h => absurd rfl h)
    refine elem_intro h1 ?_
    refine elem_intro h2 ?_
    refine call_plain (iha hsl hra) fun v1 μ1 hle1 hR1 => ?_
    refine call_plain (ihb (hsl.mono hle1) (hrb.mono hle1)) fun v2 μ2 hle2 hR2 => ?_
    refine call_plain (l02Pair_spec (hR1.mono hle2) hR2) fun v3 μ3 hle3 hR3 => ?_
    obtain ⟨q, rfl⟩ := Tm.invV hR3
    exact ret_plain hR3
  | _ =>
    intro μ v hsl hv
    obtain ⟨p, rfl⟩ := Tm.invV hv
    refine Spec.mk Try.func139 (by kernel_rfl) ?_
    intro r1 r2
    refine ifd (fun h => absurd h (by simp [T.tm, Tm.kind])) (fun _ => ?_)
    refine ifd (fun h => absurd h (by simp [T.tm, Tm.kind])) (fun _ => ?_)
    exact ret_plain hv
theorem l04Apply_spec {bs : List B} {base : Option Addr} {cap : Nat} (x : T) {v : Value} (hsl : Sl μ 5 base bs.length ((bs.map B.bd).map Bd.d)) (hv : RepV μ x.tm.d v) :
    Spec Try.prog 69 [.slice base bs.length cap, v] μ fun v μ' => ∃ tv, v = .tuple #[tv, .bool (decide ((x.subst (sub bs)).size ≤ 5000))] ∧ RepV μ' (x.subst (sub bs)).tm.d tv := by
  obtain ⟨p, rfl⟩ := Tm.invV hv
  refine Spec.mk Try.func69 (by kernel_rfl) ?_
  intro r1 r2
  refine call_plain (l04Put_spec x hsl hv) fun v1 μ1 hle1 hR1 => ?_
  obtain ⟨q, rfl⟩ := Tm.invV hR1
  intro r3
  refine call_gives (l02Fits_spec _ hR1) ?_
  exact ret_plain ⟨_, rfl, hR1⟩
end
end Go.Vx

/- Contracts: which lists of bindings are fine; copies; the reference's Instantiate. -/
namespace Go.Vx
open Go.Proofs Classical
section
variable {μ : Mem}
theorem okAt_ext {l : List Bd} {i : Nat} (hall : ∀ j b, j < i → l[j]? = some b → okAt l j b) {b : Bd} (hb : l[i]? = some b) (h : okAt l i b) : ∀ j b, j < i + 1 → l[j]? = some b → okAt l j b := fun j c hj hc => by
  rcases Nat.lt_or_ge j i with h1 | h1
  · exact hall j c h1 hc
  · obtain rfl : j = i := by omega
    rw [hb] at hc; cases hc; exact h
theorem l04Values_spec {l : List Bd} {base : Option Addr} {cap : Nat} (hsl : Sl μ 5 base l.length (l.map Bd.d)) (hw : D.wds (l.map Bd.d)) : Gives Try.prog 137 [.slice base l.length cap] μ (.bool (decide (valsOk l))) := by
  have hn := maxLen_le hsl.max
  refine Spec.mk Try.func137 (by kernel_rfl) ?_
  refine loop_intro (fun i : Nat => i ≤ l.length ∧ ∀ j b, j < i → l[j]? = some b → okAt l j b) (fun i => ⟨[(0, .val (.slice base l.length cap)), (5, .val (.slice base l.length cap)), (6, .val (.int .i64 l.length)), (7, .val (.int .i64 i))], [], 0, μ, Mem.nil⟩) (fun i => l.length - i)
    0 ⟨by omega, fun j b hj => by omega⟩ (fun i => ⟨rfl, rfl⟩) ⟨⟨rfl, rfl, rfl, rfl, trivial⟩, trivial, rfl, rfl⟩ ?_
  rintro i ⟨hi, hall⟩
  refine ifd (fun h => ?_) (fun h => ?_)
  · obtain ⟨b, hb⟩ := at_some (l := l) (i := i) (by omega)
    obtain ⟨ad, p, hel, hr⟩ := Bd.elem hsl hb
    have hto := Bd.toV hr
    have hwt : b.to.d.wd := (D.wds_mem hw _ (mem_at (at_map (f := Bd.d) hb))).2.1
    have bad : ¬ okAt l i b → Value.bool false = .bool (decide (valsOk l)) := fun k => isF fun hv => k (hv.2 i b hb)
    refine elem_intro hel ?_
    intro r
    refine ifd (fun h0 => ?_) (fun h0 => ?_)
    · obtain ⟨c, hc⟩ := at_some (l := l) (i := i - 1) (by omega)
      obtain ⟨ad2, p2, hel2, _⟩ := Bd.elem hsl hc
      have hprev : okAt l i b → c.var < b.var := fun k => k.2.2 (i - 1) c (by omega) hc
      refine num_eq (x := ((i - 1 : Nat) : Int)) (by rw [wrap64 (by omega) (by omega)]; omega) ?_
      refine elem_intro hel2 ?_
      refine ifd (fun h1 => ret_gives (bad fun k => by have := hprev k; omega) rfl) (fun h1 => ?_)
      have hlt : ∀ j c', j + 1 = i → l[j]? = some c' → c'.var < b.var := fun j c' hj hc' => by
        have e : j = i - 1 := by omega
        rw [e, hc] at hc'
        cases hc'; omega
      refine call_gives (l01In_spec _ _ _ _) ?_
      refine ifnd (fun h2 => ret_gives (bad fun k => h2 k.1) rfl) (fun h2 => ?_)
      refine call_gives (spec_TermOk_spec b.to hto hwt) ?_
      refine ifnd (fun h3 => ret_gives (bad fun k => h3 k.2.1) rfl) (fun h3 => ?_)
      exact num64 (by omega) (by omega) ⟨i + 1, ⟨by omega, okAt_ext hall hb ⟨h2, h3, hlt⟩⟩, by omega, ⟨⟨rfl, rfl, rfl, rfl, trivial⟩, trivial, rfl, rfl⟩⟩
    · refine call_gives (l01In_spec _ _ _ _) ?_
      refine ifnd (fun h2 => ret_gives (bad fun k => h2 k.1) rfl) (fun h2 => ?_)
      refine call_gives (spec_TermOk_spec b.to hto hwt) ?_
      refine ifnd (fun h3 => ret_gives (bad fun k => h3 k.2.1) rfl) (fun h3 => ?_)
      exact num64 (by omega) (by omega) ⟨i + 1, ⟨by omega, okAt_ext hall hb ⟨h2, h3, fun j c' hj _ => by omega⟩⟩, by omega, ⟨⟨rfl, rfl, rfl, rfl, trivial⟩, trivial, rfl, rfl⟩⟩
  · obtain rfl : i = l.length := by omega
    refine ret_gives (isI ⟨fun hh => ⟨by omega, fun j b hb => hall j b (List.getElem?_eq_some_iff.1 hb).1 hb⟩, fun hh => by have := hh.1; omega⟩) rfl
theorem impl_ValuesOk_spec {l : List Bd} {base : Option Addr} {cap : Nat} (hsl : Sl μ 5 base l.length (l.map Bd.d)) : Gives Try.prog 127 [.slice base l.length cap] μ (.bool (decide (valsOk l))) := by
  have hn := maxLen_le hsl.max
  refine Spec.mk Try.func127 (by kernel_rfl) ?_
  refine ifd (fun h => ret_gives (isF fun k => by have := k.1; omega) rfl) (fun hlen => ?_)
  refine loop_intro (fun i : Nat => i ≤ l.length ∧ ∀ j b, j < i → l[j]? = some b → okAt l j b) (fun i => ⟨[(0, .val (.slice base l.length cap)), (8, .val (.slice base l.length cap)), (9, .val (.int .i64 l.length)), (10, .val (.int .i64 i))], [], 0, μ, Mem.nil⟩) (fun i => l.length - i)
    0 ⟨by omega, fun j b hj => by omega⟩ (fun i => ⟨rfl, rfl⟩) ⟨⟨rfl, rfl, rfl, rfl, trivial⟩, trivial, rfl, rfl⟩ ?_
  rintro i ⟨hi, hall⟩
  refine ifd (fun h => ?_) (fun h => ?_)
  · obtain ⟨b, hb⟩ := at_some (l := l) (i := i) (by omega)
    obtain ⟨ad, p, hel, hr⟩ := Bd.elem hsl hb
    have hto := Bd.toV hr
    have bad : ¬ okAt l i b → Value.bool false = .bool (decide (valsOk l)) := fun k => isF fun hv => k (hv.2 i b hb)
    refine elem_intro hel ?_
    intro r
    refine ifd (fun h1 => ret_gives (bad fun k => by have := k.1.1; omega) rfl) (fun h1 => ?_)
    refine ifd (fun h2 => ret_gives (bad fun k => by have := k.1.2; omega) rfl) (fun h2 => ?_)
    refine ifd (fun h0 => ?_) (fun h0 => ?_)
    · obtain ⟨c, hc⟩ := at_some (l := l) (i := i - 1) (by omega)
      obtain ⟨ad2, p2, hel2, _⟩ := Bd.elem hsl hc
      have hprev : okAt l i b → c.var < b.var := fun k => k.2.2 (i - 1) c (by omega) hc
      refine num_eq (x := ((i - 1 : Nat) : Int)) (by rw [wrap64 (by omega) (by omega)]; omega) ?_
      refine elem_intro hel2 ?_
      refine ifd (fun h1 => ret_gives (bad fun k => by have := hprev k; omega) rfl) (fun h3 => ?_)
      have hlt : ∀ j c', j + 1 = i → l[j]? = some c' → c'.var < b.var := fun j c' hj hc' => by
        have e : j = i - 1 := by omega
        rw [e, hc] at hc'
        cases hc'; omega
      refine call_gives (impl_TermOk_spec b.to hto) ?_
      refine ifnd (fun h3 => ret_gives (bad fun k => h3 k.2.1) rfl) (fun h4 => ?_)
      exact num64 (by omega) (by omega) ⟨i + 1, ⟨by omega, okAt_ext hall hb ⟨⟨by omega, by omega⟩, h4, hlt⟩⟩, by omega, ⟨⟨rfl, rfl, rfl, rfl, trivial⟩, trivial, rfl, rfl⟩⟩
    · refine call_gives (impl_TermOk_spec b.to hto) ?_
      refine ifnd (fun h3 => ret_gives (bad fun k => h3 k.2.1) rfl) (fun h4 => ?_)
      exact num64 (by omega) (by omega) ⟨i + 1, ⟨by omega, okAt_ext hall hb ⟨⟨by omega, by omega⟩, h4, fun j c' hj _ => by omega⟩⟩, by omega, ⟨⟨rfl, rfl, rfl, rfl, trivial⟩, trivial, rfl, rfl⟩⟩
  · obtain rfl : i = l.length := by omega
    exact ret_gives (isT ⟨by omega, fun j b hb => hall j b (List.getElem?_eq_some_iff.1 hb).1 hb⟩) rfl
end
end Go.Vx

/- Contracts: copies; the reference's Instantiate. -/
namespace Go.Vx
open Go.Proofs Classical
theorem T.d_eq (x : T) : x.tm.d = .st [.i x.tm.kind, .i x.tm.num, .s x.tm.name, .sl 4 ((x.args.map T.tm).map Tm.d)] := by
  rw [Tm.d_eq, T.tm_args]
theorem T.inv {μ : Mem} {x : T} {w : Value} (hw : RepV μ x.tm.d w) : ∃ base cap, w = .agg #[.int .i64 x.tm.kind, .int .i64 x.tm.num, .string x.tm.name, .slice base x.args.length cap] ∧ Sl μ 4 base x.args.length ((x.args.map T.tm).map Tm.d) := by
  have h1 := Tm.inv (k := x.tm.kind) (n := x.tm.num) (s := x.tm.name) (l := x.tm.args) (v := w) (by cases x <;> exact hw)
  rw [T.tm_args, List.length_map] at h1
  exact h1
theorem T.args_le (x : T) : x.args.length ≤ 2 := by cases x <;> simp [T.args]
theorem l02Copy_spec : ∀ (x : T) {μ : Mem} {v : Value}, RepV μ x.tm.d v → Spec Try.prog 141 [v] μ fun v μ' => RepV μ' x.tm.d v :=
  T.ind fun x ih μ v hv => by
    obtain ⟨base, cap, rfl, hsl⟩ := T.inv hv
    have hn := T.args_le x
    refine Spec.mk Try.func141 (by kernel_rfl) ?_
    intro r1 r2 r3
    refine loop_nil (fun p : Nat × Option Nat × Nat × List Value × Mem => p.1 ≤ x.args.length ∧ μ.Le p.2.2.2.2 ∧ Rows p.2.2.2.2 4 (((x.args.take p.1).map T.tm).map Tm.d) p.2.2.2.1)
      (fun (i, b, c, ys, μ') => ⟨[(2, .loc 1 r2 0), (3, .loc 2 r3 0), (14, .val (.slice base x.args.length cap)), (15, .val (.int .i64 x.args.length)), (16, .val (.int .i64 i))],
        [(1, some (.cells r2 [.val (.int .i64 0), .val (.int .i64 0), .val (.string ⟨#[]⟩), .val (.slice none 0 0)] 66)), (2, some (.cells r3 [.val (.int .i64 x.tm.kind), .val (.int .i64 x.tm.num), .val (.string x.tm.name), .row 3 b ys.length c] 66)), (3, some (.row b c 66 4 ys))], 4, μ', Mem.nil⟩) (fun p => x.args.length - p.1)
      (0, none, 0, [], μ) ⟨by simp, Mem.Le.refl μ, .nil⟩ (fun (_, _, _, _, _) => ⟨rfl, rfl⟩) ⟨⟨⟨_, rfl, .inl rfl⟩, ⟨_, rfl, .inl rfl⟩, ⟨_, rfl, .inl rfl⟩, ⟨_, rfl, .inl rfl⟩, ⟨_, rfl, .inl rfl⟩, trivial⟩, ⟨.inl rfl, .inr (.inr ⟨_, _, _, _, rfl, rfl, .inl rfl, .inl rfl, .inl rfl, .inr ⟨3, rfl, rfl, Nat.le_refl _⟩, trivial⟩), .inr (.inl ⟨_, _, rfl, Nat.le_refl _⟩), trivial⟩, rfl, rfl⟩ ?_
    rintro ⟨i, b, c, ys, μ'⟩ ⟨hi, hle, hrows⟩
    dsimp only at hi hle hrows
    have hlen := hrows.len
    simp only [List.length_map, List.length_take] at hlen
    refine ifd (fun h => ?_) (fun h => ?_)
    · obtain ⟨t, ht⟩ := at_some (l := x.args) (i := i) (by omega)
      have ht' : (x.args.map T.tm)[i]? = some t.tm := by simp [ht]
      obtain ⟨ad, p, hel, hr⟩ := Tm.elem (hsl.mono hle) ht'
      refine elem_intro hel ?_
      intro r4
      refine call_plain (ih t (mem_at ht) hr) fun v' μ'' hle2 hR => ?_
      obtain ⟨q, rfl⟩ := Tm.invV hR
      intro r5
      refine grow_intro ?_ ?_ fun b' c' _ => ?_
      · show (ys.length + 1) * 56 ≤ _; omega
      · show ys.length + 1 ≤ 9223372036854775807; omega
      have hsucc : ((x.args.take (i + 1)).map T.tm).map Tm.d = ((x.args.take i).map T.tm).map Tm.d ++ [t.tm.d] := by
        rw [List.take_add_one, ht, Option.toList_some]; simp
      exact num64 (by omega) (by omega) ⟨(i + 1, b', c', _, μ''), ⟨by dsimp only; omega, hle.trans hle2, by rw [hsucc]; exact (hrows.mono hle2).append (Rows.one hR (Tm.d_n _))⟩, by dsimp only; omega, ⟨⟨rfl, rfl, rfl, rfl, rfl, trivial⟩, ⟨rfl, rfl, rfl, trivial⟩, rfl, rfl⟩⟩
    · obtain rfl : i = x.args.length := by omega
      rw [List.take_length] at hrows
      refine ret_frz [3] fun μ2 hle2 hno hrow => .inl ?_
      rw [T.d_eq]
      exact ⟨_, rfl, RepS.int (RepS.int (RepS.str (RepS.last (Rows.sl hrow (hrows.mono hle2) (Nat.le_trans (m := 10) (by omega) (by decide))))))⟩
end Go.Vx

/- Contracts: the program's substitutions: pairs, copies, mapped variables. -/
namespace Go.Vx
open Go.Proofs Classical
section
variable {μ : Mem}
theorem T.leaf_own {x : T} {v : Value} (h : x.args = []) (hv : RepV μ x.tm.d v) : OwnV x.tm.d Mem.nil v := by
  obtain ⟨base, cap, rfl, _⟩ := T.inv hv
  rw [T.d_eq, h]
  rw [T.d_eq, h] at hv
  obtain ⟨cs, e, h1⟩ := hv
  obtain ⟨_, _, rfl, rfl, _, _, rfl, rfl, _, _, rfl, rfl, _, _, rfl, h7, rfl⟩ := h1
  obtain ⟨b, c, rfl, hl, _, _⟩ := h7
  exact ⟨_, e, OwnS.int (OwnS.int (OwnS.str (OwnS.last ⟨b, c, rfl, hl, by simp, .inl ⟨rfl, rfl⟩⟩)))⟩
theorem T.leaf_fresh {x : T} {v : Value} {μ' : Mem} (h : x.args = []) (hv : RepV μ x.tm.d v) : Fresh μ μ' x.tm.d v := ⟨Mem.nil, T.leaf_own h hv, (fun _ _ h => nomatch h), fun _ h => absurd rfl h⟩
/-- Two data of one's own make a row of one's own. -/
theorem two_fresh {μ1 μ2 : Mem} {a b : D} {va vb : Value} (na : a.n = 4) (nb : b.n = 4) (h1 : μ.Le μ1) (h2 : μ1.Le μ2) (ha : Fresh μ μ1 a va) (hb : Fresh μ1 μ2 b vb) : ∃ g, OwnRows 4 [a, b] [va, vb] g ∧ g.Le μ2 ∧ ∀ x, g x ≠ none → μ x = none := by
  obtain ⟨ga, a1, a2, a3⟩ := ha
  obtain ⟨gb, b1, b2, b3⟩ := hb
  have hap := fresh_apart a2 b3
  have k1 := (OwnRows.nil 4).snoc a1 na (Apart.nil_left _)
  have k2 := k1.snoc b1 nb (fun x hx => hap x (by
    rcases join_ne hx with h | h
    · exact absurd rfl h
    · exact h))
  refine ⟨_, k2, join_le (join_le (fun _ _ h => nomatch h) (a2.trans h2)) b2, fun x hx => ?_⟩
  rcases join_ne hx with h | h
  · rcases join_ne h with h | h
    · exact absurd rfl h
    · exact a3 x h
  · cases h0 : μ x with
    | none => rfl
    | some o => have := b3 x h; rw [h1 x o h0] at this; cases this
theorem pair_spec {a b : T} {va vb : Value} {μ0 g : Mem} (ha : RepV μ a.tm.d va) (hb : RepV μ b.tm.d vb) (hg : OwnRows 4 [a.tm.d, b.tm.d] [va, vb] g) (h1 : g.Le μ) (h2 : ∀ x, g x ≠ none → μ0 x = none) (h3 : μ0.Le μ) :
    Spec Try.prog 221 [va, vb] μ fun v μ' => Fresh μ0 μ' (T.pair a b).tm.d v := by
  obtain ⟨p, rfl⟩ := Tm.invV ha
  obtain ⟨q, rfl⟩ := Tm.invV hb
  refine Spec.mk Try.func221 (by kernel_rfl) ?_
  intro r1 r2 r3 r4
  refine ret_frz [3] fun μ' hle hno hrow => .inl ?_
  have hf := Fresh.ofRow hg h1 h2 h3 hle hno hrow (show 2 ≤ maxLen by decide)
  obtain ⟨gg, k1, k2, k3⟩ := hf
  rw [T.d_eq]
  exact ⟨gg, ⟨_, rfl, OwnS.int (OwnS.int (OwnS.str (OwnS.last k1)))⟩, k2, k3⟩
theorem copyTerm_spec : ∀ (x : T) {μ : Mem} {v : Value}, RepV μ x.tm.d v → Spec Try.prog 76 [v] μ fun v μ' => Fresh μ μ' x.tm.d v := by
  intro x
  induction x with
  | pair a b iha ihb =>
    intro μ v hv
    obtain ⟨base', cap', rfl, hsa⟩ := Tm.inv hv
    obtain ⟨ad, ad', p, p', h1, h2, hra, hrb⟩ := T.parts hsa
    refine Spec.mk Try.func76 (by kernel_rfl) ?_
    intro r1 r2
    refine ifnd (fun h => absurd rfl h) (fun _ => ?_)
    refine elem_intro h1 ?_
    refine elem_intro h2 ?_
    refine call_plain (iha hra) fun v1 μ1 hle1 hR1 => ?_
    refine call_plain (ihb (hrb.mono hle1)) fun v2 μ2 hle2 hR2 => ?_
    obtain ⟨g, k1, k2, k3⟩ := two_fresh (Tm.d_n _) (Tm.d_n _) hle1 hle2 hR1 hR2
    obtain ⟨q1, rfl⟩ := Tm.invV hR1.rep
    obtain ⟨q2, rfl⟩ := Tm.invV hR2.rep
    intro r3
    refine ret_frz [2] fun μ' hle hno hrow => .inl ?_
    obtain ⟨gg, g1, g2, g3⟩ := Fresh.ofRow k1 k2 k3 (hle1.trans hle2) hle hno hrow (show 2 ≤ maxLen by decide)
    rw [T.d_eq]
    exact ⟨gg, ⟨_, rfl, OwnS.int (OwnS.int (OwnS.str (OwnS.last g1)))⟩, g2, g3⟩
  | _ =>
    intro μ v hv
    obtain ⟨base', cap', rfl, hsa⟩ := Tm.inv hv
    refine Spec.mk Try.func76 (by kernel_rfl) ?_
    intro r1 r2
    refine ifnd (fun _ => ?_) (fun h => absurd h (by simp))
    refine ret_plain ?_
    rw [T.d_eq]
    exact ⟨Mem.nil, ⟨_, rfl, OwnS.int (OwnS.int (OwnS.str (OwnS.last (Own.nilSl 4))))⟩, (fun _ _ h => nomatch h), fun _ h => absurd rfl h⟩
/-- A closure that looks variables up. -/
def Looks (k : FuncId) (caps : List Value) (μ : Mem) (f : Int → Option T) : Prop :=
  ∀ μ', μ.Le μ' → ∀ n, Spec Try.prog k (.int .i64 n :: caps) μ' fun v μ'' => optV (fun y tv => RepV μ'' y.tm.d tv) (f n) v
theorem mapVars_spec {k : FuncId} {caps : List Value} {f : Int → Option T} : ∀ (x : T) {μ : Mem} {v : Value}, Looks k caps μ f → RepV μ x.tm.d v →
    Spec Try.prog 198 [v, .func (.func k) #[] caps.toArray] μ fun v μ' => Fresh μ μ' (x.subst f).tm.d v := by
  intro x
  induction x with
  | var n =>
    intro μ v hk hv
    obtain ⟨p, rfl⟩ := Tm.invV hv
    refine Spec.mk Try.func198 (by kernel_rfl) ?_
    intro r1 r2
    refine ifd (fun _ => ?_) (fun h => absurd rfl h)
    refine call_plain (hk μ (Mem.Le.refl μ) n) fun v' μ' hle hR => ?_
    simp only [T.subst]
    cases hs : f n with
    | some y =>
      rw [hs] at hR
      obtain ⟨tv, rfl, htv⟩ := hR
      obtain ⟨q, rfl⟩ := Tm.invV htv
      intro r3
      refine if_intro (fun _ => ?_) (fun h => nomatch h)
      refine call_plain (copyTerm_spec y htv) fun v2 μ2 hle2 hR2 => ?_
      obtain ⟨q2, rfl⟩ := Tm.invV hR2.rep
      exact ret_plain (hR2.mono hle (Mem.Le.refl _))
    | none =>
      rw [hs] at hR
      obtain rfl := hR
      intro r3
      refine if_intro (fun h => nomatch h) (fun _ => ?_)
      exact ret_plain (T.leaf_fresh rfl hv)
  | pair a b iha ihb =>
    intro μ v hk hv
    obtain ⟨base', cap', rfl, hsa⟩ := Tm.inv hv
    obtain ⟨ad, ad', p, p', h1, h2, hra, hrb⟩ := T.parts hsa
    refine Spec.mk Try.func198 (by kernel_rfl) ?_
    intro r1 r2
    refine ifd (fun h => absurd h (by simp)) (fun _ => ?_)
    refine ifd (fun _ => ?_) (fun h => absurd rfl h)
    refine elem_intro h1 ?_
    refine elem_intro h2 ?_
    refine call_plain (iha hk hra) fun v1 μ1 hle1 hR1 => ?_
    refine call_plain (ihb (fun μ' h => hk μ' (hle1.trans h)) (hrb.mono hle1)) fun v2 μ2 hle2 hR2 => ?_
    obtain ⟨g, k1, k2, k3⟩ := two_fresh (Tm.d_n _) (Tm.d_n _) hle1 hle2 hR1 hR2
    refine call_plain (pair_spec (hR1.rep.mono hle2) hR2.rep k1 k2 k3 (hle1.trans hle2)) fun v3 μ3 hle3 hR3 => ?_
    obtain ⟨q, rfl⟩ := Tm.invV hR3.rep
    exact ret_plain hR3
  | _ =>
    intro μ v hk hv
    obtain ⟨p, rfl⟩ := Tm.invV hv
    refine Spec.mk Try.func198 (by kernel_rfl) ?_
    intro r1 r2
    refine ifd (fun h => absurd h (by simp [T.tm, Tm.kind])) (fun _ => ?_)
    refine ifd (fun h => absurd h (by simp [T.tm, Tm.kind])) (fun _ => ?_)
    exact ret_plain (T.leaf_fresh rfl hv)
end
end Go.Vx

/- Contracts: the program's substitutions: sizes, searches, values put in. -/
namespace Go.Vx
open Go.Proofs Classical
section
variable {μ : Mem}
/-- A closure that counts what a variable stands for. -/
def Counts (k : FuncId) (caps : List Value) (μ : Mem) (c : Int → Nat) : Prop := ∀ n, Gives Try.prog k (.int .i64 n :: caps) μ (.int .i64 (c n))
def cntOf (f : Int → Option T) (n : Int) : Nat := match f n with | some y => y.size | none => 1
theorem subst_var_size (f : Int → Option T) (n : Int) : ((T.var n).subst f).size = cntOf f n := by
  simp only [T.subst, cntOf]
  cases f n <;> rfl
theorem sizeWith_spec {k : FuncId} {caps : List Value} {f : Int → Option T} (hk : Counts k caps μ (cntOf f)) (hf : ∀ n, cntOf f n ≤ 5000) : ∀ (x : T) {v : Value}, RepV μ x.tm.d v →
    Gives Try.prog 196 [v, .func (.func k) #[] caps.toArray] μ (.int .i64 (min (x.subst f).size 5001 : Nat)) := by
  intro x
  induction x with
  | var n =>
    intro v hv
    obtain ⟨p, rfl⟩ := Tm.invV hv
    have := hf n
    refine Spec.mk Try.func196 (by kernel_rfl) ?_
    intro r1
    refine ifd (fun _ => ?_) (fun h => absurd rfl h)
    refine call_gives (hk n) (ret_gives ?_ rfl)
    rw [subst_var_size]
    congr 1
    show (if (5001 : Int) < (cntOf f n : Int) then (5001 : Int) else (cntOf f n : Int)) = _
    rw [if_neg (by omega)]
    omega
  | pair a b iha ihb =>
    intro v hv
    obtain ⟨base', cap', rfl, hsa⟩ := Tm.inv hv
    obtain ⟨ad, ad', p, p', h1, h2, hra, hrb⟩ := T.parts hsa
    have hs : ((T.pair a b).subst f).size = 1 + (a.subst f).size + (b.subst f).size := rfl
    refine Spec.mk Try.func196 (by kernel_rfl) ?_
    intro r1
    refine ifd (fun h => absurd h (by simp)) (fun _ => ?_)
    refine ifd (fun _ => ?_) (fun h => absurd rfl h)
    refine elem_intro h1 ?_
    refine call_gives (iha hra) ?_
    refine ifd (fun h => ret_gives ?_ rfl) (fun h => ?_)
    · rw [hs]; congr 1; omega
    · refine num64 (by omega) (by omega) ?_
      refine elem_intro h2 ?_
      refine call_gives (ihb hrb) ?_
      refine num64 (by omega) (by omega) (ret_gives ?_ rfl)
      rw [hs]
      congr 1
      split <;> omega
  | _ =>
    intro v hv
    obtain ⟨p, rfl⟩ := Tm.invV hv
    refine Spec.mk Try.func196 (by kernel_rfl) ?_
    intro r1
    refine ifd (fun h => absurd h (by simp [T.tm, Tm.kind])) (fun _ => ?_)
    refine ifd (fun h => absurd h (by simp [T.tm, Tm.kind])) (fun _ => ?_)
    exact ret_gives rfl rfl
theorem wrapu64 {n : Int} (h1 : 0 ≤ n) (h2 : n < 18446744073709551616) : IntKind.u64.wrap n = n := by
  have e : IntKind.u64.bits = 64 := rfl
  have e2 : IntKind.u64.signed = false := rfl
  simp only [IntKind.wrap, e, e2, Bool.false_and]
  simp only [show (2 : Int) ^ 64 = 18446744073709551616 from rfl]
  simp; omega
theorem Search_spec {k : FuncId} {caps : List Value} {p : Int → Prop} {n : Nat} (hn : n ≤ 1000000000) (hk : ∀ i : Nat, i < n → Gives Try.prog k (.int .i64 i :: caps) μ (.bool (decide (p i)))) :
    Spec Try.prog 144 [.int .i64 n, .func (.func k) #[] caps.toArray] μ fun v μ' => (∃ i : Nat, v = .int .i64 i ∧ i ≤ n ∧ (i < n → p i) ∧ ∀ j : Nat, j + 1 = i → ¬ p j) ∧ μ' = μ := by
  refine Spec.mk Try.func144 (by kernel_rfl) ?_
  refine loop_intro (fun q : Nat × Nat => q.1 ≤ q.2 ∧ q.2 ≤ n ∧ (q.2 < n → p q.2) ∧ ∀ j : Nat, j + 1 = q.1 → ¬ p j) (fun (i, j) => ⟨[(1, .val (.func (.func k) #[] caps.toArray)), (5, .val (.int .i64 i)), (6, .val (.int .i64 j))], [], 0, μ, Mem.nil⟩) (fun q => q.2 - q.1)
    (0, n) ⟨by simp, by simp, by simp, fun j hj => by simp at hj⟩ (fun (_, _) => ⟨rfl, rfl⟩) ⟨⟨rfl, rfl, rfl, trivial⟩, trivial, rfl, rfl⟩ ?_
  rintro ⟨i, j⟩ ⟨h1, h2, h3, h4⟩
  dsimp only at h1 h2 h3 h4
  refine ifd (fun h => ?_) (fun h => ?_)
  · refine num64 (by omega) (by omega) ?_
    refine num_eq (wrapu64 (by omega) (by omega)) ?_
    refine need_intro (by omega) ?_
    refine num_eq (x := (((i + j) / 2 : Nat) : Int)) ?_ ?_
    · show Int.fdiv ((i : Int) + j) (2 ^ (min (Int.toNat 1) 64)) = _
      rw [show min (Int.toNat 1) 64 = 1 from rfl, show (2 : Int) ^ 1 = 2 from rfl, Int.fdiv_eq_ediv_of_nonneg _ (by omega)]
      omega
    refine num64 (by omega) (by omega) ?_
    refine call_gives (hk ((i + j) / 2) (by omega)) ?_
    refine ifnd (fun hp => ?_) (fun hp => ?_)
    · refine num64 (by omega) (by omega) ⟨((i + j) / 2 + 1, j), ⟨by dsimp only; omega, h2, h3, fun m hm => ?_⟩, by dsimp only; omega, ⟨⟨rfl, rfl, rfl, trivial⟩, trivial, rfl, rfl⟩⟩
      dsimp only at hm
      obtain rfl : m = (i + j) / 2 := by omega
      exact hp
    · exact ⟨(i, (i + j) / 2), ⟨by dsimp only; omega, by dsimp only; omega, fun _ => hp, h4⟩, by dsimp only; omega, ⟨⟨rfl, rfl, rfl, trivial⟩, trivial, rfl, rfl⟩⟩
  · obtain rfl : i = j := by omega
    exact ret_plain ⟨⟨i, rfl, h2, h3, h4⟩, rfl⟩
end
end Go.Vx

/- Contracts: the program's search for a binding. -/
namespace Go.Vx
open Go.Proofs Classical
/-- Variables in order. -/
def Srt (bs : List B) : Prop := ∀ (i j : Nat) b c, i < j → bs[i]? = some b → bs[j]? = some c → b.var < c.var
section
variable {μ : Mem}
theorem B.elem {bs : List B} {base : Option Addr} {n : Nat} (h : Sl μ 5 base n ((bs.map B.bd).map Bd.d)) {i : Nat} {b : B} (hb : bs[i]? = some b) : ∃ ad, ∃ p : Option Addr × Nat, ElemAt μ base n 5 i ad (b.bd.cs p) ∧ RepV μ b.to.tm.d (.agg (b.to.tm.cs p).toArray) := by
  have hb' : (bs.map B.bd)[i]? = some b.bd := by simp [hb]
  obtain ⟨ad, p, h1, h2⟩ := Bd.elem h hb'
  exact ⟨ad, p, h1, Bd.toV h2⟩
def atLeast (bs : List B) (n : Int) (z : Int) : Prop := ∃ b, bs[z.toNat]? = some b ∧ n ≤ b.var
theorem find1_spec {bs : List B} {base : Option Addr} {cap : Nat} {n : Int} {r1 r2 : Nat} {t1 t2 : TypeId} (hsl : Sl μ 5 base bs.length ((bs.map B.bd).map Bd.d)) (h1 : μ r1 = some (.cells #[.slice base bs.length cap] t1 (0, 0))) (h2 : μ r2 = some (.cells #[.int .i64 n] t2 (0, 0))) {i : Nat} (hi : i < bs.length) :
    Gives Try.prog 145 [.int .i64 i, .pointer (some ⟨r1, 0, none⟩), .pointer (some ⟨r2, 0, none⟩)] μ (.bool (decide (atLeast bs n i))) := by
  obtain ⟨b, hb⟩ := at_some hi
  obtain ⟨ad, p, hel, _⟩ := B.elem hsl hb
  refine Spec.mk Try.func145 (by kernel_rfl) ?_
  refine ext_intro [.slice base bs.length cap] rfl (box_at h1) ?_
  refine elem_intro hel ?_
  refine ext_intro [.int .i64 n] rfl (box_at h2) ?_
  refine ret_gives (isI ?_) rfl
  constructor
  · intro h; exact ⟨b, hb, h⟩
  · rintro ⟨c, hc, h⟩
    have hc : bs[i]? = some c := hc
    rw [hb] at hc; cases hc; exact h
/-- Where a variable is bound. -/
def FindR (bs : List B) (n : Int) (v : Value) : Prop := (∃ (i : Nat) (b : B), v = .int .i64 i ∧ bs[i]? = some b ∧ b.var = n) ∨ (v = .int .i64 (-1) ∧ ∀ b ∈ bs, b.var ≠ n)
theorem find_spec {bs : List B} {base : Option Addr} {cap : Nat} {n : Int} (hs : Srt bs) (hlen : bs.length ≤ 1000000000) (hsl : Sl μ 5 base bs.length ((bs.map B.bd).map Bd.d)) :
    Spec Try.prog 75 [.slice base bs.length cap, .int .i64 n] μ fun v μ' => FindR bs n v ∧ μ' = μ := by
  refine Spec.forget (Spec.mk Try.func75 (by kernel_rfl) ?_)
  intro r1 r2
  refine call_frz [0, 1] ?_
  intro μ1 hle1 hno1 hat1 μ2 hle2 hno2 hat2
  have hsl2 := (hsl.mono hle1).mono hle2
  have e1 : μ2 r1 = some (.cells #[.slice base bs.length cap] 43 (0, 0)) := hle2 _ _ hat1
  refine call_go (Search_spec (p := atLeast bs n) hlen fun i hi => find1_spec hsl2 e1 hat2 hi) fun v μ3 hle3 hR => ?_
  obtain ⟨⟨i, rfl, g1, g2, g3⟩, rfl⟩ := hR
  have low : ∀ (j : Nat) b, j < i → bs[j]? = some b → b.var < n := fun j b hj hb => by
    obtain ⟨c, hc⟩ := at_some (l := bs) (i := i - 1) (by omega)
    have h4 : c.var < n := by
      rcases Int.lt_or_le c.var n with h | h
      · exact h
      · exact absurd ⟨c, hc, h⟩ (g3 (i - 1) (by omega))
    rcases Nat.lt_or_ge j (i - 1) with h | h
    · have := hs j (i - 1) b c h hb hc; omega
    · obtain rfl : j = i - 1 := by omega
      rw [hb] at hc; cases hc; exact h4
  have none : (∀ b, bs[i]? = some b → b.var ≠ n) → FindR bs n (.int .i64 (-1)) := fun h => .inr ⟨rfl, fun b hb => by
    obtain ⟨j, hj⟩ := List.mem_iff_getElem?.1 hb
    rcases Nat.lt_or_ge j i with h1 | h1
    · have := low j b h1 hj; omega
    · have hjl := (List.getElem?_eq_some_iff.1 hj).1
      obtain ⟨c, hc⟩ := at_some (l := bs) (i := i) (by omega)
      obtain ⟨c', hc', h2⟩ := g2 (by omega)
      have hc' : bs[i]? = some c' := hc'
      rw [hc] at hc'; cases hc'
      have := h c hc
      rcases Nat.eq_or_lt_of_le h1 with h3 | h3
      · subst h3; rw [hj] at hc; cases hc; omega
      · have := hs i j c b h3 hc hj; omega⟩
  refine ext_intro [.slice base bs.length cap] rfl (box_at e1) ?_
  refine ifd (fun h => ?_) (fun h => ?_)
  · obtain ⟨b, hb⟩ := at_some (l := bs) (i := i) (by omega)
    obtain ⟨ad, p, hel, _⟩ := B.elem hsl2 hb
    refine ext_intro [.slice base bs.length cap] rfl (box_at e1) ?_
    refine elem_intro hel ?_
    refine ext_intro [.int .i64 n] rfl (box_at hat2) ?_
    refine ifd (fun h2 => ?_) (fun h2 => ?_)
    · exact ret_plain (.inl ⟨i, b, rfl, hb, h2⟩)
    · exact ret_plain (none fun c hc => by rw [hb] at hc; cases hc; exact h2)
  · exact ret_plain (none fun c hc => absurd (List.getElem?_eq_some_iff.1 hc).1 (by omega))
end
end Go.Vx

/- Contracts: the program's put and Instantiate. -/
namespace Go.Vx
open Go.Proofs Classical
theorem Srt.tail {b : B} {bs : List B} (h : Srt (b :: bs)) : Srt bs := fun i j c d hij hc hd => h (i + 1) (j + 1) c d (by omega) (by simpa using hc) (by simpa using hd)
theorem sub_some : ∀ {bs : List B} (_ : Srt bs) {i : Nat} {b : B} {n : Int}, bs[i]? = some b → b.var = n → sub bs n = some b.to
  | [], _, i, b, n, h, _ => by simp at h
  | c :: bs, hs, 0, b, n, h, e => by
    simp only [List.getElem?_cons_zero, Option.some.injEq] at h
    subst h
    rw [sub, if_pos e]
  | c :: bs, hs, i + 1, b, n, h, e => by
    have := hs 0 (i + 1) c b (by omega) rfl h
    rw [sub, if_neg (by omega)]
    exact sub_some hs.tail (by simpa using h) e
theorem sub_none : ∀ {bs : List B} {n : Int}, (∀ b ∈ bs, b.var ≠ n) → sub bs n = none
  | [], _, _ => rfl
  | c :: bs, n, h => by
    rw [sub, if_neg (h c (by simp))]
    exact sub_none fun b hb => h b (by simp [hb])
theorem sub_ok : ∀ {bs : List B} (_ : ∀ b ∈ bs, b.to.ok) {n : Int} {y : T}, sub bs n = some y → y.ok
  | [], _, n, y, h => by simp [sub] at h
  | c :: bs, hk, n, y, h => by
    rw [sub] at h
    split at h
    · cases h; exact hk c (by simp)
    · exact sub_ok (fun b hb => hk b (by simp [hb])) h
theorem valsOk.srt {l : List Bd} (h : valsOk l) : Srt (l.map Bd.b) := by
  intro i j b c hij hb hc
  simp only [List.getElem?_map, Option.map_eq_some_iff] at hb hc
  obtain ⟨b, hb, rfl⟩ := hb
  obtain ⟨c, hc, rfl⟩ := hc
  show b.var < c.var
  induction j generalizing c with
  | zero => omega
  | succ j ih =>
    have hj : j < l.length := by have := (List.getElem?_eq_some_iff.1 hc).1; omega
    obtain ⟨d, hd⟩ := at_some hj
    have h1 := (h.2 (j + 1) c hc).2.2 j d rfl hd
    rcases Nat.lt_or_ge i j with h2 | h2
    · have := ih h2 d hd; omega
    · obtain rfl : i = j := by omega
      rw [hb] at hd; cases hd; exact h1
section
variable {μ : Mem}
theorem put1_looks {bs : List B} {base : Option Addr} {cap : Nat} {r : Nat} {ty : TypeId} (hs : Srt bs) (hlen : bs.length ≤ 1000000000) (hsl : Sl μ 5 base bs.length ((bs.map B.bd).map Bd.d)) (h : μ r = some (.cells #[.slice base bs.length cap] ty (0, 0))) :
    Looks 143 [.pointer (some ⟨r, 0, none⟩)] μ (sub bs) := fun μ' hle n => by
  have hsl := hsl.mono hle
  have h : μ' r = _ := hle _ _ h
  refine Spec.mk Try.func143 (by kernel_rfl) ?_
  intro r1
  refine ext_intro [.slice base bs.length cap] rfl (box_at h) ?_
  refine call_plain (find_spec hs hlen hsl) fun v μ2 hle2 hR => ?_
  obtain ⟨hR, e2⟩ := hR
  obtain rfl := e2.symm
  rcases hR with ⟨i, b, rfl, hb, hn⟩ | ⟨rfl, hno⟩
  · rw [sub_some hs hb hn]
    obtain ⟨ad, p, hel, hto⟩ := B.elem hsl hb
    refine ifd (fun _ => ?_) (fun h => absurd h (by omega))
    refine ext_intro [.slice base bs.length cap] rfl (box_at h) ?_
    refine elem_intro hel ?_
    exact ret_plain ⟨_, rfl, hto⟩
  · rw [sub_none hno]
    refine ifd (fun h => absurd h (by omega)) (fun _ => ?_)
    exact ret_plain rfl
theorem replaced1_counts {k : FuncId} {caps : List Value} {f : Int → Option T} {r : Nat} {ty : TypeId} (hk : Looks k caps μ f) (hf : ∀ n y, f n = some y → y.ok) (h : μ r = some (.cells #[.func (.func k) #[] caps.toArray] ty (0, 0))) :
    Counts 197 [.pointer (some ⟨r, 0, none⟩)] μ (cntOf f) := fun n => by
  refine (Spec.forget (R := fun v => v = .int .i64 (cntOf f n)) (Spec.mk Try.func197 (by kernel_rfl) ?_))
  refine ext_intro [.func (.func k) #[] caps.toArray] rfl (box_at h) ?_
  refine call_plain (hk μ (Mem.Le.refl μ) n) fun v μ1 hle1 hR => ?_
  simp only [cntOf]
  cases hs : f n with
  | some y =>
    rw [hs] at hR
    obtain ⟨tv, rfl, htv⟩ := hR
    obtain ⟨q, rfl⟩ := Tm.invV htv
    intro r3
    refine if_intro (fun _ => ?_) (fun h => nomatch h)
    refine call_gives (nodesOf_spec y.tm htv (by decide) (by decide)) ?_
    have hy := (hf n y hs).tm
    rw [Tm.nodes_pos hy.1 (by have := hy.2; omega), T.cnt_tm]
    exact ret_plain rfl
  | none =>
    rw [hs] at hR
    obtain rfl := hR
    intro r3
    refine if_intro (fun h => nomatch h) (fun _ => ?_)
    exact ret_plain rfl
/-- A substituted term, if it is not too big. -/
noncomputable def fit (x : T) : Option T := if x.size ≤ 5000 then some x else none
theorem replaced_spec {k : FuncId} {caps : List Value} {f : Int → Option T} (x : T) {v : Value} (hk : Looks k caps μ f) (hf : ∀ n y, f n = some y → y.ok) (hv : RepV μ x.tm.d v) :
    Spec Try.prog 142 [v, .func (.func k) #[] caps.toArray] μ fun v μ' => optV (fun y tv => Fresh μ μ' y.tm.d tv) (fit (x.subst f)) v := by
  obtain ⟨p, rfl⟩ := Tm.invV hv
  have hc : ∀ n, cntOf f n ≤ 5000 := fun n => by
    simp only [cntOf]
    split
    · rename_i y hy
      exact (hf n y hy).2
    · omega
  refine Spec.mk Try.func142 (by kernel_rfl) ?_
  intro r1 r2 r3
  refine call_frz [1] ?_
  intro μ1 hle1 hno1 hat1
  have hk1 : Looks k caps μ1 f := fun μ' h => hk μ' (hle1.trans h)
  refine call_go (sizeWith_spec (replaced1_counts hk1 hf hat1) hc x (hv.mono hle1)) fun v μ2 hle2 hR => ?_
  obtain ⟨rfl, e2⟩ := hR
  obtain rfl := e2.symm
  refine ifd (fun h => ?_) (fun h => ?_)
  · rw [fit, if_neg (by omega)]
    exact ret_plain rfl
  · rw [fit, if_pos (by omega)]
    refine ext_intro [.func (.func k) #[] caps.toArray] rfl (box_at hat1) ?_
    refine call_plain (mapVars_spec x hk1 (hv.mono hle1)) fun v2 μ3 hle3 hR3 => ?_
    obtain ⟨q, rfl⟩ := Tm.invV hR3.rep
    exact ret_plain ⟨_, rfl, hR3.mono hle1 (Mem.Le.refl _)⟩
theorem put_spec {bs : List B} {base : Option Addr} {cap : Nat} (x : T) {v : Value} (hs : Srt bs) (hlen : bs.length ≤ 1000000000) (hk : ∀ b ∈ bs, b.to.ok) (hsl : Sl μ 5 base bs.length ((bs.map B.bd).map Bd.d)) (hv : RepV μ x.tm.d v) :
    Spec Try.prog 74 [.slice base bs.length cap, v] μ fun v μ' => optV (fun y tv => Fresh μ μ' y.tm.d tv) (fit (x.subst (sub bs))) v := by
  obtain ⟨p, rfl⟩ := Tm.invV hv
  refine Spec.mk Try.func74 (by kernel_rfl) ?_
  intro r1 r2 r3
  refine call_frz [0] ?_
  intro μ1 hle1 hno1 hat1
  refine call_go (replaced_spec x (put1_looks hs hlen (hsl.mono hle1) hat1) (fun n y h => sub_ok hk h) (hv.mono hle1)) fun v μ2 hle2 hR => ?_
  cases hf : fit (x.subst (sub bs)) with
  | some y =>
    rw [hf] at hR
    obtain ⟨tv, rfl, htv⟩ := hR
    obtain ⟨q, rfl⟩ := Tm.invV htv.rep
    exact ret_plain ⟨_, rfl, htv.mono hle1 (Mem.Le.refl _)⟩
  | none =>
    rw [hf] at hR
    obtain rfl := hR
    exact ret_plain rfl
end
end Go.Vx

/- Contracts: terms compared. -/
namespace Go.Vx
open Go.Proofs Classical
def sgn (b : Bool) : Int := if b then -1 else 1
/-- The comparison of two terms' own fields, then the rest. -/
noncomputable def hdCmp (x y : Tm) (rest : Int) : Int :=
  if x.kind ≠ y.kind then sgn (decide (x.kind < y.kind)) else if x.num ≠ y.num then sgn (decide (x.num < y.num)) else if x.name ≠ y.name then sgn (Op.bytesLess x.name.data.toList y.name.data.toList) else rest
noncomputable def T.cmp : T → T → Int
  | .pair a b, .pair c d => if a.cmp c = 0 then b.cmp d else a.cmp c
  | .pair a b, .nil => hdCmp (T.pair a b).tm T.nil.tm 0
  | .pair a b, .var n => hdCmp (T.pair a b).tm (T.var n).tm 0
  | .pair a b, .sym n => hdCmp (T.pair a b).tm (T.sym n).tm 0
  | .pair a b, .num n => hdCmp (T.pair a b).tm (T.num n).tm 0
  | .nil, y => hdCmp T.nil.tm y.tm 0
  | .var n, y => hdCmp (T.var n).tm y.tm 0
  | .sym n, y => hdCmp (T.sym n).tm y.tm 0
  | .num n, y => hdCmp (T.num n).tm y.tm 0
theorem sgn_ne (b : Bool) : sgn b ≠ 0 := by cases b <;> simp [sgn]
theorem hdCmp_zero {x y : Tm} {r : Int} : hdCmp x y r = 0 ↔ x.kind = y.kind ∧ x.num = y.num ∧ x.name = y.name ∧ r = 0 := by
  unfold hdCmp
  split
  · rename_i h; exact ⟨fun k => absurd k (sgn_ne _), fun k => absurd k.1 h⟩
  · split
    · rename_i h; exact ⟨fun k => absurd k (sgn_ne _), fun k => absurd k.2.1 h⟩
    · split
      · rename_i h; exact ⟨fun k => absurd k (sgn_ne _), fun k => absurd k.2.2.1 h⟩
      · rename_i h1 h2 h3
        exact ⟨fun k => ⟨Classical.not_not.1 h1, Classical.not_not.1 h2, Classical.not_not.1 h3, k⟩, fun k => k.2.2.2⟩
theorem T.cmp_zero : ∀ x y : T, x.cmp y = 0 ↔ x = y := by
  intro x
  induction x with
  | pair a b iha ihb =>
    intro y
    cases y with
    | pair c d =>
      rw [T.cmp, T.pair.injEq, ← iha, ← ihb]
      split
      · rename_i h; exact ⟨fun k => ⟨h, k⟩, fun k => k.2⟩
      · rename_i h; exact ⟨fun k => absurd k h, fun k => absurd k.1 h⟩
    | _ => rw [T.cmp, hdCmp_zero]; simp [T.tm, Tm.kind]
  | _ =>
    intro y
    rw [T.cmp, hdCmp_zero]
    cases y <;> simp [T.tm, Tm.kind, Tm.num, Tm.name]
theorem hd1 {x y : Tm} {r : Int} (h : ¬ x.kind = y.kind) : hdCmp x y r = sgn (decide (x.kind < y.kind)) := by rw [hdCmp, if_pos h]
theorem hd2 {x y : Tm} {r : Int} (h1 : x.kind = y.kind) (h : ¬ x.num = y.num) : hdCmp x y r = sgn (decide (x.num < y.num)) := by rw [hdCmp, if_neg (fun k => k h1), if_pos h]
theorem hd3 {x y : Tm} {r : Int} (h1 : x.kind = y.kind) (h2 : x.num = y.num) (h : ¬ x.name = y.name) : hdCmp x y r = sgn (Op.bytesLess x.name.data.toList y.name.data.toList) := by rw [hdCmp, if_neg (fun k => k h1), if_neg (fun k => k h2), if_pos h]
theorem hd4 {x y : Tm} {r : Int} (h1 : x.kind = y.kind) (h2 : x.num = y.num) (h : x.name = y.name) : hdCmp x y r = r := by rw [hdCmp, if_neg (fun k => k h1), if_neg (fun k => k h2), if_neg (fun k => k h)]
section
variable {μ : Mem}
theorem orderInts_spec (a b : Int) (h : ¬ a = b) : Gives Try.prog 134 [.int .i64 a, .int .i64 b] μ (.int .i64 (sgn (decide (a < b)))) := by
  refine Spec.mk Try.func134 (by kernel_rfl) ?_
  refine ifd (fun h1 => ret_gives ?_ rfl) (fun h1 => ?_)
  · rw [decide_eq_true h1]; rfl
  refine ifd (fun h2 => ret_gives ?_ rfl) (fun h2 => by omega)
  rw [decide_eq_false h1]; rfl
theorem l02Sign_spec (b : Bool) : Gives Try.prog 179 [.bool b] μ (.int .i64 (sgn b)) := by
  refine Spec.mk Try.func179 (by kernel_rfl) ?_
  refine if_intro (fun h1 => ret_gives ?_ rfl) (fun h1 => ret_gives ?_ rfl)
  · rw [h1]; rfl
  · rw [h1]; rfl
noncomputable def T.rest : T → T → Int
  | .pair a b, .pair c d => if a.cmp c = 0 then b.cmp d else a.cmp c
  | _, _ => 0
theorem T.cmp_eq (x y : T) : x.cmp y = hdCmp x.tm y.tm (x.rest y) := by
  cases x with
  | pair a b =>
    cases y with
    | pair c d => rw [T.cmp, hd4 (x := (T.pair a b).tm) (y := (T.pair c d).tm) rfl rfl rfl]; rfl
    | _ => rw [T.cmp]; rfl
  | _ => rw [T.cmp]; rfl
theorem T.rest_at {x y : T} {i : Nat} {p q : T} (h : ∀ j p q, j < i → x.args[j]? = some p → y.args[j]? = some q → p.cmp q = 0) (hp : x.args[i]? = some p) (hq : y.args[i]? = some q) (hne : p.cmp q ≠ 0) : x.rest y = p.cmp q := by
  cases x with
  | pair a b =>
    cases y with
    | pair c d =>
      simp only [T.rest]
      match i, hp, hq with
      | 0, hp, hq => cases hp; cases hq; rw [if_neg hne]
      | 1, hp, hq =>
        cases hp; cases hq
        have := h 0 a c (by omega) rfl rfl
        rw [if_pos this]
      | i + 2, hp, hq => simp [T.args] at hp
    | _ => simp [T.args] at hq
  | _ => simp [T.args] at hp
theorem T.rest_zero {x y : T} (h : ∀ (j : Nat) p q, j < x.args.length → x.args[j]? = some p → y.args[j]? = some q → p.cmp q = 0) : x.rest y = 0 := by
  cases x with
  | pair a b =>
    cases y with
    | pair c d =>
      have h0 := h 0 a c (by simp [T.args]) rfl rfl
      have h1 := h 1 b d (by simp [T.args]) rfl rfl
      simp only [T.rest]
      rw [if_pos h0, h1]
    | _ => rfl
  | _ => rfl
theorem T.args_kind {x y : T} (h : x.tm.kind = y.tm.kind) : x.args.length = y.args.length := by
  cases x <;> cases y <;> simp_all [T.tm, Tm.kind, T.args]
theorem T.kind4 {x : T} (h : x.tm.kind = 4) : ∃ a b, x = .pair a b := by
  cases x <;> simp_all [T.tm, Tm.kind]
theorem T.arg {μ : Mem} {x : T} {base : Option Addr} (h : Sl μ 4 base x.args.length ((x.args.map T.tm).map Tm.d)) {i : Nat} {y : T} (hy : x.args[i]? = some y) : ∃ ad, ∃ p : Option Addr × Nat, ElemAt μ base x.args.length 4 i ad (y.tm.cs p) ∧ RepV μ y.tm.d (.agg (y.tm.cs p).toArray) :=
  Tm.elem h (by simp [hy])
theorem orderTerms_spec : ∀ (x y : T) {v w : Value}, RepV μ x.tm.d v → RepV μ y.tm.d w → Gives Try.prog 135 [v, w] μ (.int .i64 (x.cmp y)) :=
  T.ind fun x ih y v w hv hw => by
    obtain ⟨b1, c1, rfl, hs1⟩ := T.inv hv
    obtain ⟨b2, c2, rfl, hs2⟩ := T.inv hw
    rw [T.cmp_eq]
    refine Spec.mk Try.func135 (by kernel_rfl) ?_
    intro r1 r2
    refine ifnd (fun h => ?_) (fun h1 => ?_)
    · exact call_gives (orderInts_spec _ _ h) (ret_gives (by rw [hd1 h]) rfl)
    refine ifnd (fun h => ?_) (fun h2 => ?_)
    · exact call_gives (orderInts_spec _ _ h) (ret_gives (by rw [hd2 h1 h]) rfl)
    refine ifnd (fun h => ?_) (fun h3 => ?_)
    · refine if_intro (fun h4 => ret_gives ?_ rfl) (fun h4 => ret_gives ?_ rfl)
      · rw [hd3 h1 h2 h, h4]; rfl
      · rw [hd3 h1 h2 h, h4]; rfl
    rw [hd4 h1 h2 h3]
    refine ifnd (fun h => ?_) (fun h4 => ?_)
    · refine ret_gives ?_ rfl
      have : x.rest y = 0 := by cases x <;> first | rfl | exact absurd rfl h
      rw [this]
    obtain ⟨a, b, rfl⟩ := T.kind4 h4
    obtain ⟨c, d, rfl⟩ := T.kind4 (h1 ▸ h4)
    obtain ⟨ad1, p1, e1, g1⟩ := T.arg hs1 (i := 0) rfl
    obtain ⟨ad2, p2, e2, g2⟩ := T.arg hs2 (i := 0) rfl
    obtain ⟨ad3, p3, e3, g3⟩ := T.arg hs1 (i := 1) rfl
    obtain ⟨ad4, p4, e4, g4⟩ := T.arg hs2 (i := 1) rfl
    refine elem_intro e1 (elem_intro e2 (call_gives (ih a (by simp [T.args]) c g1 g2) ?_))
    simp only [T.rest]
    refine ifnd (fun h => ?_) (fun h5 => ?_)
    · rw [if_neg h]; exact ret_gives rfl rfl
    · rw [if_pos h5]
      exact elem_intro e3 (elem_intro e4 (call_gives (ih b (by simp [T.args]) d g3 g4) (ret_gives rfl rfl)))
theorem l02Cmp_spec : ∀ (x y : T) {v w : Value}, RepV μ x.tm.d v → RepV μ y.tm.d w → Gives Try.prog 180 [v, w] μ (.int .i64 (x.cmp y)) :=
  T.ind fun x ih y v w hv hw => by
    obtain ⟨b1, c1, rfl, hs1⟩ := T.inv hv
    obtain ⟨b2, c2, rfl, hs2⟩ := T.inv hw
    have hn := T.args_le x
    rw [T.cmp_eq]
    refine Spec.mk Try.func180 (by kernel_rfl) ?_
    intro r1 r2
    refine ifnd (fun h => ?_) (fun h1 => ?_)
    · exact call_gives (l02Sign_spec _) (ret_gives (by rw [hd1 h]) rfl)
    refine ifnd (fun h => ?_) (fun h2 => ?_)
    · exact call_gives (l02Sign_spec _) (ret_gives (by rw [hd2 h1 h]) rfl)
    refine ifnd (fun h => ?_) (fun h3 => ?_)
    · exact call_gives (l02Sign_spec _) (ret_gives (by rw [hd3 h1 h2 h]) rfl)
    rw [hd4 h1 h2 h3]
    have hlen := T.args_kind h1
    refine loop_intro (fun i : Nat => i ≤ x.args.length ∧ ∀ j p q, j < i → x.args[j]? = some p → y.args[j]? = some q → p.cmp q = 0) (fun i => ⟨[(2, .loc 0 r1 0), (3, .loc 1 r2 0), (5, .val (.int .i64 i))], [(0, some (.cells r1 [.val (.int .i64 x.tm.kind), .val (.int .i64 x.tm.num), .val (.string x.tm.name), .val (.slice b1 x.args.length c1)] 66)), (1, some (.cells r2 [.val (.int .i64 y.tm.kind), .val (.int .i64 y.tm.num), .val (.string y.tm.name), .val (.slice b2 y.args.length c2)] 66))], 2, μ, Mem.nil⟩) (fun i => x.args.length - i)
      0 ⟨by omega, fun j p q hj => by omega⟩ (fun i => ⟨rfl, rfl⟩) ⟨⟨rfl, rfl, rfl, trivial⟩, ⟨rfl, rfl, trivial⟩, rfl, rfl⟩ ?_
    rintro i ⟨hi, hz⟩
    refine ifd (fun h => ?_) (fun h => ?_)
    · refine ifd (fun h' => ?_) (fun h' => by omega)
      obtain ⟨p, hp⟩ := at_some (l := x.args) (i := i) (by omega)
      obtain ⟨q, hq⟩ := at_some (l := y.args) (i := i) (by omega)
      obtain ⟨ad1, p1, e1, g1⟩ := T.arg hs1 hp
      obtain ⟨ad2, p2, e2, g2⟩ := T.arg hs2 hq
      refine elem_intro e1 (elem_intro e2 (call_gives (ih p (mem_at hp) q g1 g2) ?_))
      refine ifnd (fun h5 => ?_) (fun h5 => ?_)
      · rw [T.rest_at hz hp hq h5]; exact ret_gives rfl rfl
      · refine num64 (by omega) (by omega) ⟨i + 1, ⟨by omega, fun j p' q' hj hp' hq' => ?_⟩, by omega, ⟨⟨rfl, rfl, rfl, trivial⟩, ⟨rfl, rfl, trivial⟩, rfl, rfl⟩⟩
        rcases Nat.lt_or_ge j i with h6 | h6
        · exact hz j p' q' h6 hp' hq'
        · obtain rfl : j = i := by omega
          rw [hp] at hp'; rw [hq] at hq'; cases hp'; cases hq'; exact h5
    · obtain rfl : i = x.args.length := by omega
      rw [T.rest_zero hz]
      exact ret_gives rfl rfl
theorem equalTerms_spec (x y : T) {v w : Value} (hv : RepV μ x.tm.d v) (hw : RepV μ y.tm.d w) : Gives Try.prog 136 [v, w] μ (.bool (decide (x = y))) := by
  obtain ⟨p, rfl⟩ := Tm.invV hv
  obtain ⟨q, rfl⟩ := Tm.invV hw
  refine Spec.mk Try.func136 (by kernel_rfl) ?_
  intro r1 r2
  exact call_gives (orderTerms_spec x y hv hw) (ret_gives (isI (T.cmp_zero x y)) rfl)
theorem l02Same_spec (x y : T) {v w : Value} (hv : RepV μ x.tm.d v) (hw : RepV μ y.tm.d w) : Gives Try.prog 181 [v, w] μ (.bool (decide (x = y))) := by
  obtain ⟨p, rfl⟩ := Tm.invV hv
  obtain ⟨q, rfl⟩ := Tm.invV hw
  refine Spec.mk Try.func181 (by kernel_rfl) ?_
  intro r1 r2
  exact call_gives (l02Cmp_spec x y hv hw) (ret_gives (isI (T.cmp_zero x y)) rfl)
/-- A variable as a term. -/
def varV (n : Int) : Value := .agg #[.int .i64 1, .int .i64 n, .string ⟨#[]⟩, .slice none 0 0]
theorem varV_own (n : Int) : OwnV (T.var n).tm.d Mem.nil (varV n) := by
  rw [T.d_eq]
  exact ⟨_, rfl, OwnS.int (OwnS.int (OwnS.str (OwnS.last (Own.nilSl 4))))⟩
theorem varV_rep (n : Int) : RepV μ (T.var n).tm.d (varV n) := (varV_own n).rep (fun _ _ h => nomatch h)
theorem variable_spec (n : Int) : Gives Try.prog 86 [.int .i64 n] μ (varV n) := by
  refine Spec.mk Try.func86 (by kernel_rfl) ?_
  intro r1
  exact ret_gives rfl rfl
theorem l02Var_spec (n : Int) : Gives Try.prog 148 [.int .i64 n] μ (varV n) := by
  refine Spec.mk Try.func148 (by kernel_rfl) ?_
  intro r1
  exact ret_gives rfl rfl
end
end Go.Vx

/- Contracts: variables in the order in which they come. -/
namespace Go.Vx
open Go.Proofs Classical
noncomputable def ord (acc : List Int) (n : Int) : List Int := if n ∈ acc then acc else acc ++ [n]
noncomputable def ordAll (acc vs : List Int) : List Int := vs.foldl ord acc
theorem ordAll_append (acc a b : List Int) : ordAll acc (a ++ b) = ordAll (ordAll acc a) b := List.foldl_append
theorem ord_length (acc : List Int) (n : Int) : (ord acc n).length ≤ acc.length + 1 := by unfold ord; split <;> simp
theorem ordAll_length : ∀ (vs acc : List Int), (ordAll acc vs).length ≤ acc.length + vs.length
  | [], acc => by simp [ordAll]
  | n :: vs, acc => by
    have h1 := ordAll_length vs (ord acc n)
    have h2 := ord_length acc n
    simp only [ordAll, List.foldl_cons, List.length_cons] at *
    omega
theorem ord_mem (acc : List Int) (n m : Int) : m ∈ ord acc n ↔ m = n ∨ m ∈ acc := by
  unfold ord
  split
  · rename_i h
    exact ⟨.inr, fun k => k.elim (fun e => e ▸ h) id⟩
  · simp only [List.mem_append, List.mem_singleton]
    exact or_comm
theorem ordAll_mem : ∀ (vs acc : List Int) (m : Int), m ∈ ordAll acc vs ↔ m ∈ vs ∨ m ∈ acc
  | [], acc, m => by simp [ordAll]
  | n :: vs, acc, m => by
    have := ordAll_mem vs (ord acc n) m
    simp only [ordAll, List.foldl_cons] at *
    rw [this, ord_mem, List.mem_cons]
    constructor
    · rintro (h | h | h) <;> simp [h]
    · rintro ((h | h) | h) <;> simp [h]
theorem ord_nodup {acc : List Int} (h : acc.Nodup) (n : Int) : (ord acc n).Nodup := by
  unfold ord
  split
  · exact h
  · rename_i hn
    refine List.nodup_append.2 ⟨h, by simp, fun a ha b hb => ?_⟩
    simp only [List.mem_singleton] at hb
    subst hb
    exact fun e => hn (e ▸ ha)
theorem ordAll_nodup : ∀ (vs : List Int) {acc : List Int}, acc.Nodup → (ordAll acc vs).Nodup
  | [], _, h => h
  | n :: vs, acc, h => ordAll_nodup vs (ord_nodup h n)
section
variable {μ : Mem}
/-- What the program's closure owns: the set of those seen, and those in order. -/
def OrdInv (rm ro : Nat) (acc : List Int) (h : Mem) : Prop := ∃ r rr cap l, h rm = some (.cells #[.map (some r)] 238 (0, 0)) ∧ h ro = some (.cells #[.slice (some ⟨rr, 0, none⟩) acc.length cap] 84 (0, 0)) ∧
  h r = some (mapO l) ∧ MapOk IntKey l ∧ (∀ n, mget l (.int .i64 n) = if n ∈ acc then some (.bool true) else none) ∧ RowO h rr cap 3 1 (ints acc)
theorem flat_vars_length {xs : List T} (hx : ∀ x ∈ xs, x.size ≤ 5000) : (xs.flatMap T.vars).length ≤ xs.length * 5000 := by
  induction xs with
  | nil => simp
  | cons x xs ih =>
    have h1 := T.vars_size x
    have h2 := hx x (by simp)
    have h3 := ih fun y hy => hx y (by simp [hy])
    simp only [List.flatMap_cons, List.length_append, List.length_cons]
    omega
theorem flat_take {α β : Type} {f : α → List β} {xs : List α} {i : Nat} {x : α} (h : xs[i]? = some x) : (xs.take (i + 1)).flatMap f = (xs.take i).flatMap f ++ f x := by
  rw [List.take_add_one, h, Option.toList_some, List.flatMap_append]; simp
/-! ### The reference's -/
end
end Go.Vx

/- Contracts: bindings inserted; names by number; the reference's canonical terms. -/
namespace Go.Vx
open Go.Proofs Classical
section
variable {μ : Mem}
theorem Rep.val : ∀ {d : D} {c : List Value}, Rep μ d c → ∃ v, RepV μ d v ∧ vcells v = c
  | .st fs, c, h => ⟨.agg c.toArray, ⟨c, rfl, h⟩, by simp [vcells]⟩
  | .i n, c, h => by
    have h2 : c = [.int .i64 n] := h
    subst h2; exact ⟨_, h, rfl⟩
  | .b x, c, h => by
    have h2 : c = [.bool x] := h
    subst h2; exact ⟨_, h, rfl⟩
  | .s x, c, h => by
    have h2 : c = [.string x] := h
    subst h2; exact ⟨_, h, rfl⟩
  | .sl es xs, c, h => by
    obtain ⟨base, cap, h1, h2⟩ := h
    subst h1
    exact ⟨_, ⟨base, cap, rfl, h2⟩, rfl⟩
theorem RepS.rows {es : Nat} : ∀ {l : List D} {flat : List Value}, RepS μ l flat → (∀ x ∈ l, x.n = es) → ∃ vs, Rows μ es l vs ∧ vs.flatMap vcells = flat
  | [], flat, h, _ => by
    have h : flat = [] := h
    subst h; exact ⟨[], .nil, rfl⟩
  | d :: l, flat, h, hn => by
    obtain ⟨c1, c2, rfl, h1, h2⟩ := h
    obtain ⟨v, hv, rfl⟩ := Rep.val h1
    obtain ⟨vs, hr, rfl⟩ := RepS.rows h2 fun x hx => hn x (by simp [hx])
    exact ⟨v :: vs, .cons hv (hn d (by simp)) hr, by simp⟩
theorem Rows.take {es : Nat} : ∀ {ds : List D} {vs : List Value} (k : Nat), Rows μ es ds vs → Rows μ es (ds.take k) (vs.take k)
  | _, _, 0, _ => by simpa using Rows.nil
  | _, _, k + 1, .nil => by simpa using Rows.nil
  | _, _, k + 1, .cons h hn r => by simpa using Rows.cons h hn (r.take k)
theorem Rows.drop {es : Nat} : ∀ {ds : List D} {vs : List Value} (k : Nat), Rows μ es ds vs → Rows μ es (ds.drop k) (vs.drop k)
  | _, _, 0, h => by simpa using h
  | _, _, k + 1, .nil => by simpa using Rows.nil
  | _, _, k + 1, .cons h hn r => by simpa using r.drop k
theorem Rows.size {es : Nat} : ∀ {ds : List D} {vs : List Value}, Rows μ es ds vs → ∀ v ∈ vs, (vcells v).length = es ∧ ∀ u ∈ vcells v, u.oneCell' = true
  | _, _, .nil, v, hv => by simp at hv
  | _, _, .cons h hn r, v, hv => by
    rcases List.mem_cons.1 hv with rfl | hv
    · exact ⟨by rw [Rep.len _ _ h.cells]; exact hn, Rep.one _ _ h.cells⟩
    · exact r.size v hv
/-- A slice's elements as a row that an append may read. -/
theorem Rep.src {es n cap : Nat} {base : Option Addr} {ds : List D} (h : RepV μ (.sl es ds) (.slice base n cap)) :
    ∃ vs, Rows μ es ds vs ∧ vs.length = n ∧ n ≤ cap ∧ ∀ a b, a ≤ b → b ≤ n → SrcAt μ (if cap = a then base else base.map (·.add (a * es))) (b - a) es ((vs.drop a).take (b - a)) := by
  have h' : Rep μ (.sl es ds) [.slice base n cap] := h
  have hcap := Rep.lens h'
  obtain ⟨b0, c0, h1, h2, h3, h4⟩ := h'
  simp only [List.cons.injEq, and_true] at h1
  obtain ⟨rfl, rfl, rfl⟩ := Value.slice.inj h1
  have : ∃ vs, Rows μ es ds vs ∧ (ds = [] ∨ ∃ a0, base = some a0 ∧ CellsAt μ a0 (vs.flatMap vcells)) := by
    rcases h4 with rfl | ⟨a0, flat, g1, g2, g3⟩
    · exact ⟨[], .nil, .inl rfl⟩
    · obtain ⟨vs, hr, rfl⟩ := RepS.rows g3 h3
      exact ⟨vs, hr, .inr ⟨a0, g1, g2⟩⟩
  obtain ⟨vs, hr, hc⟩ := this
  have hlen := hr.len
  refine ⟨vs, hr, hlen.symm, hcap, fun a b hab hb => ⟨by simp; omega, fun y hy => hr.size y (List.mem_of_mem_drop (List.mem_of_mem_take hy)), ?_⟩⟩
  rcases Nat.eq_or_lt_of_le hab with e | hlt
  · exact .inl (by omega)
  · right
    rcases hc with e | ⟨a0, e, hcell⟩
    · subst e; simp at hb; omega
    · subst e
      refine ⟨a0.add (a * es), by rw [if_neg (by omega)]; rfl, fun j v hj => ?_⟩
      rw [add_add]
      refine hcell _ _ ?_
      have e1 : vs.flatMap vcells = (vs.take a).flatMap vcells ++ (((vs.drop a).take (b - a)).flatMap vcells ++ ((vs.drop a).drop (b - a)).flatMap vcells) := by
        rw [← List.flatMap_append, List.take_append_drop, ← List.flatMap_append, List.take_append_drop]
      have e2 : ((vs.take a).flatMap vcells).length = a * es := by
        rw [flat_len (es := es) (vs.take a) fun y hy => (hr.size y (List.mem_of_mem_take hy)).1]
        congr 1; simp; omega
      rw [e1, List.getElem?_append_right (by omega), e2, Nat.add_sub_cancel_left, List.getElem?_append_left (List.getElem?_eq_some_iff.1 hj).1]
      exact hj
/-! ### Insertion -/
def insAt {α : Type} (l : List α) (x : α) (k : Nat) : List α := l.take k ++ ([x] ++ l.drop k)
theorem insAt_mem {α : Type} (l : List α) (x y : α) (k : Nat) : y ∈ insAt l x k ↔ y = x ∨ y ∈ l := by
  have h2 : y ∈ l ↔ y ∈ l.take k ∨ y ∈ l.drop k := by rw [← List.mem_append, List.take_append_drop]
  simp only [insAt, List.mem_append, List.mem_singleton, h2]
  constructor
  · rintro (h | h | h) <;> simp [h]
  · rintro (h | h | h) <;> simp [h]
theorem insAt_length {α : Type} (l : List α) (x : α) (k : Nat) : (insAt l x k).length = l.length + 1 := by
  have := congrArg List.length (List.take_append_drop k l)
  simp only [insAt, List.length_append, List.length_singleton] at *
  omega
theorem insAt_map {α β : Type} (f : α → β) (l : List α) (x : α) (k : Nat) : (insAt l x k).map f = insAt (l.map f) (f x) k := by
  simp [insAt]
/-- Where an insertion goes, seen from the right. -/
def InsPos (bs : List B) (n : Int) (k : Nat) : Prop := k ≤ bs.length ∧ (∀ c, bs[k - 1]? = some c → 0 < k → c.var ≤ n) ∧ ∀ j c, k ≤ j → bs[j]? = some c → n < c.var
theorem sub_append (a c : List B) (n : Int) : sub (a ++ c) n = (sub a n).or (sub c n) := by
  induction a with
  | nil => simp [sub]
  | cons b a ih =>
    simp only [List.cons_append, sub]
    split
    · simp
    · exact ih
theorem sub_insAt {bs : List B} {b : B} (h : ∀ c ∈ bs, c.var ≠ b.var) (k : Nat) (n : Int) : sub (insAt bs b k) n = if b.var = n then some b.to else sub bs n := by
  have e := List.take_append_drop k bs
  have e2 : sub bs n = (sub (bs.take k) n).or (sub (bs.drop k) n) := by rw [← sub_append, e]
  rw [insAt, sub_append, sub_append, e2]
  by_cases hn : b.var = n
  · have h1 : sub (bs.take k) n = none := sub_none fun c hc => by rw [← hn]; exact h c (List.mem_of_mem_take hc)
    rw [if_pos hn, h1]
    simp [sub, hn]
  · rw [if_neg hn]
    simp [sub, hn]
theorem sub_mem {bs : List B} {b : B} (h : b ∈ bs) : sub bs b.var ≠ none := by
  induction bs with
  | nil => simp at h
  | cons c bs ih =>
    rw [sub]
    split
    · simp
    · rename_i hne
      rcases List.mem_cons.1 h with e | h
      · subst e; exact absurd rfl hne
      · exact ih h
theorem l04Insert_spec {bs : List B} {b : B} {v vb : Value} (hv : RepV μ (.sl 5 ((bs.map B.bd).map Bd.d)) v) (hb : RepV μ b.bd.d vb) (hn : bs.length ≤ 1000000000) :
    Spec Try.prog 71 [v, vb] μ fun v μ' => ∃ k, InsPos bs b.var k ∧ RepV μ' (.sl 5 (((insAt bs b k).map B.bd).map Bd.d)) v := by
  obtain ⟨base, cap, rfl, hsl⟩ := Rep.sl hv
  rw [List.length_map, List.length_map] at hsl hv ⊢
  obtain ⟨p, rfl⟩ := Bd.invV hb
  obtain ⟨vs, hrows, hvl, hcap, hsrc⟩ := Rep.src hv
  refine Spec.mk Try.func71 (by kernel_rfl) ?_
  intro r
  refine loop_intro (fun k : Nat => k ≤ bs.length ∧ ∀ (j : Nat) c, k ≤ j → bs[j]? = some c → b.var < c.var) (fun k => ⟨[(0, .val (.slice base bs.length cap)), (3, .loc 0 r 0), (5, .val (.int .i64 k))], [(0, some (.cells r [.val (.int .i64 b.bd.var), .val (.int .i64 b.bd.to.kind), .val (.int .i64 b.bd.to.num), .val (.string b.bd.to.name), .val (.slice p.1 b.bd.to.args.length p.2)] 109))], 1, μ, Mem.nil⟩) (fun k => k)
    bs.length ⟨Nat.le_refl _, fun j c hj hc => absurd (List.getElem?_eq_some_iff.1 hc).1 (by omega)⟩ (fun i => ⟨rfl, rfl⟩) ⟨⟨rfl, rfl, rfl, trivial⟩, ⟨rfl, trivial⟩, rfl, rfl⟩ ?_
  rintro k ⟨hk, hgt⟩
  refine ifd (fun h1 => ?_) (fun h1 => ?_)
  · obtain ⟨c, hc⟩ := at_some (l := bs) (i := k - 1) (by omega)
    obtain ⟨ad, q, hel, _⟩ := B.elem hsl hc
    refine num_eq (x := ((k - 1 : Nat) : Int)) (by rw [wrap64 (by omega) (by omega)]; omega) ?_
    refine elem_intro hel ?_
    refine ifd (fun h2 => ?_) (fun h2 => ?_)
    · refine num_eq (x := ((k - 1 : Nat) : Int)) (by rw [wrap64 (by omega) (by omega)]; omega) ⟨k - 1, ⟨by omega, fun j c' hj hc' => ?_⟩, by omega, ⟨⟨rfl, rfl, rfl, trivial⟩, ⟨rfl, trivial⟩, rfl, rfl⟩⟩
      rcases Nat.lt_or_ge j k with h3 | h3
      · obtain rfl : j = k - 1 := by omega
        rw [hc] at hc'; cases hc'; exact h2
      · exact hgt j c' h3 hc'
    · have hpos : InsPos bs b.var k := ⟨hk, fun c' hc' _ => by rw [hc] at hc'; cases hc'; exact Int.not_lt.1 h2, hgt⟩
      intro r0
      refine cut_intro 0 k rfl rfl (by omega) (by omega) ?_
      refine src_intro _ (hsrc 0 k (by omega) hk) ?_
      refine grow_intro ?_ ?_ fun b1 c1 _ => ?_
      · show (0 + _) * 64 ≤ _; simp; omega
      · exact Nat.le_trans (m := 2000000000) (by simp; omega) (by decide)
      intro r1
      refine grow_intro ?_ ?_ fun b2 c2 _ => ?_
      · show (_ + 1) * 64 ≤ _; simp; omega
      · exact Nat.le_trans (m := 2000000000) (by simp; omega) (by decide)
      refine cut_intro k bs.length rfl rfl hk (by omega) ?_
      refine src_intro _ (hsrc k bs.length hk (Nat.le_refl _)) ?_
      refine grow_intro ?_ ?_ fun b3 c3 _ => ?_
      · show (_ + _) * 64 ≤ _; simp; omega
      · exact Nat.le_trans (m := 3000000000) (by simp; omega) (by decide)
      refine ret_frz [1] fun μ' hle hno hrow => .inl ⟨k, hpos, ?_⟩
      have hr2 := ((hrows.take k).append ((Rows.one hb (Bd.d_n _)).append (hrows.drop k))).mono hle
      have e : (([] : List Value) ++ (vs.drop 0).take (k - 0) ++ [.agg #[.int .i64 b.bd.var, .int .i64 b.bd.to.kind, .int .i64 b.bd.to.num, .string b.bd.to.name, .slice p.1 b.bd.to.args.length p.2]] ++ (vs.drop k).take (bs.length - k)) = vs.take k ++ ([.agg #[.int .i64 b.bd.var, .int .i64 b.bd.to.kind, .int .i64 b.bd.to.num, .string b.bd.to.name, .slice p.1 b.bd.to.args.length p.2]] ++ vs.drop k) := by
        simp
        rw [List.take_of_length_le (by simp; omega)]
      rw [e] at hrow ⊢
      have e2 : ((insAt bs b k).map B.bd).map Bd.d = ((bs.map B.bd).map Bd.d).take k ++ ([b.bd.d] ++ ((bs.map B.bd).map Bd.d).drop k) := by simp [insAt]
      rw [e2]
      exact Rows.sl hrow hr2 (Nat.le_trans (m := 3000000000) (by simp; omega) (by decide))
  · have hpos : InsPos bs b.var k := ⟨hk, fun c' hc' h => by omega, hgt⟩
    intro r0
    refine cut_intro 0 k rfl rfl (by omega) (by omega) ?_
    refine src_intro _ (hsrc 0 k (by omega) hk) ?_
    refine grow_intro ?_ ?_ fun b1 c1 _ => ?_
    · show (0 + _) * 64 ≤ _; simp; omega
    · exact Nat.le_trans (m := 2000000000) (by simp; omega) (by decide)
    intro r1
    refine grow_intro ?_ ?_ fun b2 c2 _ => ?_
    · show (_ + 1) * 64 ≤ _; simp; omega
    · exact Nat.le_trans (m := 2000000000) (by simp; omega) (by decide)
    refine cut_intro k bs.length rfl rfl hk (by omega) ?_
    refine src_intro _ (hsrc k bs.length hk (Nat.le_refl _)) ?_
    refine grow_intro ?_ ?_ fun b3 c3 _ => ?_
    · show (_ + _) * 64 ≤ _; simp; omega
    · exact Nat.le_trans (m := 3000000000) (by simp; omega) (by decide)
    refine ret_frz [1] fun μ' hle hno hrow => .inl ⟨k, hpos, ?_⟩
    have hr2 := ((hrows.take k).append ((Rows.one hb (Bd.d_n _)).append (hrows.drop k))).mono hle
    have e : (([] : List Value) ++ (vs.drop 0).take (k - 0) ++ [.agg #[.int .i64 b.bd.var, .int .i64 b.bd.to.kind, .int .i64 b.bd.to.num, .string b.bd.to.name, .slice p.1 b.bd.to.args.length p.2]] ++ (vs.drop k).take (bs.length - k)) = vs.take k ++ ([.agg #[.int .i64 b.bd.var, .int .i64 b.bd.to.kind, .int .i64 b.bd.to.num, .string b.bd.to.name, .slice p.1 b.bd.to.args.length p.2]] ++ vs.drop k) := by
      simp
      rw [List.take_of_length_le (by simp; omega)]
    rw [e] at hrow ⊢
    have e2 : ((insAt bs b k).map B.bd).map Bd.d = ((bs.map B.bd).map Bd.d).take k ++ ([b.bd.d] ++ ((bs.map B.bd).map Bd.d).drop k) := by simp [insAt]
    rw [e2]
    exact Rows.sl hrow hr2 (Nat.le_trans (m := 3000000000) (by simp; omega) (by decide))
/-! ### Names by number -/
noncomputable def canonF (vs : List Int) (n : Int) : Option T := if n ∈ vs then some (.var (vs.idxOf n)) else none
theorem idx_at : ∀ {l : List Int} (_ : l.Nodup) {i : Nat} {n : Int}, l[i]? = some n → l.idxOf n = i
  | [], _, i, n, h => by simp at h
  | a :: l, hn, 0, n, h => by
    simp only [List.getElem?_cons_zero, Option.some.injEq] at h
    subst h; simp
  | a :: l, hn, i + 1, n, h => by
    simp only [List.getElem?_cons_succ] at h
    simp only [List.nodup_cons] at hn
    have hne : ¬ a = n := fun e => hn.1 (by subst e; exact List.mem_of_getElem? h)
    have hb : (a == n) = false := by simp [hne]
    rw [List.idxOf_cons, hb, idx_at hn.2 h]
    rfl
/-- Numbers of variables lie in a range. -/
theorem T.vars_range : ∀ {x : T}, x.good → ∀ n ∈ x.vars, 0 ≤ n ∧ n ≤ 100000
  | .var n, h, m, hm => by
    simp only [T.vars, List.mem_singleton] at hm
    subst hm; exact h
  | .pair a b, h, m, hm => by
    simp only [T.vars, List.mem_append] at hm
    exact hm.elim (T.vars_range h.1 m) (T.vars_range h.2 m)
  | .nil, _, m, hm => by simp [T.vars] at hm
  | .sym _, _, m, hm => by simp [T.vars] at hm
  | .num _, _, m, hm => by simp [T.vars] at hm
theorem nodup_range {N : Nat} : ∀ {l : List Int}, l.Nodup → (∀ n ∈ l, 0 ≤ n ∧ n < N) → l.length ≤ N := by
  induction N with
  | zero =>
    intro l _ h
    cases l with
    | nil => simp
    | cons a l => have := h a (by simp); omega
  | succ N ih =>
    intro l hn h
    have h1 := ih (l := l.erase (N : Int)) (hn.erase _) fun n hm => by
      rw [hn.mem_erase_iff] at hm
      have := h n hm.2
      have h2 : n ≠ (N : Int) := hm.1
      omega
    have h2 : l.length ≤ (l.erase (N : Int)).length + 1 := by
      rw [List.length_erase]; split <;> omega
    omega
theorem ordAll_range {xs : List T} (hx : ∀ x ∈ xs, x.ok) : (ordAll [] (xs.flatMap T.vars)).length ≤ 100001 := by
  refine nodup_range (ordAll_nodup _ (by simp)) fun n hn => ?_
  rw [ordAll_mem] at hn
  rcases hn with hn | hn
  · obtain ⟨x, hx', hm⟩ := List.mem_flatMap.1 hn
    have := T.vars_range (hx x hx').1 n hm
    omega
  · simp at hn
/-! ### Canonical terms -/
theorem T.subst_congr {f g : Int → Option T} : ∀ (x : T), (∀ n ∈ x.vars, f n = g n) → x.subst f = x.subst g
  | .var n, h => by simp only [T.subst]; rw [h n (by simp [T.vars])]
  | .pair a b, h => by
    simp only [T.subst]
    rw [T.subst_congr a fun n hn => h n (by simp [T.vars, hn]), T.subst_congr b fun n hn => h n (by simp [T.vars, hn])]
  | .nil, _ => rfl
  | .sym _, _ => rfl
  | .num _, _ => rfl
theorem T.subst_vars_size {f : Int → Option T} (hf : ∀ n y, f n = some y → y.size = 1) : ∀ (x : T), (x.subst f).size = x.size
  | .var n => by
    simp only [T.subst]
    cases h : f n with
    | none => rfl
    | some y => simpa [T.size] using hf n y h
  | .pair a b => by simp only [T.subst, T.size, T.subst_vars_size hf a, T.subst_vars_size hf b]
  | .nil => rfl
  | .sym _ => rfl
  | .num _ => rfl
noncomputable def canon (xs : List T) : List T := xs.map (·.subst (canonF (ordAll [] (xs.flatMap T.vars))))
theorem canonF_size (vs : List Int) (n : Int) (y : T) (h : canonF vs n = some y) : y.size = 1 := by
  unfold canonF at h
  split at h
  · cases h; rfl
  · cases h
end
end Go.Vx
