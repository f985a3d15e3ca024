/- Contracts: marks, and what holds them: texts, arcs, graphs. -/
import Derived.Test.YtjgohkogcdmbdaaVc
namespace Go.Vx
open Go.Proofs Classical
section
variable {μ : Mem}
theorem wrap8 {n : Int} (h1 : 0 ≤ n) (h2 : n < 256) : IntKind.u8.wrap n = n := by
  have e : IntKind.u8.bits = 8 := rfl
  have e2 : IntKind.u8.signed = false := rfl
  simp only [IntKind.wrap, e, e2, Bool.false_and]
  simp only [show (2 : Int) ^ 8 = 256 from rfl]
  simp; omega
theorem bytes_app (a b : List UInt8) : (⟨a.toArray⟩ : ByteArray) ++ ⟨b.toArray⟩ = ⟨(a ++ b).toArray⟩ := by
  have : ((⟨a.toArray⟩ : ByteArray) ++ ⟨b.toArray⟩).data = (a ++ b).toArray := by
    rw [ByteArray.data_append]; simp
  cases h : (⟨a.toArray⟩ : ByteArray) ++ ⟨b.toArray⟩
  rw [h] at this
  simp only at this
  rw [this]
theorem markText_spec (k : Int) (hk : k ≤ 9223372036854775807) : Gives Try.prog 62 [.int .i64 k] μ (.string (mtext k)) := by
  refine Spec.mk Try.func62 (by kernel_rfl) ?_
  refine ifd (fun h => ret_gives ?_ rfl) (fun h => ?_)
  · rw [mtext, if_pos h]
  obtain ⟨n, rfl⟩ : ∃ n : Nat, k = n := ⟨k.toNat, by omega⟩
  refine loop_intro (fun p : Nat × List UInt8 => digits n = digits p.1 ++ p.2 ∧ p.1 * 2 ^ p.2.length ≤ n ∧ p.2.length ≤ 64) (fun p => ⟨[(0, .val (.int .i64 p.1)), (3, .val (.string ⟨p.2.toArray⟩))], [], 0, μ, Mem.nil⟩) (fun p => p.1)
    (n, []) ⟨by simp, by simp, by simp⟩ (fun i => ⟨rfl, rfl⟩) ⟨⟨rfl, rfl, trivial⟩, trivial, rfl, rfl⟩ ?_
  rintro ⟨m, l⟩ ⟨h1, h2, hlen0⟩
  simp only at h1 h2 hlen0
  refine ifd (fun h3 => ?_) (fun h3 => ?_)
  · have hm : m ≠ 0 := by omega
    have hmn : m ≤ n := Nat.le_trans (Nat.le_mul_of_pos_right _ (Nat.two_pow_pos _)) h2
    have hlen : l.length ≤ 63 := by
      rcases Nat.lt_or_ge 63 l.length with h | h
      · exfalso
        have h4 : 2 ^ 64 ≤ 2 ^ l.length := Nat.pow_le_pow_right (by omega) h
        have h5 : 1 * 2 ^ l.length ≤ m * 2 ^ l.length := Nat.mul_le_mul_right _ (by omega)
        omega
      · exact h
    refine need_intro (by omega) (num_eq (x := ((m % 10 : Nat) : Int)) (by rw [Int.tmod_eq_emod_of_nonneg (by omega)]; omega) ?_)
    refine num64 (by omega) (by omega) (num_eq (wrap8 (by omega) (by omega)) ?_)
    intro r
    have hb : (UInt8.ofNat (48 + m % 10)).toNat = 48 + m % 10 := by
      rw [UInt8.toNat_ofNat']; omega
    refine bytes_intro [UInt8.ofNat (48 + m % 10)] (by simp only [List.map_cons, List.map_nil, hb]; congr 2) ?_
    refine need_intro (by simp [ByteArray.size]; omega) ?_
    refine need_intro (by omega) (num_eq (x := ((m / 10 : Nat) : Int)) (by show IntKind.i64.wrap (Int.tdiv (m : Int) 10) = _; rw [Int.tdiv_eq_ediv_of_nonneg (by omega), wrap64 (by omega) (by omega)]; simp) ?_)
    refine ⟨(m / 10, UInt8.ofNat (48 + m % 10) :: l), ⟨?_, ?_, by simp only [List.length_cons]; omega⟩, by simp only; omega, ⟨⟨rfl, ?_, trivial⟩, trivial, rfl, rfl⟩⟩
    · simp only; rw [h1, digits_pos hm]; simp
    · simp only [List.length_cons, Nat.pow_succ]
      have : m / 10 * 2 ≤ m := by omega
      calc m / 10 * (2 ^ l.length * 2) = (m / 10 * 2) * 2 ^ l.length := by rw [Nat.mul_comm (2 ^ l.length) 2, ← Nat.mul_assoc]
        _ ≤ m * 2 ^ l.length := Nat.mul_le_mul_right _ this
        _ ≤ n := h2
    · simp only [look]
      rw [bytes_app]; rfl
  · have hm : m = 0 := by omega
    subst hm
    refine need_intro (by simp [ByteArray.size]; omega) ?_
    refine ret_gives ?_ rfl
    rw [mtext, if_neg (by omega)]
    have := bytes_app [109] l
    rw [this, Int.toNat_natCast, h1, digits_zero]; rfl
/-! ### Arcs -/
theorem Own.arc {a : Arc} {h : Mem} {cs : List Value} (k : Own a.d h cs) : cs = [.int .i64 a.src, .int .i64 a.dst, .bool a.strict] ∧ h = Mem.nil := by
  obtain ⟨c1, c2, h1, h2, rfl, p, ⟨rfl, rfl⟩, c3, c4, h3, h4, rfl, q, ⟨rfl, rfl⟩, c5, c6, h5, h6, rfl, t, ⟨rfl, rfl⟩, rfl, rfl⟩ := k
  refine ⟨rfl, ?_⟩
  have e1 := t.eq (Parts.nil_right _)
  subst e1
  have e2 := q.eq (Parts.nil_right _)
  subst e2
  exact p.eq (Parts.nil_right _)
theorem markArcS_spec {l : List Arc} {h : Mem} {v : Value} {k : Int} (ho : OwnV (.sl 3 (l.map Arc.d)) h v) (hk : 0 ≤ k) (hk2 : k + D.cnts (l.map Arc.d) ≤ 9223372036854775807) :
    SpecH Try.prog 45 [v, .int .i64 k] μ h fun r μ' h' => r = .int .i64 (D.mks (l.map Arc.d) k).2 ∧ μ' = μ ∧ OwnV (.sl 3 (D.mks (l.map Arc.d) k).1) h' v := by
  obtain ⟨base, cap, e, hm, hn, ho⟩ := ho
  simp only [List.cons.injEq, and_true] at e
  subst e
  have hm' : (l.map Arc.d).length ≤ 9223372036854775807 := Nat.le_trans hm.max (by decide)
  refine SpecH.mk [] Try.func45 (by kernel_rfl) ?_
  rcases ho with ⟨hnil, rfl⟩ | ⟨r, flat, rest, ty, h2, rfl, hr, rfl, ho⟩
  · rw [hnil]
    refine loop_intro (fun i : Nat => i = 0) (fun i => ⟨[(0, .val (.slice base 0 cap)), (1, .val (.int .i64 k)), (5, .val (.int .i64 i))], [], 0, μ, Mem.nil⟩) (fun i => 0 - i)
      0 rfl (fun i => ⟨rfl, rfl⟩) ⟨⟨rfl, rfl, rfl, trivial⟩, trivial, rfl, rfl⟩ ?_
    rintro i rfl
    refine ifd (fun h => by omega) (fun h => ret_plain ⟨rfl, rfl, base, cap, rfl, ⟨Nat.zero_le _, Nat.zero_le _⟩, by simp [D.mks], .inl ⟨rfl, rfl⟩⟩)
  · generalize hxs : l.map Arc.d = xs at *
    refine loop_intro (fun p : Nat × List Value × List Value => p.1 ≤ xs.length ∧ ∃ post hpre hpost, p.2.2 = post ++ rest ∧ Parts h2 hpre hpost ∧ OwnS (D.mks (xs.take p.1) k).1 hpre p.2.1 ∧ OwnS (xs.drop p.1) hpost post)
      (fun (i, pre, tail) => ⟨[(0, .val (.slice (some ⟨r, 0, none⟩) xs.length cap)), (1, .val (.int .i64 (D.mks (xs.take i) k).2)), (5, .val (.int .i64 i))], [], 0, μ, h2.set r (.cells (List.toArray (pre ++ tail)) ty (0, 0))⟩) (fun p => xs.length - p.1)
      (0, [], flat ++ rest) ⟨by simp, flat, Mem.nil, h2, rfl, Parts.nil_left _, ⟨rfl, rfl⟩, by simpa using ho⟩ (fun (_, _, _) => ⟨rfl, rfl⟩) ⟨⟨rfl, rfl, rfl, trivial⟩, trivial, rfl, rfl⟩ ?_
    rintro ⟨i, pre, tail⟩ ⟨hi, post, hpre, hpost, e, hp, o1, o2⟩
    dsimp only at hi e hp o1 o2
    have hge := D.mks_cnt (xs.take i) k
    refine ifd (fun h => ?_) (fun h => ?_)
    · obtain ⟨a, ha⟩ := at_some (l := l) (i := i) (by rw [← hxs] at h; simp at h; omega)
      have hx : xs[i]? = some a.d := by rw [← hxs]; simp [ha]
      have hdrop : xs.drop i = a.d :: xs.drop (i + 1) := by
        rw [List.drop_eq_getElem_cons (by omega)]
        congr 1
        exact (List.getElem?_eq_some_iff.1 hx).2
      rw [hdrop] at o2
      obtain ⟨c1, c2, g1, g2, rfl, q, u1, u2⟩ := o2
      obtain ⟨rfl, rfl⟩ := Own.arc u1
      have hg2 : hpost = g2 := q.eq (Parts.nil_left _)
      subst hg2
      have hlen : pre.length = i * 3 := by
        rw [o1.len, D.mks_n, D.ns_eq (es := 3) fun x hx => hn x (List.mem_of_mem_take hx), List.length_take, Nat.min_eq_left hi]
      have hcnt : (D.mks (xs.take i) k).2 + 3 ≤ k + D.cnts xs := by
        have h1 := D.cnts_take xs (i + 1)
        rw [D.mks_cnt]
        rw [List.take_add_one, hx, Option.toList_some, D.cnts_append] at h1
        simp only [D.cnts, Arc.d, D.cnt] at h1
        omega
      rw [List.append_assoc] at e
      subst e
      refine ptr_intro ⟨r, 0, none⟩ rfl (by omega) (by omega) ?_
      refine sto_at (j := 0) (by simp [Addr.add_lit', hlen]) (by simp) ?_
      refine num64 (by omega) (by omega) ?_
      refine ptr_intro ⟨r, 0, none⟩ rfl (by omega) (by omega) ?_
      refine sto_at (j := 1) (by simp [Addr.add_lit', hlen]) (by simp) ?_
      refine num64 (by omega) (by omega) ?_
      refine need_intro (by omega) (num_intro fun x hx0 => ?_)
      refine ptr_intro ⟨r, 0, none⟩ rfl (by omega) (by omega) ?_
      refine sto_at (j := 2) (by simp [Addr.add_lit', hlen]) (by simp) ?_
      refine num64 (by omega) (by omega) ?_
      refine num64 (by omega) (by omega) ?_
      have hmk := D.mks_take hx k
      refine ⟨(i + 1, pre ++ [.int .i64 (D.mks (xs.take i) k).2, .int .i64 ((D.mks (xs.take i) k).2 + 1), .bool (decide (x = 0))], c2 ++ rest), ⟨by dsimp only; omega, c2, hpre, hpost, rfl, hp, ?_, u2⟩, by dsimp only; omega, ⟨⟨rfl, ?_, rfl, trivial⟩, trivial, rfl, ?_⟩⟩
      · dsimp only
        rw [hmk]
        refine OwnS.append (Parts.nil_right _) o1 ?_
        subst hx0
        exact OwnS.last (OwnS.int (OwnS.int (OwnS.bool OwnS.nil)))
      · rw [hmk]
        show some (SV.val (.int .i64 _)) = some (SV.val (.int .i64 _))
        congr 3
      · simp
    · have hi' : i = xs.length := by omega
      subst hi'
      rw [List.drop_length] at o2
      obtain ⟨rfl, rfl⟩ := o2
      obtain rfl : rest = tail := e.symm
      obtain rfl := hp.eq (Parts.nil_right _)
      rw [List.take_length] at o1 hge
      refine ret_plain ⟨by rw [List.take_length], rfl, some ⟨r, 0, none⟩, cap, by rw [D.mks_length], by rw [D.mks_length]; exact hm, D.mks_size k hn, .inr ⟨r, pre, rest, ty, _, rfl, hr, rfl, o1⟩⟩
theorem heldArcS_spec {l : List Arc} {v : Value} {k : Int} (ho : RepV μ (.sl 3 (D.mks (l.map Arc.d) k).1) v) (hk : 0 ≤ k) (hk2 : k + D.cnts (l.map Arc.d) ≤ 9223372036854775807) :
    Gives Try.prog 46 [v, .int .i64 k] μ (.int .i64 (D.mks (l.map Arc.d) k).2) := by
  obtain ⟨base, cap, rfl, hsl⟩ := Rep.sl ho
  have hm' := Nat.le_trans hsl.max (show maxLen ≤ 9223372036854775807 by decide)
  rw [D.mks_length] at hm' hsl ⊢
  refine Spec.mk Try.func46 (by kernel_rfl) ?_
  generalize hxs : l.map Arc.d = xs at *
  refine loop_intro (fun i : Nat => i ≤ xs.length) (fun i => ⟨[(0, .val (.slice base xs.length cap)), (1, .val (.int .i64 (D.mks (xs.take i) k).2)), (5, .val (.int .i64 i))], [], 0, μ, Mem.nil⟩) (fun i => xs.length - i)
    0 (by simp) (fun i => ⟨rfl, rfl⟩) ⟨⟨rfl, rfl, rfl, trivial⟩, trivial, rfl, rfl⟩ ?_
  intro i hi
  have hge := D.mks_cnt (xs.take i) k
  refine ifd (fun h => ?_) (fun h => ?_)
  · obtain ⟨a, ha⟩ := at_some (l := l) (i := i) (by rw [← hxs] at h; simp at h; omega)
    have hx : xs[i]? = some a.d := by rw [← hxs]; simp [ha]
    have hcnt : (D.mks (xs.take i) k).2 + 3 ≤ k + D.cnts xs := by
      have h1 := D.cnts_take xs (i + 1)
      rw [D.mks_cnt]
      rw [List.take_add_one, hx, Option.toList_some, D.cnts_append] at h1
      simp only [D.cnts, Arc.d, D.cnt] at h1
      omega
    obtain ⟨ad, cs, hel, hcs⟩ := hsl.get i _ (D.mks_get hx k)
    simp only [Arc.d, D.mk, D.mks, Rep, RepS] at hcs
    obtain ⟨_, _, rfl, rfl, _, _, rfl, rfl, _, _, rfl, rfl, rfl⟩ := hcs
    have hmk := D.mks_take hx k
    repeat' (first
      | refine elem_intro hel ?_
      | refine ifnd (fun h => absurd rfl h) (fun _ => ?_)
      | refine need_intro (by omega) (num_eq rfl ?_)
      | refine if_intro (fun h => absurd h (by simp)) (fun _ => ?_)
      | refine num64 (by omega) (by omega) ?_)
    exact ⟨i + 1, by omega, by omega, ⟨⟨rfl, by rw [hmk]; show some (SV.val (.int .i64 _)) = some (SV.val (.int .i64 _)); congr 3, rfl, trivial⟩, trivial, rfl, rfl⟩⟩
  · have hi' : i = xs.length := by omega
    subst hi'
    rw [List.take_length]
    exact ret_gives rfl rfl
theorem markSizeGraph_spec {g : Graph} {h : Mem} {v : Value} {k : Int} (ho : OwnV g.d h v) (hk : 0 ≤ k) (hk2 : k + D.cnts (g.arcs.map Arc.d) ≤ 9223372036854775807) :
    SpecH Try.prog 16 [v, .int .i64 k] μ h fun r μ' h' => r = .int .i64 (D.mt g.d k).2 ∧ μ' = μ ∧ OwnV (D.mt g.d k).1 h' v := by
  obtain ⟨cs, rfl, c1, c2, h1, h2, rfl, p, ⟨rfl, rfl⟩, c3, c4, h3, h4, rfl, q, ⟨rfl, rfl⟩, c5, c6, h5, h6, rfl, t, k5, rfl, rfl⟩ := ho
  obtain rfl := p.eq (Parts.nil_left _)
  obtain rfl := q.eq (Parts.nil_left _)
  obtain rfl := t.eq (Parts.nil_right _)
  have hl := k5.len
  match c5, hl with
  | [v], _ =>
    obtain ⟨base, cap, rfl⟩ := Own.sl k5
    refine SpecH.mk [] Try.func16 (by kernel_rfl) ?_
    intro r
    refine call_own (markArcS_spec k5 hk hk2) fun v μ' h' hle hap hR => ?_
    obtain ⟨rfl, rfl, ho⟩ := hR
    exact ret_plain ⟨rfl, rfl, _, rfl, OwnS.str (OwnS.str (OwnS.last ho))⟩
theorem heldSizeGraph_spec {g : Graph} {v : Value} {k : Int} (ho : RepV μ (D.mt g.d k).1 v) (hk : 0 ≤ k) (hk2 : k + D.cnts (g.arcs.map Arc.d) ≤ 9223372036854775807) :
    Gives Try.prog 17 [v, .int .i64 k] μ (.int .i64 (D.mt g.d k).2) := by
  obtain ⟨cs, rfl, c1, c2, rfl, rfl, c3, c4, rfl, rfl, c5, c6, rfl, k5, rfl⟩ := ho
  have hl := Rep.len _ _ k5
  match c5, hl with
  | [v], _ =>
    have k5' := k5
    obtain ⟨base, cap, rfl, _⟩ := k5'.sl
    refine Spec.mk Try.func17 (by kernel_rfl) ?_
    intro r
    refine call_gives (heldArcS_spec k5 hk hk2) ?_
    have := D.mks_cnt (g.arcs.map Arc.d) k
    refine ifd (fun h => ?_) (fun h => ret_gives rfl rfl)
    omega
end
end Go.Vx
