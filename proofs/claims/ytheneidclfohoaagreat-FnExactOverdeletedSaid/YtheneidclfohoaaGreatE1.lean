/- Texts of the proof, part E1. -/
import Derived.Test.YtheneidclfohoaaGreatM5
namespace Go.Vx
section
variable {P : Program} {f : FuncId} {args : List Value} {μ h0 : Mem}
theorem Mem.sub_le (μ g : Mem) : (μ.sub g).Le μ := fun b o h => by
  unfold Mem.sub at h
  split at h
  · cases h
  · exact h
theorem Mem.sub_none {μ g : Mem} {b : Nat} (h : (μ.sub g) b ≠ none) : g b = none := by
  unfold Mem.sub at h
  split at h
  · exact absurd rfl h
  · assumption
theorem Mem.sub_of {μ g : Mem} {b : Nat} (h : g b = none) : (μ.sub g) b = μ b := by unfold Mem.sub; rw [h]
theorem Mem.join_sub {μ g : Mem} (h : Apart μ g) : (μ.join g).sub g = μ := funext fun b => by
  cases hg : g b with
  | some o =>
    have : μ b = none := h.symm b (by simp [hg])
    unfold Mem.sub; rw [hg, this]
  | none =>
    rw [Mem.sub_of hg, Mem.join_get]
    cases μ b with
    | some o => rfl
    | none => exact hg
theorem Mem.le_sub {μ μ' g : Mem} (h : μ.Le μ') (ha : Apart μ g) : μ.Le (μ'.sub g) := fun b o hb => by
  rw [Mem.sub_of (ha b (by simp [hb]))]; exact h b o hb
theorem SpecH.lend {H : Mem} {R : Value → Mem → Prop} (ha : Apart μ H) (h : Spec P f args (μ.join H) R) : SpecH P f args μ H fun v μ1 H1 => H1 = H ∧ ∃ μ', R v μ' ∧ (μ.join H).Le μ' ∧ μ1 = μ'.sub H := by
  refine ⟨h.1, fun w hm hH _ => (h.2 w (hm.join hH) (holds_nil w) (apart_nil _)).mono ?_⟩
  rintro e w' ⟨v, μ', h', rfl, hr, hS⟩
  refine ⟨v, μ'.sub H, H, rfl, ⟨rfl, μ', hr, hS.le, rfl⟩, ⟨Mem.le_sub ((Mem.le_join μ H).trans hS.le) ha, hS.mem.le (Mem.sub_le _ _), hS.mem.le ((Mem.le_join_right ha).trans hS.le), fun b hb => Mem.sub_none hb, fun b hb hb' => ?_, fun b hb => .inr hb, hS.size, fun b hb _ => hS.keep b hb rfl, hS.os, hS.tape, hS.output⟩⟩
  have h1 := Mem.sub_none hb'
  rw [Mem.sub_of h1] at hb'
  refine .inl ((hS.fresh b ?_ hb').resolve_right (fun h => h rfl))
  rw [Mem.join_get, hb]; exact h1
theorem SpecH.lendGives {H : Mem} {x : Value} (ha : Apart μ H) (h : Spec P f args (μ.join H) fun v μ' => v = x ∧ μ' = μ.join H) : SpecH P f args μ H fun v μ1 H1 => v = x ∧ μ1 = μ ∧ H1 = H :=
  (SpecH.lend ha h).weaken fun v μ1 H1 _ _ ⟨h1, μ', ⟨h2, h3⟩, _, h4⟩ => ⟨h2, by rw [h4, h3, Mem.join_sub ha], h1⟩
end
theorem digits_zero : digits 0 = [] := by rw [digits]; simp
theorem digits_pos {k : Nat} (h : k ≠ 0) : digits k = digits (k / 10) ++ [UInt8.ofNat (48 + k % 10)] := by rw [digits]; simp [h]
mutual
def D.mt : D → Int → D × Int
  | .i n, k => (.i n, k)
  | .b x, k => (.b x, k)
  | .s x, k => (.s x, k)
  | .st fs, k => (.st (D.mts fs k).1, (D.mts fs k).2)
  | .sl es xs, k => (.sl es (D.mks xs k).1, (D.mks xs k).2)
def D.mts : List D → Int → List D × Int
  | [], k => ([], k)
  | d :: r, k => ((d.mt k).1 :: (D.mts r (d.mt k).2).1, (D.mts r (d.mt k).2).2)
end
theorem Mem.set_apart {h k : Mem} {r : Nat} {o : Obj} (_h1 : h r = none) (p : Apart (h.set r o) k) : Apart h k ∧ k r = none :=
  ⟨fun b hb => p b (by rw [Mem.set_get]; split; · simp
                       · exact hb), p r (by rw [Mem.set_get, if_pos rfl]; simp)⟩
theorem D.mks_length : ∀ (xs : List D) (k : Int), (D.mks xs k).1.length = xs.length
  | [], _ => rfl
  | d :: r, k => by simp [D.mks, D.mks_length r]
theorem D.mks_get : ∀ {xs : List D} {i : Nat} {x : D} (_ : xs[i]? = some x) (k : Int), (D.mks xs k).1[i]? = some (x.mk (D.mks (xs.take i) k).2).1
  | [], j, x, h, _ => by simp at h
  | d :: r, 0, x, h, k => by simp at h; subst h; simp [D.mks]
  | d :: r, j + 1, x, h, k => by
    have := D.mks_get (xs := r) (i := j) (by simpa using h) (d.mk k).2
    simpa [D.mks] using this
theorem D.mks_size {es : Nat} : ∀ {xs : List D} (k : Int), (∀ x ∈ xs, x.n = es) → ∀ y ∈ (D.mks xs k).1, y.n = es
  | [], _, _, y, h => by simp [D.mks] at h
  | d :: r, k, hn, y, h => by
    simp only [D.mks, List.mem_cons] at h
    rcases h with rfl | h
    · rw [D.mk_n]; exact hn d (by simp)
    · exact D.mks_size _ (fun x hx => hn x (by simp [hx])) y h
end Go.Vx
namespace Go.Vx
section
variable {P : Program} {f : FuncId} {args : List Value} {μ H : Mem}
theorem Spec.lendOwn {R : Value → Mem → Prop} {R' : Value → Mem → Mem → Prop} (ha : Apart μ H) (h : Spec P f args (μ.join H) R) (G : ∀ v μ1, (μ.join H).Le μ1 → R v μ1 → ∃ g : Mem, g.Le μ1 ∧ (∀ b, g b ≠ none → (μ.join H) b = none) ∧ R' v g μ1) :
  SpecH P f args μ H fun v μ2 H2 => ∃ g μ1, R' v g μ1 ∧ (μ.join H).Le μ1 ∧ Parts H2 H g ∧ μ2 = (μ1.sub H).sub g := by
 refine ⟨h.1, fun w hm hH _ => (h.2 w (hm.join hH) (holds_nil w) (apart_nil _)).mono ?_⟩
 rintro e w' ⟨v, μ1, h1, rfl, hr, hS⟩
 obtain ⟨g, hg, hf, hr'⟩ := G v μ1 hS.le hr
 have hgH : Apart H g := fun b hb => by
  cases h2 : g b with
  | none => rfl
  | some o =>
   have := hf b (by simp [h2])
   cases h3 : H b with
   | none => exact absurd h3 hb
   | some o' => rw [Mem.le_join_right ha b o' h3] at this; cases this
 have hgμ : Apart μ g := fun b hb => by
  cases h2 : g b with
  | none => rfl
  | some o =>
   have := hf b (by simp [h2])
   cases h3 : μ b with
   | none => exact absurd h3 hb
   | some o' => rw [Mem.le_join μ H b o' h3] at this; cases this
 refine ⟨v, (μ1.sub H).sub g, H.join g, rfl, ⟨g, μ1, hr', hS.le, Parts.join hgH, rfl⟩, ⟨Mem.le_sub (Mem.le_sub ((Mem.le_join μ H).trans hS.le) ha) hgμ, hS.mem.le ((Mem.sub_le _ _).trans (Mem.sub_le _ _)), (hS.mem.le ((Mem.le_join_right ha).trans hS.le)).join (hS.mem.le hg), fun b hb => ?_, fun b hb hb' => ?_, fun b hb => ?_, hS.size, fun b hb _ => hS.keep b hb rfl, hS.os, hS.tape, hS.output⟩⟩
 ·have k1 := Mem.sub_none hb
  rw [Mem.sub_of k1] at hb
  rw [Mem.join_get, Mem.sub_none hb]; exact k1
 ·have k1 := Mem.sub_none hb'
  rw [Mem.sub_of k1] at hb'
  have k2 := Mem.sub_none hb'
  rw [Mem.sub_of k2] at hb'
  refine .inl ((hS.fresh b ?_ hb').resolve_right fun h => h rfl)
  rw [Mem.join_get, hb]; exact k2
 ·rcases join_ne hb with h2 | h2
  ·exact .inr h2
  ·refine .inl ((hS.fresh b (hf b h2) ?_).resolve_right fun h => h rfl)
   cases h3 : g b with
   | none => exact absurd h3 h2
   | some o => rw [hg b o h3]; simp
variable {dr : Bool} {s : St} {K : Value → St → Prop}
theorem call_new {l : List (D × Value)} {d : D} (T : Value → Value) (hap : Apart s.mem s.own) (ho : Owns s.own l) (h : Spec P f args (s.mem.join s.own) fun v μ' => ∃ gv, v = T gv ∧ Fresh (s.mem.join s.own) μ' d gv)
  (k : ∀ gv μ' H', s.mem.Le μ' → Apart μ' H' → Owns H' (l ++ [(d, gv)]) → memOwnK s μ' H' fun s => K (T gv) s) : callVC dr P f args s K := by
 refine call_own (Spec.lendOwn (R' := fun v g μ1 => ∃ gv, v = T gv ∧ OwnV d g gv) hap h fun v μ1 hle hR => ?_) fun v μ' H' hle ha' hR => ?_
 ·obtain ⟨gv, e, g, h1, h2, h3⟩ := hR
  exact ⟨g, h2, h3, gv, e, h1⟩
 ·obtain ⟨g, μ1, ⟨gv, rfl, h1⟩, _, hp, _⟩ := hR
  exact k gv μ' H' hle ha' (ho.snoc h1 hp)
theorem call_read {x : Value} (hap : Apart s.mem s.own) (h : Spec P f args (s.mem.join s.own) fun v μ' => v = x ∧ μ' = s.mem.join s.own) (k : K x s) : callVC dr P f args s K :=
 call_own (SpecH.lendGives hap h) fun v μ' H' _ _ ⟨h1, h2, h3⟩ => by
  subst h1 h2 h3
  cases s
  exact k
theorem call_mark {l1 l2 : List (D × Value)} {d d' : D} {u : Value} {x : Value} (_hap : Apart s.mem s.own) (ho : Owns s.own (l1 ++ (d, u) :: l2)) (h : ∀ hx, OwnV d hx u → SpecH P f args s.mem hx fun r μ' h' => r = x ∧ μ' = s.mem ∧ OwnV d' h' u)
  (k : ∀ H', Apart s.mem H' → Owns H' (l1 ++ (d', u) :: l2) → memOwnK s s.mem H' fun s => K x s) : callVC dr P f args s K := by
 obtain ⟨h1, k1, p, o, back⟩ := ho.focus
 refine call_own (SpecH.frame p (h h1 o)) fun v μ' H' hle ha' ⟨h', ⟨e1, e2, o'⟩, p'⟩ => ?_
 subst e1 e2
 exact k H' ha' (back H' h' d' p' o')
end
end Go.Vx
namespace Go.Vx
open Go.Proofs Classical
section
variable {μ : Mem}
theorem wrap8 {n : Int} (h1 : 0 ≤ n) (h2 : n < 256) : IntKind.u8.wrap n = n := by
 have e : IntKind.u8.bits = 8 := rfl
 have e2 : IntKind.u8.signed = false := rfl
 simp only [IntKind.wrap, e, e2, Bool.false_and]
 simp only [show (2 : Int) ^ 8 = 256 from rfl]
 simp; omega
theorem bytes_app (a b : List UInt8) : (⟨a.toArray⟩ : ByteArray) ++ ⟨b.toArray⟩ = ⟨(a ++ b).toArray⟩ := by
 have : ((⟨a.toArray⟩ : ByteArray) ++ ⟨b.toArray⟩).data = (a ++ b).toArray := by
  rw [ByteArray.data_append]; simp
 cases h : (⟨a.toArray⟩ : ByteArray) ++ ⟨b.toArray⟩
 rw [h] at this
 simp only at this
 rw [this]
theorem markText_spec (k : Int) (hk : k ≤ 9223372036854775807) : Gives Tryz.prog 102 [.int .i64 k] μ (.string (mtext k)) := by
 refine Spec.mk Tryz.func102 (by kernel_rfl) ?_
 refine ifd (fun h => ret_gives ?_ rfl) (fun h => ?_)
 ·rw [mtext, if_pos h]
 obtain ⟨n, rfl⟩ : ∃ n : Nat, k = n := ⟨k.toNat, by omega⟩
 refine loop_intro (fun p : Nat × List UInt8 => digits n = digits p.1 ++ p.2 ∧ p.1 * 2 ^ p.2.length ≤ n ∧ p.2.length ≤ 64) (fun p => ⟨[(0, .val (.int .i64 p.1)), (3, .val (.string ⟨p.2.toArray⟩))], [], 0, μ, Mem.nil⟩) (fun p => p.1)
  (n, []) ⟨by simp, by simp, by simp⟩ (fun i => ⟨rfl, rfl⟩) ⟨⟨rfl, rfl, trivial⟩, trivial, rfl, rfl⟩ ?_
 rintro ⟨m, l⟩ ⟨h1, h2, hlen0⟩
 simp only at h1 h2 hlen0
 refine ifd (fun h3 => ?_) (fun h3 => ?_)
 ·have hm : m ≠ 0 := by omega
  have hmn : m ≤ n := Nat.le_trans (Nat.le_mul_of_pos_right _ (Nat.two_pow_pos _)) h2
  have hlen : l.length ≤ 63 := by
   rcases Nat.lt_or_ge 63 l.length with h | h
   ·exfalso
    have h4 : 2 ^ 64 ≤ 2 ^ l.length := Nat.pow_le_pow_right (by omega) h
    have h5 : 1 * 2 ^ l.length ≤ m * 2 ^ l.length := Nat.mul_le_mul_right _ (by omega)
    omega
   ·exact h
  refine need_intro (by omega) (num_eq (x := ((m % 10 : Nat) : Int)) (by rw [Int.tmod_eq_emod_of_nonneg (by omega)]; omega) ?_)
  refine num64 (by omega) (by omega) (num_eq (wrap8 (by omega) (by omega)) ?_)
  intro r
  have hb : (UInt8.ofNat (48 + m % 10)).toNat = 48 + m % 10 := by
   rw [UInt8.toNat_ofNat']; omega
  refine bytes_intro [UInt8.ofNat (48 + m % 10)] (by simp only [List.map_cons, List.map_nil, hb]; congr 2) ?_
  refine need_intro (by simp [ByteArray.size]; omega) ?_
  refine need_intro (by omega) (num_eq (x := ((m / 10 : Nat) : Int)) (by show IntKind.i64.wrap (Int.tdiv (m : Int) 10) = _; rw [Int.tdiv_eq_ediv_of_nonneg (by omega), wrap64 (by omega) (by omega)]; simp) ?_)
  refine ⟨(m / 10, UInt8.ofNat (48 + m % 10) :: l), ⟨?_, ?_, by simp only [List.length_cons]; omega⟩, by simp only; omega, ⟨⟨rfl, ?_, trivial⟩, trivial, rfl, rfl⟩⟩
  ·simp only; rw [h1, digits_pos hm]; simp
  ·simp only [List.length_cons, Nat.pow_succ]
   have : m / 10 * 2 ≤ m := by omega
   calc m / 10 * (2 ^ l.length * 2) = (m / 10 * 2) * 2 ^ l.length := by rw [Nat.mul_comm (2 ^ l.length) 2, ← Nat.mul_assoc]
    _ ≤ m * 2 ^ l.length := Nat.mul_le_mul_right _ this
    _ ≤ n := h2
  ·simp only [look]
   rw [bytes_app]; rfl
 ·have hm : m = 0 := by omega
  subst hm
  refine need_intro (by simp [ByteArray.size]; omega) ?_
  refine ret_gives ?_ rfl
  rw [mtext, if_neg (by omega)]
  have := bytes_app [109] l
  rw [this, Int.toNat_natCast, h1, digits_zero]; rfl
end
end Go.Vx
namespace Go.Vx
open Go.Proofs Classical
theorem back_of {g' m H' : Mem} {r : Nat} {o : Obj} (hm : m r = none) (p : Parts H' g' (m.set r o)) : Apart g' m ∧ g' r = none ∧ H' = (g'.join m).set r o := by
 have hv_ := Mem.set_apart hm p.apart.symm
 obtain ⟨a1, a2⟩ := hv_
 exact ⟨a1.symm, a2, p.eq ((Parts.join a1.symm).set (by rw [Mem.join_get, a2]; exact hm))⟩
theorem Tm.mk_eq (t : Tm) (k : Int) : t.d.mk k = (.st [.i k, .i (k + 1), .s (mtext (k + 1 + 1)), .sl 4 (D.mks (t.args.map Tm.d) (k + 1 + 1 + 1)).1], (D.mks (t.args.map Tm.d) (k + 1 + 1 + 1)).2) := by
 rw [Tm.d_eq]; simp [D.mk, D.mks]
theorem Tm.cnt_eq (t : Tm) : t.d.cnt = 3 + D.cnts (t.args.map Tm.d) := by
 rw [Tm.d_eq]; simp [D.cnt, D.cnts]; omega
section
variable {μ : Mem}
theorem markTermS_of {l : List Tm} (he : ∀ t ∈ l, ∀ {h : Mem} {v : Value} {k : Int}, OwnV (.sl 4 (t.args.map Tm.d)) h v → 0 ≤ k → k + D.cnts (t.args.map Tm.d) ≤ 9223372036854775807 →
   SpecH Tryz.prog 38 [v, .int .i64 k] μ h fun r μ' h' => r = .int .i64 (D.mks (t.args.map Tm.d) k).2 ∧ μ' = μ ∧ OwnV (.sl 4 (D.mks (t.args.map Tm.d) k).1) h' v)
  {h : Mem} {v : Value} {k : Int} (ho : OwnV (.sl 4 (l.map Tm.d)) h v) (hk : 0 ≤ k) (hk2 : k + D.cnts (l.map Tm.d) ≤ 9223372036854775807) :
  SpecH Tryz.prog 38 [v, .int .i64 k] μ h fun r μ' h' => r = .int .i64 (D.mks (l.map Tm.d) k).2 ∧ μ' = μ ∧ OwnV (.sl 4 (D.mks (l.map Tm.d) k).1) h' v := by
 obtain ⟨base, cap, e, hm, hn, ho⟩ := ho
 simp only [List.cons.injEq, and_true] at e
 subst e
 have hm' : (l.map Tm.d).length ≤ 9223372036854775807 := Nat.le_trans hm.max (by decide)
 refine SpecH.mk [] Tryz.func38 (by kernel_rfl) ?_
 rcases ho with ⟨hnil, rfl⟩ | ⟨r, flat, rest, ty, h2, rfl, hr, rfl, ho⟩
 ·rw [hnil]
  refine loop_intro (fun i : Nat => i = 0) (fun i => ⟨[(0, .val (.slice base 0 cap)), (1, .val (.int .i64 k)), (5, .val (.int .i64 i))], [], 0, μ, Mem.nil⟩) (fun i => 0 - i)
   0 rfl (fun i => ⟨rfl, rfl⟩) ⟨⟨rfl, rfl, rfl, trivial⟩, trivial, rfl, rfl⟩ ?_
  rintro i rfl
  refine ifd (fun h => by omega) (fun h => ret_plain ⟨rfl, rfl, base, cap, rfl, ⟨Nat.zero_le _, Nat.zero_le _⟩, by simp [D.mks], .inl ⟨rfl, rfl⟩⟩)
 ·generalize hxs : l.map Tm.d = xs at *
  refine loop_intro (fun p : Nat × List Value × List Value × Mem => Marking xs k rest r p.1 p.2.1 p.2.2.1 p.2.2.2)
   (fun (i, pre, tail, hh) => ⟨[(0, .val (.slice (some ⟨r, 0, none⟩) xs.length cap)), (1, .val (.int .i64 (D.mks (xs.take i) k).2)), (5, .val (.int .i64 i))], [], 0, μ, hh.set r (.cells (List.toArray (pre ++ tail)) ty (0, 0))⟩) (fun p => xs.length - p.1)
   (0, [], flat ++ rest, h2) (Marking.start hr ho) (fun (_, _, _, _) => ⟨rfl, rfl⟩) ⟨⟨rfl, rfl, rfl, trivial⟩, trivial, rfl, rfl⟩ ?_
  rintro ⟨i, pre, tail, hh⟩ M
  dsimp only at M
  have hi := M.le
  have hge := D.mks_cnt (xs.take i) k
  refine ifd (fun h => ?_) (fun h => ?_)
  ·obtain ⟨t, ht⟩ := at_some (l := l) (i := i) (by rw [← hxs] at h; simp at h; omega)
   have hx : xs[i]? = some t.d := by rw [← hxs]; simp [ht]
   have hv_ := M.next hx
   obtain ⟨c, g, m, c2, rfl, hown, hp, hmr, back⟩ := hv_
   have hv_ := Tm.own hown
   obtain ⟨v, rfl, hv⟩ := hv_
   have hv_ := OwnV.slice hv
   obtain ⟨b2, cap2, rfl⟩ := hv_
   have hlen := M.len hn
   have hcnt := Marking.cnt (k := k) hx
   rw [Tm.cnt_eq] at hcnt
   refine ptr_intro ⟨r, 0, none⟩ rfl (by omega) (by omega) ?_
   refine sto_at (j := 0) (by simp [Addr.add_lit', hlen]) (by simp) ?_
   refine num64 (by omega) (by omega) ?_
   refine ptr_intro ⟨r, 0, none⟩ rfl (by omega) (by omega) ?_
   refine sto_at (j := 1) (by simp [Addr.add_lit', hlen]) (by simp) ?_
   refine num64 (by omega) (by omega) ?_
   refine call_gives (markText_spec _ (by omega)) ?_
   refine ptr_intro ⟨r, 0, none⟩ rfl (by omega) (by omega) ?_
   refine sto_at (j := 2) (by simp [Addr.add_lit', hlen]) (by simp) ?_
   refine num64 (by omega) (by omega) ?_
   refine ptr_intro ⟨r, 0, none⟩ rfl (by omega) (by omega) ?_
   refine own_at (j := 3) (by simp [Addr.add_lit', hlen]) rfl ?_
   refine call_own (SpecH.frame (hp.set M.out) (he t (mem_at ht) hv (by omega) (by omega))) fun v μ' H' hle hap hR => ?_
   obtain ⟨h', ⟨rfl, rfl, ho'⟩, hp'⟩ := hR
   have hv_ := back_of hmr hp'
   obtain ⟨a1, a2, rfl⟩ := hv_
   have hmk := D.mks_take hx k
   have hmk2 := Tm.mk_eq t (D.mks (xs.take i) k).2
   refine num64 (by omega) (by omega) ⟨(i + 1, pre ++ [.int .i64 (D.mks (xs.take i) k).2, .int .i64 ((D.mks (xs.take i) k).2 + 1), .string (mtext ((D.mks (xs.take i) k).2 + 1 + 1)), .slice b2 (t.args.map Tm.d).length cap2], c2 ++ rest, h'.join m), back _ _ a1 a2 ?_, by dsimp only; omega, ⟨⟨rfl, ?_, rfl, trivial⟩, trivial, rfl, ?_⟩⟩
   ·rw [hmk2]
    exact OwnS.int (OwnS.int (OwnS.str (OwnS.last ho')))
   ·rw [hmk, hmk2]
    rfl
   ·simp
  ·have hi' : i = xs.length := by omega
   subst hi'
   obtain ⟨rfl, o1⟩ := M.last
   refine ret_plain ⟨by rw [List.take_length], rfl, some ⟨r, 0, none⟩, cap, by rw [D.mks_length], by rw [D.mks_length]; exact hm, D.mks_size k hn, .inr ⟨r, pre, tail, ty, hh, rfl, M.out, rfl, o1⟩⟩
theorem markTermS_spec {l : List Tm} {h : Mem} {v : Value} {k : Int} (ho : OwnV (.sl 4 (l.map Tm.d)) h v) (hk : 0 ≤ k) (hk2 : k + D.cnts (l.map Tm.d) ≤ 9223372036854775807) :
  SpecH Tryz.prog 38 [v, .int .i64 k] μ h fun r μ' h' => r = .int .i64 (D.mks (l.map Tm.d) k).2 ∧ μ' = μ ∧ OwnV (.sl 4 (D.mks (l.map Tm.d) k).1) h' v :=
 Tm.ind (p := fun t => ∀ {h : Mem} {v : Value} {k : Int}, OwnV (.sl 4 (t.args.map Tm.d)) h v → 0 ≤ k → k + D.cnts (t.args.map Tm.d) ≤ 9223372036854775807 →
   SpecH Tryz.prog 38 [v, .int .i64 k] μ h fun r μ' h' => r = .int .i64 (D.mks (t.args.map Tm.d) k).2 ∧ μ' = μ ∧ OwnV (.sl 4 (D.mks (t.args.map Tm.d) k).1) h' v)
  (fun _ _ _ _ ih _ _ _ => markTermS_of fun t ht _ _ _ => ih t ht) (.mk 0 0 ⟨#[]⟩ l) ho hk hk2
theorem heldTermS_of {l : List Tm} (he : ∀ t ∈ l, ∀ {v : Value} {k : Int}, RepV μ (.sl 4 (D.mks (t.args.map Tm.d) k).1) v → 0 ≤ k → k + D.cnts (t.args.map Tm.d) ≤ 9223372036854775807 →
   Gives Tryz.prog 103 [v, .int .i64 k] μ (.int .i64 (D.mks (t.args.map Tm.d) k).2))
  {v : Value} {k : Int} (ho : RepV μ (.sl 4 (D.mks (l.map Tm.d) k).1) v) (hk : 0 ≤ k) (hk2 : k + D.cnts (l.map Tm.d) ≤ 9223372036854775807) :
  Gives Tryz.prog 103 [v, .int .i64 k] μ (.int .i64 (D.mks (l.map Tm.d) k).2) := by
 have hv_ := Rep.sl ho
 obtain ⟨base, cap, rfl, hsl⟩ := hv_
 have hm' := Nat.le_trans hsl.max (show maxLen ≤ 9223372036854775807 by decide)
 rw [D.mks_length] at hm' hsl ⊢
 refine Spec.mk Tryz.func103 (by kernel_rfl) ?_
 generalize hxs : l.map Tm.d = xs at *
 refine loop_intro (fun i : Nat => i ≤ xs.length) (fun i => ⟨[(0, .val (.slice base xs.length cap)), (1, .val (.int .i64 (D.mks (xs.take i) k).2)), (5, .val (.int .i64 i))], [], 0, μ, Mem.nil⟩) (fun i => xs.length - i)
  0 (by simp) (fun i => ⟨rfl, rfl⟩) ⟨⟨rfl, rfl, rfl, trivial⟩, trivial, rfl, rfl⟩ ?_
 intro i hi
 have hge := D.mks_cnt (xs.take i) k
 refine ifd (fun h => ?_) (fun h => ?_)
 ·obtain ⟨t, ht⟩ := at_some (l := l) (i := i) (by rw [← hxs] at h; simp at h; omega)
  have hx : xs[i]? = some t.d := by rw [← hxs]; simp [ht]
  have hcnt := Marking.cnt (k := k) hx
  rw [Tm.cnt_eq] at hcnt
  have hv_ := hsl.get i _ (D.mks_get hx k)
  obtain ⟨ad, cs, hel, hcs⟩ := hv_
  have hmk := D.mks_take hx k
  have hmk2 := Tm.mk_eq t (D.mks (xs.take i) k).2
  rw [hmk2] at hcs
  obtain ⟨_, _, rfl, rfl, _, _, rfl, rfl, _, _, rfl, rfl, c7, _, rfl, h7, rfl⟩ := hcs
  have hl := Rep.len _ _ h7
  match c7, hl with
  | [v], _ =>
   have h7' := h7
   obtain ⟨b2, cap2, rfl, _⟩ := h7'.sl
   have hge2 := D.mks_cnt (t.args.map Tm.d) ((D.mks (xs.take i) k).2 + 1 + 1 + 1)
   refine elem_intro hel (ifnd (fun h => absurd rfl h) fun _ => ?_)
   refine num64 (by omega) (by omega) ?_
   refine elem_intro hel (ifnd (fun h => absurd rfl h) fun _ => ?_)
   refine num64 (by omega) (by omega) ?_
   refine elem_intro hel ?_
   refine call_gives (markText_spec _ (by omega)) ?_
   refine ifnd (fun h => absurd rfl h) fun _ => ?_
   refine num64 (by omega) (by omega) ?_
   refine elem_intro hel ?_
   refine call_gives (he t (mem_at ht) h7 (by omega) (by omega)) ?_
   refine ifd (fun h => absurd h (by omega)) (fun _ => ?_)
   refine num64 (by omega) (by omega) ?_
   exact ⟨i + 1, by omega, by omega, ⟨⟨rfl, by rw [hmk, hmk2]; rfl, rfl, trivial⟩, trivial, rfl, rfl⟩⟩
 ·have hi' : i = xs.length := by omega
  subst hi'
  rw [List.take_length]
  exact ret_gives rfl rfl
theorem heldTermS_spec {l : List Tm} {v : Value} {k : Int} (ho : RepV μ (.sl 4 (D.mks (l.map Tm.d) k).1) v) (hk : 0 ≤ k) (hk2 : k + D.cnts (l.map Tm.d) ≤ 9223372036854775807) :
  Gives Tryz.prog 103 [v, .int .i64 k] μ (.int .i64 (D.mks (l.map Tm.d) k).2) :=
 Tm.ind (p := fun t => ∀ {v : Value} {k : Int}, RepV μ (.sl 4 (D.mks (t.args.map Tm.d) k).1) v → 0 ≤ k → k + D.cnts (t.args.map Tm.d) ≤ 9223372036854775807 →
   Gives Tryz.prog 103 [v, .int .i64 k] μ (.int .i64 (D.mks (t.args.map Tm.d) k).2))
  (fun _ _ _ _ ih _ _ => heldTermS_of fun t ht _ _ => ih t ht) (.mk 0 0 ⟨#[]⟩ l) ho hk hk2
theorem Tm.mt_eq (t : Tm) (k : Int) : t.d.mt k = (.st [.i t.kind, .i t.num, .s t.name, .sl 4 (D.mks (t.args.map Tm.d) k).1], (D.mks (t.args.map Tm.d) k).2) := by
 rw [Tm.d_eq]; simp [D.mt, D.mts]
theorem Bd.mk_eq (b : Bd) (k : Int) : b.d.mk k = (.st [.i k, .st [.i (k + 1), .i (k + 1 + 1), .s (mtext (k + 1 + 1 + 1)), .sl 4 (D.mks (b.to.args.map Tm.d) (k + 1 + 1 + 1 + 1)).1]], (D.mks (b.to.args.map Tm.d) (k + 1 + 1 + 1 + 1)).2) := by
 simp only [Bd.d, D.mk, D.mks, Tm.mk_eq]
theorem Bd.cnt_eq (b : Bd) : b.d.cnt = 4 + D.cnts (b.to.args.map Tm.d) := by
 simp only [Bd.d, D.cnt, D.cnts, Tm.cnt_eq]; omega
end
end Go.Vx
namespace Go.Vx
open Go.Proofs Classical
theorem sub_none : ∀ {bs : List B} {n : Int}, (∀ b ∈ bs, b.var ≠ n) → sub bs n = none
 | [], _, _ => rfl
 | c :: bs, n, h => by
  rw [sub, if_neg (h c (by simp))]
  exact sub_none fun b hb => h b (by simp [hb])
section
variable {μ : Mem}
end
end Go.Vx
namespace Go.Vx
open Go.Proofs Classical
theorem tm_cnt : ∀ t : Tm, t.d.cnt = 3 * t.cnt :=
 Tm.ind fun k n s l ih => by
  have : D.cnts (l.map Tm.d) = 3 * Tm.cnts l := by
   induction l with
   | nil => rfl
   | cons t l ih2 =>
    have h1 := ih t (by simp)
    have h2 := ih2 fun t ht => ih t (by simp [ht])
    simp only [List.map_cons, D.cnts, Tm.cnts, h1, h2]; omega
  rw [Tm.cnt_eq, Tm.cnt]
  show 3 + D.cnts (l.map Tm.d) = _
  omega
theorem tm_cnt_sz : ∀ t : Tm, t.d.cnt ≤ 3 + 3 * t.d.sz :=
 Tm.ind fun k n s l ih => by
  have : D.cnts (l.map Tm.d) ≤ 3 * l.length + 3 * D.szs (l.map Tm.d) := by
   induction l with
   | nil => simp [D.cnts, D.szs]
   | cons t l ih2 =>
    have h1 := ih t (by simp)
    have h2 := ih2 fun t ht => ih t (by simp [ht])
    simp only [List.map_cons, D.cnts, D.szs, List.length_cons]; omega
  rw [Tm.cnt_eq, Tm.d_mk]
  show 3 + D.cnts (l.map Tm.d) ≤ _
  simp only [D.sz, D.szs, List.length_map]
  omega
end Go.Vx
namespace Go.Vx
open Go.Proofs Classical
section
variable {μ : Mem}
def boolOn (H : Mem) (r : Nat) (b : Bool) : Mem := H.set r (.cells #[.bool b] 4 (0, 0))
end
end Go.Vx
namespace Go.Vx
open Go.Proofs Classical
section
variable {P : Program} {f : FuncId} {args : List Value} {μ h H : Mem}
theorem Fresh.unlend {μ1 : Mem} {d : D} {v : Value} (k : Fresh (μ.join H) μ1 d v) (_ha : Apart μ H) : Fresh μ (μ1.sub H) d v := by
 obtain ⟨g, a, b, c⟩ := k
 have c1 : ∀ x, g x ≠ none → μ x = none ∧ H x = none := fun x hx => by
  have h1 := c x hx
  rw [Mem.join_get] at h1
  cases h2 : μ x with
  | none => rw [h2] at h1; exact ⟨rfl, h1⟩
  | some o => rw [h2] at h1; cases h1
 refine ⟨g, a, fun x o hx => ?_, fun x hx => (c1 x hx).1⟩
 rw [Mem.sub_of (c1 x (by simp [hx])).2]
 exact b x o hx
variable {dr : Bool} {s : St} {K : Value → St → Prop}
theorem call_lend {d : D} (hap : Apart s.mem s.own) (h : Spec P f args (s.mem.join s.own) fun v μ' => Fresh (s.mem.join s.own) μ' d v)
  (k : ∀ v μ', s.mem.Le μ' → Apart μ' s.own → Fresh s.mem μ' d v → memOwnK s μ' s.own fun s => K v s) : callVC dr P f args s K :=
 call_own (SpecH.lend hap h) fun v μ' H' hle ha' ⟨h1, μ1, h2, _, h4⟩ => by
  subst h1 h4
  exact k v _ hle ha' (h2.unlend hap)
end
section
variable {μ : Mem}
end
end Go.Vx
namespace Go.Vx
open Go.Proofs Classical
theorem tms_cnt : ∀ l : List Tm, D.cnts (l.map Tm.d) ≤ 3 * l.length + 3 * D.szs (l.map Tm.d)
 | [] => by simp [D.cnts, D.szs]
 | t :: l => by
  have h1 := tms_cnt l
  have h2 := tm_cnt_sz t
  simp only [List.map_cons, D.cnts, D.szs, List.length_cons]; omega
theorem tms_cnt2 : ∀ l : List Tm, (∀ t ∈ l, t.cnt ≤ 5000) → D.cnts (l.map Tm.d) ≤ 15000 * l.length
 | [], _ => by simp [D.cnts]
 | t :: l, h => by
  have h1 := tms_cnt2 l fun t ht => h t (by simp [ht])
  have h2 := tm_cnt t
  have h3 := h t (by simp)
  simp only [List.map_cons, D.cnts, List.length_cons]; omega
section
variable {μ : Mem}
end
end Go.Vx
namespace Go.Vx
open Go.Proofs Classical
section
variable {μ : Mem}
theorem Tm.ownR {t : Tm} {h : Mem} {cs : List Value} (k : Own t.d h cs) : ∃ p : Tm.P, cs = t.cs p ∧ OwnV (.sl 4 (t.args.map Tm.d)) h (.slice p.1 t.args.length p.2) := by
 have hv_ := Tm.own k
 obtain ⟨v, rfl, hv⟩ := hv_
 have hv_ := OwnV.slice hv
 obtain ⟨b, c, rfl⟩ := hv_
 rw [List.length_map] at hv ⊢
 exact ⟨(b, c), rfl, hv⟩
theorem Bd.ownR {t : Bd} {h : Mem} {cs : List Value} (k : Own t.d h cs) : ∃ p : Bd.P, cs = t.cs p ∧ OwnV (.sl 4 (t.to.args.map Tm.d)) h (.slice p.1 t.to.args.length p.2) := by
 have hv_ := Bd.own k
 obtain ⟨v, rfl, hv⟩ := hv_
 have hv_ := OwnV.slice hv
 obtain ⟨b, c, rfl⟩ := hv_
 rw [List.length_map] at hv ⊢
 exact ⟨(b, c), rfl, hv⟩
variable {μ1 μ' : Mem}
theorem mark_step {hh M G g G' : Mem} {r : Nat} (hr : hh r = none) (p : Parts hh M G) (q : Parts G g G') :
  ∃ mm : Mem, ∀ o, Parts (hh.set r o) g (mm.set r o) ∧ ∀ h' H', Parts H' h' (mm.set r o) → ∃ M' hh' : Mem, H' = hh'.set r o ∧ hh' r = none ∧ h' r = none ∧ Apart h' M ∧ Parts M' h' M ∧ Parts hh' M' G' := by
 have hv_ := p.assoc q.symm
 obtain ⟨mm, p1, p2⟩ := hv_
 have hm : mm r = none := by
  cases h : mm r with
  | none => rfl
  | some x => have := p2.left r x h; rw [hr] at this; cases this
 refine ⟨mm, fun o => ⟨(p2.symm.set hr), fun h' H' pH => ?_⟩⟩
 have hv_ := back_of hm pH
 obtain ⟨a1, a2, rfl⟩ := hv_
 have hv_ := (Parts.join a1).assoc p1
 obtain ⟨M', m1, m2⟩ := hv_
 refine ⟨M', h'.join mm, rfl, by rw [Mem.join_get, a2]; exact hm, a2, ?_, m1, m2⟩
 intro b hb
 cases h : M b with
 | none => rfl
 | some x => have := a1 b hb; rw [p1.left b x h] at this; cases this
theorem Parts.none_of {h g k : Mem} {r : Nat} (p : Parts h g k) (h1 : g r = none) (h2 : k r = none) : h r = none := by
 rcases p r with ⟨e, _⟩ | ⟨e, _⟩
 ·rw [e]; exact h1
 ·rw [e]; exact h2
end
end Go.Vx
namespace Go.Vx
open Go.Proofs Classical
section
variable {μ : Mem}
theorem Gl.ownR {x : Gl} {h : Mem} {cs : List Value} (k : Own x.d h cs) : ∃ p : Gl.P, cs = x.cs p ∧ ∃ g1 g2, Parts h g1 g2 ∧ OwnV (.sl 4 (x.terms.map Tm.d)) g1 (.slice p.1.1 x.terms.length p.1.2) ∧ OwnV (.sl 4 (x.goals.map Gl.d)) g2 (.slice p.2.1 x.goals.length p.2.2) := by
 rw [Gl.d_eq] at k
 obtain ⟨a0, t0, h0, r0, rfl, q0, o0, k⟩ := k
 obtain ⟨rfl, rfl⟩ := o0
 have hv_ := q0.eq (Parts.nil_left _)
 obtain rfl := hv_
 obtain ⟨a1, t1, h1, r1, rfl, q1, o1, k⟩ := k
 obtain ⟨rfl, rfl⟩ := o1
 have hv_ := q1.eq (Parts.nil_left _)
 obtain rfl := hv_
 obtain ⟨a2, t2, h2, r2, rfl, q2, o2, k⟩ := k
 have hv_ := one_of (Own.len o2)
 obtain ⟨v2, rfl⟩ := hv_
 have hv_ := Own.sl o2
 obtain ⟨b2, c2, rfl⟩ := hv_
 rw [List.length_map] at o2
 obtain ⟨a3, t3, h3, r3, rfl, q3, o3, k⟩ := k
 have hv_ := one_of (Own.len o3)
 obtain ⟨v3, rfl⟩ := hv_
 have hv_ := Own.sl o3
 obtain ⟨b3, c3, rfl⟩ := hv_
 rw [List.length_map] at o3
 obtain ⟨rfl, rfl⟩ := k
 have hv_ := q3.eq (Parts.nil_right _)
 obtain rfl := hv_
 exact ⟨((b2, c2), (b3, c3)), by simp [Gl.cs], ⟨_, _, q2, o2, o3⟩⟩
theorem Gl.mk_eq (x : Gl) (k : Int) : x.d.mk k = (.st [.i (k), .s (mtext (k + 1)), .sl 4 (D.mks (x.terms.map Tm.d) (k + 1 + 1)).1, .sl 4 (D.mks (x.goals.map Gl.d) ((D.mks (x.terms.map Tm.d) (k + 1 + 1)).2)).1], (D.mks (x.goals.map Gl.d) ((D.mks (x.terms.map Tm.d) (k + 1 + 1)).2)).2) := by
 rw [Gl.d_eq]
 simp only [D.mk, D.mks]
theorem Gl.cnt_eq (x : Gl) : x.d.cnt = 2 + D.cnts (x.terms.map Tm.d) + D.cnts (x.goals.map Gl.d) := by
 rw [Gl.d_eq]
 simp only [D.cnt, D.cnts]
 omega
set_option maxHeartbeats 1000000 in
theorem markGoalS_of {l : List Gl} (he : ∀ t ∈ l, ∀ {h : Mem} {v : Value} {k : Int}, OwnV (.sl 4 (t.goals.map Gl.d)) h v → 0 ≤ k → k + D.cnts (t.goals.map Gl.d) ≤ 9223372036854775807 →
   SpecH Tryz.prog 148 [v, .int .i64 k] μ h fun r μ' h' => r = .int .i64 (D.mks (t.goals.map Gl.d) k).2 ∧ μ' = μ ∧ OwnV (.sl 4 (D.mks (t.goals.map Gl.d) k).1) h' v)
  {h : Mem} {v : Value} {k : Int} (ho : OwnV (.sl 4 (l.map Gl.d)) h v) (hk : 0 ≤ k) (hk2 : k + D.cnts (l.map Gl.d) ≤ 9223372036854775807) :
  SpecH Tryz.prog 148 [v, .int .i64 k] μ h fun r μ' h' => r = .int .i64 (D.mks (l.map Gl.d) k).2 ∧ μ' = μ ∧ OwnV (.sl 4 (D.mks (l.map Gl.d) k).1) h' v := by
 obtain ⟨base, cap, e, hm, hn, ho⟩ := ho
 simp only [List.cons.injEq, and_true] at e
 subst e
 have hm' : (l.map Gl.d).length ≤ 9223372036854775807 := Nat.le_trans hm.max (by decide)
 refine SpecH.mk [] Tryz.func148 (by kernel_rfl) ?_
 rcases ho with ⟨hnil, rfl⟩ | ⟨r, flat, rest, ty, h2, rfl, hr, rfl, ho⟩
 ·rw [hnil]
  refine loop_intro (fun i : Nat => i = 0) (fun i => ⟨[(0, .val (.slice base 0 cap)), (1, .val (.int .i64 k)), (5, .val (.int .i64 i))], [], 0, μ, Mem.nil⟩) (fun i => 0 - i)
   0 rfl (fun i => ⟨rfl, rfl⟩) ⟨⟨rfl, rfl, rfl, trivial⟩, trivial, rfl, rfl⟩ ?_
  rintro i rfl
  refine ifd (fun h => by omega) (fun h => ret_plain ⟨rfl, rfl, base, cap, rfl, ⟨Nat.zero_le _, Nat.zero_le _⟩, by simp [D.mks], .inl ⟨rfl, rfl⟩⟩)
 ·generalize hxs : l.map Gl.d = xs at *
  refine loop_intro (fun p : Nat × List Value × List Value × Mem => Marking xs k rest r p.1 p.2.1 p.2.2.1 p.2.2.2)
   (fun (i, pre, tail, hh) => ⟨[(0, .val (.slice (some ⟨r, 0, none⟩) xs.length cap)), (1, .val (.int .i64 (D.mks (xs.take i) k).2)), (5, .val (.int .i64 i))], [], 0, μ, hh.set r (.cells (List.toArray (pre ++ tail)) ty (0, 0))⟩) (fun p => xs.length - p.1)
   (0, [], flat ++ rest, h2) (Marking.start hr ho) (fun (_, _, _, _) => ⟨rfl, rfl⟩) ⟨⟨rfl, rfl, rfl, trivial⟩, trivial, rfl, rfl⟩ ?_
  rintro ⟨i, pre, tail, hh⟩ M
  dsimp only at M
  have hi := M.le
  have hge := D.mks_cnt (xs.take i) k
  refine ifd (fun h => ?_) (fun h => ?_)
  ·obtain ⟨x, ht⟩ := at_some (l := l) (i := i) (by rw [← hxs] at h; simp at h; omega)
   have hx : xs[i]? = some x.d := by rw [← hxs]; simp [ht]
   have hv_ := M.next hx
   obtain ⟨c, g, m, c2, rfl, hown, hp, hmr, back⟩ := hv_
   have hv_ := Gl.ownR hown
   obtain ⟨p, rfl, ch⟩ := hv_
   have hlen := M.len hn
   have hcnt := Marking.cnt (k := k) hx
   rw [Gl.cnt_eq] at hcnt
   generalize hk0 : (D.mks (xs.take i) k).2 = k0 at *
   have hs0 := D.mks_cnt (x.terms.map Tm.d) (k0 + 1 + 1)
   have hs1 := D.mks_cnt (x.goals.map Gl.d) ((D.mks (x.terms.map Tm.d) (k0 + 1 + 1)).2)
   obtain ⟨g1, g2, q0, ch0, ch1⟩ := ch
   have q1 := Parts.nil_right g2
   have P0 := hp.symm
   have R0 := M.out
   refine ptr_intro ⟨r, 0, none⟩ rfl (by omega) (by omega) ?_
   refine sto_at (j := 0) (by simp [Addr.add_lit', hlen]) (by simp [Gl.cs]) ?_
   refine num64 (by omega) (by omega) ?_
   refine call_gives (markText_spec _ (by omega)) ?_
   refine ptr_intro ⟨r, 0, none⟩ rfl (by omega) (by omega) ?_
   refine sto_at (j := 1) (by simp [Addr.add_lit', hlen]) (by simp [Gl.cs]) ?_
   refine num64 (by omega) (by omega) ?_
   refine ptr_intro ⟨r, 0, none⟩ rfl (by omega) (by omega) ?_
   refine own_at (j := 2) (by simp [Addr.add_lit', hlen]) rfl ?_
   have hv_ := mark_step R0 P0 q0
   obtain ⟨mm0, st0⟩ := hv_
   refine call_own (SpecH.frame (st0 _).1 (markTermS_spec ch0 (by omega) (by omega))) fun v0 μ0 H0 hle0 hap0 hR0 => ?_
   obtain ⟨y0, ⟨rfl, eμ0, oo0⟩, pp0⟩ := hR0
   subst eμ0
   have hv_ := (st0 _).2 _ _ pp0
   obtain ⟨M1, hh1, rfl, R1, n0, ap0, mj0, P1⟩ := hv_
   refine ptr_intro ⟨r, 0, none⟩ rfl (by omega) (by omega) ?_
   refine own_at (j := 3) (by simp [Addr.add_lit', hlen]) rfl ?_
   have hv_ := mark_step R1 P1 q1
   obtain ⟨mm1, st1⟩ := hv_
   refine call_own (SpecH.frame (st1 _).1 (he x (mem_at ht) ch1 (by omega) (by omega))) fun v1 μ1 H1 hle1 hap1 hR1 => ?_
   obtain ⟨y1, ⟨rfl, eμ1, oo1⟩, pp1⟩ := hR1
   subst eμ1
   have hv_ := (st1 _).2 _ _ pp1
   obtain ⟨M2, hh2, rfl, R2, n1, ap1, mj1, P2⟩ := hv_
   have e1 := P2.eq (Parts.nil_right _)
   subst e1
   have hv_ := mj1.assoc mj0
   obtain ⟨gg, u1, u2⟩ := hv_
   have e2 := u2.is_join
   subst e2
   have PP := u1.symm
   have hmk := D.mks_take hx k
   have hmk2 := Gl.mk_eq x k0
   rw [hk0] at hmk
   refine num64 (by omega) (by omega) ⟨(i + 1, pre ++ [.int .i64 (k0), .string (mtext (k0 + 1)), .slice p.1.1 x.terms.length p.1.2, .slice p.2.1 x.goals.length p.2.2], c2 ++ rest, Mem.join gg m), back _ _ u2.apart (u1.none_of n1 n0) ?_, by dsimp only; omega, ⟨⟨rfl, ?_, rfl, trivial⟩, trivial, rfl, ?_⟩⟩
   ·rw [hmk2]
    exact OwnS.int (OwnS.str (OwnS.cons (c1 := [_]) PP oo0 (OwnS.last oo1)))
   ·rw [hmk, hmk2]
    rfl
   ·simp [Gl.cs]
  ·have hi' : i = xs.length := by omega
   subst hi'
   obtain ⟨rfl, o1⟩ := M.last
   refine ret_plain ⟨by rw [List.take_length], rfl, some ⟨r, 0, none⟩, cap, by rw [D.mks_length], by rw [D.mks_length]; exact hm, D.mks_size k hn, .inr ⟨r, pre, tail, ty, hh, rfl, M.out, rfl, o1⟩⟩
theorem markGoalS_spec {l : List Gl} {h : Mem} {v : Value} {k : Int} (ho : OwnV (.sl 4 (l.map Gl.d)) h v) (hk : 0 ≤ k) (hk2 : k + D.cnts (l.map Gl.d) ≤ 9223372036854775807) :
  SpecH Tryz.prog 148 [v, .int .i64 k] μ h fun r μ' h' => r = .int .i64 (D.mks (l.map Gl.d) k).2 ∧ μ' = μ ∧ OwnV (.sl 4 (D.mks (l.map Gl.d) k).1) h' v :=
 Gl.ind (q := fun t => ∀ {h : Mem} {v : Value} {k : Int}, OwnV (.sl 4 (t.goals.map Gl.d)) h v → 0 ≤ k → k + D.cnts (t.goals.map Gl.d) ≤ 9223372036854775807 →
   SpecH Tryz.prog 148 [v, .int .i64 k] μ h fun r μ' h' => r = .int .i64 (D.mks (t.goals.map Gl.d) k).2 ∧ μ' = μ ∧ OwnV (.sl 4 (D.mks (t.goals.map Gl.d) k).1) h' v)
  (fun _ ih _ _ _ => markGoalS_of fun t ht _ _ _ => ih t ht) (.mk 0 ⟨#[]⟩ [] l) ho hk hk2
theorem Gl.mt_eq (x : Gl) (k : Int) : x.d.mt k = (.st [.i x.kind, .s x.name, .sl 4 (D.mks (x.terms.map Tm.d) (k)).1, .sl 4 (D.mks (x.goals.map Gl.d) ((D.mks (x.terms.map Tm.d) (k)).2)).1], (D.mks (x.goals.map Gl.d) ((D.mks (x.terms.map Tm.d) (k)).2)).2) := by
 rw [Gl.d_eq]
 simp only [D.mt, D.mts]
end
end Go.Vx
namespace Go.Vx
open Go.Proofs Classical
section
variable {μ : Mem}
theorem Rl.ownR {x : Rl} {h : Mem} {cs : List Value} (k : Own x.d h cs) : ∃ p : Rl.P, cs = x.cs p ∧ ∃ g1 g2, Parts h g1 g2 ∧ OwnV (.sl 4 (x.body.terms.map Tm.d)) g1 (.slice p.1.1 x.body.terms.length p.1.2) ∧ OwnV (.sl 4 (x.body.goals.map Gl.d)) g2 (.slice p.2.1 x.body.goals.length p.2.2) := by
 rw [Rl.d_eq] at k
 obtain ⟨a0, t0, h0, r0, rfl, q0, o0, k⟩ := k
 obtain ⟨rfl, rfl⟩ := o0
 have hv_ := q0.eq (Parts.nil_left _)
 obtain rfl := hv_
 obtain ⟨a1, t1, h1, r1, rfl, q1, o1, k⟩ := k
 obtain ⟨rfl, rfl⟩ := o1
 have hv_ := q1.eq (Parts.nil_left _)
 obtain rfl := hv_
 obtain ⟨a2, t2, h2, r2, rfl, q2, o2, k⟩ := k
 obtain ⟨rfl, rfl⟩ := o2
 have hv_ := q2.eq (Parts.nil_left _)
 obtain rfl := hv_
 obtain ⟨a3, t3, h3, r3, rfl, q3, o3, k⟩ := k
 have hv_ := Gl.ownR o3
 obtain ⟨p3, rfl, ch3⟩ := hv_
 obtain ⟨rfl, rfl⟩ := k
 have hv_ := q3.eq (Parts.nil_right _)
 obtain rfl := hv_
 exact ⟨p3, by simp [Rl.cs, Gl.cs], ch3⟩
theorem Rl.mk_eq (x : Rl) (k : Int) : x.d.mk k = (.st [.s (mtext (k)), .i (k + 1), .i (k + 1 + 1), .st [.i (k + 1 + 1 + 1), .s (mtext (k + 1 + 1 + 1 + 1)), .sl 4 (D.mks (x.body.terms.map Tm.d) (k + 1 + 1 + 1 + 1 + 1)).1, .sl 4 (D.mks (x.body.goals.map Gl.d) ((D.mks (x.body.terms.map Tm.d) (k + 1 + 1 + 1 + 1 + 1)).2)).1]], (D.mks (x.body.goals.map Gl.d) ((D.mks (x.body.terms.map Tm.d) (k + 1 + 1 + 1 + 1 + 1)).2)).2) := by
 rw [Rl.d_eq]
 simp only [D.mk, D.mks, Gl.mk_eq]
theorem Rl.cnt_eq (x : Rl) : x.d.cnt = 5 + D.cnts (x.body.terms.map Tm.d) + D.cnts (x.body.goals.map Gl.d) := by
 rw [Rl.d_eq]
 simp only [D.cnt, D.cnts, Gl.cnt_eq]
 omega
set_option maxHeartbeats 1000000 in
theorem markRelS_spec {l : List Rl} {h : Mem} {v : Value} {k : Int} (ho : OwnV (.sl 7 (l.map Rl.d)) h v) (hk : 0 ≤ k) (hk2 : k + D.cnts (l.map Rl.d) ≤ 9223372036854775807) :
  SpecH Tryz.prog 83 [v, .int .i64 k] μ h fun r μ' h' => r = .int .i64 (D.mks (l.map Rl.d) k).2 ∧ μ' = μ ∧ OwnV (.sl 7 (D.mks (l.map Rl.d) k).1) h' v := by
 obtain ⟨base, cap, e, hm, hn, ho⟩ := ho
 simp only [List.cons.injEq, and_true] at e
 subst e
 have hm' : (l.map Rl.d).length ≤ 9223372036854775807 := Nat.le_trans hm.max (by decide)
 refine SpecH.mk [] Tryz.func83 (by kernel_rfl) ?_
 rcases ho with ⟨hnil, rfl⟩ | ⟨r, flat, rest, ty, h2, rfl, hr, rfl, ho⟩
 ·rw [hnil]
  refine loop_intro (fun i : Nat => i = 0) (fun i => ⟨[(0, .val (.slice base 0 cap)), (1, .val (.int .i64 k)), (5, .val (.int .i64 i))], [], 0, μ, Mem.nil⟩) (fun i => 0 - i)
   0 rfl (fun i => ⟨rfl, rfl⟩) ⟨⟨rfl, rfl, rfl, trivial⟩, trivial, rfl, rfl⟩ ?_
  rintro i rfl
  refine ifd (fun h => by omega) (fun h => ret_plain ⟨rfl, rfl, base, cap, rfl, ⟨Nat.zero_le _, Nat.zero_le _⟩, by simp [D.mks], .inl ⟨rfl, rfl⟩⟩)
 ·generalize hxs : l.map Rl.d = xs at *
  refine loop_intro (fun p : Nat × List Value × List Value × Mem => Marking xs k rest r p.1 p.2.1 p.2.2.1 p.2.2.2)
   (fun (i, pre, tail, hh) => ⟨[(0, .val (.slice (some ⟨r, 0, none⟩) xs.length cap)), (1, .val (.int .i64 (D.mks (xs.take i) k).2)), (5, .val (.int .i64 i))], [], 0, μ, hh.set r (.cells (List.toArray (pre ++ tail)) ty (0, 0))⟩) (fun p => xs.length - p.1)
   (0, [], flat ++ rest, h2) (Marking.start hr ho) (fun (_, _, _, _) => ⟨rfl, rfl⟩) ⟨⟨rfl, rfl, rfl, trivial⟩, trivial, rfl, rfl⟩ ?_
  rintro ⟨i, pre, tail, hh⟩ M
  dsimp only at M
  have hi := M.le
  have hge := D.mks_cnt (xs.take i) k
  refine ifd (fun h => ?_) (fun h => ?_)
  ·obtain ⟨x, ht⟩ := at_some (l := l) (i := i) (by rw [← hxs] at h; simp at h; omega)
   have hx : xs[i]? = some x.d := by rw [← hxs]; simp [ht]
   have hv_ := M.next hx
   obtain ⟨c, g, m, c2, rfl, hown, hp, hmr, back⟩ := hv_
   have hv_ := Rl.ownR hown
   obtain ⟨p, rfl, ch⟩ := hv_
   have hlen := M.len hn
   have hcnt := Marking.cnt (k := k) hx
   rw [Rl.cnt_eq] at hcnt
   generalize hk0 : (D.mks (xs.take i) k).2 = k0 at *
   have hs0 := D.mks_cnt (x.body.terms.map Tm.d) (k0 + 1 + 1 + 1 + 1 + 1)
   have hs1 := D.mks_cnt (x.body.goals.map Gl.d) ((D.mks (x.body.terms.map Tm.d) (k0 + 1 + 1 + 1 + 1 + 1)).2)
   obtain ⟨g1, g2, q0, ch0, ch1⟩ := ch
   have q1 := Parts.nil_right g2
   have P0 := hp.symm
   have R0 := M.out
   refine call_gives (markText_spec _ (by omega)) ?_
   refine ptr_intro ⟨r, 0, none⟩ rfl (by omega) (by omega) ?_
   refine sto_at (j := 0) (by simp [Addr.add_lit', hlen]) (by simp [Rl.cs]) ?_
   refine num64 (by omega) (by omega) ?_
   refine ptr_intro ⟨r, 0, none⟩ rfl (by omega) (by omega) ?_
   refine sto_at (j := 1) (by simp [Addr.add_lit', hlen]) (by simp [Rl.cs]) ?_
   refine num64 (by omega) (by omega) ?_
   refine ptr_intro ⟨r, 0, none⟩ rfl (by omega) (by omega) ?_
   refine sto_at (j := 2) (by simp [Addr.add_lit', hlen]) (by simp [Rl.cs]) ?_
   refine num64 (by omega) (by omega) ?_
   refine ptr_intro ⟨r, 0, none⟩ rfl (by omega) (by omega) ?_
   refine sto_at (j := 3) (by simp [Addr.add_lit', hlen]) (by simp [Rl.cs]) ?_
   refine num64 (by omega) (by omega) ?_
   refine call_gives (markText_spec _ (by omega)) ?_
   refine ptr_intro ⟨r, 0, none⟩ rfl (by omega) (by omega) ?_
   refine sto_at (j := 4) (by simp [Addr.add_lit', hlen]) (by simp [Rl.cs]) ?_
   refine num64 (by omega) (by omega) ?_
   refine ptr_intro ⟨r, 0, none⟩ rfl (by omega) (by omega) ?_
   refine own_at (j := 5) (by simp [Addr.add_lit', hlen]) rfl ?_
   have hv_ := mark_step R0 P0 q0
   obtain ⟨mm0, st0⟩ := hv_
   refine call_own (SpecH.frame (st0 _).1 (markTermS_spec ch0 (by omega) (by omega))) fun v0 μ0 H0 hle0 hap0 hR0 => ?_
   obtain ⟨y0, ⟨rfl, eμ0, oo0⟩, pp0⟩ := hR0
   subst eμ0
   have hv_ := (st0 _).2 _ _ pp0
   obtain ⟨M1, hh1, rfl, R1, n0, ap0, mj0, P1⟩ := hv_
   refine ptr_intro ⟨r, 0, none⟩ rfl (by omega) (by omega) ?_
   refine own_at (j := 6) (by simp [Addr.add_lit', hlen]) rfl ?_
   have hv_ := mark_step R1 P1 q1
   obtain ⟨mm1, st1⟩ := hv_
   refine call_own (SpecH.frame (st1 _).1 (markGoalS_spec ch1 (by omega) (by omega))) fun v1 μ1 H1 hle1 hap1 hR1 => ?_
   obtain ⟨y1, ⟨rfl, eμ1, oo1⟩, pp1⟩ := hR1
   subst eμ1
   have hv_ := (st1 _).2 _ _ pp1
   obtain ⟨M2, hh2, rfl, R2, n1, ap1, mj1, P2⟩ := hv_
   have e1 := P2.eq (Parts.nil_right _)
   subst e1
   have hv_ := mj1.assoc mj0
   obtain ⟨gg, u1, u2⟩ := hv_
   have e2 := u2.is_join
   subst e2
   have PP := u1.symm
   have hmk := D.mks_take hx k
   have hmk2 := Rl.mk_eq x k0
   rw [hk0] at hmk
   refine num64 (by omega) (by omega) ⟨(i + 1, pre ++ [.string (mtext (k0)), .int .i64 (k0 + 1), .int .i64 (k0 + 1 + 1), .int .i64 (k0 + 1 + 1 + 1), .string (mtext (k0 + 1 + 1 + 1 + 1)), .slice p.1.1 x.body.terms.length p.1.2, .slice p.2.1 x.body.goals.length p.2.2], c2 ++ rest, Mem.join gg m), back _ _ u2.apart (u1.none_of n1 n0) ?_, by dsimp only; omega, ⟨⟨rfl, ?_, rfl, trivial⟩, trivial, rfl, ?_⟩⟩
   ·rw [hmk2]
    exact OwnS.str (OwnS.int (OwnS.int (OwnS.last (OwnS.int (OwnS.str (OwnS.cons (c1 := [_]) PP oo0 (OwnS.last oo1)))))))
   ·rw [hmk, hmk2]
    rfl
   ·simp [Rl.cs]
  ·have hi' : i = xs.length := by omega
   subst hi'
   obtain ⟨rfl, o1⟩ := M.last
   refine ret_plain ⟨by rw [List.take_length], rfl, some ⟨r, 0, none⟩, cap, by rw [D.mks_length], by rw [D.mks_length]; exact hm, D.mks_size k hn, .inr ⟨r, pre, tail, ty, hh, rfl, M.out, rfl, o1⟩⟩
end
end Go.Vx
namespace Go.Vx
open Go.Proofs Classical
section
variable {μ : Mem}
theorem Pg.ownR {x : Pg} {h : Mem} {cs : List Value} (k : Own x.d h cs) : ∃ p : Pg.P, cs = x.cs p ∧ OwnV (.sl 7 (x.rels.map Rl.d)) h (.slice p.1 x.rels.length p.2) := by
 rw [Pg.d_eq] at k
 obtain ⟨a0, t0, h0, r0, rfl, q0, o0, k⟩ := k
 have hv_ := one_of (Own.len o0)
 obtain ⟨v0, rfl⟩ := hv_
 have hv_ := Own.sl o0
 obtain ⟨b0, c0, rfl⟩ := hv_
 rw [List.length_map] at o0
 obtain ⟨rfl, rfl⟩ := k
 have hv_ := q0.eq (Parts.nil_right _)
 obtain rfl := hv_
 exact ⟨(b0, c0), by simp [Pg.cs], o0⟩
theorem Pg.mk_eq (x : Pg) (k : Int) : x.d.mk k = (.st [.sl 7 (D.mks (x.rels.map Rl.d) (k)).1], (D.mks (x.rels.map Rl.d) (k)).2) := by
 rw [Pg.d_eq]
 simp only [D.mk, D.mks]
theorem Pg.cnt_eq (x : Pg) : x.d.cnt = 0 + D.cnts (x.rels.map Rl.d) := by
 rw [Pg.d_eq]
 simp only [D.cnt, D.cnts]
 omega
theorem Pg.mt_eq (x : Pg) (k : Int) : x.d.mt k = (.st [.sl 7 (D.mks (x.rels.map Rl.d) (k)).1], (D.mks (x.rels.map Rl.d) (k)).2) := by
 rw [Pg.d_eq]
 simp only [D.mt, D.mts]
theorem markProgram_spec (x : Pg) {h : Mem} {v : Value} {k : Int} (ho : OwnV x.d h v) (hk : 0 ≤ k) (hk2 : k + (D.cnts (x.rels.map Rl.d)) ≤ 9223372036854775807) :
  SpecH Tryz.prog 23 [v, .int .i64 k] μ h fun r μ' h' => r = .int .i64 (x.d.mt k).2 ∧ μ' = μ ∧ OwnV (x.d.mt k).1 h' v := by
 have ho2 : ∃ cs, v = .agg (List.toArray cs) ∧ Own x.d h cs := by rw [Pg.d_eq] at ho ⊢; exact ho
 obtain ⟨cs, rfl, ho2⟩ := ho2
 have hv_ := Pg.ownR ho2
 obtain ⟨p, rfl, ch⟩ := hv_
 rw [Pg.mt_eq]
 have hs0 := D.mks_cnt (x.rels.map Rl.d) (k)
 refine SpecH.mk [] Tryz.func23 (by kernel_rfl) ?_
 intro r
 refine call_own (markRelS_spec ch (by omega) (by omega)) fun v μ' h' hle hap hR => ?_
 obtain ⟨rfl, e, oo0⟩ := hR
 subst e
 exact ret_plain ⟨rfl, rfl, _, rfl, OwnS.last oo0⟩
end
end Go.Vx
namespace Go.Vx
open Go.Proofs Classical
section
variable {μ : Mem}
theorem Fc.ownR {x : Fc} {h : Mem} {cs : List Value} (k : Own x.d h cs) : ∃ p : Fc.P, cs = x.cs p ∧ OwnV (.sl 4 (x.args.map Tm.d)) h (.slice p.1 x.args.length p.2) := by
 rw [Fc.d_eq] at k
 obtain ⟨a0, t0, h0, r0, rfl, q0, o0, k⟩ := k
 obtain ⟨rfl, rfl⟩ := o0
 have hv_ := q0.eq (Parts.nil_left _)
 obtain rfl := hv_
 obtain ⟨a1, t1, h1, r1, rfl, q1, o1, k⟩ := k
 have hv_ := one_of (Own.len o1)
 obtain ⟨v1, rfl⟩ := hv_
 have hv_ := Own.sl o1
 obtain ⟨b1, c1, rfl⟩ := hv_
 rw [List.length_map] at o1
 obtain ⟨rfl, rfl⟩ := k
 have hv_ := q1.eq (Parts.nil_right _)
 obtain rfl := hv_
 exact ⟨(b1, c1), by simp [Fc.cs], o1⟩
theorem szFactS_of {l : List Fc} (he : ∀ t ∈ l, ∀ {v : Value} {left : Int}, RepV μ t.d v → 0 ≤ left → left ≤ 1048576 → t.d.wd → Gives Tryz.prog 41 [v, .int .i64 left] μ (.int .i64 (szR left t.d.sz)))
  {base : Option Addr} {cap : Nat} {left : Int} (hsl : Sl μ 2 base l.length (l.map Fc.d)) (hl : 0 ≤ left) (hl2 : left ≤ 1048576) (hw : D.wds (l.map Fc.d)) :
  Gives Tryz.prog 29 [.slice base l.length cap, .int .i64 left] μ (.int .i64 (szR left (l.length + D.szs (l.map Fc.d)))) := by
 have hn := maxLen_le hsl.max
 refine Spec.mk Tryz.func29 (by kernel_rfl) ?_
 refine num64 (by omega) (by omega) (ifd (fun h => ret_gives ?_ rfl) (fun h => ?_))
 ·rw [szR_neg (by omega)]
 refine loop_intro (fun i : Nat => i ≤ l.length ∧ (D.szs ((l.map Fc.d).take i) : Int) ≤ left - l.length) (fun i => ⟨[(0, .val (.slice base l.length cap)), (1, .val (.int .i64 (left - l.length - D.szs ((l.map Fc.d).take i)))), (5, .val (.int .i64 i))], [], 0, μ, Mem.nil⟩) (fun i => l.length - i)
  0 ⟨by omega, by simp [D.szs]; omega⟩ (fun i => ⟨rfl, rfl⟩) ⟨⟨rfl, by show some (SV.val (.int .i64 _)) = some (SV.val (.int .i64 _)); congr 3; simp [D.szs], rfl, trivial⟩, trivial, rfl, rfl⟩ ?_
 rintro i ⟨hi, hz⟩
 refine ifd (fun h => ?_) (fun h => ?_)
 ·obtain ⟨t, ht⟩ := at_some (l := l) (i := i) (by omega)
  have hx := at_map (f := Fc.d) ht
  have hs := D.szs_take hx
  have hs' := D.szs_le (l.map Fc.d) (i + 1)
  obtain ⟨ad, p, hel, hr⟩ := Fc.elem hsl ht
  refine elem_intro hel (call_gives (he t (mem_at ht) hr (by omega) (by omega) (D.wds_mem hw _ (mem_at hx))) ?_)
  refine ifd (fun h => ret_gives ?_ rfl) (fun h => ?_)
  ·have := szR_lt h
   rw [szR_neg (by omega)]
  ·have := szR_ge h
   refine num64 (by omega) (by omega) ⟨i + 1, ⟨by omega, by omega⟩, by omega, ⟨⟨rfl, ?_, rfl, trivial⟩, trivial, rfl, rfl⟩⟩
   rw [szR_pos this, hs]
   show some (SV.val (.int .i64 _)) = some (SV.val (.int .i64 _))
   congr 3; omega
 ·obtain rfl : i = l.length := by omega
  rw [List.take_of_length_le (by simp)] at hz ⊢
  refine ret_gives ?_ rfl
  rw [szR_pos (by omega)]; congr 1; omega
theorem szFactS_spec {l : List Fc} {base : Option Addr} {cap : Nat} {left : Int} (hsl : Sl μ 2 base l.length (l.map Fc.d)) (hl : 0 ≤ left) (hl2 : left ≤ 1048576) (hw : D.wds (l.map Fc.d)) :
  Gives Tryz.prog 29 [.slice base l.length cap, .int .i64 left] μ (.int .i64 (szR left (l.length + D.szs (l.map Fc.d)))) := szFactS_of (fun t _ _ _ => szFact_spec t) hsl hl hl2 hw
theorem toFactS_of {l : List Fc} (he : ∀ t ∈ l, ∀ {μ : Mem} {v : Value}, RepV μ t.d v → t.d.sz ≤ 1048576 → Spec Tryz.prog 43 [v] μ fun v μ' => Fresh μ μ' t.d v)
  {base : Option Addr} {cap : Nat} (hsl : Sl μ 2 base l.length (l.map Fc.d)) (hb : l.length + D.szs (l.map Fc.d) ≤ 1048576) :
  Spec Tryz.prog 32 [.slice base l.length cap] μ fun v μ' => Fresh μ μ' (.sl 2 (l.map Fc.d)) v := by
 refine Spec.mk Tryz.func32 (by kernel_rfl) ?_
 refine make_intro l.length rfl rfl (by simp only; omega) (Nat.le_trans (m := 1048576) (by omega) (by decide)) ?_
 intro r
 refine loop_intro (fun p : Nat × List Value × Mem => μ.Le p.2.2 ∧ ∃ g, Filled 2 (.agg #[.string ⟨#[]⟩, .slice none 0 0]) μ p.2.2 (l.map Fc.d) p.1 p.2.1 g)
  (fun (i, xs, μ') => ⟨[(0, .val (.slice base l.length cap)), (3, .row 0 (some r) l.length l.length), (4, .val (.int .i64 i))], [(0, some (.row (some r) l.length 67 2 xs))], 1, μ', Mem.nil⟩) (fun p => l.length - p.1)
  (0, List.replicate l.length (.agg #[.string ⟨#[]⟩, .slice none 0 0]), μ) ⟨Mem.Le.refl μ, _, Filled.start (by simp)⟩ (fun (_, _, _) => ⟨rfl, rfl⟩) ⟨⟨rfl, rfl, rfl, trivial⟩, ⟨rfl, trivial⟩, rfl, rfl⟩ ?_
 rintro ⟨i, xs, μ'⟩ ⟨hle, g, hf⟩
 dsimp only at hle hf
 have hi := hf.le
 have hlen := hf.len
 rw [List.length_map] at hi hlen
 refine ifd (fun h => ?_) (fun h => ?_)
 ·obtain ⟨t, ht⟩ := at_some (l := l) (i := i) (by omega)
  have hx := at_map (f := Fc.d) ht
  have hs := D.szs_mem hx
  obtain ⟨ad, p, hel, hr⟩ := Fc.elem (hsl.mono hle) ht
  refine elem_intro hel (call_plain (he t (mem_at ht) hr (by omega)) fun v μ'' hle2 hfr => ?_)
  obtain ⟨g', hf'⟩ := hf.step hx (Fc.d_n t) hfr hle2
  obtain ⟨p2, rfl⟩ := Fc.invV hfr.rep
  refine rel_intro i rfl (by omega) ?_
  refine get_intro _ (hf.rest i (by omega) (by simpa using h)) ?_
  refine num64 (by omega) (by omega) ⟨(i + 1, _, μ''), ⟨hle.trans hle2, g', hf'⟩, by dsimp only; omega, ⟨⟨rfl, rfl, rfl, trivial⟩, ⟨rfl, trivial⟩, rfl, rfl⟩⟩
 ·obtain rfl : i = l.length := by omega
  refine ret_frz [0] fun μ2 hle2 hno hrow => .inl ?_
  have := Fresh.ofRow (hf.all (by simp)) hf.sub hf.new hle hle2 hno hrow (Nat.le_trans (m := 1048576) (by omega) (by decide))
  rw [hlen] at this
  exact this
theorem toFactS_spec {l : List Fc} {base : Option Addr} {cap : Nat} (hsl : Sl μ 2 base l.length (l.map Fc.d)) (hb : l.length + D.szs (l.map Fc.d) ≤ 1048576) :
  Spec Tryz.prog 32 [.slice base l.length cap] μ fun v μ' => Fresh μ μ' (.sl 2 (l.map Fc.d)) v := toFactS_of (fun t _ _ _ => toFact_spec t) hsl hb
theorem Fc.mk_eq (x : Fc) (k : Int) : x.d.mk k = (.st [.s (mtext (k)), .sl 4 (D.mks (x.args.map Tm.d) (k + 1)).1], (D.mks (x.args.map Tm.d) (k + 1)).2) := by
 rw [Fc.d_eq]
 simp only [D.mk, D.mks]
theorem Fc.cnt_eq (x : Fc) : x.d.cnt = 1 + D.cnts (x.args.map Tm.d) := by
 rw [Fc.d_eq]
 simp only [D.cnt, D.cnts]
 omega
set_option maxHeartbeats 1000000 in
theorem markFactS_spec {l : List Fc} {h : Mem} {v : Value} {k : Int} (ho : OwnV (.sl 2 (l.map Fc.d)) h v) (hk : 0 ≤ k) (hk2 : k + D.cnts (l.map Fc.d) ≤ 9223372036854775807) :
  SpecH Tryz.prog 39 [v, .int .i64 k] μ h fun r μ' h' => r = .int .i64 (D.mks (l.map Fc.d) k).2 ∧ μ' = μ ∧ OwnV (.sl 2 (D.mks (l.map Fc.d) k).1) h' v := by
 obtain ⟨base, cap, e, hm, hn, ho⟩ := ho
 simp only [List.cons.injEq, and_true] at e
 subst e
 have hm' : (l.map Fc.d).length ≤ 9223372036854775807 := Nat.le_trans hm.max (by decide)
 refine SpecH.mk [] Tryz.func39 (by kernel_rfl) ?_
 rcases ho with ⟨hnil, rfl⟩ | ⟨r, flat, rest, ty, h2, rfl, hr, rfl, ho⟩
 ·rw [hnil]
  refine loop_intro (fun i : Nat => i = 0) (fun i => ⟨[(0, .val (.slice base 0 cap)), (1, .val (.int .i64 k)), (5, .val (.int .i64 i))], [], 0, μ, Mem.nil⟩) (fun i => 0 - i)
   0 rfl (fun i => ⟨rfl, rfl⟩) ⟨⟨rfl, rfl, rfl, trivial⟩, trivial, rfl, rfl⟩ ?_
  rintro i rfl
  refine ifd (fun h => by omega) (fun h => ret_plain ⟨rfl, rfl, base, cap, rfl, ⟨Nat.zero_le _, Nat.zero_le _⟩, by simp [D.mks], .inl ⟨rfl, rfl⟩⟩)
 ·generalize hxs : l.map Fc.d = xs at *
  refine loop_intro (fun p : Nat × List Value × List Value × Mem => Marking xs k rest r p.1 p.2.1 p.2.2.1 p.2.2.2)
   (fun (i, pre, tail, hh) => ⟨[(0, .val (.slice (some ⟨r, 0, none⟩) xs.length cap)), (1, .val (.int .i64 (D.mks (xs.take i) k).2)), (5, .val (.int .i64 i))], [], 0, μ, hh.set r (.cells (List.toArray (pre ++ tail)) ty (0, 0))⟩) (fun p => xs.length - p.1)
   (0, [], flat ++ rest, h2) (Marking.start hr ho) (fun (_, _, _, _) => ⟨rfl, rfl⟩) ⟨⟨rfl, rfl, rfl, trivial⟩, trivial, rfl, rfl⟩ ?_
  rintro ⟨i, pre, tail, hh⟩ M
  dsimp only at M
  have hi := M.le
  have hge := D.mks_cnt (xs.take i) k
  refine ifd (fun h => ?_) (fun h => ?_)
  ·obtain ⟨x, ht⟩ := at_some (l := l) (i := i) (by rw [← hxs] at h; simp at h; omega)
   have hx : xs[i]? = some x.d := by rw [← hxs]; simp [ht]
   have hv_ := M.next hx
   obtain ⟨c, g, m, c2, rfl, hown, hp, hmr, back⟩ := hv_
   have hv_ := Fc.ownR hown
   obtain ⟨p, rfl, ch⟩ := hv_
   have hlen := M.len hn
   have hcnt := Marking.cnt (k := k) hx
   rw [Fc.cnt_eq] at hcnt
   generalize hk0 : (D.mks (xs.take i) k).2 = k0 at *
   have hs0 := D.mks_cnt (x.args.map Tm.d) (k0 + 1)
   have ch0 := ch
   have q0 := Parts.nil_right g
   have P0 := hp.symm
   have R0 := M.out
   refine call_gives (markText_spec _ (by omega)) ?_
   refine ptr_intro ⟨r, 0, none⟩ rfl (by omega) (by omega) ?_
   refine sto_at (j := 0) (by simp [Addr.add_lit', hlen]) (by simp [Fc.cs]) ?_
   refine num64 (by omega) (by omega) ?_
   refine ptr_intro ⟨r, 0, none⟩ rfl (by omega) (by omega) ?_
   refine own_at (j := 1) (by simp [Addr.add_lit', hlen]) rfl ?_
   have hv_ := mark_step R0 P0 q0
   obtain ⟨mm0, st0⟩ := hv_
   refine call_own (SpecH.frame (st0 _).1 (markTermS_spec ch0 (by omega) (by omega))) fun v0 μ0 H0 hle0 hap0 hR0 => ?_
   obtain ⟨y0, ⟨rfl, eμ0, oo0⟩, pp0⟩ := hR0
   subst eμ0
   have hv_ := (st0 _).2 _ _ pp0
   obtain ⟨M1, hh1, rfl, R1, n0, ap0, mj0, P1⟩ := hv_
   have e1 := P1.eq (Parts.nil_right _)
   subst e1
   have e2 := mj0.is_join
   subst e2
   have hmk := D.mks_take hx k
   have hmk2 := Fc.mk_eq x k0
   rw [hk0] at hmk
   refine num64 (by omega) (by omega) ⟨(i + 1, pre ++ [.string (mtext (k0)), .slice p.1 x.args.length p.2], c2 ++ rest, Mem.join y0 m), back _ _ ap0 n0 ?_, by dsimp only; omega, ⟨⟨rfl, ?_, rfl, trivial⟩, trivial, rfl, ?_⟩⟩
   ·rw [hmk2]
    exact OwnS.str (OwnS.last oo0)
   ·rw [hmk, hmk2]
    rfl
   ·simp [Fc.cs]
  ·have hi' : i = xs.length := by omega
   subst hi'
   obtain ⟨rfl, o1⟩ := M.last
   refine ret_plain ⟨by rw [List.take_length], rfl, some ⟨r, 0, none⟩, cap, by rw [D.mks_length], by rw [D.mks_length]; exact hm, D.mks_size k hn, .inr ⟨r, pre, tail, ty, hh, rfl, M.out, rfl, o1⟩⟩
set_option maxHeartbeats 1000000 in
theorem heldFactS_spec {l : List Fc} {v : Value} {k : Int} (ho : RepV μ (.sl 2 (D.mks (l.map Fc.d) k).1) v) (hk : 0 ≤ k) (hk2 : k + D.cnts (l.map Fc.d) ≤ 9223372036854775807) :
  Gives Tryz.prog 40 [v, .int .i64 k] μ (.int .i64 (D.mks (l.map Fc.d) k).2) := by
 have hv_ := Rep.sl ho
 obtain ⟨base, cap, rfl, hsl⟩ := hv_
 have hm' := Nat.le_trans hsl.max (show maxLen ≤ 9223372036854775807 by decide)
 rw [D.mks_length] at hm' hsl ⊢
 refine Spec.mk Tryz.func40 (by kernel_rfl) ?_
 generalize hxs : l.map Fc.d = xs at *
 refine loop_intro (fun i : Nat => i ≤ xs.length) (fun i => ⟨[(0, .val (.slice base xs.length cap)), (1, .val (.int .i64 (D.mks (xs.take i) k).2)), (5, .val (.int .i64 i))], [], 0, μ, Mem.nil⟩) (fun i => xs.length - i)
  0 (by simp) (fun i => ⟨rfl, rfl⟩) ⟨⟨rfl, rfl, rfl, trivial⟩, trivial, rfl, rfl⟩ ?_
 intro i hi
 have hge := D.mks_cnt (xs.take i) k
 refine ifd (fun h => ?_) (fun h => ?_)
 ·obtain ⟨x, ht⟩ := at_some (l := l) (i := i) (by rw [← hxs] at h; simp at h; omega)
  have hx : xs[i]? = some x.d := by rw [← hxs]; simp [ht]
  have hcnt := Marking.cnt (k := k) hx
  rw [Fc.cnt_eq] at hcnt
  have hv_ := hsl.get i _ (D.mks_get hx k)
  obtain ⟨ad, cs, hel, hcs⟩ := hv_
  have hmk := D.mks_take hx k
  generalize hk0 : (D.mks (xs.take i) k).2 = k0 at *
  have hmk2 := Fc.mk_eq x k0
  rw [hmk2] at hcs
  obtain ⟨_, _, rfl, rfl, cc0, _, rfl, hh0, rfl⟩ := hcs
  have hv_ := one_of (Rep.len _ _ hh0)
  obtain ⟨vv0, rfl⟩ := hv_
  have hv0 := hh0
  have hv_ := Rep.sl hv0
  obtain ⟨bb0, kk0, rfl, _⟩ := hv_
  have hs0 := D.mks_cnt (x.args.map Tm.d) (k0 + 1)
  refine elem_intro hel ?_
  refine call_gives (markText_spec _ (by omega)) ?_
  refine ifnd (fun h => absurd rfl h) fun _ => ?_
  refine num64 (by omega) (by omega) ?_
  refine elem_intro hel ?_
  refine call_gives (heldTermS_spec hh0 (by omega) (by omega)) ?_
  refine ifd (fun h => absurd h (by omega)) (fun _ => ?_)
  exact num64 (by omega) (by omega) ⟨i + 1, by omega, by omega, ⟨⟨rfl, by rw [hmk, hmk2]; rfl, rfl, trivial⟩, trivial, rfl, rfl⟩⟩
 ·have hi' : i = xs.length := by omega
  subst hi'
  rw [List.take_length]
  exact ret_gives rfl rfl
theorem Fc.mt_eq (x : Fc) (k : Int) : x.d.mt k = (.st [.s x.rel, .sl 4 (D.mks (x.args.map Tm.d) (k)).1], (D.mks (x.args.map Tm.d) (k)).2) := by
 rw [Fc.d_eq]
 simp only [D.mt, D.mts]
theorem markFact_spec (x : Fc) {h : Mem} {v : Value} {k : Int} (ho : OwnV x.d h v) (hk : 0 ≤ k) (hk2 : k + (D.cnts (x.args.map Tm.d)) ≤ 9223372036854775807) :
  SpecH Tryz.prog 46 [v, .int .i64 k] μ h fun r μ' h' => r = .int .i64 (x.d.mt k).2 ∧ μ' = μ ∧ OwnV (x.d.mt k).1 h' v := by
 have ho2 : ∃ cs, v = .agg (List.toArray cs) ∧ Own x.d h cs := by rw [Fc.d_eq] at ho ⊢; exact ho
 obtain ⟨cs, rfl, ho2⟩ := ho2
 have hv_ := Fc.ownR ho2
 obtain ⟨p, rfl, ch⟩ := hv_
 rw [Fc.mt_eq]
 have hs0 := D.mks_cnt (x.args.map Tm.d) (k)
 refine SpecH.mk [] Tryz.func46 (by kernel_rfl) ?_
 intro r
 refine call_own (markTermS_spec ch (by omega) (by omega)) fun v μ' h' hle hap hR => ?_
 obtain ⟨rfl, e, oo0⟩ := hR
 subst e
 exact ret_plain ⟨rfl, rfl, _, rfl, OwnS.str (OwnS.last oo0)⟩
theorem read_FactS : Reads Tryz.prog 47 fun d => ∃ l : List Fc, d = .sl 2 (l.map Fc.d) ∧ D.wds (l.map Fc.d) := fun n =>
 (reads_sl ti47.kind (cellsOf_tt ti63) (fun d h => by obtain ⟨a, rfl, _⟩ := h; exact Fc.d_n a) read_Fact n).weaken fun d h => by
  obtain ⟨xs, rfl, hx⟩ := h
  obtain ⟨l, rfl⟩ := lift_list (f := Fc.d) fun x h => by obtain ⟨t, h, _⟩ := hx x h; exact ⟨t, h⟩
  exact ⟨l, rfl, D.wds_of fun x hm => by obtain ⟨t, rfl, h⟩ := hx x hm; exact h⟩
end
end Go.Vx
namespace Go.Vx
open Go.Proofs Classical
theorem Gl.pos_eq (g : Gl) : g.Pos ↔ g.kind ≠ 10 ∧ ∀ x ∈ g.goals, x.Pos := by
 unfold Gl.Pos
 rw [Gl.all_eq]
 constructor
 ·exact fun h => ⟨h g (by simp), fun x hx y hy => h y (List.mem_cons_of_mem _ (List.mem_flatMap.2 ⟨x, hx, hy⟩))⟩
 ·rintro ⟨h1, h2⟩ x hx
  rcases List.mem_cons.1 hx with rfl | hx
  ·exact h1
  ·have hv_ := List.mem_flatMap.1 hx
   obtain ⟨y, hy, hx⟩ := hv_
   exact h2 y hy x hx
section
variable {μ : Mem}
theorem l14Only_spec : ∀ (g : Gl) {v : Value}, RepV μ g.d v → Gives Tryz.prog 249 [v, .bool false] μ (.bool (decide g.Pos)) :=
 Gl.ind fun g ih v hv => by
  have hv_ := Gl.inv hv
  obtain ⟨p, rfl, hts, hgs⟩ := hv_
  have hn := maxLen_le hgs.max
  refine Spec.mk Tryz.func249 (by kernel_rfl) ?_
  intro r
  refine loop_intro (fun i : Nat => i ≤ g.goals.length ∧ ∀ (j : Nat) x, j < i → g.goals[j]? = some x → x.Pos)
   (fun i => ⟨[(1, .val (.bool false)), (2, .loc 0 r 0), (8, .val (.slice p.2.1 g.goals.length p.2.2)), (9, .val (.int .i64 g.goals.length)), (10, .val (.int .i64 i))], [(0, some (.cells r [.val (.int .i64 g.kind), .val (.string g.name), .val (.slice p.1.1 g.terms.length p.1.2), .val (.slice p.2.1 g.goals.length p.2.2)] 87))], 1, μ, Mem.nil⟩) (fun i => g.goals.length - i)
   0 ⟨Nat.zero_le _, fun j x h => by omega⟩ (fun _ => ⟨rfl, rfl⟩) ⟨⟨rfl, rfl, rfl, rfl, rfl, trivial⟩, ⟨rfl, trivial⟩, rfl, rfl⟩ ?_
  rintro i ⟨hi, hall⟩
  refine ifd (fun hlt => ?_) (fun hlt => ?_)
  ·have hv_ := at_some (l := g.goals) (i := i) (by omega)
   obtain ⟨t, ht⟩ := hv_
   have hv_ := Gl.elem hgs ht
   obtain ⟨ad, p3, hel, hr⟩ := hv_
   refine elem_intro hel ?_
   intro r2
   refine call_gives (ih t (mem_at ht) hr) ?_
   refine ifnd (fun h => ret_gives ?_ rfl) (fun h => ?_)
   ·rw [decide_eq_false fun k => h (((Gl.pos_eq g).1 k).2 t (mem_at ht))]
   ·refine num64 (by omega) (by omega) ⟨i + 1, ⟨by omega, fun j y hj hy => ?_⟩, by omega, ⟨⟨rfl, rfl, rfl, rfl, rfl, trivial⟩, ⟨rfl, trivial⟩, rfl, rfl⟩⟩
    rcases Nat.lt_or_ge j i with h6 | h6
    ·exact hall j y h6 hy
    ·obtain rfl : j = i := by omega
     rw [ht] at hy; cases hy; exact h
  ·obtain rfl : i = g.goals.length := by omega
   have hsub : ∀ x ∈ g.goals, x.Pos := fun x hx => by
    have hv_ := List.mem_iff_getElem?.1 hx
    obtain ⟨j, hj⟩ := hv_
    exact hall j x (List.getElem?_eq_some_iff.1 hj).1 hj
   refine ifnd (fun h => ?_) (fun h => ?_)
   ·refine if_intro (fun h => nomatch h) (fun _ => ?_)
    exact ret_gives (by rw [decide_eq_true ((Gl.pos_eq g).2 ⟨h, hsub⟩)]; rfl) rfl
   ·exact ret_gives (by rw [decide_eq_false fun k => ((Gl.pos_eq g).1 k).1 h]) rfl
theorem l14All_spec {p : Pg} {v : Value} (hp : RepV μ p.d v) (hw : p.d.wd) : Spec Tryz.prog 223 [v, .bool false] μ fun r _ => r = .bool (decide p.Pos) := by
 have hv_ := Pg.inv hp
 obtain ⟨q, rfl, hrl⟩ := hv_
 refine Spec.mk Tryz.func223 (by kernel_rfl) ?_
 intro r1
 refine call_plain (spec_ProgramOk_spec hp hw) fun v1 μ1 hle1 hR => ?_
 obtain rfl := hR
 refine ifnd (fun h => ret_plain (isF fun k => h k.1)) (fun hok => ?_)
 have hn := hok.1
 refine loop_intro (fun i : Nat => i ≤ p.rels.length ∧ ∀ (j : Nat) x, j < i → p.rels[j]? = some x → x.body.Pos)
  (fun i => ⟨[(1, .val (.bool false)), (11, .val (.slice q.1 p.rels.length q.2)), (12, .val (.int .i64 p.rels.length)), (13, .val (.int .i64 i))], [], 1, μ1, Mem.nil⟩) (fun i => p.rels.length - i)
  0 ⟨Nat.zero_le _, fun j x h => by omega⟩ (fun _ => ⟨rfl, rfl⟩) ⟨⟨rfl, rfl, rfl, rfl, trivial⟩, trivial, rfl, rfl⟩ ?_
 rintro i ⟨hi, hall⟩
 refine ifd (fun hlt => ?_) (fun hlt => ?_)
 ·have hv_ := at_some (l := p.rels) (i := i) (by omega)
  obtain ⟨x, hx⟩ := hv_
  have hv_ := Rl.elemA (hrl.mono hle1) hx
  obtain ⟨ad, q2, hel, hr, hb⟩ := hv_
  have hb : RepV μ1 x.body.d (.agg (x.body.cs q2).toArray) := hb
  refine elem_intro hel ?_
  intro r2
  refine call_gives (l14Only_spec x.body hb) ?_
  refine ifnd (fun h => ret_plain (isF fun k => h (k.2 x (mem_at hx)))) (fun h => ?_)
  refine num64 (by omega) (by omega) ⟨i + 1, ⟨by omega, fun j y hj hy => ?_⟩, by omega, ⟨⟨rfl, rfl, rfl, rfl, trivial⟩, trivial, rfl, rfl⟩⟩
  rcases Nat.lt_or_ge j i with h6 | h6
  ·exact hall j y h6 hy
  ·obtain rfl : j = i := by omega
   rw [hx] at hy; cases hy; exact h
 ·obtain rfl : i = p.rels.length := by omega
  exact ret_plain (isT ⟨hok, fun x hx => by
   have hv_ := List.mem_iff_getElem?.1 hx
   obtain ⟨j, hj⟩ := hv_
   exact hall j x (List.getElem?_eq_some_iff.1 hj).1 hj⟩)
theorem spec_IsPositive_spec {p : Pg} {v : Value} (hp : RepV μ p.d v) (hw : p.d.wd) : Spec Tryz.prog 174 [v] μ fun r _ => r = .bool (decide p.Pos) := by
 have hv_ := Pg.inv hp
 obtain ⟨q, rfl, hrl⟩ := hv_
 refine Spec.mk Tryz.func174 (by kernel_rfl) ?_
 intro r1
 refine call_plain (l14All_spec hp hw) fun v1 μ1 hle1 hR => ?_
 obtain rfl := hR
 exact ret_plain rfl
theorem negative1_spec (n : Int) : Gives Tryz.prog 255 [.int .i64 n] μ (.bool (decide (n = 10))) := by
 refine Spec.mk Tryz.func255 (by kernel_rfl) ?_
 exact ret_gives rfl rfl
theorem hasKind1_spec {H : Mem} {r3 : Nat} (r : Nat) (b : Bool) {g : Gl} {v : Value} (hv : RepV μ g.d v) (hne : r3 ≠ r) (h3 : H r3 = some (.cells #[.func (.func 255) #[] #[]] 175 (0, 0))) :
  SpecH Tryz.prog 258 [v, .pointer (some ⟨r, 0, none⟩), .pointer (some ⟨r3, 0, none⟩)] μ (boolOn H r b) fun r' μ' h' => r' = .tuple #[] ∧ μ' = μ ∧ h' = boolOn H r (b || decide (g.kind = 10)) := by
 have hv_ := Gl.inv hv
 obtain ⟨p, rfl, -, -⟩ := hv_
 refine SpecH.mk [] Tryz.func258 (by kernel_rfl) ?_
 intro r0
 refine own_intro [.bool b] rfl (box_at (set_self _ _ _)) ?_
 refine if_intro (fun hb => ?_) (fun hb => ?_)
 ·refine sto_intro (h := boolOn H r b) (a := ⟨r, 0, none⟩) [.bool b] 4 (set_self _ _ _) rfl (Nat.le_refl _) ?_
  exact ret_plain ⟨rfl, rfl, by rw [hb]; exact Mem.set_set _ _ _ _⟩
 ·refine own_intro [.func (.func 255) #[] #[]] rfl (box_at ((Mem.set_ne hne).trans h3)) ?_
  refine call_gives (negative1_spec _) ?_
  refine sto_intro (h := boolOn H r b) (a := ⟨r, 0, none⟩) [.bool b] 4 (set_self _ _ _) rfl (Nat.le_refl _) ?_
  exact ret_plain ⟨rfl, rfl, by rw [hb]; exact Mem.set_set _ _ _ _⟩
theorem or_fold : ∀ (l : List Gl) (b : Bool), l.foldl (fun b g => b || decide (g.kind = 10)) b = (b || !decide (∀ x ∈ l, x.kind ≠ 10))
 | [], b => by simp
 | a :: l, b => by
  rw [List.foldl_cons, or_fold l]
  by_cases h : a.kind = 10 <;> cases b <;> simp [h]
theorem hasKind_spec {g : Gl} {v : Value} (hv : RepV μ g.d v) : Spec Tryz.prog 254 [v, .func (.func 255) #[] #[]] μ fun r μ' => r = .bool (!decide g.Pos) ∧ μ' = μ := by
 have hv_ := Gl.inv hv
 obtain ⟨p, rfl, -, -⟩ := hv_
 refine Spec.mkO [3, 5] Tryz.func254 (by kernel_rfl) ?_
 intro r1 r3 hm3 ho3 r5 hm5 ho5
 have hne : r3 ≠ r5 := fun e => by
  subst e
  have h : Mem.set Mem.nil r3 _ r3 = none := ho5
  rw [Mem.set_at] at h; cases h
 refine sto_intro [.bool false] 4 (Mem.set_at _ _ _) rfl (Nat.le_refl _) ?_
 refine call_own (R := fun r μ' h' => r = .tuple #[] ∧ μ' = μ ∧ h' = boolOn (Mem.nil.set r3 (.cells #[.func (.func 255) #[] #[]] 175 (0, 0))) r5 (g.all.foldl (fun b g => b || decide (g.kind = 10)) false)) ?_ fun v μ' h' hle hap hR => ?_
 ·have := eachGoal_rel (μ := μ) (fun b h => h = boolOn (Mem.nil.set r3 (.cells #[.func (.func 255) #[] #[]] 175 (0, 0))) r5 b) (fun b g => b || decide (g.kind = 10)) (fun _ => True) (k := 258) (caps := [.pointer (some ⟨r5, 0, none⟩), .pointer (some ⟨r3, 0, none⟩)])
   (fun s h x v _ hx hj => by subst hj; exact hasKind1_spec r5 s hx hne (Mem.set_at _ _ _)) g false _ hv (fun _ _ => trivial) rfl
  have e : ∀ X : Mem, ((X.set r5 (.cells #[.bool false] 4 (0, 0))).set r5 (.cells #[.bool false] 4 (0, 0))) = boolOn X r5 false := fun X => Mem.set_set _ _ _ _
  rw [← e] at this
  exact this
 obtain ⟨rfl, e4, rfl⟩ := hR
 obtain rfl := e4.symm
 rw [or_fold, Bool.false_or]
 refine own_intro [.bool (!decide (∀ x ∈ g.all, x.kind ≠ 10))] rfl (box_at (set_self _ _ _)) ?_
 exact ret_plain ⟨congrArg (fun b => Value.bool (!b)) (decide_eq_decide.2 Iff.rfl), rfl⟩
theorem negative_spec {g : Gl} {v : Value} (hv : RepV μ g.d v) : Spec Tryz.prog 250 [v] μ fun r μ' => r = .bool (!decide g.Pos) ∧ μ' = μ := by
 have hv0 := hv
 have hv_ := Gl.inv hv
 obtain ⟨p, rfl, -, -⟩ := hv_
 refine Spec.mk Tryz.func250 (by kernel_rfl) ?_
 intro r1
 refine call_plain (hasKind_spec hv0) fun v1 μ1 hle1 hR => ?_
 obtain ⟨rfl, e⟩ := hR
 obtain rfl := e.symm
 exact ret_plain ⟨rfl, rfl⟩
theorem positive_spec {p : Pg} {v : Value} (hp : RepV μ p.d v) : Spec Tryz.prog 224 [v] μ fun r μ' => r = .bool (decide (∀ r ∈ p.rels, r.body.Pos)) ∧ μ' = μ := by
 have hv_ := Pg.inv hp
 obtain ⟨q, rfl, hrl⟩ := hv_
 have hn := maxLen_le hrl.max
 refine Spec.mk Tryz.func224 (by kernel_rfl) ?_
 intro r1
 refine loop_intro (fun i : Nat => i ≤ p.rels.length ∧ ∀ (j : Nat) x, j < i → p.rels[j]? = some x → x.body.Pos)
  (fun i => ⟨[(6, .val (.slice q.1 p.rels.length q.2)), (7, .val (.int .i64 p.rels.length)), (8, .val (.int .i64 i))], [], 1, μ, Mem.nil⟩) (fun i => p.rels.length - i)
  0 ⟨Nat.zero_le _, fun j x h => by omega⟩ (fun _ => ⟨rfl, rfl⟩) ⟨⟨rfl, rfl, rfl, trivial⟩, trivial, rfl, rfl⟩ ?_
 rintro i ⟨hi, hall⟩
 refine ifd (fun hlt => ?_) (fun hlt => ?_)
 ·have hv_ := at_some (l := p.rels) (i := i) (by omega)
  obtain ⟨x, hx⟩ := hv_
  have hv_ := Rl.elemA hrl hx
  obtain ⟨ad, q2, hel, hr, hb⟩ := hv_
  have hb : RepV μ x.body.d (.agg (x.body.cs q2).toArray) := hb
  refine elem_intro hel ?_
  intro r2
  refine call_plain (negative_spec hb) fun v1 μ1 hle1 hR => ?_
  obtain ⟨rfl, e⟩ := hR
  obtain rfl := e.symm
  refine if_intro (fun h => ret_plain ⟨isF fun k => ?_, rfl⟩) (fun h => ?_)
  ·have := k x (mem_at hx); simp [this] at h
  ·have hpos : x.body.Pos := by simpa using h
   refine num64 (by omega) (by omega) ⟨i + 1, ⟨by omega, fun j y hj hy => ?_⟩, by omega, ⟨⟨rfl, rfl, rfl, trivial⟩, trivial, rfl, rfl⟩⟩
   rcases Nat.lt_or_ge j i with h6 | h6
   ·exact hall j y h6 hy
   ·obtain rfl : j = i := by omega
    rw [hx] at hy; cases hy; exact hpos
 ·obtain rfl : i = p.rels.length := by omega
  exact ret_plain ⟨isT fun x hx => by
   have hv_ := List.mem_iff_getElem?.1 hx
   obtain ⟨j, hj⟩ := hv_
   exact hall j x (List.getElem?_eq_some_iff.1 hj).1 hj, rfl⟩
theorem impl_IsPositive_spec {p : Pg} {v : Value} (hp : RepV μ p.d v) : Spec Tryz.prog 175 [v] μ fun r _ => r = .bool (decide p.Pos) := by
 have hv_ := Pg.inv hp
 obtain ⟨q, rfl, hrl⟩ := hv_
 refine Spec.mk Tryz.func175 (by kernel_rfl) ?_
 intro r1
 refine call_plain (impl_ProgramOk_spec hp) fun v1 μ1 hle1 hR => ?_
 obtain rfl := hR
 refine ifd (fun hok => ?_) (fun hok => ret_plain (isF fun k => hok k.1))
 refine call_plain (positive_spec (hp.mono hle1)) fun v2 μ2 hle2 hR => ?_
 obtain ⟨rfl, e⟩ := hR
 refine ret_plain ?_
 by_cases h : ∀ r ∈ p.rels, r.body.Pos
 ·rw [decide_eq_true h, decide_eq_true (show p.Pos from ⟨hok, h⟩)]
 ·rw [decide_eq_false h, decide_eq_false fun k : p.Pos => h k.2]
end
end Go.Vx
namespace Go.Vx
open Go.Proofs Classical
theorem F.fc_f (f : F) : f.fc.f = f := by
 show F.mk f.rel ((f.args.map T.tm).map Tm.toT) = f
 rw [toTs_tm]
section
variable {μ : Mem}
end
end Go.Vx
namespace Go.Vx
open Go.Proofs Classical
theorem gl_cnt_sz3 : ∀ g : Gl, g.d.cnt ≤ 3 + 3 * g.d.sz :=
 Gl.ind fun g ih => by
  have h1 := tms_cnt g.terms
  have h2 : D.cnts (g.goals.map Gl.d) ≤ 3 * g.goals.length + 3 * D.szs (g.goals.map Gl.d) := by
   generalize g.goals = l at ih
   induction l with
   | nil => simp [D.cnts, D.szs]
   | cons t l ih2 =>
    have h1 := ih t (by simp)
    have h2 := ih2 fun t ht => ih t (by simp [ht])
    simp only [List.map_cons, D.cnts, D.szs, List.length_cons]; omega
  rw [Gl.cnt_eq, Gl.sz_eq]; omega
theorem rls_cnt : ∀ l : List Rl, D.cnts (l.map Rl.d) ≤ 10 * l.length + 3 * D.szs (l.map Rl.d)
 | [] => by simp [D.cnts, D.szs]
 | x :: l => by
  have h1 := rls_cnt l
  have h2 := gl_cnt_sz3 x.body
  have h3 := Rl.sz_eq x
  rw [Gl.cnt_eq] at h2
  simp only [List.map_cons, D.cnts, D.szs, List.length_cons]
  rw [Rl.cnt_eq, Rl.sz_eq]; omega
theorem pg_cnt_sz (p : Pg) : p.d.cnt ≤ 10 * p.d.sz := by
 have h1 := rls_cnt p.rels
 rw [Pg.cnt_eq, Pg.sz_eq]; omega
theorem pg_mt (p : Pg) (k : Int) : (p.d.mt k).2 = k + D.cnts (p.rels.map Rl.d) := by
 rw [Pg.mt_eq]
 exact D.mks_cnt (p.rels.map Rl.d) k
end Go.Vx
namespace Go.Vx
open Go.Proofs Classical
def BaseP (p : Pg) (u : List Tm) (b : List Fc) : Prop :=
 groundO p u ≠ none ∧ p.Pos ∧ (∀ f ∈ b, FactFits p f) ∧ (∀ f ∈ b.map Fc.f, ∀ a ∈ f.args, a ∈ u.map Tm.toT) ∧ AscF (b.map Fc.f) b.length
noncomputable def posRules (p : Pg) (u : List Tm) : Option (List Ru) := if p.Pos then groundO p u else none
theorem F.fcs (L : List F) : (L.map F.fc).map Fc.f = L := by
 rw [List.map_map]
 conv => rhs; rw [← List.map_id L]
 exact List.map_congr_left fun f _ => F.fc_f f
section
variable {μ : Mem}
theorem inUniverse_any {p : Pg} {U : List T} {f : Fc} {ub lb : Option Addr} {uc lc : Nat} (hf : FactFits p f) (hu : Sl μ 4 ub U.length ((U.map T.tm).map Tm.d)) (hl : Sl μ 4 lb f.args.length (f.args.map Tm.d)) :
  Gives Tryz.prog 176 [.slice ub U.length uc, .slice lb f.args.length lc] μ (.bool (decide (∀ a ∈ f.f.args, a ∈ U))) := by
 have e : f.args = f.f.args.map T.tm := (congrArg Fc.args hf.lift.1).symm
 have el : f.args.length = f.f.args.length := (List.length_map ..).symm
 rw [el] at hl ⊢
 rw [e] at hl
 exact inUniverse_spec hu hl
theorem baseFits_spec {p : Pg} {U : List T} {b : List Fc} {v : Value} {ub fb : Option Addr} {uc fc : Nat} (hp : RepV μ p.d v) (hu : Sl μ 4 ub U.length ((U.map T.tm).map Tm.d)) (hb : Sl μ 2 fb b.length (b.map Fc.d)) :
  Gives Tryz.prog 107 [v, .slice ub U.length uc, .slice fb b.length fc] μ (.bool (decide ((∀ f ∈ b, FactFits p f) ∧ (∀ f ∈ b.map Fc.f, ∀ a ∈ f.args, a ∈ U) ∧ AscF (b.map Fc.f) b.length))) := by
 have hp0 := hp
 have hv_ := Pg.inv hp
 obtain ⟨q0, rfl, hrl⟩ := hv_
 have hn := maxLen_le hb.max
 refine Spec.forget (Spec.mk Tryz.func107 (by kernel_rfl) ?_)
 intro r3
 refine loop_intro (fun i : Nat => i ≤ b.length ∧ (∀ f ∈ b.take i, FactFits p f ∧ ∀ a ∈ f.f.args, a ∈ U) ∧ AscF (b.map Fc.f) i)
  (fun i => ⟨[(1, .val (.slice ub U.length uc)), (2, .val (.slice fb b.length fc)), (3, .loc 0 r3 0), (9, .val (.slice fb b.length fc)), (10, .val (.int .i64 b.length)), (11, .val (.int .i64 i))], [(0, some (.cells r3 [.val (.slice q0.1 p.rels.length q0.2)] 32))], 1, μ, Mem.nil⟩) (fun i => b.length - i)
  0 ⟨Nat.zero_le _, by simp, fun j x y hj _ _ => by omega⟩ (fun _ => ⟨rfl, rfl⟩) ⟨⟨rfl, rfl, rfl, rfl, rfl, rfl, trivial⟩, ⟨rfl, trivial⟩, rfl, rfl⟩ ?_
 rintro i ⟨hi, hall, hasc⟩
 refine ifd (fun hlt => ?_) (fun hlt => ?_)
 ·have hv_ := at_some (l := b) (i := i) (by omega)
  obtain ⟨f, hf⟩ := hv_
  have hfm := mem_at hf
  have hv_ := Fc.elemA hb hf
  obtain ⟨ad, q, hel, hrf, hA⟩ := hv_
  have hA : Sl μ 4 q.1 f.args.length (f.args.map Tm.d) := hA
  refine elem_intro hel ?_
  intro r8
  refine call_gives (factFits_spec hp0 hrf) ?_
  refine ifnd (fun h => ret_plain (isF fun k => h (k.1 f hfm))) (fun hfit => ?_)
  refine call_gives (inUniverse_any hfit hu hA) ?_
  refine ifnd (fun h => ret_plain (isF fun k => h (k.2.1 f.f (List.mem_map_of_mem hfm)))) (fun hin => ?_)
  have hall' : ∀ x ∈ b.take (i + 1), FactFits p x ∧ ∀ a ∈ x.f.args, a ∈ U := by
   rw [List.take_add_one, hf, Option.toList_some]
   intro y hy
   rcases List.mem_append.1 hy with hy | hy
   ·exact hall y hy
   ·rw [List.mem_singleton.1 hy]; exact ⟨hfit, hin⟩
  have hfe : (b.map Fc.f)[i]? = some f.f := by rw [List.getElem?_map, hf]; rfl
  refine ifd (fun hi0 => ?_) (fun hi0 => ?_)
  ·have hv_ := at_some (l := b) (i := i - 1) (by omega)
   obtain ⟨g, hg⟩ := hv_
   have hv_ := Fc.elemA hb hg
   obtain ⟨ad', q', hel', hrg, _⟩ := hv_
   have hgfit := (hall g (by rw [List.mem_iff_getElem?]; exact ⟨i - 1, by rw [List.getElem?_take, if_pos (by omega)]; exact hg⟩)).1
   have hge : (b.map Fc.f)[i - 1]? = some g.f := by rw [List.getElem?_map, hg]; rfl
   refine num64 (by omega) (by omega) ?_
   refine elem_intro (by rw [show ((i : Int) - 1) = ((i - 1 : Nat) : Int) by omega]; exact hel') ?_
   refine call_gives (orderFacts_spec (f := g.f) (g := f.f) (by rw [hgfit.lift.1]; exact hrg) (by rw [hfit.lift.1]; exact hrf)) ?_
   refine ifd (fun hc => ret_plain (isF fun k => ?_)) (fun hc => ?_)
   ·have := k.2.2 (i - 1) g.f f.f (by omega) hge (by rw [show i - 1 + 1 = i by omega]; exact hfe)
    omega
   ·refine num64 (by omega) (by omega) ⟨i + 1, ⟨by omega, hall', hasc.next fun x y _ hx hy => ?_⟩, by omega, ⟨⟨rfl, rfl, rfl, rfl, rfl, rfl, trivial⟩, ⟨rfl, trivial⟩, rfl, rfl⟩⟩
    rw [hge] at hx; rw [hfe] at hy; cases hx; cases hy
    omega
  ·exact num64 (by omega) (by omega) ⟨i + 1, ⟨by omega, hall', hasc.next fun x y h0 _ _ => by omega⟩, by omega, ⟨⟨rfl, rfl, rfl, rfl, rfl, rfl, trivial⟩, ⟨rfl, trivial⟩, rfl, rfl⟩⟩
 ·obtain rfl : i = b.length := by omega
  rw [List.take_length] at hall
  refine ret_plain (isT ⟨fun f hf => (hall f hf).1, fun f hf => ?_, hasc⟩)
  have hv_ := List.mem_map.1 hf
  obtain ⟨x, hx, rfl⟩ := hv_
  exact (hall x hx).2
theorem positiveRules_spec {p : Pg} {u : List Tm} {v : Value} {ub : Option Addr} {uc : Nat} (hp : RepV μ p.d v) (hu : Sl μ 4 ub u.length (u.map Tm.d)) :
  Spec Tryz.prog 106 [v, .slice ub u.length uc] μ fun v μ' => optRu (fun y tv => RepV μ' (.sl 6 ((y.map Ru.rd).map RuD.d)) tv) (posRules p u) v := by
 have hp0 := hp
 have hv_ := Pg.inv hp
 obtain ⟨q, rfl, hrl⟩ := hv_
 refine Spec.mk Tryz.func106 (by kernel_rfl) ?_
 intro r2
 refine call_plain (impl_IsPositive_spec hp0) fun v1 μ1 hle1 hR => ?_
 obtain rfl := hR
 refine ifnd (fun h => ret_plain (by rw [posRules, if_neg h]; rfl)) (fun hpos => ?_)
 refine call_gives (impl_UniverseOk_spec (hu.mono hle1)) ?_
 refine ifnd (fun h => ret_plain (by rw [posRules, if_pos hpos, groundO, if_neg fun k => h k.2]; rfl)) (fun huok => ?_)
 have hv_ := huok.lift
 obtain ⟨U, rfl, hUg, hUl⟩ := hv_
 have hgo : posRules p (U.map T.tm) = groundR p U := by rw [posRules, if_pos hpos, groundO, if_pos ⟨hpos.1, huok⟩, toTs_tm]
 rw [hgo]
 have h1 := huok.pos
 have h8 := huok.max
 rw [List.length_map] at h1 h8 hu ⊢
 refine call_plain (groundRules_spec (hp0.mono hle1) hpos.1 (hu.mono hle1) h1 h8) fun v2 μ2 hle2 hR => ?_
 cases hL : groundR p U with
 | none =>
  rw [hL] at hR
  obtain rfl := hR
  exact ret_plain rfl
 | some y =>
  rw [hL] at hR
  obtain ⟨tv, rfl, hR⟩ := hR
  exact ret_plain ⟨tv, rfl, hR⟩
theorem spec_BaseOk_spec {p : Pg} {u : List Tm} {b : List Fc} {v : Value} {ub fb : Option Addr} {uc fc : Nat} (hp : RepV μ p.d v) (hw : p.d.wd) (hu : Sl μ 4 ub u.length (u.map Tm.d)) (hwu : D.wds (u.map Tm.d)) (hb : Sl μ 2 fb b.length (b.map Fc.d)) (hwb : D.wds (b.map Fc.d)) :
  Spec Tryz.prog 104 [v, .slice ub u.length uc, .slice fb b.length fc] μ fun r _ => r = .bool (decide (BaseP p u b)) := by
 have hp0 := hp
 have hv_ := Pg.inv hp
 obtain ⟨q, rfl, hrl⟩ := hv_
 refine Spec.mk Tryz.func104 (by kernel_rfl) ?_
 intro r3
 refine call_plain (spec_GroundRules_spec hp0 hw hu hwu) fun v1 μ1 hle1 hR => ?_
 cases hL : groundO p u with
 | none =>
  rw [hL] at hR
  obtain rfl := hR
  exact if_intro (fun _ => ret_plain (isF fun k => k.1 hL)) (fun h => nomatch h)
 | some y =>
  rw [hL] at hR
  obtain ⟨tv, rfl, hR⟩ := hR
  have hok := groundO_some hL
  have hv_ := hok.2.lift
  obtain ⟨U, rfl, hUg, hUl⟩ := hv_
  refine if_intro (fun h => nomatch h) (fun _ => ?_)
  refine call_plain (spec_IsPositive_spec (hp0.mono hle1) hw) fun v2 μ2 hle2 hR2 => ?_
  obtain rfl := hR2
  refine ifnd (fun h => ret_plain (isF fun k => h k.2.1)) (fun hpos => ?_)
  have hle12 := hle1.trans hle2
  refine call_plain (l19FactsOk_spec (hp0.mono hle12) hw (hb.mono hle12) hwb) fun v3 μ3 hle3 hR3 => ?_
  obtain rfl := hR3
  refine ifnd (fun h => ret_plain (isF fun k => h fun f hf => ⟨hok.1, k.2.2.1 f hf⟩)) (fun hfit => ?_)
  have hfit : ∀ f ∈ b, FactFits p f := fun f hf => (hfit f hf).2
  have hbl := facts_lift hfit
  generalize hLe : b.map Fc.f = L at hbl
  subst hbl
  have hle := hle12.trans hle3
  have hu' := hu
  have hb' := hb
  rw [List.length_map] at hu' hb' ⊢
  rw [List.length_map]
  have hn := maxLen_le hb'.max
  refine call_gives (l18Inside_spec (hu'.mono hle) (hb'.mono hle)) ?_
  refine ifnd (fun h => ret_plain (isF fun k => h ?_)) (fun hin => ?_)
  ·have := k.2.2.2.1
   rw [F.fcs, toTs_tm] at this
   exact this
  have hBP : AscF L L.length → BaseP p (U.map T.tm) (L.map F.fc) := fun k => ⟨by rw [hL]; exact (fun h => nomatch h), hpos, hfit, by rw [F.fcs, toTs_tm]; exact hin, by rw [F.fcs, List.length_map]; exact k⟩
  have hBN : BaseP p (U.map T.tm) (L.map F.fc) → AscF L L.length := fun k => by have := k.2.2.2.2; rwa [F.fcs, List.length_map] at this
  refine loop_intro (fun i : Nat => 1 ≤ i ∧ (i ≤ L.length ∨ i = 1) ∧ AscF L i)
   (fun i => ⟨[(2, .val (.slice fb L.length fc)), (9, .val (.int .i64 i))], [], 1, μ3, Mem.nil⟩) (fun i => L.length - i)
   1 ⟨Nat.le_refl _, .inr rfl, fun j x y hj _ _ => by omega⟩ (fun _ => ⟨rfl, rfl⟩) ⟨⟨rfl, rfl, trivial⟩, trivial, rfl, rfl⟩ ?_
  rintro i ⟨hi1, hi, hasc⟩
  refine ifd (fun hlt => ?_) (fun hlt => ?_)
  ·have hv_ := at_some (l := L) (i := i) (by omega)
   obtain ⟨f, hf⟩ := hv_
   have hv_ := at_some (l := L) (i := i - 1) (by omega)
   obtain ⟨g, hg⟩ := hv_
   have hv_ := F.elem (hb'.mono hle) hf
   obtain ⟨ad, q1, hel, hrf, _⟩ := hv_
   have hv_ := F.elem (hb'.mono hle) hg
   obtain ⟨ad', q2, hel', hrg, _⟩ := hv_
   refine num64 (by omega) (by omega) ?_
   refine elem_intro (by rw [show ((i : Int) - 1) = ((i - 1 : Nat) : Int) by omega]; exact hel') ?_
   refine elem_intro hel ?_
   refine call_gives (l18Cmp_spec hrg hrf) ?_
   refine ifd (fun hc => ret_plain (isF fun k => ?_)) (fun hc => ?_)
   ·have := hBN k (i - 1) g f (by omega) hg (by rw [show i - 1 + 1 = i by omega]; exact hf)
    omega
   ·refine num64 (by omega) (by omega) ⟨i + 1, ⟨by omega, .inl (by omega), hasc.next fun x y _ hx hy => ?_⟩, by omega, ⟨⟨rfl, rfl, trivial⟩, trivial, rfl, rfl⟩⟩
    rw [hg] at hx; rw [hf] at hy; cases hx; cases hy
    omega
  ·refine ret_plain (isT (hBP ?_))
   rcases Nat.lt_or_ge L.length i with h6 | h6
   ·exact fun j x y hj _ _ => by omega
   ·obtain rfl : i = L.length := by omega
    exact hasc
end
end Go.Vx
namespace Go.Vx
open Go.Proofs Classical
section
variable {rs : List Ru} {S out : List F}
end
section
variable {rs : List Ru} {base out : List F}
end
section
variable {rs : List Ru} {model B out : List F}
theorem overF_nil : overF rs model [] = [] := by
 have no : ∀ x, ¬ Over rs model [] x := fun x h => by
  induction h with
  | self k => cases k
  | rule _ _ _ _ ih => exact ih
 exact (OvI.done (B := []) ⟨List.Pairwise.nil, (fun _ h => nomatch h), (fun _ h => nomatch h)⟩ fun r _ _ ⟨y, _, h⟩ => nomatch h).symm
end
theorem insF_more {L : List F} {f : F} (hL : Asc3 cmpF L) (h : f ∉ L) : L.length < (insF L f).length :=
 asc_more cmpF_ord hL (insF_asc L f) (fun x hx => mem_insF.2 (.inr hx)) fun e => h (sub_of_len (hL.nodup cmpF_ord) (fun x hx => mem_insF.2 (.inr hx)) (by omega) f (mem_insF.2 (.inl rfl)))
end Go.Vx
namespace Go.Vx
open Go.Proofs Classical
section
variable {μ : Mem}
theorem l19Fires_spec {r : Ru} {pos neg : List F} {v : Value} {b b2 : Option Addr} {c c2 : Nat} (hr : RepV μ r.rd.d v) (hs : Sl μ 2 b pos.length ((pos.map F.fc).map Fc.d)) (hs2 : Sl μ 2 b2 neg.length ((neg.map F.fc).map Fc.d)) :
  Gives Tryz.prog 111 [v, .slice b pos.length c, .slice b2 neg.length c2] μ (.bool (decide (fires pos neg r))) := by
 have hv_ := Ru.inv hr
 obtain ⟨p, rfl, -, -, h3, h4⟩ := hv_
 have hm1 := maxLen_le h3.max
 have hm2 := maxLen_le h4.max
 refine Spec.mk Tryz.func111 (by kernel_rfl) ?_
 intro r3
 refine loop_intro (fun k : Nat => k ≤ r.pos.length ∧ ∀ f ∈ r.pos.take k, f ∈ pos)
  (fun k => ⟨[(1, .val (.slice b pos.length c)), (2, .val (.slice b2 neg.length c2)), (3, .loc 0 r3 0), (12, .val (.slice p.2.2.1.1 r.pos.length p.2.2.1.2)), (13, .val (.int .i64 r.pos.length)), (14, .val (.int .i64 k))], [(0, some (.cells r3 (vals (r.cs p)) 126))], 1, μ, Mem.nil⟩) (fun k => r.pos.length - k)
  0 ⟨Nat.zero_le _, by simp⟩ (fun _ => ⟨rfl, rfl⟩) ⟨⟨rfl, rfl, rfl, rfl, rfl, rfl, trivial⟩, ⟨rfl, trivial⟩, rfl, rfl⟩ ?_
 rintro k ⟨hk, hall⟩
 refine ifd (fun hlt => ?_) (fun hlt => ?_)
 ·have hv_ := at_some (l := r.pos) (i := k) (by omega)
  obtain ⟨y, hy⟩ := hv_
  have hv_ := F.elem h3 hy
  obtain ⟨ad3, p3, hel3, hry, hsy⟩ := hv_
  refine elem_intro hel3 ?_
  intro r8
  refine call_gives (l18Has_spec hs hry) ?_
  refine ifnd (fun h => ret_gives (isF fun k => h (k.1 y (mem_at hy))) rfl) (fun h => ?_)
  ·exact num64 (by omega) (by omega) ⟨k + 1, ⟨by omega, take_all_at hall hy h⟩, by omega, ⟨⟨rfl, rfl, rfl, rfl, rfl, rfl, trivial⟩, ⟨rfl, trivial⟩, rfl, rfl⟩⟩
 obtain rfl : k = r.pos.length := by omega
 rw [List.take_length] at hall
 refine loop_intro (fun k : Nat => k ≤ r.neg.length ∧ ∀ f ∈ r.neg.take k, f ∉ neg)
  (fun k => ⟨[(2, .val (.slice b2 neg.length c2)), (24, .val (.slice p.2.2.2.1 r.neg.length p.2.2.2.2)), (25, .val (.int .i64 r.neg.length)), (26, .val (.int .i64 k))], [], 1, μ, Mem.nil⟩) (fun k => r.neg.length - k)
  0 ⟨Nat.zero_le _, by simp⟩ (fun _ => ⟨rfl, rfl⟩) ⟨⟨rfl, rfl, rfl, rfl, trivial⟩, trivial, rfl, rfl⟩ ?_
 rintro k ⟨hk, hall2⟩
 refine ifd (fun hlt => ?_) (fun hlt => ?_)
 ·have hv_ := at_some (l := r.neg) (i := k) (by omega)
  obtain ⟨y, hy⟩ := hv_
  have hv_ := F.elem h4 hy
  obtain ⟨ad3, p3, hel3, hry, hsy⟩ := hv_
  refine elem_intro hel3 ?_
  intro r8
  refine call_gives (l18Has_spec hs2 hry) ?_
  refine ifd (fun h => ret_gives (isF fun k => (k.2 y (mem_at hy)) h) rfl) (fun h => ?_)
  ·exact num64 (by omega) (by omega) ⟨k + 1, ⟨by omega, take_all_at hall2 hy h⟩, by omega, ⟨⟨rfl, rfl, rfl, rfl, trivial⟩, trivial, rfl, rfl⟩⟩
 obtain rfl : k = r.neg.length := by omega
 rw [List.take_length] at hall2
 exact ret_gives (isT ⟨hall, hall2⟩) rfl
end
end Go.Vx
namespace Go.Vx
open Go.Proofs Classical
section
variable {μ : Mem}
theorem slF_nil : Sl μ 2 none 0 ((([] : List F).map F.fc).map Fc.d) := ⟨rfl, Nat.zero_le _, fun i x h => by simp at h⟩
end
end Go.Vx
namespace Go.Vx
open Go.Proofs Classical
open Go.Sort
section
variable {μ h0 : Mem} {r : Nat} {ty : TypeId} {rest : List Value}
end
section
variable {μ : Mem}
theorem sortFacts_own {H : Mem} {L : List F} {r c : Nat} {ys : List Value} (hap : Apart μ H) (hro : RowO H r c 67 2 ys) (hrows : Rows μ 2 ((L.map F.fc).map Fc.d) ys) (hn : L.length ≤ 100000000) :
  SpecH Tryz.prog 94 [.slice (some ⟨r, 0, none⟩) L.length c] μ H fun v _ H' => ∃ r' c' ys', v = .slice (some ⟨r', 0, none⟩) (ascF L).length c' ∧ RowO H' r' c' 67 2 ys' ∧ Rows μ 2 (((ascF L).map F.fc).map Fc.d) ys' := by
 have hyl : L.length = ys.length := by have := hrows.len; simpa using this
 have hE := FElts.zip hrows
 have hl : (L.zip ys).length = L.length := by rw [List.length_zip]; omega
 have hsrc : SrcAt (μ.join H) (some ⟨r, 0, none⟩) L.length 2 ys := by
  obtain ⟨cs, h1, h2, h3, h4, h5, h6⟩ := hro
  refine ⟨hyl.symm, h4, .inr ⟨_, rfl, fun j v hj => ?_⟩⟩
  have hlt := (List.getElem?_eq_some_iff.1 hj).1
  have hf : (ys.flatMap vcells).length = ys.length * 2 := flat_len ys fun y hy => (h4 y hy).1
  rw [← h6, List.getElem?_take, if_pos (by omega)] at hj
  rw [Addr.add_lit', Nat.zero_add]
  simp only [Mem.cell, Mem.le_join_right hap _ _ h1]
  simpa using hj
 have := sortFacts_core (l := L.zip ys) (base := some ⟨r, 0, none⟩) (cap := c) (by rw [hl, zip_snd hyl]; exact hsrc) (hE.mono (Mem.le_join _ _)) (by omega)
 rw [hl] at this
 refine (Spec.lendOwn (R' := fun v g _ => ∃ l' : List FE, (∀ p ∈ l', p ∈ L.zip ys) ∧ l'.map Prod.fst = ascF L ∧ ∃ b c, v = .slice (some ⟨b, 0, none⟩) (l'.map Prod.snd).length c ∧ RowO g b c 67 2 (l'.map Prod.snd)) hap this fun v μ1 hle hR => ?_).weaken fun v μ' H' hle hap' hR => ?_
 ·obtain ⟨l', h1, h2, bb, cc, g, rfl, hro, hg, hnew⟩ := hR
  rw [zip_fst hyl] at h2
  exact ⟨g, hg, hnew, l', core_mem h1, h2, bb, cc, rfl, hro⟩
 ·obtain ⟨g, μ1, ⟨l', h1, h2, b, c', rfl, hro'⟩, hle1, hparts, rfl⟩ := hR
  have hE' : FElts μ l' := fun p hp => hE p (h1 p hp)
  have hr := hE'.rows
  rw [h2] at hr
  have e : (l'.map Prod.snd).length = (ascF L).length := by rw [List.length_map, ← h2, List.length_map]
  rw [e]
  refine ⟨b, c', _, rfl, ?_, hr⟩
  obtain ⟨cs, k1, k2⟩ := hro'
  exact ⟨cs, hparts.right _ _ k1, k2⟩
end
end Go.Vx
namespace Go.Vx
open Go.Proofs Classical
section
variable {μ : Mem}
end
theorem all_take {α : Type} {l : List α} {j : Nat} {x : α} {P : α → Prop} (h : l[j]? = some x) : (∀ y ∈ l.take (j + 1), P y) ↔ (∀ y ∈ l.take j, P y) ∧ P x := by
 rw [List.take_add_one, h, Option.toList_some]
 constructor
 ·exact fun k => ⟨fun y hy => k y (List.mem_append_left _ hy), k x (by simp)⟩
 ·rintro ⟨h1, h2⟩ y hy
  rcases List.mem_append.1 hy with k | k
  ·exact h1 y k
  ·rw [List.mem_singleton.1 k]; exact h2
section
variable {μ : Mem}
end
end Go.Vx
namespace Go.Vx
open Go.Proofs Classical
theorem fc_cnt_sz (x : Fc) : x.d.cnt ≤ 1 + 3 * x.d.sz := by
 have h := tms_cnt x.args
 rw [Fc.cnt_eq, Fc.sz_eq]; omega
theorem fc_mt (x : Fc) (k : Int) : (x.d.mt k).2 = k + D.cnts (x.args.map Tm.d) := by
 rw [Fc.mt_eq]
 exact D.mks_cnt (x.args.map Tm.d) k
theorem fcs_cnt : ∀ l : List Fc, D.cnts (l.map Fc.d) ≤ 1 * l.length + 3 * D.szs (l.map Fc.d)
 | [] => by simp [D.cnts, D.szs]
 | x :: l => by
  have h1 := fc_cnt_sz x
  have h2 := fcs_cnt l
  simp only [List.map_cons, D.cnts, D.szs, List.length_cons]; omega
def FsB (L : List F) : Prop := ∀ f ∈ L, f.args.length ≤ 4 ∧ ∀ a ∈ f.args, a.ok
theorem fcs_cnt3 : ∀ L : List F, FsB L → D.cnts ((L.map F.fc).map Fc.d) ≤ 60001 * L.length
 | [], _ => by simp [D.cnts]
 | f :: L, h => by
  have ih := fcs_cnt3 L fun x hx => h x (List.mem_cons_of_mem _ hx)
  have h0 := h f (by simp)
  have h2 := tms_cnt2 f.fc.args fun t ht => by
   have hv_ := List.mem_map.1 ht
   obtain ⟨a, ha, rfl⟩ := hv_
   rw [T.cnt_tm]; exact (h0.2 a ha).2
  have h3 := Fc.cnt_eq f.fc
  have h4 : f.fc.args.length = f.args.length := List.length_map ..
  have := Nat.mul_le_mul_left 15000 h0.1
  simp only [List.map_cons, D.cnts, List.length_cons]
  omega
def resF (o : Option (List F)) : List Fc := (o.getD []).map F.fc
end Go.Vx
namespace Go.Vx
open Go.Proofs Classical
section
variable {μ : Mem}
theorem one_base1 {f : Fc} {v : Value} {b : Option Nat} {c : Nat} (hf : RepV μ f.d v) (hat : RowAt μ b c 2 [v]) : RepV μ (.sl 2 ([f].map Fc.d)) (.slice (b.map fun r => ⟨r, 0, none⟩) [f].length c) :=
 Rows.sl hat (Rows.one hf (Fc.d_n _)) (show 1 ≤ maxLen by decide)
end
end Go.Vx
namespace Go.Vx
open Go.Proofs Classical
noncomputable def overM (p : Pg) (u : List Tm) (m : List Fc) (f : Fc) : Option (List F) := if BaseP p u m ∧ BaseP p u [f] ∧ f.f ∈ m.map Fc.f then (groundO p u).map fun rs => overF rs (m.map Fc.f) [f.f] else none
theorem fit_B {p : Pg} (hp : p.Ok) {f : Fc} (h : FactFits p f) : f.f.args.length ≤ 4 ∧ ∀ a ∈ f.f.args, a.ok := by
 have h1 := h.len hp
 refine ⟨by rw [Fc.f]; simpa using h1, fun a ha => (h.lift.2 a ha).1⟩
theorem head_B {p : Pg} {r : Ru} (h : RuOk p r) : r.head.args.length ≤ 4 ∧ ∀ a ∈ r.head.args, a.ok := by
 refine ⟨h.hlen, fun a ha => ?_⟩
 have := h.head.lift.2 a (by rw [F.fc_f]; exact ha)
 exact this.1
theorem overF_B {p : Pg} {rs : List Ru} {m B : List F} (hr : ∀ r ∈ rs, RuOk p r) (hB : FsB B) : FsB (overF rs m B) := fun x hx => by
 rw [overF, mem_ascF, List.mem_filter, decide_eq_true_eq] at hx
 cases hx.2 with
 | self h => exact hB x h
 | rule h _ _ _ => exact head_B (hr _ h)
theorem overF_len (rs : List Ru) (m B : List F) : (overF rs m B).length ≤ B.length + rs.length := by
 rw [overF]
 refine Nat.le_trans (ascF_len _) (Nat.le_trans (List.length_filter_le _ _) ?_)
 rw [List.length_append, List.length_map]; exact Nat.le_refl _
theorem resF_B {o : Option (List F)} {n : Nat} (h : ∀ y, o = some y → FsB y ∧ y.length ≤ n) : D.cnts ((resF o).map Fc.d) ≤ 60001 * n := by
 cases o with
 | none => simp [resF, D.cnts]
 | some y =>
  have hv_ := h y rfl
  obtain ⟨h2, h3⟩ := hv_
  have := fcs_cnt3 y h2
  have := Nat.mul_le_mul_left 60001 h3
  rw [resF, Option.getD_some]; omega
theorem overM_cnt (p : Pg) (u : List Tm) (m : List Fc) (f : Fc) : D.cnts ((resF (overM p u m f)).map Fc.d) ≤ 60001 * 2001 := resF_B fun y h => by
 rw [overM] at h
 split at h
 ·rename_i hb
  cases hg : groundO p u with
  | none => rw [hg] at h; cases h
  | some rs =>
   rw [hg, Option.map_some] at h; cases h
   have hv_ := groundO_ok hg
   obtain ⟨h1, h2⟩ := hv_
   have hl := overF_len rs (m.map Fc.f) [f.f]
   refine ⟨overF_B h2 fun x hx => ?_, by simp at hl; omega⟩
   rw [List.mem_singleton.1 hx]
   exact fit_B (groundO_some hg).1 (hb.2.1.2.2.1 f (by simp))
 ·cases h
structure RvS (rs : List Ru) (f : F) (L0 L : List F) (b : Bool) (C : Prop) : Prop where
 inv : RvI rs f L
 more : b = true → L0.length < L.length
 same : b = false → L = L0 ∧ C
structure OvS (rs : List Ru) (m B : List F) (L0 L : List F) (b : Bool) (C : Prop) : Prop where
 inv : OvI rs m B L
 more : b = true → L0.length < L.length
 same : b = false → L = L0 ∧ C
def overDone (rs : List Ru) (m L : List F) (i : Nat) : Prop := ∀ r ∈ rs.take i, (∀ x ∈ r.pos, x ∈ m) → (∃ y ∈ r.pos, y ∈ L) → r.head ∈ L
theorem RvS.len {rs : List Ru} {f : F} {L0 L : List F} {b : Bool} {C : Prop} (h : RvS rs f L0 L b C) : L0.length ≤ L.length := by
 cases b with
 | false => rw [(h.same rfl).1]; exact Nat.le_refl _
 | true => exact Nat.le_of_lt (h.more rfl)
theorem OvS.len {rs : List Ru} {m B : List F} {L0 L : List F} {b : Bool} {C : Prop} (h : OvS rs m B L0 L b C) : L0.length ≤ L.length := by
 cases b with
 | false => rw [(h.same rfl).1]; exact Nat.le_refl _
 | true => exact Nat.le_of_lt (h.more rfl)
section
variable {μ : Mem}
theorem nilF_fresh {μ' : Mem} : Fresh μ μ' (.sl 2 (([] : List Fc).map Fc.d)) (.slice none 0 0) := ⟨Mem.nil, Own.nilSl 2, (fun _ _ h => nomatch h), fun _ h => absurd rfl h⟩
theorem ownFs {h : Mem} {r c : Nat} {ys : List Value} {L : List F} (hap : Apart μ h) (hro : RowO h r c 67 2 ys) (hrows : Rows μ 2 ((L.map F.fc).map Fc.d) ys) : FsV (μ.join h) L (.slice (some ⟨r, 0, none⟩) L.length c) := by
 have := hro.rep (Mem.le_join_right hap) (hrows.mono (Mem.le_join _ _))
 have hl := hrows.len
 simp only [List.length_map] at hl
 rw [hl]; exact this
theorem ownSl {h : Mem} {r c : Nat} {ys : List Value} {L : List F} (hap : Apart μ h) (hro : RowO h r c 67 2 ys) (hrows : Rows μ 2 ((L.map F.fc).map Fc.d) ys) : Sl (μ.join h) 2 (some ⟨r, 0, none⟩) L.length ((L.map F.fc).map Fc.d) := by
 have hv_ := FsV.sl (ownFs hap hro hrows)
 obtain ⟨b, c', e, _, hs⟩ := hv_
 have hv_ := Value.slice.inj e
 obtain ⟨rfl, _, _⟩ := hv_
 exact hs
theorem hasFact_own {H : Mem} {L : List F} {f : F} {r c : Nat} {ys : List Value} {w : Value} (hap : Apart μ H) (hro : RowO H r c 67 2 ys) (hrows : Rows μ 2 ((L.map F.fc).map Fc.d) ys) (hL : Asc3 cmpF L) (hn : L.length ≤ 1000000000) (hf : RepV μ f.fc.d w) :
  Spec Tryz.prog 100 [.slice (some ⟨r, 0, none⟩) L.length c, w] (μ.join H) fun v μ' => v = .bool (decide (f ∈ L)) ∧ μ' = μ.join H :=
 hasFact_spec hL hn (ownSl hap hro hrows) (RepV.mono (Mem.le_join _ _) hf)
theorem putOwn {L : List F} {r c : Nat} {H : Mem} {ys : List Value} {f : F} {w : Value} (hap : Apart μ H) (hro : RowO H r c 67 2 (ys ++ [w])) (hrows : Rows μ 2 ((L.map F.fc).map Fc.d) ys) (hn : L.length ≤ 1000000) (hf : RepV μ f.fc.d w) :
  SpecH Tryz.prog 94 [.slice (some ⟨r, 0, none⟩) (L.length + 1) c] μ H fun v _ H' => ∃ r' c' ys', v = .slice (some ⟨r', 0, none⟩) (insF L f).length c' ∧ RowO H' r' c' 67 2 ys' ∧ Rows μ 2 (((insF L f).map F.fc).map Fc.d) ys' := by
 have hr2 : Rows μ 2 (((L ++ [f]).map F.fc).map Fc.d) (ys ++ [w]) := by
  simp only [List.map_append, List.map_cons, List.map_nil]
  exact hrows.append (Rows.one hf (Fc.d_n _))
 have := sortFacts_own hap hro hr2 (by simp; omega)
 have e : ascF (L ++ [f]) = insF L f := ascF_congr fun x => by
  rw [List.mem_append, List.mem_singleton, List.mem_cons]; exact Or.comm
 rw [e, List.length_append] at this
 exact this
end
end Go.Vx
namespace Go.Vx
open Go.Proofs Classical
section
variable {μ : Mem}
structure RvN (rs : List Ru) (f : F) (L N : List F) (C : Prop) : Prop where
 inv : RvI rs f N
 sub : ∀ x ∈ L, x ∈ N
 done : C
structure OvN (rs : List Ru) (m B L N : List F) (C : Prop) : Prop where
 inv : OvI rs m B N
 sub : ∀ x ∈ L, x ∈ N
 done : C
def overNext (rs : List Ru) (m L N : List F) (i : Nat) : Prop := ∀ r ∈ rs.take i, (∀ x ∈ r.pos, x ∈ m) → (∃ y ∈ r.pos, y ∈ L) → r.head ∈ N
set_option maxHeartbeats 2000000 in
theorem spec_Overdeleted_spec {p : Pg} {u : List Tm} {m : List Fc} {f : Fc} {v w : Value} {ub mb : Option Addr} {uc mc : Nat} (hp : RepV μ p.d v) (hw : p.d.wd) (hu : Sl μ 4 ub u.length (u.map Tm.d)) (hwu : D.wds (u.map Tm.d)) (hm : Sl μ 2 mb m.length (m.map Fc.d)) (hwm : D.wds (m.map Fc.d)) (hf : RepV μ f.d w) (hwf : f.d.wd) :
  Spec Tryz.prog 53 [v, .slice ub u.length uc, .slice mb m.length mc, w] μ fun v μ' => RepV μ' (.sl 2 ((resF (overM p u m f)).map Fc.d)) v := by
 have hp0 := hp
 have hv_ := Pg.inv hp
 obtain ⟨q, rfl, hrl⟩ := hv_
 have hf0 := hf
 have hv_ := Fc.inv hf
 obtain ⟨qf, rfl, _⟩ := hv_
 refine Spec.mk Tryz.func53 (by kernel_rfl) ?_
 intro r4 r7
 refine call_plain (spec_GroundRules_spec hp0 hw hu hwu) fun v1 μ1 hle1 hR => ?_
 have hwf1 : D.wds ([f].map Fc.d) := D.wds_of fun d hd => by
  rw [List.map_cons, List.map_nil, List.mem_singleton] at hd; rw [hd]; exact hwf
 have nilr : overM p u m f = none → ∀ μ', RepV μ' (.sl 2 ((resF (overM p u m f)).map Fc.d)) (.slice none 0 0) := fun e μ' => by
  rw [e]; exact (nilF_fresh (μ := μ)).rep
 cases hL : groundO p u with
 | none =>
  rw [hL] at hR
  obtain rfl := hR
  refine call_plain (spec_BaseOk_spec (hp0.mono hle1) hw (hu.mono hle1) hwu (hm.mono hle1) hwm) fun v2 μ2 hle2 hR2 => ?_
  obtain rfl := hR2
  refine ifnd (fun h => ret_plain (nilr (by rw [overM, if_neg fun k => h k.1]) _)) (fun h => absurd hL h.1)
 | some rs =>
 rw [hL] at hR
 obtain ⟨tv, rfl, hR⟩ := hR
 have hR : RsV μ1 rs tv := hR
 have hv_ := RsV.sl hR
 obtain ⟨b1, c1, rfl, hrs⟩ := hv_
 have hv_ := groundO_ok hL
 obtain ⟨hrl2, hro⟩ := hv_
 have hok := groundO_some hL
 refine call_plain (spec_BaseOk_spec (hp0.mono hle1) hw (hu.mono hle1) hwu (hm.mono hle1) hwm) fun v2 μ2 hle2 hR2 => ?_
 obtain rfl := hR2
 have hle12 := hle1.trans hle2
 refine ifnd (fun h => ret_plain (nilr (by rw [overM, if_neg fun k => h k.1]) _)) (fun hBM => ?_)
 intro r33
 refine call_frz [2] ?_
 intro μ3 hle3 hno3 hat3
 have hle13 := hle12.trans hle3
 have hone := one_base1 (RepV.mono hle13 hf0) hat3
 have hbok := spec_BaseOk_spec (uc := uc) (fc := 1) (hp0.mono hle13) hw (hu.mono hle13) hwu (fcs_sl hone) hwf1
 refine call_go hbok fun v4 μ4 hle4 hR4 => ?_
 obtain rfl := hR4
 have hle14 := hle13.trans hle4
 refine ifnd (fun h => ret_plain (nilr (by rw [overM, if_neg fun k => h k.2.1]) _)) (fun hBP => ?_)
 have hff := hBP.2.2.1 f (by simp)
 have hf1 := hff.lift
 have hfR : RepV μ4 f.f.fc.d (.agg #[.string f.rel, .slice qf.1 f.args.length qf.2]) := by rw [hf1.1]; exact RepV.mono hle14 hf0
 have hlift := facts_lift hBM.2.2.1
 have el : m.length = (m.map Fc.f).length := (List.length_map ..).symm
 have hms : Sl μ4 2 mb (m.map Fc.f).length (((m.map Fc.f).map F.fc).map Fc.d) := by rw [hlift, ← el]; exact hm.mono hle14
 have hhas := l18Has_spec (c := mc) hms hfR
 rw [← el] at hhas
 refine call_gives hhas ?_
 refine ifnd (fun h => ret_plain (nilr (by rw [overM, if_neg fun k => h k.2.2]) _)) (fun hin => ?_)
 have hres : overM p u m f = some (overF rs (m.map Fc.f) [f.f]) := by rw [overM, if_pos ⟨hBM, hBP, hin⟩, hL]; rfl
 rw [hres]
 clear nilr hhas
 generalize hM : m.map Fc.f = M at *
 have hrs2 := hrs.mono ((hle2.trans hle3).trans hle4)
 intro r28
 have hstart : OvI rs M [f.f] [f.f] := ⟨List.pairwise_singleton _ _, fun _ h => h, fun x hx => .self hx⟩
 refine loop_frz (fun z : List F × Option Addr × Nat × Mem => OvI rs M [f.f] z.1 ∧ μ4.Le z.2.2.2 ∧ FsV z.2.2.2 z.1 (.slice z.2.1 z.1.length z.2.2.1))
  (fun (L, b4, c4, μ') => ⟨[(2, .val (.slice mb m.length mc)), (9, .val (.slice b1 rs.length c1)), (11, .val (.slice b4 L.length c4))], [], 3, μ', Mem.nil⟩) (fun z => 1 + rs.length - z.1.length) [3]
  (fun (_, _, _, _) => ⟨rfl, rfl⟩) (fun μ5 hle5 hno5 hat5 => ⟨([f.f], some ⟨r28, 0, none⟩, 1, μ5), ⟨hstart, hle5, Rows.sl hat5 (Rows.one (RepV.mono hle5 hfR) (Fc.d_n _)) (show 1 ≤ maxLen by decide)⟩, ⟨rfl, rfl, rfl, trivial⟩, trivial, rfl, rfl⟩) ?_
 rintro ⟨L, b4, c4, μ5⟩ ⟨hI, hle5, hout⟩
 dsimp only at hI hle5 hout
 have hLl := hI.len
 simp only [List.length_singleton] at hLl
 have hv_ := FsV.sl hout
 obtain ⟨b5, c5, e5, -, hso⟩ := hv_
 have hv_ := Value.slice.inj e5
 obtain ⟨rfl, _, rfl⟩ := hv_
 refine loop_intro (fun z : Nat × List F × Option Addr × Nat × Mem => z.1 ≤ rs.length ∧ OvN rs M [f.f] L z.2.1 (overNext rs M L z.2.1 z.1) ∧ μ5.Le z.2.2.2.2 ∧ FsV z.2.2.2.2 z.2.1 (.slice z.2.2.1 z.2.1.length z.2.2.2.1))
  (fun (i, N, b6, c6, μ') => ⟨[(2, .val (.slice mb m.length mc)), (9, .val (.slice b1 rs.length c1)), (11, .val (.slice b4 L.length c4)), (12, .val (.slice b6 N.length c6)), (46, .val (.slice b1 rs.length c1)), (47, .val (.int .i64 rs.length)), (48, .val (.int .i64 i))], [], 3, μ', Mem.nil⟩) (fun z => rs.length - z.1)
  (0, L, b4, c4, μ5) ⟨Nat.zero_le _, ⟨hI, fun _ h => h, fun r hr => by simp at hr⟩, Mem.Le.refl _, hout⟩ (fun (_, _, _, _, _) => ⟨rfl, rfl⟩) ⟨⟨rfl, rfl, rfl, rfl, rfl, rfl, rfl, trivial⟩, trivial, rfl, rfl⟩ ?_
 rintro ⟨i, N, b6, c6, μ6⟩ ⟨hi, hN, hle6, hnx⟩
 dsimp only at hi hN hle6 hnx
 have hNl := hN.inv.len
 simp only [List.length_singleton] at hNl
 refine ifd (fun hlt => ?_) (fun hlt => ?_)
 rotate_left
 ·obtain rfl : i = rs.length := by omega
  refine ifd (fun he => ?_) (fun he => ?_)
  ·have e := asc_same cmpF_ord hI.asc hN.inv.asc hN.sub (by omega)
   have hres2 := hI.done fun r hr hh hy => by
    rw [e]
    exact hN.done r (by rw [List.take_length]; exact hr) hh hy
   have hB4 := overF_B (m := M) (B := [f.f]) hro fun x hx => by rw [List.mem_singleton.1 hx]; exact fit_B hok.1 hff
   refine call_plain (l18Copy_spec (hso.mono hle6) (by omega) fun x hx => Nat.le_trans (hB4 x (by rw [← hres2]; exact hx)).1 (by decide)) fun v7 μ7 hle7 hR7 => ?_
   refine ret_plain ?_
   show RepV μ7 (.sl 2 ((overF rs M [f.f] |>.map F.fc).map Fc.d)) v7
   rw [← hres2]
   exact hR7
  ·have := asc_more cmpF_ord hI.asc hN.inv.asc hN.sub (by omega)
   exact ⟨[], (N, b6, c6, μ6), ⟨hN.inv, hle5.trans hle6, hnx⟩, by dsimp only; omega, ⟨⟨rfl, rfl, rfl, trivial⟩, trivial, rfl, rfl⟩⟩
 have hv_ := at_some (l := rs) (i := i) (by omega)
 obtain ⟨ru, hri⟩ := hv_
 have hv_ := Ru.elem ((hrs2.mono hle5).mono hle6) hri
 obtain ⟨ad, pr, hel, hrv, hat⟩ := hv_
 have hrm := mem_at hri
 refine elem_intro hel ?_
 intro r14
 have hmp := maxLen_le hat.pos.max
 refine loop_intro (fun z : Nat × Bool => z.1 ≤ ru.pos.length ∧ (z.2 = true ↔ ∃ y ∈ ru.pos.take z.1, y ∈ L))
  (fun (j, hit) => ⟨[(2, .val (.slice mb m.length mc)), (9, .val (.slice b1 rs.length c1)), (11, .val (.slice b4 L.length c4)), (12, .val (.slice b6 N.length c6)), (14, .loc 3 r14 0), (15, .val (.bool hit)), (46, .val (.slice b1 rs.length c1)), (47, .val (.int .i64 rs.length)), (48, .val (.int .i64 i)), (53, .val (.slice pr.2.2.1.1 ru.pos.length pr.2.2.1.2)), (54, .val (.int .i64 ru.pos.length)), (55, .val (.int .i64 j))],
   [(3, some (.cells r14 (vals (ru.cs pr)) 126))], 4, μ6, Mem.nil⟩) (fun z => ru.pos.length - z.1)
  (0, false) ⟨Nat.zero_le _, by simp⟩ (fun (_, _) => ⟨rfl, rfl⟩) ⟨⟨rfl, rfl, rfl, rfl, rfl, rfl, rfl, rfl, rfl, rfl, rfl, rfl, trivial⟩, ⟨rfl, trivial⟩, rfl, rfl⟩ ?_
 rintro ⟨j, hit⟩ ⟨hj, hhit⟩
 dsimp only at hj hhit
 refine ifd (fun hlt2 => ?_) (fun hlt2 => ?_)
 ·have hv_ := at_some (l := ru.pos) (i := j) (by omega)
  obtain ⟨y, hy⟩ := hv_
  have hv_ := F.elem hat.pos hy
  obtain ⟨ad2, p2, hel2, hry, _⟩ := hv_
  have hstep : (∃ z ∈ ru.pos.take (j + 1), z ∈ L) ↔ (∃ z ∈ ru.pos.take j, z ∈ L) ∨ y ∈ L := by
   rw [List.take_add_one, hy, Option.toList_some]
   simp [or_and_right, exists_or]
  refine elem_intro hel2 ?_
  intro r17
  refine if_intro (fun hk => ?_) (fun hk => ?_)
  ·refine num64 (by omega) (by omega) ⟨(j + 1, true), ⟨by dsimp only; omega, ?_⟩, by dsimp only; omega, ⟨⟨rfl, rfl, rfl, rfl, rfl, rfl, rfl, rfl, rfl, rfl, rfl, rfl, trivial⟩, ⟨rfl, trivial⟩, rfl, rfl⟩⟩
   dsimp only
   rw [hstep, ← hhit, hk]; simp
  ·refine call_gives (l18Has_spec (hso.mono hle6) hry) ?_
   refine num64 (by omega) (by omega) ⟨(j + 1, decide (y ∈ L)), ⟨by dsimp only; omega, ?_⟩, by dsimp only; omega, ⟨⟨rfl, rfl, rfl, rfl, rfl, rfl, rfl, rfl, rfl, rfl, rfl, rfl, trivial⟩, ⟨rfl, trivial⟩, rfl, rfl⟩⟩
   dsimp only
   rw [hstep, ← hhit, hk, decide_eq_true_eq]; simp
 obtain rfl : j = ru.pos.length := by omega
 rw [List.take_length] at hhit
 have skip : ¬ ((∃ y ∈ ru.pos, y ∈ L) ∧ ∀ x ∈ ru.pos, x ∈ M) → overNext rs M L N (i + 1) := fun h => take_all_at hN.done hri fun h1 h2 => absurd ⟨h2, h1⟩ h
 refine if_intro (fun hk => ?_) (fun hk => ?_)
 ·have hfire := l19Fires_spec (c := mc) (neg := []) (b2 := none) (c2 := 0) hrv (hms.mono (hle5.trans hle6)) slF_nil
  rw [← el] at hfire
  refine call_gives hfire ?_
  refine ifd (fun hfi => ?_) (fun hfi => ?_)
  ·have hv_ := hhit.1 hk
   obtain ⟨y, hy, hyL⟩ := hv_
   refine call_plain (l18Insert_spec hN.inv.asc hnx hat.head (by omega)) fun v7 μ7 hle7 hR7 => ?_
   have hv_ := FsV.sl hR7
   obtain ⟨b8, c8, rfl, -, -⟩ := hv_
   exact num64 (by omega) (by omega) ⟨(i + 1, insF N ru.head, b8, c8, μ7), ⟨by dsimp only; omega, ⟨hN.inv.ins hrm hfi.1 hy (hI.der y hyL), fun x hx => mem_insF.2 (.inr (hN.sub x hx)), take_all_at (fun r hr h1 h2 => mem_insF.2 (.inr (hN.done r hr h1 h2))) hri fun _ _ => mem_insF.2 (.inl rfl)⟩, hle6.trans hle7, hR7⟩, by dsimp only; omega, ⟨⟨rfl, rfl, rfl, rfl, rfl, rfl, rfl, trivial⟩, trivial, rfl, rfl⟩⟩
  ·exact num64 (by omega) (by omega) ⟨(i + 1, N, b6, c6, μ6), ⟨by dsimp only; omega, ⟨hN.inv, hN.sub, skip fun k => hfi ⟨k.2, fun _ _ h => nomatch h⟩⟩, hle6, hnx⟩, by dsimp only; omega, ⟨⟨rfl, rfl, rfl, rfl, rfl, rfl, rfl, trivial⟩, trivial, rfl, rfl⟩⟩
 ·exact num64 (by omega) (by omega) ⟨(i + 1, N, b6, c6, μ6), ⟨by dsimp only; omega, ⟨hN.inv, hN.sub, skip fun k => by rw [hhit.2 k.1] at hk; cases hk⟩, hle6, hnx⟩, by dsimp only; omega, ⟨⟨rfl, rfl, rfl, rfl, rfl, rfl, rfl, trivial⟩, trivial, rfl, rfl⟩⟩
end
end Go.Vx
namespace Go.Vx
open Go.Proofs Classical
section
variable {μ : Mem}
set_option maxHeartbeats 4000000 in
theorem impl_Overdeleted_spec {p : Pg} {u : List Tm} {m : List Fc} {f : Fc} {v w : Value} {ub mb : Option Addr} {uc mc : Nat} (hp : RepV μ p.d v) (hu : Sl μ 4 ub u.length (u.map Tm.d)) (hm : Sl μ 2 mb m.length (m.map Fc.d)) (hmn : m.length ≤ 2000000) (hf : RepV μ f.d w) :
  Spec Tryz.prog 54 [v, .slice ub u.length uc, .slice mb m.length mc, w] μ fun v μ' => Fresh μ μ' (.sl 2 ((resF (overM p u m f)).map Fc.d)) v := by
 have hp0 := hp
 have hv_ := Pg.inv hp
 obtain ⟨q, rfl, hrl⟩ := hv_
 have hf0 := hf
 have hv_ := Fc.inv hf
 obtain ⟨qf, rfl, _⟩ := hv_
 refine Spec.mkO [42] Tryz.func54 (by kernel_rfl) ?_
 intro r3 r5
 refine call_plain (positiveRules_spec hp0 hu) fun v1 μ1 hle1 hR => ?_
 have hpos1 : ∀ {rs}, posRules p u = some rs → p.Pos ∧ groundO p u = some rs := fun {rs} h => by
  rw [posRules] at h
  split at h
  ·rename_i k; exact ⟨k, h⟩
  ·cases h
 have nilr : ¬ (BaseP p u m ∧ BaseP p u [f]) → ∀ μ', Fresh μ μ' (.sl 2 ((resF (overM p u m f)).map Fc.d)) (.slice none 0 0) := fun h μ' => by
  have e : overM p u m f = none := by rw [overM, if_neg fun k => h ⟨k.1, k.2.1⟩]
  rw [e]; exact nilF_fresh
 cases hP : posRules p u with
 | none =>
  rw [hP] at hR
  obtain rfl := hR
  refine if_intro (fun _ => ret_plain (nilr (fun k => ?_) _)) (fun h => nomatch h)
  exact k.1.1 (by rw [posRules, if_pos k.1.2.1] at hP; exact hP)
 | some rs =>
 rw [hP] at hR
 obtain ⟨tv, rfl, hR⟩ := hR
 have hR : RsV μ1 rs tv := hR
 have hv_ := hpos1 hP
 obtain ⟨hpos, hL⟩ := hv_
 have hv_ := RsV.sl hR
 obtain ⟨b1, c1, rfl, hrs⟩ := hv_
 have hv_ := groundO_ok hL
 obtain ⟨hrl2, hro⟩ := hv_
 have hok := groundO_some hL
 have hv_ := hok.2.lift
 obtain ⟨U, hUe, hUg, hUl⟩ := hv_
 have hu' : Sl μ 4 ub U.length ((U.map T.tm).map Tm.d) := by have := hu; rw [hUe, List.length_map] at this; exact this
 have huc : U.length = u.length := by rw [hUe, List.length_map]
 have hBiff : ∀ l : List Fc, ((∀ x ∈ l, FactFits p x) ∧ (∀ x ∈ l.map Fc.f, ∀ a ∈ x.args, a ∈ U) ∧ AscF (l.map Fc.f) l.length) ↔ BaseP p u l := fun l => by
  rw [BaseP, hUe, toTs_tm, ← hUe]
  exact ⟨fun k => ⟨by rw [hL]; exact (fun h => nomatch h), hpos, k⟩, fun k => k.2.2⟩
 refine if_intro (fun h => nomatch h) (fun _ => ?_)
 have hbf0 := baseFits_spec (uc := uc) (fc := mc) (hp0.mono hle1) (hu'.mono hle1) (hm.mono hle1)
 rw [huc] at hbf0
 refine call_gives hbf0 ?_
 refine ifnd (fun h => ret_plain (nilr (fun k => h ((hBiff m).2 k.1)) _)) (fun hfitm => ?_)
 have hBM := (hBiff m).1 hfitm
 intro r27
 refine call_frz [2] ?_
 intro μ2 hle2 hno2 hat2
 have hle12 := hle1.trans hle2
 have hone := one_base1 (RepV.mono hle12 hf0) hat2
 have hbf := baseFits_spec (uc := uc) (fc := 1) (hp0.mono hle12) (hu'.mono hle12) (fcs_sl hone)
 rw [huc] at hbf
 refine call_go (R := fun v μ' => v = _ ∧ μ' = μ2) hbf fun v3 μ3 hle3 hR3 => ?_
 obtain ⟨rfl, e30⟩ := hR3
 have hle13 := hle12.trans hle3
 refine ifnd (fun h => ret_plain (nilr (fun k => h ((hBiff [f]).2 k.2)) _)) (fun hfit => ?_)
 have hBP := (hBiff [f]).1 hfit
 have hff := hBP.2.2.1 f (by simp)
 have hf1 := hff.lift
 have hfR : RepV μ3 f.f.fc.d (.agg #[.string f.rel, .slice qf.1 f.args.length qf.2]) := by rw [hf1.1]; exact RepV.mono hle13 hf0
 have hrs3 := hrs.mono (hle2.trans hle3)
 have hlift := facts_lift hBM.2.2.1
 have el : m.length = (m.map Fc.f).length := (List.length_map ..).symm
 have hms : Sl μ3 2 mb (m.map Fc.f).length (((m.map Fc.f).map F.fc).map Fc.d) := by rw [hlift, ← el]; exact hm.mono hle13
 have hMasc := AscF.asc (L := m.map Fc.f) (by rw [List.length_map]; exact hBM.2.2.2.2)
 have hMlen : (m.map Fc.f).length ≤ 1000000000 := by omega
 have hres : f.f ∈ m.map Fc.f → overM p u m f = some (overF rs (m.map Fc.f) [f.f]) := fun h => by rw [overM, if_pos ⟨hBM, hBP, h⟩, hL]; rfl
 have hresn : f.f ∉ m.map Fc.f → overM p u m f = none := fun h => by rw [overM, if_neg fun k => h k.2.2]
 clear nilr hbf hbf0
 generalize hM : m.map Fc.f = M at *
 intro r42 hm42 ho42
 have hhas0 : Spec Tryz.prog 100 [.slice mb m.length mc, .agg #[.string f.rel, .slice qf.1 f.args.length qf.2]] μ3 fun v μ' => v = .bool (decide (f.f ∈ M)) ∧ μ' = μ3 := by
  have := hasFact_spec (c := mc) hMasc hMlen hms hfR
  rw [← el] at this
  exact this
 refine call_data ((apart_nil μ3).set hm42) hhas0 fun v5 μ5 hle5 hap5 hR5 => ?_
 obtain ⟨rfl, e50⟩ := hR5
 obtain rfl := e50.symm
 refine ifd (fun hin => ?_) (fun hin => ?_)
 ·have hBl : [f.f].length ≤ 1 := Nat.le_refl _
  have hBB : FsB [f.f] := fun x hx => by rw [List.mem_singleton.1 hx]; exact fit_B hok.1 hff
  have hres2 : (resF (overM p u m f)).map Fc.d = ((overF rs M [f.f]).map F.fc).map Fc.d := by rw [hres hin]; rfl
  intro r48
  refine app_intro [] rfl ⟨[], Mem.set_at _ _ _, by simp, by simp, by simp, rfl, rfl⟩ ?_ ?_ fun b9 c9 o hrow hor => ?_
  ·show (0 + 1) * 40 ≤ _; omega
  ·show 0 + 1 ≤ maxLen; decide
  have hap9 := hap5.set (o := o) (apartB (ys := []) (ty := 67) (es := 2) (cap := 0) (r := r42) ⟨[], Mem.set_at _ _ _, by simp, by simp, by simp, rfl, rfl⟩ hap5 hor)
  refine loop_intro (fun z : List F × Bool × Nat × Nat × List Value × Mem × Mem => OvI rs M [f.f] z.1 ∧ (z.2.1 = false → overDone rs M z.1 rs.length) ∧ μ3.Le z.2.2.2.2.2.1 ∧ Apart z.2.2.2.2.2.1 z.2.2.2.2.2.2 ∧ RowO z.2.2.2.2.2.2 z.2.2.1 z.2.2.2.1 67 2 z.2.2.2.2.1 ∧ Rows z.2.2.2.2.2.1 2 ((z.1.map F.fc).map Fc.d) z.2.2.2.2.1)
   (fun (L, b, r, c, ys, μ', h) => ⟨[(2, .val (.slice mb m.length mc)), (9, .val (.slice b1 rs.length c1)), (11, .val (.slice (some ⟨r, 0, none⟩) L.length c)), (12, .val (.bool b))], [], 4, μ', h⟩) (fun z => 2 * (1 + rs.length - z.1.length) + (if z.2.1 = true then 1 else 0))
   ([f.f], true, b9, c9, [.agg #[.string f.rel, .slice qf.1 f.args.length qf.2]], μ3, _) ⟨⟨List.pairwise_singleton _ _, fun _ h => h, fun x hx => .self hx⟩, (fun h => nomatch h), Mem.Le.refl _, hap9, hrow, Rows.one hfR (Fc.d_n _)⟩ (fun (_, _, _, _, _, _, _) => ⟨rfl, rfl⟩) ⟨⟨rfl, rfl, rfl, rfl, trivial⟩, trivial, rfl, rfl⟩ ?_
  rintro ⟨L, b, r, c, ys, μ4, h4⟩ ⟨hI, hdone, hle4, hap4, hro4, hrows4⟩
  dsimp only at hI hdone hle4 hap4 hro4 hrows4
  have hLl := Nat.le_trans hI.len (Nat.add_le_add_right hBl _)
  refine if_intro (fun hb => ?_) (fun hb => ?_)
  rotate_left
  ·have e := hI.done fun r hr => hdone hb r (by rw [List.take_length]; exact hr)
   have hB4 := overF_B (m := M) (B := [f.f]) hro hBB
   refine call_lend hap4 (copyFacts_spec (ownFs hap4 hro4 hrows4) (by omega) fun x hx => Nat.le_trans (hB4 x (by rw [← e]; exact hx)).1 (by decide)) fun v5 μ5 hle5 hap5 hR5 => ?_
   refine ret_plain ?_
   rw [hres2, ← e]
   exact hR5.mono (hle13.trans hle4) (Mem.Le.refl _)
  refine loop_intro (fun z : Nat × List F × Bool × Nat × Nat × List Value × Mem × Mem => z.1 ≤ rs.length ∧ OvS rs M [f.f] L z.2.1 z.2.2.1 (overDone rs M L z.1) ∧ μ4.Le z.2.2.2.2.2.2.1 ∧ Apart z.2.2.2.2.2.2.1 z.2.2.2.2.2.2.2 ∧ RowO z.2.2.2.2.2.2.2 z.2.2.2.1 z.2.2.2.2.1 67 2 z.2.2.2.2.2.1 ∧ Rows z.2.2.2.2.2.2.1 2 ((z.2.1.map F.fc).map Fc.d) z.2.2.2.2.2.1)
   (fun (i, L', b, r, c, ys, μ', h) => ⟨[(2, .val (.slice mb m.length mc)), (9, .val (.slice b1 rs.length c1)), (11, .val (.slice (some ⟨r, 0, none⟩) L'.length c)), (12, .val (.bool b)), (51, .val (.slice b1 rs.length c1)), (52, .val (.int .i64 rs.length)), (53, .val (.int .i64 i))], [], 4, μ', h⟩) (fun z => rs.length - z.1)
   (0, L, false, r, c, ys, μ4, h4) ⟨Nat.zero_le _, ⟨hI, (fun h => nomatch h), fun _ => ⟨rfl, fun r hr => by simp at hr⟩⟩, Mem.Le.refl _, hap4, hro4, hrows4⟩ (fun (_, _, _, _, _, _, _, _) => ⟨rfl, rfl⟩) ⟨⟨rfl, rfl, rfl, rfl, rfl, rfl, rfl, trivial⟩, trivial, rfl, rfl⟩ ?_
  rintro ⟨i, L', b', r', c', ys', μ5, h5⟩ ⟨hi, hS, hle5, hap5, hro5, hrows5⟩
  dsimp only at hi hS hle5 hap5 hro5 hrows5
  have hLl' := Nat.le_trans hS.inv.len (Nat.add_le_add_right hBl _)
  have hyl5 := hrows5.len
  simp only [List.length_map] at hyl5
  refine ifd (fun hlt => ?_) (fun hlt => ?_)
  rotate_left
  ·obtain rfl : i = rs.length := by omega
   refine ⟨(L', b', r', c', ys', μ5, h5), ⟨hS.inv, fun hb' => by rw [(hS.same hb').1]; exact (hS.same hb').2, hle4.trans hle5, hap5, hro5, hrows5⟩, ?_, ⟨⟨rfl, rfl, rfl, rfl, trivial⟩, trivial, rfl, rfl⟩⟩
   dsimp only
   rw [if_pos hb]
   cases b' with
   | false => rw [(hS.same rfl).1, if_neg (by simp)]; omega
   | true => have := hS.more rfl; rw [if_pos rfl]; omega
  have hv_ := at_some (l := rs) (i := i) (by omega)
  obtain ⟨ru, hri⟩ := hv_
  have hv_ := Ru.elem ((hrs3.mono hle4).mono hle5) hri
  obtain ⟨ad, pr, hel, hrv, hat⟩ := hv_
  have hrm := mem_at hri
  refine elem_intro hel ?_
  intro r14
  have hmp := maxLen_le hat.pos.max
  refine loop_intro (fun z : Nat × Bool × Bool => z.1 ≤ ru.pos.length ∧ (z.2.1 = true ↔ ∀ y ∈ ru.pos.take z.1, y ∈ M) ∧ (z.2.2 = true ↔ ∃ y ∈ ru.pos.take z.1, y ∈ L'))
   (fun (j, inn, one) => ⟨[(2, .val (.slice mb m.length mc)), (9, .val (.slice b1 rs.length c1)), (11, .val (.slice (some ⟨r', 0, none⟩) L'.length c')), (12, .val (.bool b')), (14, .loc 4 r14 0), (15, .val (.bool inn)), (16, .val (.bool one)), (51, .val (.slice b1 rs.length c1)), (52, .val (.int .i64 rs.length)), (53, .val (.int .i64 i)), (58, .val (.slice pr.2.2.1.1 ru.pos.length pr.2.2.1.2)), (59, .val (.int .i64 ru.pos.length)), (60, .val (.int .i64 j))],
    [(4, some (.cells r14 (vals (ru.cs pr)) 126))], 4 + 1, μ5, h5⟩) (fun z => ru.pos.length - z.1)
   (0, true, false) ⟨Nat.zero_le _, by simp, by simp⟩ (fun (_, _, _) => ⟨rfl, rfl⟩) ⟨⟨rfl, rfl, rfl, rfl, rfl, rfl, rfl, rfl, rfl, rfl, rfl, rfl, rfl, trivial⟩, ⟨rfl, trivial⟩, rfl, rfl⟩ ?_
  rintro ⟨j, inn, one⟩ ⟨hj, hinn, hone1⟩
  dsimp only at hj hinn hone1
  refine ifd (fun hlt2 => ?_) (fun hlt2 => ?_)
  ·have hv_ := at_some (l := ru.pos) (i := j) (by omega)
   obtain ⟨y, hy⟩ := hv_
   have hv_ := F.elem hat.pos hy
   obtain ⟨ad2, p2, hel2, hry, _⟩ := hv_
   have hstep1 := all_take (P := fun f => f ∈ M) hy
   have hstep2 : (∃ z ∈ ru.pos.take (j + 1), z ∈ L') ↔ (∃ z ∈ ru.pos.take j, z ∈ L') ∨ y ∈ L' := by
    rw [List.take_add_one, hy, Option.toList_some]
    simp [or_and_right, exists_or]
   have hhas : Spec Tryz.prog 100 [.slice mb m.length mc, .agg (y.cs p2).toArray] (μ5.join h5) fun v μ' => v = .bool (decide (y ∈ M)) ∧ μ' = μ5.join h5 := by
    have := hasFact_spec (c := mc) (b := mb) hMasc hMlen ((hms.mono (hle4.trans hle5)).mono (Mem.le_join _ h5)) (RepV.mono (Mem.le_join _ h5) hry)
    rw [← el] at this
    exact this
   have hhas2 := hasFact_own hap5 hro5 hrows5 hS.inv.asc (by omega) hry
   refine elem_intro hel2 ?_
   intro r18
   have fin : ∀ i2 o2, (i2 = true ↔ ∀ z ∈ ru.pos.take (j + 1), z ∈ M) → (o2 = true ↔ ∃ z ∈ ru.pos.take (j + 1), z ∈ L') → ∃ k : Nat × Bool × Bool, k = (j + 1, i2, o2) ∧ (k.1 ≤ ru.pos.length ∧ (k.2.1 = true ↔ ∀ y ∈ ru.pos.take k.1, y ∈ M) ∧ (k.2.2 = true ↔ ∃ y ∈ ru.pos.take k.1, y ∈ L')) := fun i2 o2 h1 h2 => ⟨_, rfl, by dsimp only; omega, h1, h2⟩
   refine if_intro (fun hk => ?_) (fun hk => ?_)
   ·refine call_read hap5 hhas ?_
    have h1 : decide (y ∈ M) = true ↔ ∀ z ∈ ru.pos.take (j + 1), z ∈ M := by
     rw [hstep1, ← hinn, decide_eq_true_eq]
     exact ⟨fun h => ⟨hk, h⟩, fun h => h.2⟩
    refine if_intro (fun hk2 => ?_) (fun hk2 => ?_)
    ·obtain ⟨k, rfl, hk9⟩ := fin (decide (y ∈ M)) true h1 (by rw [hstep2, ← hone1, hk2]; simp)
     exact num64 (by omega) (by omega) ⟨_, hk9, by dsimp only; omega, ⟨⟨rfl, rfl, rfl, rfl, rfl, rfl, rfl, rfl, rfl, rfl, rfl, rfl, rfl, trivial⟩, ⟨rfl, trivial⟩, rfl, rfl⟩⟩
    ·refine call_read hap5 hhas2 ?_
     obtain ⟨k, rfl, hk9⟩ := fin (decide (y ∈ M)) (decide (y ∈ L')) h1 (by rw [hstep2, ← hone1, hk2, decide_eq_true_eq]; simp)
     exact num64 (by omega) (by omega) ⟨_, hk9, by dsimp only; omega, ⟨⟨rfl, rfl, rfl, rfl, rfl, rfl, rfl, rfl, rfl, rfl, rfl, rfl, rfl, trivial⟩, ⟨rfl, trivial⟩, rfl, rfl⟩⟩
   ·have h1 : false = true ↔ ∀ z ∈ ru.pos.take (j + 1), z ∈ M := by rw [hstep1, ← hinn, hk]; simp
    refine if_intro (fun hk2 => ?_) (fun hk2 => ?_)
    ·obtain ⟨k, rfl, hk9⟩ := fin (false) true h1 (by rw [hstep2, ← hone1, hk2]; simp)
     exact num64 (by omega) (by omega) ⟨_, hk9, by dsimp only; omega, ⟨⟨rfl, rfl, rfl, rfl, rfl, rfl, rfl, rfl, rfl, rfl, rfl, rfl, rfl, trivial⟩, ⟨rfl, trivial⟩, rfl, rfl⟩⟩
    ·refine call_read hap5 hhas2 ?_
     obtain ⟨k, rfl, hk9⟩ := fin (false) (decide (y ∈ L')) h1 (by rw [hstep2, ← hone1, hk2, decide_eq_true_eq]; simp)
     exact num64 (by omega) (by omega) ⟨_, hk9, by dsimp only; omega, ⟨⟨rfl, rfl, rfl, rfl, rfl, rfl, rfl, rfl, rfl, rfl, rfl, rfl, rfl, trivial⟩, ⟨rfl, trivial⟩, rfl, rfl⟩⟩
  obtain rfl : j = ru.pos.length := by omega
  rw [List.take_length] at hinn hone1
  have skip : ¬ ((∀ x ∈ ru.pos, x ∈ M) ∧ (∃ y ∈ ru.pos, y ∈ L') ∧ ru.head ∉ L') → OvS rs M [f.f] L L' b' (overDone rs M L (i + 1)) := fun h => ⟨hS.inv, hS.more, fun e => ⟨(hS.same e).1, take_all_at (hS.same e).2 hri fun h1 h2 => Classical.byContradiction fun h3 => h (by
   rw [(hS.same e).1]
   exact ⟨h1, h2, h3⟩)⟩⟩
  have next : OvS rs M [f.f] L L' b' (overDone rs M L (i + 1)) → ∃ k : Nat × List F × Bool × Nat × Nat × List Value × Mem × Mem, k = (i + 1, L', b', r', c', ys', μ5, h5) ∧ (k.1 ≤ rs.length ∧ OvS rs M [f.f] L k.2.1 k.2.2.1 (overDone rs M L k.1) ∧ μ4.Le k.2.2.2.2.2.2.1 ∧ Apart k.2.2.2.2.2.2.1 k.2.2.2.2.2.2.2 ∧ RowO k.2.2.2.2.2.2.2 k.2.2.2.1 k.2.2.2.2.1 67 2 k.2.2.2.2.2.1 ∧ Rows k.2.2.2.2.2.2.1 2 ((k.2.1.map F.fc).map Fc.d) k.2.2.2.2.2.1) := fun h => ⟨_, rfl, by dsimp only; omega, h, hle5, hap5, hro5, hrows5⟩
  refine if_intro (fun hk1 => ?_) (fun hk1 => ?_)
  rotate_left
  ·obtain ⟨k, rfl, hk⟩ := next (skip fun k => by rw [hinn.2 k.1] at hk1; cases hk1)
   exact num64 (by omega) (by omega) ⟨_, hk, by dsimp only; omega, ⟨⟨rfl, rfl, rfl, rfl, rfl, rfl, rfl, trivial⟩, trivial, rfl, rfl⟩⟩
  refine if_intro (fun hk2 => ?_) (fun hk2 => ?_)
  rotate_left
  ·obtain ⟨k, rfl, hk⟩ := next (skip fun k => by rw [hone1.2 k.2.1] at hk2; cases hk2)
   exact num64 (by omega) (by omega) ⟨_, hk, by dsimp only; omega, ⟨⟨rfl, rfl, rfl, rfl, rfl, rfl, rfl, trivial⟩, trivial, rfl, rfl⟩⟩
  refine call_read hap5 (hasFact_own hap5 hro5 hrows5 hS.inv.asc (by omega) hat.head) ?_
  refine ifnd (fun hno => ?_) (fun hin => ?_)
  rotate_left
  ·obtain ⟨k, rfl, hk⟩ := next (skip fun k => k.2.2 hin)
   exact num64 (by omega) (by omega) ⟨_, hk, by dsimp only; omega, ⟨⟨rfl, rfl, rfl, rfl, rfl, rfl, rfl, trivial⟩, trivial, rfl, rfl⟩⟩
  have hv_ := hone1.1 hk2
  obtain ⟨y, hy, hyL⟩ := hv_
  intro r58
  refine app_intro ys' hyl5.symm hro5 ?_ ?_ fun b9 c9 o hrow hor => ?_
  ·show (L'.length + 1) * 40 ≤ _; omega
  ·exact Nat.le_trans (m := 2000000000) (show L'.length + 1 ≤ _ by omega) (by decide)
  have hap7 := hap5.set (o := o) (apartB hro5 hap5 hor)
  refine call_own (putOwn hap7 hrow hrows5 (by omega) hat.head) fun v7 μ7 h7 hle7 hap7 hR7 => ?_
  obtain ⟨r7, c7, ys7, rfl, hro7, hrows7⟩ := hR7
  have hmore := insF_more hS.inv.asc hno
  have hll := hS.len
  refine num64 (by omega) (by omega) ⟨(i + 1, insF L' ru.head, true, r7, c7, ys7, μ7, h7), ⟨by dsimp only; omega, ⟨hS.inv.ins hrm (hinn.1 hk1) hy (hS.inv.der y hyL), fun _ => by show L.length < (insF L' ru.head).length; omega, (fun h => nomatch h)⟩, hle5.trans hle7, hap7, hro7, hrows7.mono hle7⟩, by dsimp only; omega, ⟨⟨rfl, rfl, rfl, rfl, rfl, rfl, rfl, trivial⟩, trivial, rfl, rfl⟩⟩
 ·have hBl : ([] : List F).length ≤ 1 := Nat.zero_le _
  have hBB : FsB [] := fun x hx => nomatch hx
  have hres2 : (resF (overM p u m f)).map Fc.d = ((overF rs M []).map F.fc).map Fc.d := by rw [hresn hin, overF_nil]; rfl
  refine loop_intro (fun z : List F × Bool × Nat × Nat × List Value × Mem × Mem => OvI rs M [] z.1 ∧ (z.2.1 = false → overDone rs M z.1 rs.length) ∧ μ3.Le z.2.2.2.2.2.1 ∧ Apart z.2.2.2.2.2.1 z.2.2.2.2.2.2 ∧ RowO z.2.2.2.2.2.2 z.2.2.1 z.2.2.2.1 67 2 z.2.2.2.2.1 ∧ Rows z.2.2.2.2.2.1 2 ((z.1.map F.fc).map Fc.d) z.2.2.2.2.1)
   (fun (L, b, r, c, ys, μ', h) => ⟨[(2, .val (.slice mb m.length mc)), (9, .val (.slice b1 rs.length c1)), (11, .val (.slice (some ⟨r, 0, none⟩) L.length c)), (12, .val (.bool b))], [], 3, μ', h⟩) (fun z => 2 * (1 + rs.length - z.1.length) + (if z.2.1 = true then 1 else 0))
   ([], true, r42, 0, [], μ3, _) ⟨⟨List.Pairwise.nil, (fun _ h => nomatch h), (fun _ h => nomatch h)⟩, (fun h => nomatch h), Mem.Le.refl _, hap5, ⟨[], Mem.set_at _ _ _, by simp, by simp, by simp, rfl, rfl⟩, .nil⟩ (fun (_, _, _, _, _, _, _) => ⟨rfl, rfl⟩) ⟨⟨rfl, rfl, rfl, rfl, trivial⟩, trivial, rfl, rfl⟩ ?_
  rintro ⟨L, b, r, c, ys, μ4, h4⟩ ⟨hI, hdone, hle4, hap4, hro4, hrows4⟩
  dsimp only at hI hdone hle4 hap4 hro4 hrows4
  have hLl := Nat.le_trans hI.len (Nat.add_le_add_right hBl _)
  refine if_intro (fun hb => ?_) (fun hb => ?_)
  rotate_left
  ·have e := hI.done fun r hr => hdone hb r (by rw [List.take_length]; exact hr)
   have hB4 := overF_B (m := M) (B := []) hro hBB
   refine call_lend hap4 (copyFacts_spec (ownFs hap4 hro4 hrows4) (by omega) fun x hx => Nat.le_trans (hB4 x (by rw [← e]; exact hx)).1 (by decide)) fun v5 μ5 hle5 hap5 hR5 => ?_
   refine ret_plain ?_
   rw [hres2, ← e]
   exact hR5.mono (hle13.trans hle4) (Mem.Le.refl _)
  refine loop_intro (fun z : Nat × List F × Bool × Nat × Nat × List Value × Mem × Mem => z.1 ≤ rs.length ∧ OvS rs M [] L z.2.1 z.2.2.1 (overDone rs M L z.1) ∧ μ4.Le z.2.2.2.2.2.2.1 ∧ Apart z.2.2.2.2.2.2.1 z.2.2.2.2.2.2.2 ∧ RowO z.2.2.2.2.2.2.2 z.2.2.2.1 z.2.2.2.2.1 67 2 z.2.2.2.2.2.1 ∧ Rows z.2.2.2.2.2.2.1 2 ((z.2.1.map F.fc).map Fc.d) z.2.2.2.2.2.1)
   (fun (i, L', b, r, c, ys, μ', h) => ⟨[(2, .val (.slice mb m.length mc)), (9, .val (.slice b1 rs.length c1)), (11, .val (.slice (some ⟨r, 0, none⟩) L'.length c)), (12, .val (.bool b)), (51, .val (.slice b1 rs.length c1)), (52, .val (.int .i64 rs.length)), (53, .val (.int .i64 i))], [], 3, μ', h⟩) (fun z => rs.length - z.1)
   (0, L, false, r, c, ys, μ4, h4) ⟨Nat.zero_le _, ⟨hI, (fun h => nomatch h), fun _ => ⟨rfl, fun r hr => by simp at hr⟩⟩, Mem.Le.refl _, hap4, hro4, hrows4⟩ (fun (_, _, _, _, _, _, _, _) => ⟨rfl, rfl⟩) ⟨⟨rfl, rfl, rfl, rfl, rfl, rfl, rfl, trivial⟩, trivial, rfl, rfl⟩ ?_
  rintro ⟨i, L', b', r', c', ys', μ5, h5⟩ ⟨hi, hS, hle5, hap5, hro5, hrows5⟩
  dsimp only at hi hS hle5 hap5 hro5 hrows5
  have hLl' := Nat.le_trans hS.inv.len (Nat.add_le_add_right hBl _)
  have hyl5 := hrows5.len
  simp only [List.length_map] at hyl5
  refine ifd (fun hlt => ?_) (fun hlt => ?_)
  rotate_left
  ·obtain rfl : i = rs.length := by omega
   refine ⟨(L', b', r', c', ys', μ5, h5), ⟨hS.inv, fun hb' => by rw [(hS.same hb').1]; exact (hS.same hb').2, hle4.trans hle5, hap5, hro5, hrows5⟩, ?_, ⟨⟨rfl, rfl, rfl, rfl, trivial⟩, trivial, rfl, rfl⟩⟩
   dsimp only
   rw [if_pos hb]
   cases b' with
   | false => rw [(hS.same rfl).1, if_neg (by simp)]; omega
   | true => have := hS.more rfl; rw [if_pos rfl]; omega
  have hv_ := at_some (l := rs) (i := i) (by omega)
  obtain ⟨ru, hri⟩ := hv_
  have hv_ := Ru.elem ((hrs3.mono hle4).mono hle5) hri
  obtain ⟨ad, pr, hel, hrv, hat⟩ := hv_
  have hrm := mem_at hri
  refine elem_intro hel ?_
  intro r14
  have hmp := maxLen_le hat.pos.max
  refine loop_intro (fun z : Nat × Bool × Bool => z.1 ≤ ru.pos.length ∧ (z.2.1 = true ↔ ∀ y ∈ ru.pos.take z.1, y ∈ M) ∧ (z.2.2 = true ↔ ∃ y ∈ ru.pos.take z.1, y ∈ L'))
   (fun (j, inn, one) => ⟨[(2, .val (.slice mb m.length mc)), (9, .val (.slice b1 rs.length c1)), (11, .val (.slice (some ⟨r', 0, none⟩) L'.length c')), (12, .val (.bool b')), (14, .loc 3 r14 0), (15, .val (.bool inn)), (16, .val (.bool one)), (51, .val (.slice b1 rs.length c1)), (52, .val (.int .i64 rs.length)), (53, .val (.int .i64 i)), (58, .val (.slice pr.2.2.1.1 ru.pos.length pr.2.2.1.2)), (59, .val (.int .i64 ru.pos.length)), (60, .val (.int .i64 j))],
    [(3, some (.cells r14 (vals (ru.cs pr)) 126))], 3 + 1, μ5, h5⟩) (fun z => ru.pos.length - z.1)
   (0, true, false) ⟨Nat.zero_le _, by simp, by simp⟩ (fun (_, _, _) => ⟨rfl, rfl⟩) ⟨⟨rfl, rfl, rfl, rfl, rfl, rfl, rfl, rfl, rfl, rfl, rfl, rfl, rfl, trivial⟩, ⟨rfl, trivial⟩, rfl, rfl⟩ ?_
  rintro ⟨j, inn, one⟩ ⟨hj, hinn, hone1⟩
  dsimp only at hj hinn hone1
  refine ifd (fun hlt2 => ?_) (fun hlt2 => ?_)
  ·have hv_ := at_some (l := ru.pos) (i := j) (by omega)
   obtain ⟨y, hy⟩ := hv_
   have hv_ := F.elem hat.pos hy
   obtain ⟨ad2, p2, hel2, hry, _⟩ := hv_
   have hstep1 := all_take (P := fun f => f ∈ M) hy
   have hstep2 : (∃ z ∈ ru.pos.take (j + 1), z ∈ L') ↔ (∃ z ∈ ru.pos.take j, z ∈ L') ∨ y ∈ L' := by
    rw [List.take_add_one, hy, Option.toList_some]
    simp [or_and_right, exists_or]
   have hhas : Spec Tryz.prog 100 [.slice mb m.length mc, .agg (y.cs p2).toArray] (μ5.join h5) fun v μ' => v = .bool (decide (y ∈ M)) ∧ μ' = μ5.join h5 := by
    have := hasFact_spec (c := mc) (b := mb) hMasc hMlen ((hms.mono (hle4.trans hle5)).mono (Mem.le_join _ h5)) (RepV.mono (Mem.le_join _ h5) hry)
    rw [← el] at this
    exact this
   have hhas2 := hasFact_own hap5 hro5 hrows5 hS.inv.asc (by omega) hry
   refine elem_intro hel2 ?_
   intro r18
   have fin : ∀ i2 o2, (i2 = true ↔ ∀ z ∈ ru.pos.take (j + 1), z ∈ M) → (o2 = true ↔ ∃ z ∈ ru.pos.take (j + 1), z ∈ L') → ∃ k : Nat × Bool × Bool, k = (j + 1, i2, o2) ∧ (k.1 ≤ ru.pos.length ∧ (k.2.1 = true ↔ ∀ y ∈ ru.pos.take k.1, y ∈ M) ∧ (k.2.2 = true ↔ ∃ y ∈ ru.pos.take k.1, y ∈ L')) := fun i2 o2 h1 h2 => ⟨_, rfl, by dsimp only; omega, h1, h2⟩
   refine if_intro (fun hk => ?_) (fun hk => ?_)
   ·refine call_read hap5 hhas ?_
    have h1 : decide (y ∈ M) = true ↔ ∀ z ∈ ru.pos.take (j + 1), z ∈ M := by
     rw [hstep1, ← hinn, decide_eq_true_eq]
     exact ⟨fun h => ⟨hk, h⟩, fun h => h.2⟩
    refine if_intro (fun hk2 => ?_) (fun hk2 => ?_)
    ·obtain ⟨k, rfl, hk9⟩ := fin (decide (y ∈ M)) true h1 (by rw [hstep2, ← hone1, hk2]; simp)
     exact num64 (by omega) (by omega) ⟨_, hk9, by dsimp only; omega, ⟨⟨rfl, rfl, rfl, rfl, rfl, rfl, rfl, rfl, rfl, rfl, rfl, rfl, rfl, trivial⟩, ⟨rfl, trivial⟩, rfl, rfl⟩⟩
    ·refine call_read hap5 hhas2 ?_
     obtain ⟨k, rfl, hk9⟩ := fin (decide (y ∈ M)) (decide (y ∈ L')) h1 (by rw [hstep2, ← hone1, hk2, decide_eq_true_eq]; simp)
     exact num64 (by omega) (by omega) ⟨_, hk9, by dsimp only; omega, ⟨⟨rfl, rfl, rfl, rfl, rfl, rfl, rfl, rfl, rfl, rfl, rfl, rfl, rfl, trivial⟩, ⟨rfl, trivial⟩, rfl, rfl⟩⟩
   ·have h1 : false = true ↔ ∀ z ∈ ru.pos.take (j + 1), z ∈ M := by rw [hstep1, ← hinn, hk]; simp
    refine if_intro (fun hk2 => ?_) (fun hk2 => ?_)
    ·obtain ⟨k, rfl, hk9⟩ := fin (false) true h1 (by rw [hstep2, ← hone1, hk2]; simp)
     exact num64 (by omega) (by omega) ⟨_, hk9, by dsimp only; omega, ⟨⟨rfl, rfl, rfl, rfl, rfl, rfl, rfl, rfl, rfl, rfl, rfl, rfl, rfl, trivial⟩, ⟨rfl, trivial⟩, rfl, rfl⟩⟩
    ·refine call_read hap5 hhas2 ?_
     obtain ⟨k, rfl, hk9⟩ := fin (false) (decide (y ∈ L')) h1 (by rw [hstep2, ← hone1, hk2, decide_eq_true_eq]; simp)
     exact num64 (by omega) (by omega) ⟨_, hk9, by dsimp only; omega, ⟨⟨rfl, rfl, rfl, rfl, rfl, rfl, rfl, rfl, rfl, rfl, rfl, rfl, rfl, trivial⟩, ⟨rfl, trivial⟩, rfl, rfl⟩⟩
  obtain rfl : j = ru.pos.length := by omega
  rw [List.take_length] at hinn hone1
  have skip : ¬ ((∀ x ∈ ru.pos, x ∈ M) ∧ (∃ y ∈ ru.pos, y ∈ L') ∧ ru.head ∉ L') → OvS rs M [] L L' b' (overDone rs M L (i + 1)) := fun h => ⟨hS.inv, hS.more, fun e => ⟨(hS.same e).1, take_all_at (hS.same e).2 hri fun h1 h2 => Classical.byContradiction fun h3 => h (by
   rw [(hS.same e).1]
   exact ⟨h1, h2, h3⟩)⟩⟩
  have next : OvS rs M [] L L' b' (overDone rs M L (i + 1)) → ∃ k : Nat × List F × Bool × Nat × Nat × List Value × Mem × Mem, k = (i + 1, L', b', r', c', ys', μ5, h5) ∧ (k.1 ≤ rs.length ∧ OvS rs M [] L k.2.1 k.2.2.1 (overDone rs M L k.1) ∧ μ4.Le k.2.2.2.2.2.2.1 ∧ Apart k.2.2.2.2.2.2.1 k.2.2.2.2.2.2.2 ∧ RowO k.2.2.2.2.2.2.2 k.2.2.2.1 k.2.2.2.2.1 67 2 k.2.2.2.2.2.1 ∧ Rows k.2.2.2.2.2.2.1 2 ((k.2.1.map F.fc).map Fc.d) k.2.2.2.2.2.1) := fun h => ⟨_, rfl, by dsimp only; omega, h, hle5, hap5, hro5, hrows5⟩
  refine if_intro (fun hk1 => ?_) (fun hk1 => ?_)
  rotate_left
  ·obtain ⟨k, rfl, hk⟩ := next (skip fun k => by rw [hinn.2 k.1] at hk1; cases hk1)
   exact num64 (by omega) (by omega) ⟨_, hk, by dsimp only; omega, ⟨⟨rfl, rfl, rfl, rfl, rfl, rfl, rfl, trivial⟩, trivial, rfl, rfl⟩⟩
  refine if_intro (fun hk2 => ?_) (fun hk2 => ?_)
  rotate_left
  ·obtain ⟨k, rfl, hk⟩ := next (skip fun k => by rw [hone1.2 k.2.1] at hk2; cases hk2)
   exact num64 (by omega) (by omega) ⟨_, hk, by dsimp only; omega, ⟨⟨rfl, rfl, rfl, rfl, rfl, rfl, rfl, trivial⟩, trivial, rfl, rfl⟩⟩
  refine call_read hap5 (hasFact_own hap5 hro5 hrows5 hS.inv.asc (by omega) hat.head) ?_
  refine ifnd (fun hno => ?_) (fun hin => ?_)
  rotate_left
  ·obtain ⟨k, rfl, hk⟩ := next (skip fun k => k.2.2 hin)
   exact num64 (by omega) (by omega) ⟨_, hk, by dsimp only; omega, ⟨⟨rfl, rfl, rfl, rfl, rfl, rfl, rfl, trivial⟩, trivial, rfl, rfl⟩⟩
  have hv_ := hone1.1 hk2
  obtain ⟨y, hy, hyL⟩ := hv_
  intro r58
  refine app_intro ys' hyl5.symm hro5 ?_ ?_ fun b9 c9 o hrow hor => ?_
  ·show (L'.length + 1) * 40 ≤ _; omega
  ·exact Nat.le_trans (m := 2000000000) (show L'.length + 1 ≤ _ by omega) (by decide)
  have hap7 := hap5.set (o := o) (apartB hro5 hap5 hor)
  refine call_own (putOwn hap7 hrow hrows5 (by omega) hat.head) fun v7 μ7 h7 hle7 hap7 hR7 => ?_
  obtain ⟨r7, c7, ys7, rfl, hro7, hrows7⟩ := hR7
  have hmore := insF_more hS.inv.asc hno
  have hll := hS.len
  refine num64 (by omega) (by omega) ⟨(i + 1, insF L' ru.head, true, r7, c7, ys7, μ7, h7), ⟨by dsimp only; omega, ⟨hS.inv.ins hrm (hinn.1 hk1) hy (hS.inv.der y hyL), fun _ => by show L.length < (insF L' ru.head).length; omega, (fun h => nomatch h)⟩, hle5.trans hle7, hap7, hro7, hrows7.mono hle7⟩, by dsimp only; omega, ⟨⟨rfl, rfl, rfl, rfl, rfl, rfl, rfl, trivial⟩, trivial, rfl, rfl⟩⟩
end
end Go.Vx
namespace Go.Vx
open Go.Proofs Classical
section
variable {μ : Mem}
theorem fr_rep {μ : Mem} {o : Option (List F)} {v : Value} (h : RepV μ (.sl 2 ((resF o).map Fc.d)) v) : ∃ tv, v = tv ∧ RepV μ (.sl 2 ((resF o).map Fc.d)) tv := ⟨v, rfl, h⟩
theorem fr_fresh {μ μ' : Mem} {o : Option (List F)} {v : Value} (h : Fresh μ μ' (.sl 2 ((resF o).map Fc.d)) v) : ∃ tv, v = id tv ∧ Fresh μ μ' (.sl 2 ((resF o).map Fc.d)) tv := ⟨v, rfl, h⟩
set_option maxHeartbeats 4000000 in
theorem FnExactOverdeleted_spec {t0 : Pg} {v0 : Value} {t1 : List Tm} {v1 : Value} {t2 : List Fc} {v2 : Value} {t3 : Fc} {v3 : Value} (h0 : RepV μ t0.d v0) (h1 : RepV μ (.sl 4 (t1.map Tm.d)) v1) (h2 : RepV μ (.sl 2 (t2.map Fc.d)) v2) (h3 : RepV μ t3.d v3) (w0 : t0.d.wd) (w1 : D.wds (t1.map Tm.d)) (w2 : D.wds (t2.map Fc.d)) (w3 : t3.d.wd) :
  Spec Tryz.prog 11 [v0, v1, v2, v3] μ fun r _ => r = .bool true := by
 have hv_ := Pg.invV h0
 obtain ⟨p0, rfl⟩ := hv_
 have hv_ := Rep.sl h1
 obtain ⟨b1, c1, rfl, s1⟩ := hv_
 rw [List.length_map] at s1 ⊢
 have hv_ := Rep.sl h2
 obtain ⟨b2, c2, rfl, s2⟩ := hv_
 rw [List.length_map] at s2 ⊢
 have hv_ := Fc.invV h3
 obtain ⟨p3, rfl⟩ := hv_
 refine Spec.mk Tryz.func11 (by kernel_rfl) ?_
 intro r0 r1
 refine call_gives (szProgram_spec t0 h0 (by omega) (by omega) w0) ?_
 refine ifd (fun h => ret_plain rfl) (fun h => ?_)
 have q0 := szR_ge h
 rw [szR_pos q0] at h ⊢
 refine call_gives (szTermS_spec s1 (by omega) (by omega) w1) ?_
 refine ifd (fun h => ret_plain rfl) (fun h => ?_)
 have q1 := szR_ge h
 rw [szR_pos q1] at h ⊢
 refine call_gives (szFactS_spec s2 (by omega) (by omega) w2) ?_
 refine ifd (fun h => ret_plain rfl) (fun h => ?_)
 have q2 := szR_ge h
 rw [szR_pos q2] at h ⊢
 refine call_gives (szFact_spec t3 h3 (by omega) (by omega) w3) ?_
 refine ifd (fun h => ret_plain rfl) (fun h => ?_)
 have q3 := szR_ge h
 rw [szR_pos q3] at h
 have hb0 : t0.d.sz ≤ 1048576 := by omega
 have hb1 : t1.length + D.szs (t1.map Tm.d) ≤ 1048576 := by omega
 have hb2 : t2.length + D.szs (t2.map Fc.d) ≤ 1048576 := by omega
 have hb3 : t3.d.sz ≤ 1048576 := by omega
 refine call_plain (toProgram_spec t0 h0 hb0) fun u1 μ1 hle1 hf1 => ?_
 replace h0 := h0.mono hle1
 replace s1 := s1.mono hle1
 replace s2 := s2.mono hle1
 replace h3 := h3.mono hle1
 have hv_ := Pg.invV hf1.rep
 obtain ⟨qq2, rfl⟩ := hv_
 have a0 := hf1.rep
 refine call_plain (toTermS_spec s1 hb1) fun u3 μ3 hle3 hf3 => ?_
 replace h0 := h0.mono hle3
 replace s1 := s1.mono hle3
 replace s2 := s2.mono hle3
 replace h3 := h3.mono hle3
 replace a0 := a0.mono hle3
 have hv_ := Rep.sl hf3.rep
 obtain ⟨bb4, cc4, rfl, a1⟩ := hv_
 rw [List.length_map] at a1 ⊢
 refine call_plain (toFactS_spec s2 hb2) fun u5 μ5 hle5 hf5 => ?_
 replace h0 := h0.mono hle5
 replace s1 := s1.mono hle5
 replace s2 := s2.mono hle5
 replace h3 := h3.mono hle5
 replace a0 := a0.mono hle5
 replace a1 := a1.mono hle5
 have hv_ := Rep.sl hf5.rep
 obtain ⟨bb6, cc6, rfl, a2⟩ := hv_
 rw [List.length_map] at a2 ⊢
 refine call_plain (toFact_spec t3 h3 hb3) fun u7 μ7 hle7 hf7 => ?_
 replace h0 := h0.mono hle7
 replace s1 := s1.mono hle7
 replace s2 := s2.mono hle7
 replace h3 := h3.mono hle7
 replace a0 := a0.mono hle7
 replace a1 := a1.mono hle7
 replace a2 := a2.mono hle7
 have hv_ := Fc.invV hf7.rep
 obtain ⟨qq8, rfl⟩ := hv_
 have a3 := hf7.rep
 refine call_plain (spec_Overdeleted_spec a0 w0 a1 w1 a2 w2 a3 w3) fun u9 μ9 hle9 hR => ?_
 replace h0 := h0.mono hle9
 replace s1 := s1.mono hle9
 replace s2 := s2.mono hle9
 replace h3 := h3.mono hle9
 replace a0 := a0.mono hle9
 replace a1 := a1.mono hle9
 replace a2 := a2.mono hle9
 replace a3 := a3.mono hle9
 have hv_ := fr_rep hR
 obtain ⟨w0, rfl, hw0⟩ := hv_
 have hv_ := Rep.sl hw0
 obtain ⟨bb10, cc10, rfl, hw⟩ := hv_
 rw [List.length_map] at hw ⊢
 refine call_new id (apart_nil _) Owns.none ((toProgram_spec t0 (h0.mono (Mem.le_join _ _)) hb0).weaken fun v μ' _ h => ⟨v, rfl, h⟩) fun x0 μ11 H11 hle11 hap11 ho11 => ?_
 replace h0 := h0.mono hle11
 replace s1 := s1.mono hle11
 replace s2 := s2.mono hle11
 replace h3 := h3.mono hle11
 replace hw := hw.mono hle11
 have hv_ := Pg.invV (Owns.rep (l1 := []) hap11 ho11)
 obtain ⟨qq12, rfl⟩ := hv_
 have xx0 := (Owns.rep (l1 := []) hap11 ho11)
 intro rx0
 refine call_new id hap11 ho11 ((toTermS_spec (s1.mono (Mem.le_join _ _)) hb1).weaken fun v μ' _ h => ⟨v, rfl, h⟩) fun x1 μ13 H13 hle13 hap13 ho13 => ?_
 replace h0 := h0.mono hle13
 replace s1 := s1.mono hle13
 replace s2 := s2.mono hle13
 replace h3 := h3.mono hle13
 replace hw := hw.mono hle13
 have hv_ := Rep.sl (Owns.rep (l1 := [_]) hap13 ho13)
 obtain ⟨bb14, cc14, rfl, xx1⟩ := hv_
 rw [List.length_map] at xx1 ho13 ⊢
 refine call_new id hap13 ho13 ((toFactS_spec (s2.mono (Mem.le_join _ _)) hb2).weaken fun v μ' _ h => ⟨v, rfl, h⟩) fun x2 μ15 H15 hle15 hap15 ho15 => ?_
 replace h0 := h0.mono hle15
 replace s1 := s1.mono hle15
 replace s2 := s2.mono hle15
 replace h3 := h3.mono hle15
 replace hw := hw.mono hle15
 have hv_ := Rep.sl (Owns.rep (l1 := [_, _]) hap15 ho15)
 obtain ⟨bb16, cc16, rfl, xx2⟩ := hv_
 rw [List.length_map] at xx2 ho15 ⊢
 refine call_new id hap15 ho15 ((toFact_spec t3 (h3.mono (Mem.le_join _ _)) hb3).weaken fun v μ' _ h => ⟨v, rfl, h⟩) fun x3 μ17 H17 hle17 hap17 ho17 => ?_
 replace h0 := h0.mono hle17
 replace s1 := s1.mono hle17
 replace s2 := s2.mono hle17
 replace h3 := h3.mono hle17
 replace hw := hw.mono hle17
 have hv_ := Fc.invV (Owns.rep (l1 := [_, _, _]) hap17 ho17)
 obtain ⟨qq18, rfl⟩ := hv_
 have xx3 := (Owns.rep (l1 := [_, _, _]) hap17 ho17)
 intro rx3
 have hv_ := Rep.sl (Owns.rep (l1 := [_]) hap17 ho17)
 obtain ⟨bn21, cn21, en21, ya20⟩ := hv_
 rw [List.length_map] at ya20 en21
 have hv_ := Value.slice.inj en21
 obtain ⟨rfl, _, rfl⟩ := hv_
 have hv_ := Rep.sl (Owns.rep (l1 := [_, _]) hap17 ho17)
 obtain ⟨bn23, cn23, en23, ya22⟩ := hv_
 rw [List.length_map] at ya22 en23
 have hv_ := Value.slice.inj en23
 obtain ⟨rfl, _, rfl⟩ := hv_
 refine call_new (id) hap17 ho17 ((impl_Overdeleted_spec (Owns.rep (l1 := []) hap17 ho17) ya20 ya22 (by omega) (Owns.rep (l1 := [_, _, _]) hap17 ho17)).weaken fun v μ' _ h => fr_fresh h) fun g0 μ19 H19 hle19 hap19 ho19 => ?_
 replace h0 := h0.mono hle19
 replace s1 := s1.mono hle19
 replace s2 := s2.mono hle19
 replace h3 := h3.mono hle19
 replace hw := hw.mono hle19
 have hv_ := Rep.sl (Owns.rep (l1 := [_, _, _, _]) hap19 ho19)
 obtain ⟨bb24, cc24, rfl, gg⟩ := hv_
 rw [List.length_map] at gg ho19 ⊢
 have hv_ := Rep.sl (Owns.rep (l1 := [_, _, _, _]) hap19 ho19)
 obtain ⟨bn26, cn26, en26, yg25⟩ := hv_
 rw [List.length_map] at yg25 en26
 have hv_ := Value.slice.inj en26
 obtain ⟨rfl, _, rfl⟩ := hv_
 refine call_read hap19 (eqFactS_spec yg25 (hw.mono (Mem.le_join _ _))) ?_
 refine if_intro (fun h => nomatch h) (fun _ => ?_)
 refine call_data hap19 (toProgram_spec t0 h0 hb0) fun u27 μ27 hle27 hap27 hf27 => ?_
 replace h0 := h0.mono hle27
 replace s1 := s1.mono hle27
 replace s2 := s2.mono hle27
 replace h3 := h3.mono hle27
 replace hw := hw.mono hle27
 refine call_read hap27 (eqProgram_spec t0 (Owns.rep (l1 := []) hap27 ho19) (hf27.rep.mono (Mem.le_join _ _))) ?_
 refine if_intro (fun h => nomatch h) (fun _ => ?_)
 refine call_data hap27 (toTermS_spec s1 hb1) fun u28 μ28 hle28 hap28 hf28 => ?_
 replace h0 := h0.mono hle28
 replace s1 := s1.mono hle28
 replace s2 := s2.mono hle28
 replace h3 := h3.mono hle28
 replace hw := hw.mono hle28
 have hv_ := Rep.sl hf28.rep
 obtain ⟨bb29, cc29, rfl, z1⟩ := hv_
 rw [List.length_map] at z1 ⊢
 have hv_ := Rep.sl (Owns.rep (l1 := [_]) hap28 ho19)
 obtain ⟨bn31, cn31, en31, yb30⟩ := hv_
 rw [List.length_map] at yb30 en31
 have hv_ := Value.slice.inj en31
 obtain ⟨rfl, _, rfl⟩ := hv_
 refine call_read hap28 (eqTermS_spec yb30 (z1.mono (Mem.le_join _ _))) ?_
 refine if_intro (fun h => nomatch h) (fun _ => ?_)
 refine call_data hap28 (toFactS_spec s2 hb2) fun u32 μ32 hle32 hap32 hf32 => ?_
 replace h0 := h0.mono hle32
 replace s1 := s1.mono hle32
 replace s2 := s2.mono hle32
 replace h3 := h3.mono hle32
 replace hw := hw.mono hle32
 have hv_ := Rep.sl hf32.rep
 obtain ⟨bb33, cc33, rfl, z2⟩ := hv_
 rw [List.length_map] at z2 ⊢
 have hv_ := Rep.sl (Owns.rep (l1 := [_, _]) hap32 ho19)
 obtain ⟨bn35, cn35, en35, yb34⟩ := hv_
 rw [List.length_map] at yb34 en35
 have hv_ := Value.slice.inj en35
 obtain ⟨rfl, _, rfl⟩ := hv_
 refine call_read hap32 (eqFactS_spec yb34 (z2.mono (Mem.le_join _ _))) ?_
 refine if_intro (fun h => nomatch h) (fun _ => ?_)
 refine call_data hap32 (toFact_spec t3 h3 hb3) fun u36 μ36 hle36 hap36 hf36 => ?_
 replace h0 := h0.mono hle36
 replace s1 := s1.mono hle36
 replace s2 := s2.mono hle36
 replace h3 := h3.mono hle36
 replace hw := hw.mono hle36
 refine call_read hap36 (eqFact_spec t3 (Owns.rep (l1 := [_, _, _]) hap36 ho19) (hf36.rep.mono (Mem.le_join _ _))) ?_
 refine if_intro (fun h => nomatch h) (fun _ => ?_)
 have ca0 := pg_cnt_sz t0
 rw [Pg.cnt_eq] at ca0
 have ma0 := pg_mt t0 (1)
 have ca1 := tms_cnt t1
 have ma1 := D.mks_cnt (t1.map Tm.d) ((t0.d.mt (1)).2)
 have ca2 := fcs_cnt t2
 have ma2 := D.mks_cnt (t2.map Fc.d) ((D.mks (t1.map Tm.d) ((t0.d.mt (1)).2)).2)
 have ca3 := fc_cnt_sz t3
 rw [Fc.cnt_eq] at ca3
 have ma3 := fc_mt t3 ((D.mks (t2.map Fc.d) ((D.mks (t1.map Tm.d) ((t0.d.mt (1)).2)).2)).2)
 have rz := overM_cnt t0 t1 t2 t3
 have mg := D.mks_cnt ((resF (overM t0 t1 t2 t3)).map Fc.d) 1
 refine call_mark (l1 := []) hap36 ho19 (fun hx o => markProgram_spec t0 o (by omega) (by omega)) fun H37 hap37 ho37 => ?_
 refine call_mark (l1 := [_]) hap37 ho37 (fun hx o => markTermS_spec o (by omega) (by omega)) fun H38 hap38 ho38 => ?_
 refine call_mark (l1 := [_, _]) hap38 ho38 (fun hx o => markFactS_spec o (by omega) (by omega)) fun H39 hap39 ho39 => ?_
 refine call_mark (l1 := [_, _, _]) hap39 ho39 (fun hx o => markFact_spec t3 o (by omega) (by omega)) fun H40 hap40 ho40 => ?_
 refine ifd (fun h => by omega) (fun _ => ?_)
 have hv_ := Rep.sl (Owns.rep (l1 := [_, _, _, _]) hap40 ho40)
 obtain ⟨bn42, cn42, en42, yg41⟩ := hv_
 rw [List.length_map] at yg41 en42
 have hv_ := Value.slice.inj en42
 obtain ⟨rfl, _, rfl⟩ := hv_
 refine call_read hap40 (eqFactS_spec yg41 (hw.mono (Mem.le_join _ _))) ?_
 refine if_intro (fun h => nomatch h) (fun _ => ?_)
 refine call_mark (l1 := [_, _, _, _]) hap40 ho40 (fun hx o => markFactS_spec o (by omega) (by omega)) fun H43 hap43 ho43 => ?_
 refine call_read hap43 (heldFactS_spec (Owns.rep (l1 := [_, _, _, _]) hap43 ho43) (by omega) (by omega)) ?_
 refine ifd (fun h => by omega) (fun _ => ?_)
 refine ifnd (fun h => absurd rfl h) (fun _ => ?_)
 refine call_data hap43 (toProgram_spec t0 h0 hb0) fun u44 μ44 hle44 hap44 hf44 => ?_
 replace h0 := h0.mono hle44
 replace s1 := s1.mono hle44
 replace s2 := s2.mono hle44
 replace h3 := h3.mono hle44
 replace hw := hw.mono hle44
 have hv_ := Pg.invV hf44.rep
 obtain ⟨qq45, rfl⟩ := hv_
 have o0 := hf44.rep
 refine call_data hap44 (toTermS_spec s1 hb1) fun u46 μ46 hle46 hap46 hf46 => ?_
 replace h0 := h0.mono hle46
 replace s1 := s1.mono hle46
 replace s2 := s2.mono hle46
 replace h3 := h3.mono hle46
 replace hw := hw.mono hle46
 replace o0 := o0.mono hle46
 have hv_ := Rep.sl hf46.rep
 obtain ⟨bb47, cc47, rfl, o1⟩ := hv_
 rw [List.length_map] at o1 ⊢
 refine call_data hap46 (toFactS_spec s2 hb2) fun u48 μ48 hle48 hap48 hf48 => ?_
 replace h0 := h0.mono hle48
 replace s1 := s1.mono hle48
 replace s2 := s2.mono hle48
 replace h3 := h3.mono hle48
 replace hw := hw.mono hle48
 replace o0 := o0.mono hle48
 replace o1 := o1.mono hle48
 have hv_ := Rep.sl hf48.rep
 obtain ⟨bb49, cc49, rfl, o2⟩ := hv_
 rw [List.length_map] at o2 ⊢
 refine call_data hap48 (toFact_spec t3 h3 hb3) fun u50 μ50 hle50 hap50 hf50 => ?_
 replace h0 := h0.mono hle50
 replace s1 := s1.mono hle50
 replace s2 := s2.mono hle50
 replace h3 := h3.mono hle50
 replace hw := hw.mono hle50
 replace o0 := o0.mono hle50
 replace o1 := o1.mono hle50
 replace o2 := o2.mono hle50
 have hv_ := Fc.invV hf50.rep
 obtain ⟨qq51, rfl⟩ := hv_
 have o3 := hf50.rep
 refine call_data hap50 ((impl_Overdeleted_spec o0 o1 o2 (by omega) o3).weaken fun v μ' _ h => fr_fresh h) fun u52 μ52 hle52 hap52 hR => ?_
 replace h0 := h0.mono hle52
 replace s1 := s1.mono hle52
 replace s2 := s2.mono hle52
 replace h3 := h3.mono hle52
 replace hw := hw.mono hle52
 replace o0 := o0.mono hle52
 replace o1 := o1.mono hle52
 replace o2 := o2.mono hle52
 replace o3 := o3.mono hle52
 obtain ⟨h0, rfl, hh0⟩ := hR
 have hv_ := Rep.sl hh0.rep
 obtain ⟨bb53, cc53, rfl, hh⟩ := hv_
 rw [List.length_map] at hh ⊢
 refine call_read hap52 (eqFactS_spec (hh.mono (Mem.le_join _ _)) (hw.mono (Mem.le_join _ _))) ?_
 refine if_intro (fun h => nomatch h) (fun _ => ?_)
 refine call_read hap52 (heldFactS_spec (Owns.rep (l1 := [_, _, _, _]) hap52 ho43) (by omega) (by omega)) ?_
 refine ifd (fun h => by omega) (fun _ => ?_)
 refine ifnd (fun h => absurd rfl h) (fun _ => ?_)
 exact ret_plain rfl
end
end Go.Vx
