/- Texts of the proof, part E1. -/
import Derived.Test.YtheneidclfohoaaGreatM5
namespace Go.Vx
section
variable {P : Program} {f : FuncId} {args : List Value} {μ h0 : Mem}
theorem Mem.sub_le (μ g : Mem) : (μ.sub g).Le μ := fun b o h => by
  unfold Mem.sub at h
  split at h
  · cases h
  · exact h
theorem Mem.sub_none {μ g : Mem} {b : Nat} (h : (μ.sub g) b ≠ none) : g b = none := by
  unfold Mem.sub at h
  split at h
  · exact absurd rfl h
  · assumption
theorem Mem.sub_of {μ g : Mem} {b : Nat} (h : g b = none) : (μ.sub g) b = μ b := by unfold Mem.sub; rw [h]
theorem Mem.join_sub {μ g : Mem} (h : Apart μ g) : (μ.join g).sub g = μ := funext fun b => by
  cases hg : g b with
  | some o =>
    have : μ b = none := h.symm b (by simp [hg])
    unfold Mem.sub; rw [hg, this]
  | none =>
    rw [Mem.sub_of hg, Mem.join_get]
    cases μ b with
    | some o => rfl
    | none => exact hg
theorem Mem.le_sub {μ μ' g : Mem} (h : μ.Le μ') (ha : Apart μ g) : μ.Le (μ'.sub g) := fun b o hb => by
  rw [Mem.sub_of (ha b (by simp [hb]))]; exact h b o hb
theorem SpecH.lend {H : Mem} {R : Value → Mem → Prop} (ha : Apart μ H) (h : Spec P f args (μ.join H) R) : SpecH P f args μ H fun v μ1 H1 => H1 = H ∧ ∃ μ', R v μ' ∧ (μ.join H).Le μ' ∧ μ1 = μ'.sub H := by
  refine ⟨h.1, fun w hm hH _ => (h.2 w (hm.join hH) (holds_nil w) (apart_nil _)).mono ?_⟩
  rintro e w' ⟨v, μ', h', rfl, hr, hS⟩
  refine ⟨v, μ'.sub H, H, rfl, ⟨rfl, μ', hr, hS.le, rfl⟩, ⟨Mem.le_sub ((Mem.le_join μ H).trans hS.le) ha, hS.mem.le (Mem.sub_le _ _), hS.mem.le ((Mem.le_join_right ha).trans hS.le), fun b hb => Mem.sub_none hb, fun b hb hb' => ?_, fun b hb => .inr hb, hS.size, fun b hb _ => hS.keep b hb rfl, hS.os, hS.tape, hS.output⟩⟩
  have h1 := Mem.sub_none hb'
  rw [Mem.sub_of h1] at hb'
  refine .inl ((hS.fresh b ?_ hb').resolve_right (fun h => h rfl))
  rw [Mem.join_get, hb]; exact h1
theorem SpecH.lendGives {H : Mem} {x : Value} (ha : Apart μ H) (h : Spec P f args (μ.join H) fun v μ' => v = x ∧ μ' = μ.join H) : SpecH P f args μ H fun v μ1 H1 => v = x ∧ μ1 = μ ∧ H1 = H :=
  (SpecH.lend ha h).weaken fun v μ1 H1 _ _ ⟨h1, μ', ⟨h2, h3⟩, _, h4⟩ => ⟨h2, by rw [h4, h3, Mem.join_sub ha], h1⟩
end
theorem digits_zero : digits 0 = [] := by rw [digits]; simp
theorem digits_pos {k : Nat} (h : k ≠ 0) : digits k = digits (k / 10) ++ [UInt8.ofNat (48 + k % 10)] := by rw [digits]; simp [h]
mutual
def D.mt : D → Int → D × Int
  | .i n, k => (.i n, k)
  | .b x, k => (.b x, k)
  | .s x, k => (.s x, k)
  | .st fs, k => (.st (D.mts fs k).1, (D.mts fs k).2)
  | .sl es xs, k => (.sl es (D.mks xs k).1, (D.mks xs k).2)
def D.mts : List D → Int → List D × Int
  | [], k => ([], k)
  | d :: r, k => ((d.mt k).1 :: (D.mts r (d.mt k).2).1, (D.mts r (d.mt k).2).2)
end
theorem Mem.set_apart {h k : Mem} {r : Nat} {o : Obj} (_h1 : h r = none) (p : Apart (h.set r o) k) : Apart h k ∧ k r = none :=
  ⟨fun b hb => p b (by rw [Mem.set_get]; split; · simp
                       · exact hb), p r (by rw [Mem.set_get, if_pos rfl]; simp)⟩
theorem D.mks_length : ∀ (xs : List D) (k : Int), (D.mks xs k).1.length = xs.length
  | [], _ => rfl
  | d :: r, k => by simp [D.mks, D.mks_length r]
theorem D.mks_get : ∀ {xs : List D} {i : Nat} {x : D} (_ : xs[i]? = some x) (k : Int), (D.mks xs k).1[i]? = some (x.mk (D.mks (xs.take i) k).2).1
  | [], j, x, h, _ => by simp at h
  | d :: r, 0, x, h, k => by simp at h; subst h; simp [D.mks]
  | d :: r, j + 1, x, h, k => by
    have := D.mks_get (xs := r) (i := j) (by simpa using h) (d.mk k).2
    simpa [D.mks] using this
theorem D.mks_size {es : Nat} : ∀ {xs : List D} (k : Int), (∀ x ∈ xs, x.n = es) → ∀ y ∈ (D.mks xs k).1, y.n = es
  | [], _, _, y, h => by simp [D.mks] at h
  | d :: r, k, hn, y, h => by
    simp only [D.mks, List.mem_cons] at h
    rcases h with rfl | h
    · rw [D.mk_n]; exact hn d (by simp)
    · exact D.mks_size _ (fun x hx => hn x (by simp [hx])) y h
end Go.Vx
namespace Go.Vx
section
variable {P : Program} {f : FuncId} {args : List Value} {μ H : Mem}
theorem Spec.lendOwn {R : Value → Mem → Prop} {R' : Value → Mem → Mem → Prop} (ha : Apart μ H) (h : Spec P f args (μ.join H) R) (G : ∀ v μ1, (μ.join H).Le μ1 → R v μ1 → ∃ g : Mem, g.Le μ1 ∧ (∀ b, g b ≠ none → (μ.join H) b = none) ∧ R' v g μ1) :
  SpecH P f args μ H fun v μ2 H2 => ∃ g μ1, R' v g μ1 ∧ (μ.join H).Le μ1 ∧ Parts H2 H g ∧ μ2 = (μ1.sub H).sub g := by
 refine ⟨h.1, fun w hm hH _ => (h.2 w (hm.join hH) (holds_nil w) (apart_nil _)).mono ?_⟩
 rintro e w' ⟨v, μ1, h1, rfl, hr, hS⟩
 obtain ⟨g, hg, hf, hr'⟩ := G v μ1 hS.le hr
 have hgH : Apart H g := fun b hb => by
  cases h2 : g b with
  | none => rfl
  | some o =>
   have := hf b (by simp [h2])
   cases h3 : H b with
   | none => exact absurd h3 hb
   | some o' => rw [Mem.le_join_right ha b o' h3] at this; cases this
 have hgμ : Apart μ g := fun b hb => by
  cases h2 : g b with
  | none => rfl
  | some o =>
   have := hf b (by simp [h2])
   cases h3 : μ b with
   | none => exact absurd h3 hb
   | some o' => rw [Mem.le_join μ H b o' h3] at this; cases this
 refine ⟨v, (μ1.sub H).sub g, H.join g, rfl, ⟨g, μ1, hr', hS.le, Parts.join hgH, rfl⟩, ⟨Mem.le_sub (Mem.le_sub ((Mem.le_join μ H).trans hS.le) ha) hgμ, hS.mem.le ((Mem.sub_le _ _).trans (Mem.sub_le _ _)), (hS.mem.le ((Mem.le_join_right ha).trans hS.le)).join (hS.mem.le hg), fun b hb => ?_, fun b hb hb' => ?_, fun b hb => ?_, hS.size, fun b hb _ => hS.keep b hb rfl, hS.os, hS.tape, hS.output⟩⟩
 ·have k1 := Mem.sub_none hb
  rw [Mem.sub_of k1] at hb
  rw [Mem.join_get, Mem.sub_none hb]; exact k1
 ·have k1 := Mem.sub_none hb'
  rw [Mem.sub_of k1] at hb'
  have k2 := Mem.sub_none hb'
  rw [Mem.sub_of k2] at hb'
  refine .inl ((hS.fresh b ?_ hb').resolve_right fun h => h rfl)
  rw [Mem.join_get, hb]; exact k2
 ·rcases join_ne hb with h2 | h2
  ·exact .inr h2
  ·refine .inl ((hS.fresh b (hf b h2) ?_).resolve_right fun h => h rfl)
   cases h3 : g b with
   | none => exact absurd h3 h2
   | some o => rw [hg b o h3]; simp
variable {dr : Bool} {s : St} {K : Value → St → Prop}
theorem call_new {l : List (D × Value)} {d : D} (T : Value → Value) (hap : Apart s.mem s.own) (ho : Owns s.own l) (h : Spec P f args (s.mem.join s.own) fun v μ' => ∃ gv, v = T gv ∧ Fresh (s.mem.join s.own) μ' d gv)
  (k : ∀ gv μ' H', s.mem.Le μ' → Apart μ' H' → Owns H' (l ++ [(d, gv)]) → memOwnK s μ' H' fun s => K (T gv) s) : callVC dr P f args s K := by
 refine call_own (Spec.lendOwn (R' := fun v g μ1 => ∃ gv, v = T gv ∧ OwnV d g gv) hap h fun v μ1 hle hR => ?_) fun v μ' H' hle ha' hR => ?_
 ·obtain ⟨gv, e, g, h1, h2, h3⟩ := hR
  exact ⟨g, h2, h3, gv, e, h1⟩
 ·obtain ⟨g, μ1, ⟨gv, rfl, h1⟩, _, hp, _⟩ := hR
  exact k gv μ' H' hle ha' (ho.snoc h1 hp)
theorem call_read {x : Value} (hap : Apart s.mem s.own) (h : Spec P f args (s.mem.join s.own) fun v μ' => v = x ∧ μ' = s.mem.join s.own) (k : K x s) : callVC dr P f args s K :=
 call_own (SpecH.lendGives hap h) fun v μ' H' _ _ ⟨h1, h2, h3⟩ => by
  subst h1 h2 h3
  cases s
  exact k
theorem call_mark {l1 l2 : List (D × Value)} {d d' : D} {u : Value} {x : Value} (_hap : Apart s.mem s.own) (ho : Owns s.own (l1 ++ (d, u) :: l2)) (h : ∀ hx, OwnV d hx u → SpecH P f args s.mem hx fun r μ' h' => r = x ∧ μ' = s.mem ∧ OwnV d' h' u)
  (k : ∀ H', Apart s.mem H' → Owns H' (l1 ++ (d', u) :: l2) → memOwnK s s.mem H' fun s => K x s) : callVC dr P f args s K := by
 obtain ⟨h1, k1, p, o, back⟩ := ho.focus
 refine call_own (SpecH.frame p (h h1 o)) fun v μ' H' hle ha' ⟨h', ⟨e1, e2, o'⟩, p'⟩ => ?_
 subst e1 e2
 exact k H' ha' (back H' h' d' p' o')
end
end Go.Vx
namespace Go.Vx
open Go.Proofs Classical
section
variable {μ : Mem}
theorem wrap8 {n : Int} (h1 : 0 ≤ n) (h2 : n < 256) : IntKind.u8.wrap n = n := by
 have e : IntKind.u8.bits = 8 := rfl
 have e2 : IntKind.u8.signed = false := rfl
 simp only [IntKind.wrap, e, e2, Bool.false_and]
 simp only [show (2 : Int) ^ 8 = 256 from rfl]
 simp; omega
theorem bytes_app (a b : List UInt8) : (⟨a.toArray⟩ : ByteArray) ++ ⟨b.toArray⟩ = ⟨(a ++ b).toArray⟩ := by
 have : ((⟨a.toArray⟩ : ByteArray) ++ ⟨b.toArray⟩).data = (a ++ b).toArray := by
  rw [ByteArray.data_append]; simp
 cases h : (⟨a.toArray⟩ : ByteArray) ++ ⟨b.toArray⟩
 rw [h] at this
 simp only at this
 rw [this]
theorem markText_spec (k : Int) (hk : k ≤ 9223372036854775807) : Gives Tryz.prog 102 [.int .i64 k] μ (.string (mtext k)) := by
 refine Spec.mk Tryz.func102 (by kernel_rfl) ?_
 refine ifd (fun h => ret_gives ?_ rfl) (fun h => ?_)
 ·rw [mtext, if_pos h]
 obtain ⟨n, rfl⟩ : ∃ n : Nat, k = n := ⟨k.toNat, by omega⟩
 refine loop_intro (fun p : Nat × List UInt8 => digits n = digits p.1 ++ p.2 ∧ p.1 * 2 ^ p.2.length ≤ n ∧ p.2.length ≤ 64) (fun p => ⟨[(0, .val (.int .i64 p.1)), (3, .val (.string ⟨p.2.toArray⟩))], [], 0, μ, Mem.nil⟩) (fun p => p.1)
  (n, []) ⟨by simp, by simp, by simp⟩ (fun i => ⟨rfl, rfl⟩) ⟨⟨rfl, rfl, trivial⟩, trivial, rfl, rfl⟩ ?_
 rintro ⟨m, l⟩ ⟨h1, h2, hlen0⟩
 simp only at h1 h2 hlen0
 refine ifd (fun h3 => ?_) (fun h3 => ?_)
 ·have hm : m ≠ 0 := by omega
  have hmn : m ≤ n := Nat.le_trans (Nat.le_mul_of_pos_right _ (Nat.two_pow_pos _)) h2
  have hlen : l.length ≤ 63 := by
   rcases Nat.lt_or_ge 63 l.length with h | h
   ·exfalso
    have h4 : 2 ^ 64 ≤ 2 ^ l.length := Nat.pow_le_pow_right (by omega) h
    have h5 : 1 * 2 ^ l.length ≤ m * 2 ^ l.length := Nat.mul_le_mul_right _ (by omega)
    omega
   ·exact h
  refine need_intro (by omega) (num_eq (x := ((m % 10 : Nat) : Int)) (by rw [Int.tmod_eq_emod_of_nonneg (by omega)]; omega) ?_)
  refine num64 (by omega) (by omega) (num_eq (wrap8 (by omega) (by omega)) ?_)
  intro r
  have hb : (UInt8.ofNat (48 + m % 10)).toNat = 48 + m % 10 := by
   rw [UInt8.toNat_ofNat']; omega
  refine bytes_intro [UInt8.ofNat (48 + m % 10)] (by simp only [List.map_cons, List.map_nil, hb]; congr 2) ?_
  refine need_intro (by simp [ByteArray.size]; omega) ?_
  refine need_intro (by omega) (num_eq (x := ((m / 10 : Nat) : Int)) (by show IntKind.i64.wrap (Int.tdiv (m : Int) 10) = _; rw [Int.tdiv_eq_ediv_of_nonneg (by omega), wrap64 (by omega) (by omega)]; simp) ?_)
  refine ⟨(m / 10, UInt8.ofNat (48 + m % 10) :: l), ⟨?_, ?_, by simp only [List.length_cons]; omega⟩, by simp only; omega, ⟨⟨rfl, ?_, trivial⟩, trivial, rfl, rfl⟩⟩
  ·simp only; rw [h1, digits_pos hm]; simp
  ·simp only [List.length_cons, Nat.pow_succ]
   have : m / 10 * 2 ≤ m := by omega
   calc m / 10 * (2 ^ l.length * 2) = (m / 10 * 2) * 2 ^ l.length := by rw [Nat.mul_comm (2 ^ l.length) 2, ← Nat.mul_assoc]
    _ ≤ m * 2 ^ l.length := Nat.mul_le_mul_right _ this
    _ ≤ n := h2
  ·simp only [look]
   rw [bytes_app]; rfl
 ·have hm : m = 0 := by omega
  subst hm
  refine need_intro (by simp [ByteArray.size]; omega) ?_
  refine ret_gives ?_ rfl
  rw [mtext, if_neg (by omega)]
  have := bytes_app [109] l
  rw [this, Int.toNat_natCast, h1, digits_zero]; rfl
end
end Go.Vx
namespace Go.Vx
open Go.Proofs Classical
theorem back_of {g' m H' : Mem} {r : Nat} {o : Obj} (hm : m r = none) (p : Parts H' g' (m.set r o)) : Apart g' m ∧ g' r = none ∧ H' = (g'.join m).set r o := by
 have hv_ := Mem.set_apart hm p.apart.symm
 obtain ⟨a1, a2⟩ := hv_
 exact ⟨a1.symm, a2, p.eq ((Parts.join a1.symm).set (by rw [Mem.join_get, a2]; exact hm))⟩
theorem Tm.mk_eq (t : Tm) (k : Int) : t.d.mk k = (.st [.i k, .i (k + 1), .s (mtext (k + 1 + 1)), .sl 4 (D.mks (t.args.map Tm.d) (k + 1 + 1 + 1)).1], (D.mks (t.args.map Tm.d) (k + 1 + 1 + 1)).2) := by
 rw [Tm.d_eq]; simp [D.mk, D.mks]
theorem Tm.cnt_eq (t : Tm) : t.d.cnt = 3 + D.cnts (t.args.map Tm.d) := by
 rw [Tm.d_eq]; simp [D.cnt, D.cnts]; omega
section
variable {μ : Mem}
theorem markTermS_of {l : List Tm} (he : ∀ t ∈ l, ∀ {h : Mem} {v : Value} {k : Int}, OwnV (.sl 4 (t.args.map Tm.d)) h v → 0 ≤ k → k + D.cnts (t.args.map Tm.d) ≤ 9223372036854775807 →
   SpecH Tryz.prog 38 [v, .int .i64 k] μ h fun r μ' h' => r = .int .i64 (D.mks (t.args.map Tm.d) k).2 ∧ μ' = μ ∧ OwnV (.sl 4 (D.mks (t.args.map Tm.d) k).1) h' v)
  {h : Mem} {v : Value} {k : Int} (ho : OwnV (.sl 4 (l.map Tm.d)) h v) (hk : 0 ≤ k) (hk2 : k + D.cnts (l.map Tm.d) ≤ 9223372036854775807) :
  SpecH Tryz.prog 38 [v, .int .i64 k] μ h fun r μ' h' => r = .int .i64 (D.mks (l.map Tm.d) k).2 ∧ μ' = μ ∧ OwnV (.sl 4 (D.mks (l.map Tm.d) k).1) h' v := by
 obtain ⟨base, cap, e, hm, hn, ho⟩ := ho
 simp only [List.cons.injEq, and_true] at e
 subst e
 have hm' : (l.map Tm.d).length ≤ 9223372036854775807 := Nat.le_trans hm.max (by decide)
 refine SpecH.mk [] Tryz.func38 (by kernel_rfl) ?_
 rcases ho with ⟨hnil, rfl⟩ | ⟨r, flat, rest, ty, h2, rfl, hr, rfl, ho⟩
 ·rw [hnil]
  refine loop_intro (fun i : Nat => i = 0) (fun i => ⟨[(0, .val (.slice base 0 cap)), (1, .val (.int .i64 k)), (5, .val (.int .i64 i))], [], 0, μ, Mem.nil⟩) (fun i => 0 - i)
   0 rfl (fun i => ⟨rfl, rfl⟩) ⟨⟨rfl, rfl, rfl, trivial⟩, trivial, rfl, rfl⟩ ?_
  rintro i rfl
  refine ifd (fun h => by omega) (fun h => ret_plain ⟨rfl, rfl, base, cap, rfl, ⟨Nat.zero_le _, Nat.zero_le _⟩, by simp [D.mks], .inl ⟨rfl, rfl⟩⟩)
 ·generalize hxs : l.map Tm.d = xs at *
  refine loop_intro (fun p : Nat × List Value × List Value × Mem => Marking xs k rest r p.1 p.2.1 p.2.2.1 p.2.2.2)
   (fun (i, pre, tail, hh) => ⟨[(0, .val (.slice (some ⟨r, 0, none⟩) xs.length cap)), (1, .val (.int .i64 (D.mks (xs.take i) k).2)), (5, .val (.int .i64 i))], [], 0, μ, hh.set r (.cells (List.toArray (pre ++ tail)) ty (0, 0))⟩) (fun p => xs.length - p.1)
   (0, [], flat ++ rest, h2) (Marking.start hr ho) (fun (_, _, _, _) => ⟨rfl, rfl⟩) ⟨⟨rfl, rfl, rfl, trivial⟩, trivial, rfl, rfl⟩ ?_
  rintro ⟨i, pre, tail, hh⟩ M
  dsimp only at M
  have hi := M.le
  have hge := D.mks_cnt (xs.take i) k
  refine ifd (fun h => ?_) (fun h => ?_)
  ·obtain ⟨t, ht⟩ := at_some (l := l) (i := i) (by rw [← hxs] at h; simp at h; omega)
   have hx : xs[i]? = some t.d := by rw [← hxs]; simp [ht]
   have hv_ := M.next hx
   obtain ⟨c, g, m, c2, rfl, hown, hp, hmr, back⟩ := hv_
   have hv_ := Tm.own hown
   obtain ⟨v, rfl, hv⟩ := hv_
   have hv_ := OwnV.slice hv
   obtain ⟨b2, cap2, rfl⟩ := hv_
   have hlen := M.len hn
   have hcnt := Marking.cnt (k := k) hx
   rw [Tm.cnt_eq] at hcnt
   refine ptr_intro ⟨r, 0, none⟩ rfl (by omega) (by omega) ?_
   refine sto_at (j := 0) (by simp [Addr.add_lit', hlen]) (by simp) ?_
   refine num64 (by omega) (by omega) ?_
   refine ptr_intro ⟨r, 0, none⟩ rfl (by omega) (by omega) ?_
   refine sto_at (j := 1) (by simp [Addr.add_lit', hlen]) (by simp) ?_
   refine num64 (by omega) (by omega) ?_
   refine call_gives (markText_spec _ (by omega)) ?_
   refine ptr_intro ⟨r, 0, none⟩ rfl (by omega) (by omega) ?_
   refine sto_at (j := 2) (by simp [Addr.add_lit', hlen]) (by simp) ?_
   refine num64 (by omega) (by omega) ?_
   refine ptr_intro ⟨r, 0, none⟩ rfl (by omega) (by omega) ?_
   refine own_at (j := 3) (by simp [Addr.add_lit', hlen]) rfl ?_
   refine call_own (SpecH.frame (hp.set M.out) (he t (mem_at ht) hv (by omega) (by omega))) fun v μ' H' hle hap hR => ?_
   obtain ⟨h', ⟨rfl, rfl, ho'⟩, hp'⟩ := hR
   have hv_ := back_of hmr hp'
   obtain ⟨a1, a2, rfl⟩ := hv_
   have hmk := D.mks_take hx k
   have hmk2 := Tm.mk_eq t (D.mks (xs.take i) k).2
   refine num64 (by omega) (by omega) ⟨(i + 1, pre ++ [.int .i64 (D.mks (xs.take i) k).2, .int .i64 ((D.mks (xs.take i) k).2 + 1), .string (mtext ((D.mks (xs.take i) k).2 + 1 + 1)), .slice b2 (t.args.map Tm.d).length cap2], c2 ++ rest, h'.join m), back _ _ a1 a2 ?_, by dsimp only; omega, ⟨⟨rfl, ?_, rfl, trivial⟩, trivial, rfl, ?_⟩⟩
   ·rw [hmk2]
    exact OwnS.int (OwnS.int (OwnS.str (OwnS.last ho')))
   ·rw [hmk, hmk2]
    rfl
   ·simp
  ·have hi' : i = xs.length := by omega
   subst hi'
   obtain ⟨rfl, o1⟩ := M.last
   refine ret_plain ⟨by rw [List.take_length], rfl, some ⟨r, 0, none⟩, cap, by rw [D.mks_length], by rw [D.mks_length]; exact hm, D.mks_size k hn, .inr ⟨r, pre, tail, ty, hh, rfl, M.out, rfl, o1⟩⟩
theorem markTermS_spec {l : List Tm} {h : Mem} {v : Value} {k : Int} (ho : OwnV (.sl 4 (l.map Tm.d)) h v) (hk : 0 ≤ k) (hk2 : k + D.cnts (l.map Tm.d) ≤ 9223372036854775807) :
  SpecH Tryz.prog 38 [v, .int .i64 k] μ h fun r μ' h' => r = .int .i64 (D.mks (l.map Tm.d) k).2 ∧ μ' = μ ∧ OwnV (.sl 4 (D.mks (l.map Tm.d) k).1) h' v :=
 Tm.ind (p := fun t => ∀ {h : Mem} {v : Value} {k : Int}, OwnV (.sl 4 (t.args.map Tm.d)) h v → 0 ≤ k → k + D.cnts (t.args.map Tm.d) ≤ 9223372036854775807 →
   SpecH Tryz.prog 38 [v, .int .i64 k] μ h fun r μ' h' => r = .int .i64 (D.mks (t.args.map Tm.d) k).2 ∧ μ' = μ ∧ OwnV (.sl 4 (D.mks (t.args.map Tm.d) k).1) h' v)
  (fun _ _ _ _ ih _ _ _ => markTermS_of fun t ht _ _ _ => ih t ht) (.mk 0 0 ⟨#[]⟩ l) ho hk hk2
theorem heldTermS_of {l : List Tm} (he : ∀ t ∈ l, ∀ {v : Value} {k : Int}, RepV μ (.sl 4 (D.mks (t.args.map Tm.d) k).1) v → 0 ≤ k → k + D.cnts (t.args.map Tm.d) ≤ 9223372036854775807 →
   Gives Tryz.prog 103 [v, .int .i64 k] μ (.int .i64 (D.mks (t.args.map Tm.d) k).2))
  {v : Value} {k : Int} (ho : RepV μ (.sl 4 (D.mks (l.map Tm.d) k).1) v) (hk : 0 ≤ k) (hk2 : k + D.cnts (l.map Tm.d) ≤ 9223372036854775807) :
  Gives Tryz.prog 103 [v, .int .i64 k] μ (.int .i64 (D.mks (l.map Tm.d) k).2) := by
 have hv_ := Rep.sl ho
 obtain ⟨base, cap, rfl, hsl⟩ := hv_
 have hm' := Nat.le_trans hsl.max (show maxLen ≤ 9223372036854775807 by decide)
 rw [D.mks_length] at hm' hsl ⊢
 refine Spec.mk Tryz.func103 (by kernel_rfl) ?_
 generalize hxs : l.map Tm.d = xs at *
 refine loop_intro (fun i : Nat => i ≤ xs.length) (fun i => ⟨[(0, .val (.slice base xs.length cap)), (1, .val (.int .i64 (D.mks (xs.take i) k).2)), (5, .val (.int .i64 i))], [], 0, μ, Mem.nil⟩) (fun i => xs.length - i)
  0 (by simp) (fun i => ⟨rfl, rfl⟩) ⟨⟨rfl, rfl, rfl, trivial⟩, trivial, rfl, rfl⟩ ?_
 intro i hi
 have hge := D.mks_cnt (xs.take i) k
 refine ifd (fun h => ?_) (fun h => ?_)
 ·obtain ⟨t, ht⟩ := at_some (l := l) (i := i) (by rw [← hxs] at h; simp at h; omega)
  have hx : xs[i]? = some t.d := by rw [← hxs]; simp [ht]
  have hcnt := Marking.cnt (k := k) hx
  rw [Tm.cnt_eq] at hcnt
  have hv_ := hsl.get i _ (D.mks_get hx k)
  obtain ⟨ad, cs, hel, hcs⟩ := hv_
  have hmk := D.mks_take hx k
  have hmk2 := Tm.mk_eq t (D.mks (xs.take i) k).2
  rw [hmk2] at hcs
  obtain ⟨_, _, rfl, rfl, _, _, rfl, rfl, _, _, rfl, rfl, c7, _, rfl, h7, rfl⟩ := hcs
  have hl := Rep.len _ _ h7
  match c7, hl with
  | [v], _ =>
   have h7' := h7
   obtain ⟨b2, cap2, rfl, _⟩ := h7'.sl
   have hge2 := D.mks_cnt (t.args.map Tm.d) ((D.mks (xs.take i) k).2 + 1 + 1 + 1)
   refine elem_intro hel (ifnd (fun h => absurd rfl h) fun _ => ?_)
   refine num64 (by omega) (by omega) ?_
   refine elem_intro hel (ifnd (fun h => absurd rfl h) fun _ => ?_)
   refine num64 (by omega) (by omega) ?_
   refine elem_intro hel ?_
   refine call_gives (markText_spec _ (by omega)) ?_
   refine ifnd (fun h => absurd rfl h) fun _ => ?_
   refine num64 (by omega) (by omega) ?_
   refine elem_intro hel ?_
   refine call_gives (he t (mem_at ht) h7 (by omega) (by omega)) ?_
   refine ifd (fun h => absurd h (by omega)) (fun _ => ?_)
   refine num64 (by omega) (by omega) ?_
   exact ⟨i + 1, by omega, by omega, ⟨⟨rfl, by rw [hmk, hmk2]; rfl, rfl, trivial⟩, trivial, rfl, rfl⟩⟩
 ·have hi' : i = xs.length := by omega
  subst hi'
  rw [List.take_length]
  exact ret_gives rfl rfl
theorem heldTermS_spec {l : List Tm} {v : Value} {k : Int} (ho : RepV μ (.sl 4 (D.mks (l.map Tm.d) k).1) v) (hk : 0 ≤ k) (hk2 : k + D.cnts (l.map Tm.d) ≤ 9223372036854775807) :
  Gives Tryz.prog 103 [v, .int .i64 k] μ (.int .i64 (D.mks (l.map Tm.d) k).2) :=
 Tm.ind (p := fun t => ∀ {v : Value} {k : Int}, RepV μ (.sl 4 (D.mks (t.args.map Tm.d) k).1) v → 0 ≤ k → k + D.cnts (t.args.map Tm.d) ≤ 9223372036854775807 →
   Gives Tryz.prog 103 [v, .int .i64 k] μ (.int .i64 (D.mks (t.args.map Tm.d) k).2))
  (fun _ _ _ _ ih _ _ => heldTermS_of fun t ht _ _ => ih t ht) (.mk 0 0 ⟨#[]⟩ l) ho hk hk2
theorem Tm.mt_eq (t : Tm) (k : Int) : t.d.mt k = (.st [.i t.kind, .i t.num, .s t.name, .sl 4 (D.mks (t.args.map Tm.d) k).1], (D.mks (t.args.map Tm.d) k).2) := by
 rw [Tm.d_eq]; simp [D.mt, D.mts]
theorem Bd.mk_eq (b : Bd) (k : Int) : b.d.mk k = (.st [.i k, .st [.i (k + 1), .i (k + 1 + 1), .s (mtext (k + 1 + 1 + 1)), .sl 4 (D.mks (b.to.args.map Tm.d) (k + 1 + 1 + 1 + 1)).1]], (D.mks (b.to.args.map Tm.d) (k + 1 + 1 + 1 + 1)).2) := by
 simp only [Bd.d, D.mk, D.mks, Tm.mk_eq]
theorem Bd.cnt_eq (b : Bd) : b.d.cnt = 4 + D.cnts (b.to.args.map Tm.d) := by
 simp only [Bd.d, D.cnt, D.cnts, Tm.cnt_eq]; omega
end
end Go.Vx
namespace Go.Vx
open Go.Proofs Classical
theorem sub_none : ∀ {bs : List B} {n : Int}, (∀ b ∈ bs, b.var ≠ n) → sub bs n = none
 | [], _, _ => rfl
 | c :: bs, n, h => by
  rw [sub, if_neg (h c (by simp))]
  exact sub_none fun b hb => h b (by simp [hb])
section
variable {μ : Mem}
end
end Go.Vx
namespace Go.Vx
open Go.Proofs Classical
theorem tm_cnt : ∀ t : Tm, t.d.cnt = 3 * t.cnt :=
 Tm.ind fun k n s l ih => by
  have : D.cnts (l.map Tm.d) = 3 * Tm.cnts l := by
   induction l with
   | nil => rfl
   | cons t l ih2 =>
    have h1 := ih t (by simp)
    have h2 := ih2 fun t ht => ih t (by simp [ht])
    simp only [List.map_cons, D.cnts, Tm.cnts, h1, h2]; omega
  rw [Tm.cnt_eq, Tm.cnt]
  show 3 + D.cnts (l.map Tm.d) = _
  omega
theorem tm_cnt_sz : ∀ t : Tm, t.d.cnt ≤ 3 + 3 * t.d.sz :=
 Tm.ind fun k n s l ih => by
  have : D.cnts (l.map Tm.d) ≤ 3 * l.length + 3 * D.szs (l.map Tm.d) := by
   induction l with
   | nil => simp [D.cnts, D.szs]
   | cons t l ih2 =>
    have h1 := ih t (by simp)
    have h2 := ih2 fun t ht => ih t (by simp [ht])
    simp only [List.map_cons, D.cnts, D.szs, List.length_cons]; omega
  rw [Tm.cnt_eq, Tm.d_mk]
  show 3 + D.cnts (l.map Tm.d) ≤ _
  simp only [D.sz, D.szs, List.length_map]
  omega
end Go.Vx
namespace Go.Vx
open Go.Proofs Classical
section
variable {μ : Mem}
def boolOn (H : Mem) (r : Nat) (b : Bool) : Mem := H.set r (.cells #[.bool b] 4 (0, 0))
end
end Go.Vx
namespace Go.Vx
open Go.Proofs Classical
theorem tms_cnt : ∀ l : List Tm, D.cnts (l.map Tm.d) ≤ 3 * l.length + 3 * D.szs (l.map Tm.d)
 | [] => by simp [D.cnts, D.szs]
 | t :: l => by
  have h1 := tms_cnt l
  have h2 := tm_cnt_sz t
  simp only [List.map_cons, D.cnts, D.szs, List.length_cons]; omega
theorem tms_cnt2 : ∀ l : List Tm, (∀ t ∈ l, t.cnt ≤ 5000) → D.cnts (l.map Tm.d) ≤ 15000 * l.length
 | [], _ => by simp [D.cnts]
 | t :: l, h => by
  have h1 := tms_cnt2 l fun t ht => h t (by simp [ht])
  have h2 := tm_cnt t
  have h3 := h t (by simp)
  simp only [List.map_cons, D.cnts, List.length_cons]; omega
section
variable {μ : Mem}
end
end Go.Vx
namespace Go.Vx
open Go.Proofs Classical
section
variable {μ : Mem}
theorem Tm.ownR {t : Tm} {h : Mem} {cs : List Value} (k : Own t.d h cs) : ∃ p : Tm.P, cs = t.cs p ∧ OwnV (.sl 4 (t.args.map Tm.d)) h (.slice p.1 t.args.length p.2) := by
 have hv_ := Tm.own k
 obtain ⟨v, rfl, hv⟩ := hv_
 have hv_ := OwnV.slice hv
 obtain ⟨b, c, rfl⟩ := hv_
 rw [List.length_map] at hv ⊢
 exact ⟨(b, c), rfl, hv⟩
theorem Bd.ownR {t : Bd} {h : Mem} {cs : List Value} (k : Own t.d h cs) : ∃ p : Bd.P, cs = t.cs p ∧ OwnV (.sl 4 (t.to.args.map Tm.d)) h (.slice p.1 t.to.args.length p.2) := by
 have hv_ := Bd.own k
 obtain ⟨v, rfl, hv⟩ := hv_
 have hv_ := OwnV.slice hv
 obtain ⟨b, c, rfl⟩ := hv_
 rw [List.length_map] at hv ⊢
 exact ⟨(b, c), rfl, hv⟩
variable {μ1 μ' : Mem}
theorem mark_step {hh M G g G' : Mem} {r : Nat} (hr : hh r = none) (p : Parts hh M G) (q : Parts G g G') :
  ∃ mm : Mem, ∀ o, Parts (hh.set r o) g (mm.set r o) ∧ ∀ h' H', Parts H' h' (mm.set r o) → ∃ M' hh' : Mem, H' = hh'.set r o ∧ hh' r = none ∧ h' r = none ∧ Apart h' M ∧ Parts M' h' M ∧ Parts hh' M' G' := by
 have hv_ := p.assoc q.symm
 obtain ⟨mm, p1, p2⟩ := hv_
 have hm : mm r = none := by
  cases h : mm r with
  | none => rfl
  | some x => have := p2.left r x h; rw [hr] at this; cases this
 refine ⟨mm, fun o => ⟨(p2.symm.set hr), fun h' H' pH => ?_⟩⟩
 have hv_ := back_of hm pH
 obtain ⟨a1, a2, rfl⟩ := hv_
 have hv_ := (Parts.join a1).assoc p1
 obtain ⟨M', m1, m2⟩ := hv_
 refine ⟨M', h'.join mm, rfl, by rw [Mem.join_get, a2]; exact hm, a2, ?_, m1, m2⟩
 intro b hb
 cases h : M b with
 | none => rfl
 | some x => have := a1 b hb; rw [p1.left b x h] at this; cases this
theorem Parts.none_of {h g k : Mem} {r : Nat} (p : Parts h g k) (h1 : g r = none) (h2 : k r = none) : h r = none := by
 rcases p r with ⟨e, _⟩ | ⟨e, _⟩
 ·rw [e]; exact h1
 ·rw [e]; exact h2
end
end Go.Vx
namespace Go.Vx
open Go.Proofs Classical
section
variable {μ : Mem}
theorem Gl.ownR {x : Gl} {h : Mem} {cs : List Value} (k : Own x.d h cs) : ∃ p : Gl.P, cs = x.cs p ∧ ∃ g1 g2, Parts h g1 g2 ∧ OwnV (.sl 4 (x.terms.map Tm.d)) g1 (.slice p.1.1 x.terms.length p.1.2) ∧ OwnV (.sl 4 (x.goals.map Gl.d)) g2 (.slice p.2.1 x.goals.length p.2.2) := by
 rw [Gl.d_eq] at k
 obtain ⟨a0, t0, h0, r0, rfl, q0, o0, k⟩ := k
 obtain ⟨rfl, rfl⟩ := o0
 have hv_ := q0.eq (Parts.nil_left _)
 obtain rfl := hv_
 obtain ⟨a1, t1, h1, r1, rfl, q1, o1, k⟩ := k
 obtain ⟨rfl, rfl⟩ := o1
 have hv_ := q1.eq (Parts.nil_left _)
 obtain rfl := hv_
 obtain ⟨a2, t2, h2, r2, rfl, q2, o2, k⟩ := k
 have hv_ := one_of (Own.len o2)
 obtain ⟨v2, rfl⟩ := hv_
 have hv_ := Own.sl o2
 obtain ⟨b2, c2, rfl⟩ := hv_
 rw [List.length_map] at o2
 obtain ⟨a3, t3, h3, r3, rfl, q3, o3, k⟩ := k
 have hv_ := one_of (Own.len o3)
 obtain ⟨v3, rfl⟩ := hv_
 have hv_ := Own.sl o3
 obtain ⟨b3, c3, rfl⟩ := hv_
 rw [List.length_map] at o3
 obtain ⟨rfl, rfl⟩ := k
 have hv_ := q3.eq (Parts.nil_right _)
 obtain rfl := hv_
 exact ⟨((b2, c2), (b3, c3)), by simp [Gl.cs], ⟨_, _, q2, o2, o3⟩⟩
theorem Gl.mk_eq (x : Gl) (k : Int) : x.d.mk k = (.st [.i (k), .s (mtext (k + 1)), .sl 4 (D.mks (x.terms.map Tm.d) (k + 1 + 1)).1, .sl 4 (D.mks (x.goals.map Gl.d) ((D.mks (x.terms.map Tm.d) (k + 1 + 1)).2)).1], (D.mks (x.goals.map Gl.d) ((D.mks (x.terms.map Tm.d) (k + 1 + 1)).2)).2) := by
 rw [Gl.d_eq]
 simp only [D.mk, D.mks]
theorem Gl.cnt_eq (x : Gl) : x.d.cnt = 2 + D.cnts (x.terms.map Tm.d) + D.cnts (x.goals.map Gl.d) := by
 rw [Gl.d_eq]
 simp only [D.cnt, D.cnts]
 omega
set_option maxHeartbeats 1000000 in
theorem markGoalS_of {l : List Gl} (he : ∀ t ∈ l, ∀ {h : Mem} {v : Value} {k : Int}, OwnV (.sl 4 (t.goals.map Gl.d)) h v → 0 ≤ k → k + D.cnts (t.goals.map Gl.d) ≤ 9223372036854775807 →
   SpecH Tryz.prog 148 [v, .int .i64 k] μ h fun r μ' h' => r = .int .i64 (D.mks (t.goals.map Gl.d) k).2 ∧ μ' = μ ∧ OwnV (.sl 4 (D.mks (t.goals.map Gl.d) k).1) h' v)
  {h : Mem} {v : Value} {k : Int} (ho : OwnV (.sl 4 (l.map Gl.d)) h v) (hk : 0 ≤ k) (hk2 : k + D.cnts (l.map Gl.d) ≤ 9223372036854775807) :
  SpecH Tryz.prog 148 [v, .int .i64 k] μ h fun r μ' h' => r = .int .i64 (D.mks (l.map Gl.d) k).2 ∧ μ' = μ ∧ OwnV (.sl 4 (D.mks (l.map Gl.d) k).1) h' v := by
 obtain ⟨base, cap, e, hm, hn, ho⟩ := ho
 simp only [List.cons.injEq, and_true] at e
 subst e
 have hm' : (l.map Gl.d).length ≤ 9223372036854775807 := Nat.le_trans hm.max (by decide)
 refine SpecH.mk [] Tryz.func148 (by kernel_rfl) ?_
 rcases ho with ⟨hnil, rfl⟩ | ⟨r, flat, rest, ty, h2, rfl, hr, rfl, ho⟩
 ·rw [hnil]
  refine loop_intro (fun i : Nat => i = 0) (fun i => ⟨[(0, .val (.slice base 0 cap)), (1, .val (.int .i64 k)), (5, .val (.int .i64 i))], [], 0, μ, Mem.nil⟩) (fun i => 0 - i)
   0 rfl (fun i => ⟨rfl, rfl⟩) ⟨⟨rfl, rfl, rfl, trivial⟩, trivial, rfl, rfl⟩ ?_
  rintro i rfl
  refine ifd (fun h => by omega) (fun h => ret_plain ⟨rfl, rfl, base, cap, rfl, ⟨Nat.zero_le _, Nat.zero_le _⟩, by simp [D.mks], .inl ⟨rfl, rfl⟩⟩)
 ·generalize hxs : l.map Gl.d = xs at *
  refine loop_intro (fun p : Nat × List Value × List Value × Mem => Marking xs k rest r p.1 p.2.1 p.2.2.1 p.2.2.2)
   (fun (i, pre, tail, hh) => ⟨[(0, .val (.slice (some ⟨r, 0, none⟩) xs.length cap)), (1, .val (.int .i64 (D.mks (xs.take i) k).2)), (5, .val (.int .i64 i))], [], 0, μ, hh.set r (.cells (List.toArray (pre ++ tail)) ty (0, 0))⟩) (fun p => xs.length - p.1)
   (0, [], flat ++ rest, h2) (Marking.start hr ho) (fun (_, _, _, _) => ⟨rfl, rfl⟩) ⟨⟨rfl, rfl, rfl, trivial⟩, trivial, rfl, rfl⟩ ?_
  rintro ⟨i, pre, tail, hh⟩ M
  dsimp only at M
  have hi := M.le
  have hge := D.mks_cnt (xs.take i) k
  refine ifd (fun h => ?_) (fun h => ?_)
  ·obtain ⟨x, ht⟩ := at_some (l := l) (i := i) (by rw [← hxs] at h; simp at h; omega)
   have hx : xs[i]? = some x.d := by rw [← hxs]; simp [ht]
   have hv_ := M.next hx
   obtain ⟨c, g, m, c2, rfl, hown, hp, hmr, back⟩ := hv_
   have hv_ := Gl.ownR hown
   obtain ⟨p, rfl, ch⟩ := hv_
   have hlen := M.len hn
   have hcnt := Marking.cnt (k := k) hx
   rw [Gl.cnt_eq] at hcnt
   generalize hk0 : (D.mks (xs.take i) k).2 = k0 at *
   have hs0 := D.mks_cnt (x.terms.map Tm.d) (k0 + 1 + 1)
   have hs1 := D.mks_cnt (x.goals.map Gl.d) ((D.mks (x.terms.map Tm.d) (k0 + 1 + 1)).2)
   obtain ⟨g1, g2, q0, ch0, ch1⟩ := ch
   have q1 := Parts.nil_right g2
   have P0 := hp.symm
   have R0 := M.out
   refine ptr_intro ⟨r, 0, none⟩ rfl (by omega) (by omega) ?_
   refine sto_at (j := 0) (by simp [Addr.add_lit', hlen]) (by simp [Gl.cs]) ?_
   refine num64 (by omega) (by omega) ?_
   refine call_gives (markText_spec _ (by omega)) ?_
   refine ptr_intro ⟨r, 0, none⟩ rfl (by omega) (by omega) ?_
   refine sto_at (j := 1) (by simp [Addr.add_lit', hlen]) (by simp [Gl.cs]) ?_
   refine num64 (by omega) (by omega) ?_
   refine ptr_intro ⟨r, 0, none⟩ rfl (by omega) (by omega) ?_
   refine own_at (j := 2) (by simp [Addr.add_lit', hlen]) rfl ?_
   have hv_ := mark_step R0 P0 q0
   obtain ⟨mm0, st0⟩ := hv_
   refine call_own (SpecH.frame (st0 _).1 (markTermS_spec ch0 (by omega) (by omega))) fun v0 μ0 H0 hle0 hap0 hR0 => ?_
   obtain ⟨y0, ⟨rfl, eμ0, oo0⟩, pp0⟩ := hR0
   subst eμ0
   have hv_ := (st0 _).2 _ _ pp0
   obtain ⟨M1, hh1, rfl, R1, n0, ap0, mj0, P1⟩ := hv_
   refine ptr_intro ⟨r, 0, none⟩ rfl (by omega) (by omega) ?_
   refine own_at (j := 3) (by simp [Addr.add_lit', hlen]) rfl ?_
   have hv_ := mark_step R1 P1 q1
   obtain ⟨mm1, st1⟩ := hv_
   refine call_own (SpecH.frame (st1 _).1 (he x (mem_at ht) ch1 (by omega) (by omega))) fun v1 μ1 H1 hle1 hap1 hR1 => ?_
   obtain ⟨y1, ⟨rfl, eμ1, oo1⟩, pp1⟩ := hR1
   subst eμ1
   have hv_ := (st1 _).2 _ _ pp1
   obtain ⟨M2, hh2, rfl, R2, n1, ap1, mj1, P2⟩ := hv_
   have e1 := P2.eq (Parts.nil_right _)
   subst e1
   have hv_ := mj1.assoc mj0
   obtain ⟨gg, u1, u2⟩ := hv_
   have e2 := u2.is_join
   subst e2
   have PP := u1.symm
   have hmk := D.mks_take hx k
   have hmk2 := Gl.mk_eq x k0
   rw [hk0] at hmk
   refine num64 (by omega) (by omega) ⟨(i + 1, pre ++ [.int .i64 (k0), .string (mtext (k0 + 1)), .slice p.1.1 x.terms.length p.1.2, .slice p.2.1 x.goals.length p.2.2], c2 ++ rest, Mem.join gg m), back _ _ u2.apart (u1.none_of n1 n0) ?_, by dsimp only; omega, ⟨⟨rfl, ?_, rfl, trivial⟩, trivial, rfl, ?_⟩⟩
   ·rw [hmk2]
    exact OwnS.int (OwnS.str (OwnS.cons (c1 := [_]) PP oo0 (OwnS.last oo1)))
   ·rw [hmk, hmk2]
    rfl
   ·simp [Gl.cs]
  ·have hi' : i = xs.length := by omega
   subst hi'
   obtain ⟨rfl, o1⟩ := M.last
   refine ret_plain ⟨by rw [List.take_length], rfl, some ⟨r, 0, none⟩, cap, by rw [D.mks_length], by rw [D.mks_length]; exact hm, D.mks_size k hn, .inr ⟨r, pre, tail, ty, hh, rfl, M.out, rfl, o1⟩⟩
theorem markGoalS_spec {l : List Gl} {h : Mem} {v : Value} {k : Int} (ho : OwnV (.sl 4 (l.map Gl.d)) h v) (hk : 0 ≤ k) (hk2 : k + D.cnts (l.map Gl.d) ≤ 9223372036854775807) :
  SpecH Tryz.prog 148 [v, .int .i64 k] μ h fun r μ' h' => r = .int .i64 (D.mks (l.map Gl.d) k).2 ∧ μ' = μ ∧ OwnV (.sl 4 (D.mks (l.map Gl.d) k).1) h' v :=
 Gl.ind (q := fun t => ∀ {h : Mem} {v : Value} {k : Int}, OwnV (.sl 4 (t.goals.map Gl.d)) h v → 0 ≤ k → k + D.cnts (t.goals.map Gl.d) ≤ 9223372036854775807 →
   SpecH Tryz.prog 148 [v, .int .i64 k] μ h fun r μ' h' => r = .int .i64 (D.mks (t.goals.map Gl.d) k).2 ∧ μ' = μ ∧ OwnV (.sl 4 (D.mks (t.goals.map Gl.d) k).1) h' v)
  (fun _ ih _ _ _ => markGoalS_of fun t ht _ _ _ => ih t ht) (.mk 0 ⟨#[]⟩ [] l) ho hk hk2
theorem Gl.mt_eq (x : Gl) (k : Int) : x.d.mt k = (.st [.i x.kind, .s x.name, .sl 4 (D.mks (x.terms.map Tm.d) (k)).1, .sl 4 (D.mks (x.goals.map Gl.d) ((D.mks (x.terms.map Tm.d) (k)).2)).1], (D.mks (x.goals.map Gl.d) ((D.mks (x.terms.map Tm.d) (k)).2)).2) := by
 rw [Gl.d_eq]
 simp only [D.mt, D.mts]
end
end Go.Vx
namespace Go.Vx
open Go.Proofs Classical
section
variable {μ : Mem}
theorem Rl.ownR {x : Rl} {h : Mem} {cs : List Value} (k : Own x.d h cs) : ∃ p : Rl.P, cs = x.cs p ∧ ∃ g1 g2, Parts h g1 g2 ∧ OwnV (.sl 4 (x.body.terms.map Tm.d)) g1 (.slice p.1.1 x.body.terms.length p.1.2) ∧ OwnV (.sl 4 (x.body.goals.map Gl.d)) g2 (.slice p.2.1 x.body.goals.length p.2.2) := by
 rw [Rl.d_eq] at k
 obtain ⟨a0, t0, h0, r0, rfl, q0, o0, k⟩ := k
 obtain ⟨rfl, rfl⟩ := o0
 have hv_ := q0.eq (Parts.nil_left _)
 obtain rfl := hv_
 obtain ⟨a1, t1, h1, r1, rfl, q1, o1, k⟩ := k
 obtain ⟨rfl, rfl⟩ := o1
 have hv_ := q1.eq (Parts.nil_left _)
 obtain rfl := hv_
 obtain ⟨a2, t2, h2, r2, rfl, q2, o2, k⟩ := k
 obtain ⟨rfl, rfl⟩ := o2
 have hv_ := q2.eq (Parts.nil_left _)
 obtain rfl := hv_
 obtain ⟨a3, t3, h3, r3, rfl, q3, o3, k⟩ := k
 have hv_ := Gl.ownR o3
 obtain ⟨p3, rfl, ch3⟩ := hv_
 obtain ⟨rfl, rfl⟩ := k
 have hv_ := q3.eq (Parts.nil_right _)
 obtain rfl := hv_
 exact ⟨p3, by simp [Rl.cs, Gl.cs], ch3⟩
theorem Rl.mk_eq (x : Rl) (k : Int) : x.d.mk k = (.st [.s (mtext (k)), .i (k + 1), .i (k + 1 + 1), .st [.i (k + 1 + 1 + 1), .s (mtext (k + 1 + 1 + 1 + 1)), .sl 4 (D.mks (x.body.terms.map Tm.d) (k + 1 + 1 + 1 + 1 + 1)).1, .sl 4 (D.mks (x.body.goals.map Gl.d) ((D.mks (x.body.terms.map Tm.d) (k + 1 + 1 + 1 + 1 + 1)).2)).1]], (D.mks (x.body.goals.map Gl.d) ((D.mks (x.body.terms.map Tm.d) (k + 1 + 1 + 1 + 1 + 1)).2)).2) := by
 rw [Rl.d_eq]
 simp only [D.mk, D.mks, Gl.mk_eq]
theorem Rl.cnt_eq (x : Rl) : x.d.cnt = 5 + D.cnts (x.body.terms.map Tm.d) + D.cnts (x.body.goals.map Gl.d) := by
 rw [Rl.d_eq]
 simp only [D.cnt, D.cnts, Gl.cnt_eq]
 omega
set_option maxHeartbeats 1000000 in
theorem markRelS_spec {l : List Rl} {h : Mem} {v : Value} {k : Int} (ho : OwnV (.sl 7 (l.map Rl.d)) h v) (hk : 0 ≤ k) (hk2 : k + D.cnts (l.map Rl.d) ≤ 9223372036854775807) :
  SpecH Tryz.prog 83 [v, .int .i64 k] μ h fun r μ' h' => r = .int .i64 (D.mks (l.map Rl.d) k).2 ∧ μ' = μ ∧ OwnV (.sl 7 (D.mks (l.map Rl.d) k).1) h' v := by
 obtain ⟨base, cap, e, hm, hn, ho⟩ := ho
 simp only [List.cons.injEq, and_true] at e
 subst e
 have hm' : (l.map Rl.d).length ≤ 9223372036854775807 := Nat.le_trans hm.max (by decide)
 refine SpecH.mk [] Tryz.func83 (by kernel_rfl) ?_
 rcases ho with ⟨hnil, rfl⟩ | ⟨r, flat, rest, ty, h2, rfl, hr, rfl, ho⟩
 ·rw [hnil]
  refine loop_intro (fun i : Nat => i = 0) (fun i => ⟨[(0, .val (.slice base 0 cap)), (1, .val (.int .i64 k)), (5, .val (.int .i64 i))], [], 0, μ, Mem.nil⟩) (fun i => 0 - i)
   0 rfl (fun i => ⟨rfl, rfl⟩) ⟨⟨rfl, rfl, rfl, trivial⟩, trivial, rfl, rfl⟩ ?_
  rintro i rfl
  refine ifd (fun h => by omega) (fun h => ret_plain ⟨rfl, rfl, base, cap, rfl, ⟨Nat.zero_le _, Nat.zero_le _⟩, by simp [D.mks], .inl ⟨rfl, rfl⟩⟩)
 ·generalize hxs : l.map Rl.d = xs at *
  refine loop_intro (fun p : Nat × List Value × List Value × Mem => Marking xs k rest r p.1 p.2.1 p.2.2.1 p.2.2.2)
   (fun (i, pre, tail, hh) => ⟨[(0, .val (.slice (some ⟨r, 0, none⟩) xs.length cap)), (1, .val (.int .i64 (D.mks (xs.take i) k).2)), (5, .val (.int .i64 i))], [], 0, μ, hh.set r (.cells (List.toArray (pre ++ tail)) ty (0, 0))⟩) (fun p => xs.length - p.1)
   (0, [], flat ++ rest, h2) (Marking.start hr ho) (fun (_, _, _, _) => ⟨rfl, rfl⟩) ⟨⟨rfl, rfl, rfl, trivial⟩, trivial, rfl, rfl⟩ ?_
  rintro ⟨i, pre, tail, hh⟩ M
  dsimp only at M
  have hi := M.le
  have hge := D.mks_cnt (xs.take i) k
  refine ifd (fun h => ?_) (fun h => ?_)
  ·obtain ⟨x, ht⟩ := at_some (l := l) (i := i) (by rw [← hxs] at h; simp at h; omega)
   have hx : xs[i]? = some x.d := by rw [← hxs]; simp [ht]
   have hv_ := M.next hx
   obtain ⟨c, g, m, c2, rfl, hown, hp, hmr, back⟩ := hv_
   have hv_ := Rl.ownR hown
   obtain ⟨p, rfl, ch⟩ := hv_
   have hlen := M.len hn
   have hcnt := Marking.cnt (k := k) hx
   rw [Rl.cnt_eq] at hcnt
   generalize hk0 : (D.mks (xs.take i) k).2 = k0 at *
   have hs0 := D.mks_cnt (x.body.terms.map Tm.d) (k0 + 1 + 1 + 1 + 1 + 1)
   have hs1 := D.mks_cnt (x.body.goals.map Gl.d) ((D.mks (x.body.terms.map Tm.d) (k0 + 1 + 1 + 1 + 1 + 1)).2)
   obtain ⟨g1, g2, q0, ch0, ch1⟩ := ch
   have q1 := Parts.nil_right g2
   have P0 := hp.symm
   have R0 := M.out
   refine call_gives (markText_spec _ (by omega)) ?_
   refine ptr_intro ⟨r, 0, none⟩ rfl (by omega) (by omega) ?_
   refine sto_at (j := 0) (by simp [Addr.add_lit', hlen]) (by simp [Rl.cs]) ?_
   refine num64 (by omega) (by omega) ?_
   refine ptr_intro ⟨r, 0, none⟩ rfl (by omega) (by omega) ?_
   refine sto_at (j := 1) (by simp [Addr.add_lit', hlen]) (by simp [Rl.cs]) ?_
   refine num64 (by omega) (by omega) ?_
   refine ptr_intro ⟨r, 0, none⟩ rfl (by omega) (by omega) ?_
   refine sto_at (j := 2) (by simp [Addr.add_lit', hlen]) (by simp [Rl.cs]) ?_
   refine num64 (by omega) (by omega) ?_
   refine ptr_intro ⟨r, 0, none⟩ rfl (by omega) (by omega) ?_
   refine sto_at (j := 3) (by simp [Addr.add_lit', hlen]) (by simp [Rl.cs]) ?_
   refine num64 (by omega) (by omega) ?_
   refine call_gives (markText_spec _ (by omega)) ?_
   refine ptr_intro ⟨r, 0, none⟩ rfl (by omega) (by omega) ?_
   refine sto_at (j := 4) (by simp [Addr.add_lit', hlen]) (by simp [Rl.cs]) ?_
   refine num64 (by omega) (by omega) ?_
   refine ptr_intro ⟨r, 0, none⟩ rfl (by omega) (by omega) ?_
   refine own_at (j := 5) (by simp [Addr.add_lit', hlen]) rfl ?_
   have hv_ := mark_step R0 P0 q0
   obtain ⟨mm0, st0⟩ := hv_
   refine call_own (SpecH.frame (st0 _).1 (markTermS_spec ch0 (by omega) (by omega))) fun v0 μ0 H0 hle0 hap0 hR0 => ?_
   obtain ⟨y0, ⟨rfl, eμ0, oo0⟩, pp0⟩ := hR0
   subst eμ0
   have hv_ := (st0 _).2 _ _ pp0
   obtain ⟨M1, hh1, rfl, R1, n0, ap0, mj0, P1⟩ := hv_
   refine ptr_intro ⟨r, 0, none⟩ rfl (by omega) (by omega) ?_
   refine own_at (j := 6) (by simp [Addr.add_lit', hlen]) rfl ?_
   have hv_ := mark_step R1 P1 q1
   obtain ⟨mm1, st1⟩ := hv_
   refine call_own (SpecH.frame (st1 _).1 (markGoalS_spec ch1 (by omega) (by omega))) fun v1 μ1 H1 hle1 hap1 hR1 => ?_
   obtain ⟨y1, ⟨rfl, eμ1, oo1⟩, pp1⟩ := hR1
   subst eμ1
   have hv_ := (st1 _).2 _ _ pp1
   obtain ⟨M2, hh2, rfl, R2, n1, ap1, mj1, P2⟩ := hv_
   have e1 := P2.eq (Parts.nil_right _)
   subst e1
   have hv_ := mj1.assoc mj0
   obtain ⟨gg, u1, u2⟩ := hv_
   have e2 := u2.is_join
   subst e2
   have PP := u1.symm
   have hmk := D.mks_take hx k
   have hmk2 := Rl.mk_eq x k0
   rw [hk0] at hmk
   refine num64 (by omega) (by omega) ⟨(i + 1, pre ++ [.string (mtext (k0)), .int .i64 (k0 + 1), .int .i64 (k0 + 1 + 1), .int .i64 (k0 + 1 + 1 + 1), .string (mtext (k0 + 1 + 1 + 1 + 1)), .slice p.1.1 x.body.terms.length p.1.2, .slice p.2.1 x.body.goals.length p.2.2], c2 ++ rest, Mem.join gg m), back _ _ u2.apart (u1.none_of n1 n0) ?_, by dsimp only; omega, ⟨⟨rfl, ?_, rfl, trivial⟩, trivial, rfl, ?_⟩⟩
   ·rw [hmk2]
    exact OwnS.str (OwnS.int (OwnS.int (OwnS.last (OwnS.int (OwnS.str (OwnS.cons (c1 := [_]) PP oo0 (OwnS.last oo1)))))))
   ·rw [hmk, hmk2]
    rfl
   ·simp [Rl.cs]
  ·have hi' : i = xs.length := by omega
   subst hi'
   obtain ⟨rfl, o1⟩ := M.last
   refine ret_plain ⟨by rw [List.take_length], rfl, some ⟨r, 0, none⟩, cap, by rw [D.mks_length], by rw [D.mks_length]; exact hm, D.mks_size k hn, .inr ⟨r, pre, tail, ty, hh, rfl, M.out, rfl, o1⟩⟩
end
end Go.Vx
namespace Go.Vx
open Go.Proofs Classical
section
variable {μ : Mem}
theorem Pg.ownR {x : Pg} {h : Mem} {cs : List Value} (k : Own x.d h cs) : ∃ p : Pg.P, cs = x.cs p ∧ OwnV (.sl 7 (x.rels.map Rl.d)) h (.slice p.1 x.rels.length p.2) := by
 rw [Pg.d_eq] at k
 obtain ⟨a0, t0, h0, r0, rfl, q0, o0, k⟩ := k
 have hv_ := one_of (Own.len o0)
 obtain ⟨v0, rfl⟩ := hv_
 have hv_ := Own.sl o0
 obtain ⟨b0, c0, rfl⟩ := hv_
 rw [List.length_map] at o0
 obtain ⟨rfl, rfl⟩ := k
 have hv_ := q0.eq (Parts.nil_right _)
 obtain rfl := hv_
 exact ⟨(b0, c0), by simp [Pg.cs], o0⟩
theorem Pg.mk_eq (x : Pg) (k : Int) : x.d.mk k = (.st [.sl 7 (D.mks (x.rels.map Rl.d) (k)).1], (D.mks (x.rels.map Rl.d) (k)).2) := by
 rw [Pg.d_eq]
 simp only [D.mk, D.mks]
theorem Pg.cnt_eq (x : Pg) : x.d.cnt = 0 + D.cnts (x.rels.map Rl.d) := by
 rw [Pg.d_eq]
 simp only [D.cnt, D.cnts]
 omega
theorem Pg.mt_eq (x : Pg) (k : Int) : x.d.mt k = (.st [.sl 7 (D.mks (x.rels.map Rl.d) (k)).1], (D.mks (x.rels.map Rl.d) (k)).2) := by
 rw [Pg.d_eq]
 simp only [D.mt, D.mts]
theorem markProgram_spec (x : Pg) {h : Mem} {v : Value} {k : Int} (ho : OwnV x.d h v) (hk : 0 ≤ k) (hk2 : k + (D.cnts (x.rels.map Rl.d)) ≤ 9223372036854775807) :
  SpecH Tryz.prog 23 [v, .int .i64 k] μ h fun r μ' h' => r = .int .i64 (x.d.mt k).2 ∧ μ' = μ ∧ OwnV (x.d.mt k).1 h' v := by
 have ho2 : ∃ cs, v = .agg (List.toArray cs) ∧ Own x.d h cs := by rw [Pg.d_eq] at ho ⊢; exact ho
 obtain ⟨cs, rfl, ho2⟩ := ho2
 have hv_ := Pg.ownR ho2
 obtain ⟨p, rfl, ch⟩ := hv_
 rw [Pg.mt_eq]
 have hs0 := D.mks_cnt (x.rels.map Rl.d) (k)
 refine SpecH.mk [] Tryz.func23 (by kernel_rfl) ?_
 intro r
 refine call_own (markRelS_spec ch (by omega) (by omega)) fun v μ' h' hle hap hR => ?_
 obtain ⟨rfl, e, oo0⟩ := hR
 subst e
 exact ret_plain ⟨rfl, rfl, _, rfl, OwnS.last oo0⟩
end
end Go.Vx
namespace Go.Vx
open Go.Proofs Classical
section
variable {μ : Mem}
theorem Fc.ownR {x : Fc} {h : Mem} {cs : List Value} (k : Own x.d h cs) : ∃ p : Fc.P, cs = x.cs p ∧ OwnV (.sl 4 (x.args.map Tm.d)) h (.slice p.1 x.args.length p.2) := by
 rw [Fc.d_eq] at k
 obtain ⟨a0, t0, h0, r0, rfl, q0, o0, k⟩ := k
 obtain ⟨rfl, rfl⟩ := o0
 have hv_ := q0.eq (Parts.nil_left _)
 obtain rfl := hv_
 obtain ⟨a1, t1, h1, r1, rfl, q1, o1, k⟩ := k
 have hv_ := one_of (Own.len o1)
 obtain ⟨v1, rfl⟩ := hv_
 have hv_ := Own.sl o1
 obtain ⟨b1, c1, rfl⟩ := hv_
 rw [List.length_map] at o1
 obtain ⟨rfl, rfl⟩ := k
 have hv_ := q1.eq (Parts.nil_right _)
 obtain rfl := hv_
 exact ⟨(b1, c1), by simp [Fc.cs], o1⟩
theorem szFactS_of {l : List Fc} (he : ∀ t ∈ l, ∀ {v : Value} {left : Int}, RepV μ t.d v → 0 ≤ left → left ≤ 1048576 → t.d.wd → Gives Tryz.prog 41 [v, .int .i64 left] μ (.int .i64 (szR left t.d.sz)))
  {base : Option Addr} {cap : Nat} {left : Int} (hsl : Sl μ 2 base l.length (l.map Fc.d)) (hl : 0 ≤ left) (hl2 : left ≤ 1048576) (hw : D.wds (l.map Fc.d)) :
  Gives Tryz.prog 29 [.slice base l.length cap, .int .i64 left] μ (.int .i64 (szR left (l.length + D.szs (l.map Fc.d)))) := by
 have hn := maxLen_le hsl.max
 refine Spec.mk Tryz.func29 (by kernel_rfl) ?_
 refine num64 (by omega) (by omega) (ifd (fun h => ret_gives ?_ rfl) (fun h => ?_))
 ·rw [szR_neg (by omega)]
 refine loop_intro (fun i : Nat => i ≤ l.length ∧ (D.szs ((l.map Fc.d).take i) : Int) ≤ left - l.length) (fun i => ⟨[(0, .val (.slice base l.length cap)), (1, .val (.int .i64 (left - l.length - D.szs ((l.map Fc.d).take i)))), (5, .val (.int .i64 i))], [], 0, μ, Mem.nil⟩) (fun i => l.length - i)
  0 ⟨by omega, by simp [D.szs]; omega⟩ (fun i => ⟨rfl, rfl⟩) ⟨⟨rfl, by show some (SV.val (.int .i64 _)) = some (SV.val (.int .i64 _)); congr 3; simp [D.szs], rfl, trivial⟩, trivial, rfl, rfl⟩ ?_
 rintro i ⟨hi, hz⟩
 refine ifd (fun h => ?_) (fun h => ?_)
 ·obtain ⟨t, ht⟩ := at_some (l := l) (i := i) (by omega)
  have hx := at_map (f := Fc.d) ht
  have hs := D.szs_take hx
  have hs' := D.szs_le (l.map Fc.d) (i + 1)
  obtain ⟨ad, p, hel, hr⟩ := Fc.elem hsl ht
  refine elem_intro hel (call_gives (he t (mem_at ht) hr (by omega) (by omega) (D.wds_mem hw _ (mem_at hx))) ?_)
  refine ifd (fun h => ret_gives ?_ rfl) (fun h => ?_)
  ·have := szR_lt h
   rw [szR_neg (by omega)]
  ·have := szR_ge h
   refine num64 (by omega) (by omega) ⟨i + 1, ⟨by omega, by omega⟩, by omega, ⟨⟨rfl, ?_, rfl, trivial⟩, trivial, rfl, rfl⟩⟩
   rw [szR_pos this, hs]
   show some (SV.val (.int .i64 _)) = some (SV.val (.int .i64 _))
   congr 3; omega
 ·obtain rfl : i = l.length := by omega
  rw [List.take_of_length_le (by simp)] at hz ⊢
  refine ret_gives ?_ rfl
  rw [szR_pos (by omega)]; congr 1; omega
theorem szFactS_spec {l : List Fc} {base : Option Addr} {cap : Nat} {left : Int} (hsl : Sl μ 2 base l.length (l.map Fc.d)) (hl : 0 ≤ left) (hl2 : left ≤ 1048576) (hw : D.wds (l.map Fc.d)) :
  Gives Tryz.prog 29 [.slice base l.length cap, .int .i64 left] μ (.int .i64 (szR left (l.length + D.szs (l.map Fc.d)))) := szFactS_of (fun t _ _ _ => szFact_spec t) hsl hl hl2 hw
theorem toFactS_of {l : List Fc} (he : ∀ t ∈ l, ∀ {μ : Mem} {v : Value}, RepV μ t.d v → t.d.sz ≤ 1048576 → Spec Tryz.prog 43 [v] μ fun v μ' => Fresh μ μ' t.d v)
  {base : Option Addr} {cap : Nat} (hsl : Sl μ 2 base l.length (l.map Fc.d)) (hb : l.length + D.szs (l.map Fc.d) ≤ 1048576) :
  Spec Tryz.prog 32 [.slice base l.length cap] μ fun v μ' => Fresh μ μ' (.sl 2 (l.map Fc.d)) v := by
 refine Spec.mk Tryz.func32 (by kernel_rfl) ?_
 refine make_intro l.length rfl rfl (by simp only; omega) (Nat.le_trans (m := 1048576) (by omega) (by decide)) ?_
 intro r
 refine loop_intro (fun p : Nat × List Value × Mem => μ.Le p.2.2 ∧ ∃ g, Filled 2 (.agg #[.string ⟨#[]⟩, .slice none 0 0]) μ p.2.2 (l.map Fc.d) p.1 p.2.1 g)
  (fun (i, xs, μ') => ⟨[(0, .val (.slice base l.length cap)), (3, .row 0 (some r) l.length l.length), (4, .val (.int .i64 i))], [(0, some (.row (some r) l.length 67 2 xs))], 1, μ', Mem.nil⟩) (fun p => l.length - p.1)
  (0, List.replicate l.length (.agg #[.string ⟨#[]⟩, .slice none 0 0]), μ) ⟨Mem.Le.refl μ, _, Filled.start (by simp)⟩ (fun (_, _, _) => ⟨rfl, rfl⟩) ⟨⟨rfl, rfl, rfl, trivial⟩, ⟨rfl, trivial⟩, rfl, rfl⟩ ?_
 rintro ⟨i, xs, μ'⟩ ⟨hle, g, hf⟩
 dsimp only at hle hf
 have hi := hf.le
 have hlen := hf.len
 rw [List.length_map] at hi hlen
 refine ifd (fun h => ?_) (fun h => ?_)
 ·obtain ⟨t, ht⟩ := at_some (l := l) (i := i) (by omega)
  have hx := at_map (f := Fc.d) ht
  have hs := D.szs_mem hx
  obtain ⟨ad, p, hel, hr⟩ := Fc.elem (hsl.mono hle) ht
  refine elem_intro hel (call_plain (he t (mem_at ht) hr (by omega)) fun v μ'' hle2 hfr => ?_)
  obtain ⟨g', hf'⟩ := hf.step hx (Fc.d_n t) hfr hle2
  obtain ⟨p2, rfl⟩ := Fc.invV hfr.rep
  refine rel_intro i rfl (by omega) ?_
  refine get_intro _ (hf.rest i (by omega) (by simpa using h)) ?_
  refine num64 (by omega) (by omega) ⟨(i + 1, _, μ''), ⟨hle.trans hle2, g', hf'⟩, by dsimp only; omega, ⟨⟨rfl, rfl, rfl, trivial⟩, ⟨rfl, trivial⟩, rfl, rfl⟩⟩
 ·obtain rfl : i = l.length := by omega
  refine ret_frz [0] fun μ2 hle2 hno hrow => .inl ?_
  have := Fresh.ofRow (hf.all (by simp)) hf.sub hf.new hle hle2 hno hrow (Nat.le_trans (m := 1048576) (by omega) (by decide))
  rw [hlen] at this
  exact this
theorem toFactS_spec {l : List Fc} {base : Option Addr} {cap : Nat} (hsl : Sl μ 2 base l.length (l.map Fc.d)) (hb : l.length + D.szs (l.map Fc.d) ≤ 1048576) :
  Spec Tryz.prog 32 [.slice base l.length cap] μ fun v μ' => Fresh μ μ' (.sl 2 (l.map Fc.d)) v := toFactS_of (fun t _ _ _ => toFact_spec t) hsl hb
theorem Fc.mk_eq (x : Fc) (k : Int) : x.d.mk k = (.st [.s (mtext (k)), .sl 4 (D.mks (x.args.map Tm.d) (k + 1)).1], (D.mks (x.args.map Tm.d) (k + 1)).2) := by
 rw [Fc.d_eq]
 simp only [D.mk, D.mks]
theorem Fc.cnt_eq (x : Fc) : x.d.cnt = 1 + D.cnts (x.args.map Tm.d) := by
 rw [Fc.d_eq]
 simp only [D.cnt, D.cnts]
 omega
set_option maxHeartbeats 1000000 in
theorem markFactS_spec {l : List Fc} {h : Mem} {v : Value} {k : Int} (ho : OwnV (.sl 2 (l.map Fc.d)) h v) (hk : 0 ≤ k) (hk2 : k + D.cnts (l.map Fc.d) ≤ 9223372036854775807) :
  SpecH Tryz.prog 39 [v, .int .i64 k] μ h fun r μ' h' => r = .int .i64 (D.mks (l.map Fc.d) k).2 ∧ μ' = μ ∧ OwnV (.sl 2 (D.mks (l.map Fc.d) k).1) h' v := by
 obtain ⟨base, cap, e, hm, hn, ho⟩ := ho
 simp only [List.cons.injEq, and_true] at e
 subst e
 have hm' : (l.map Fc.d).length ≤ 9223372036854775807 := Nat.le_trans hm.max (by decide)
 refine SpecH.mk [] Tryz.func39 (by kernel_rfl) ?_
 rcases ho with ⟨hnil, rfl⟩ | ⟨r, flat, rest, ty, h2, rfl, hr, rfl, ho⟩
 ·rw [hnil]
  refine loop_intro (fun i : Nat => i = 0) (fun i => ⟨[(0, .val (.slice base 0 cap)), (1, .val (.int .i64 k)), (5, .val (.int .i64 i))], [], 0, μ, Mem.nil⟩) (fun i => 0 - i)
   0 rfl (fun i => ⟨rfl, rfl⟩) ⟨⟨rfl, rfl, rfl, trivial⟩, trivial, rfl, rfl⟩ ?_
  rintro i rfl
  refine ifd (fun h => by omega) (fun h => ret_plain ⟨rfl, rfl, base, cap, rfl, ⟨Nat.zero_le _, Nat.zero_le _⟩, by simp [D.mks], .inl ⟨rfl, rfl⟩⟩)
 ·generalize hxs : l.map Fc.d = xs at *
  refine loop_intro (fun p : Nat × List Value × List Value × Mem => Marking xs k rest r p.1 p.2.1 p.2.2.1 p.2.2.2)
   (fun (i, pre, tail, hh) => ⟨[(0, .val (.slice (some ⟨r, 0, none⟩) xs.length cap)), (1, .val (.int .i64 (D.mks (xs.take i) k).2)), (5, .val (.int .i64 i))], [], 0, μ, hh.set r (.cells (List.toArray (pre ++ tail)) ty (0, 0))⟩) (fun p => xs.length - p.1)
   (0, [], flat ++ rest, h2) (Marking.start hr ho) (fun (_, _, _, _) => ⟨rfl, rfl⟩) ⟨⟨rfl, rfl, rfl, trivial⟩, trivial, rfl, rfl⟩ ?_
  rintro ⟨i, pre, tail, hh⟩ M
  dsimp only at M
  have hi := M.le
  have hge := D.mks_cnt (xs.take i) k
  refine ifd (fun h => ?_) (fun h => ?_)
  ·obtain ⟨x, ht⟩ := at_some (l := l) (i := i) (by rw [← hxs] at h; simp at h; omega)
   have hx : xs[i]? = some x.d := by rw [← hxs]; simp [ht]
   have hv_ := M.next hx
   obtain ⟨c, g, m, c2, rfl, hown, hp, hmr, back⟩ := hv_
   have hv_ := Fc.ownR hown
   obtain ⟨p, rfl, ch⟩ := hv_
   have hlen := M.len hn
   have hcnt := Marking.cnt (k := k) hx
   rw [Fc.cnt_eq] at hcnt
   generalize hk0 : (D.mks (xs.take i) k).2 = k0 at *
   have hs0 := D.mks_cnt (x.args.map Tm.d) (k0 + 1)
   have ch0 := ch
   have q0 := Parts.nil_right g
   have P0 := hp.symm
   have R0 := M.out
   refine call_gives (markText_spec _ (by omega)) ?_
   refine ptr_intro ⟨r, 0, none⟩ rfl (by omega) (by omega) ?_
   refine sto_at (j := 0) (by simp [Addr.add_lit', hlen]) (by simp [Fc.cs]) ?_
   refine num64 (by omega) (by omega) ?_
   refine ptr_intro ⟨r, 0, none⟩ rfl (by omega) (by omega) ?_
   refine own_at (j := 1) (by simp [Addr.add_lit', hlen]) rfl ?_
   have hv_ := mark_step R0 P0 q0
   obtain ⟨mm0, st0⟩ := hv_
   refine call_own (SpecH.frame (st0 _).1 (markTermS_spec ch0 (by omega) (by omega))) fun v0 μ0 H0 hle0 hap0 hR0 => ?_
   obtain ⟨y0, ⟨rfl, eμ0, oo0⟩, pp0⟩ := hR0
   subst eμ0
   have hv_ := (st0 _).2 _ _ pp0
   obtain ⟨M1, hh1, rfl, R1, n0, ap0, mj0, P1⟩ := hv_
   have e1 := P1.eq (Parts.nil_right _)
   subst e1
   have e2 := mj0.is_join
   subst e2
   have hmk := D.mks_take hx k
   have hmk2 := Fc.mk_eq x k0
   rw [hk0] at hmk
   refine num64 (by omega) (by omega) ⟨(i + 1, pre ++ [.string (mtext (k0)), .slice p.1 x.args.length p.2], c2 ++ rest, Mem.join y0 m), back _ _ ap0 n0 ?_, by dsimp only; omega, ⟨⟨rfl, ?_, rfl, trivial⟩, trivial, rfl, ?_⟩⟩
   ·rw [hmk2]
    exact OwnS.str (OwnS.last oo0)
   ·rw [hmk, hmk2]
    rfl
   ·simp [Fc.cs]
  ·have hi' : i = xs.length := by omega
   subst hi'
   obtain ⟨rfl, o1⟩ := M.last
   refine ret_plain ⟨by rw [List.take_length], rfl, some ⟨r, 0, none⟩, cap, by rw [D.mks_length], by rw [D.mks_length]; exact hm, D.mks_size k hn, .inr ⟨r, pre, tail, ty, hh, rfl, M.out, rfl, o1⟩⟩
set_option maxHeartbeats 1000000 in
theorem heldFactS_spec {l : List Fc} {v : Value} {k : Int} (ho : RepV μ (.sl 2 (D.mks (l.map Fc.d) k).1) v) (hk : 0 ≤ k) (hk2 : k + D.cnts (l.map Fc.d) ≤ 9223372036854775807) :
  Gives Tryz.prog 40 [v, .int .i64 k] μ (.int .i64 (D.mks (l.map Fc.d) k).2) := by
 have hv_ := Rep.sl ho
 obtain ⟨base, cap, rfl, hsl⟩ := hv_
 have hm' := Nat.le_trans hsl.max (show maxLen ≤ 9223372036854775807 by decide)
 rw [D.mks_length] at hm' hsl ⊢
 refine Spec.mk Tryz.func40 (by kernel_rfl) ?_
 generalize hxs : l.map Fc.d = xs at *
 refine loop_intro (fun i : Nat => i ≤ xs.length) (fun i => ⟨[(0, .val (.slice base xs.length cap)), (1, .val (.int .i64 (D.mks (xs.take i) k).2)), (5, .val (.int .i64 i))], [], 0, μ, Mem.nil⟩) (fun i => xs.length - i)
  0 (by simp) (fun i => ⟨rfl, rfl⟩) ⟨⟨rfl, rfl, rfl, trivial⟩, trivial, rfl, rfl⟩ ?_
 intro i hi
 have hge := D.mks_cnt (xs.take i) k
 refine ifd (fun h => ?_) (fun h => ?_)
 ·obtain ⟨x, ht⟩ := at_some (l := l) (i := i) (by rw [← hxs] at h; simp at h; omega)
  have hx : xs[i]? = some x.d := by rw [← hxs]; simp [ht]
  have hcnt := Marking.cnt (k := k) hx
  rw [Fc.cnt_eq] at hcnt
  have hv_ := hsl.get i _ (D.mks_get hx k)
  obtain ⟨ad, cs, hel, hcs⟩ := hv_
  have hmk := D.mks_take hx k
  generalize hk0 : (D.mks (xs.take i) k).2 = k0 at *
  have hmk2 := Fc.mk_eq x k0
  rw [hmk2] at hcs
  obtain ⟨_, _, rfl, rfl, cc0, _, rfl, hh0, rfl⟩ := hcs
  have hv_ := one_of (Rep.len _ _ hh0)
  obtain ⟨vv0, rfl⟩ := hv_
  have hv0 := hh0
  have hv_ := Rep.sl hv0
  obtain ⟨bb0, kk0, rfl, _⟩ := hv_
  have hs0 := D.mks_cnt (x.args.map Tm.d) (k0 + 1)
  refine elem_intro hel ?_
  refine call_gives (markText_spec _ (by omega)) ?_
  refine ifnd (fun h => absurd rfl h) fun _ => ?_
  refine num64 (by omega) (by omega) ?_
  refine elem_intro hel ?_
  refine call_gives (heldTermS_spec hh0 (by omega) (by omega)) ?_
  refine ifd (fun h => absurd h (by omega)) (fun _ => ?_)
  exact num64 (by omega) (by omega) ⟨i + 1, by omega, by omega, ⟨⟨rfl, by rw [hmk, hmk2]; rfl, rfl, trivial⟩, trivial, rfl, rfl⟩⟩
 ·have hi' : i = xs.length := by omega
  subst hi'
  rw [List.take_length]
  exact ret_gives rfl rfl
theorem Fc.mt_eq (x : Fc) (k : Int) : x.d.mt k = (.st [.s x.rel, .sl 4 (D.mks (x.args.map Tm.d) (k)).1], (D.mks (x.args.map Tm.d) (k)).2) := by
 rw [Fc.d_eq]
 simp only [D.mt, D.mts]
theorem markFact_spec (x : Fc) {h : Mem} {v : Value} {k : Int} (ho : OwnV x.d h v) (hk : 0 ≤ k) (hk2 : k + (D.cnts (x.args.map Tm.d)) ≤ 9223372036854775807) :
  SpecH Tryz.prog 46 [v, .int .i64 k] μ h fun r μ' h' => r = .int .i64 (x.d.mt k).2 ∧ μ' = μ ∧ OwnV (x.d.mt k).1 h' v := by
 have ho2 : ∃ cs, v = .agg (List.toArray cs) ∧ Own x.d h cs := by rw [Fc.d_eq] at ho ⊢; exact ho
 obtain ⟨cs, rfl, ho2⟩ := ho2
 have hv_ := Fc.ownR ho2
 obtain ⟨p, rfl, ch⟩ := hv_
 rw [Fc.mt_eq]
 have hs0 := D.mks_cnt (x.args.map Tm.d) (k)
 refine SpecH.mk [] Tryz.func46 (by kernel_rfl) ?_
 intro r
 refine call_own (markTermS_spec ch (by omega) (by omega)) fun v μ' h' hle hap hR => ?_
 obtain ⟨rfl, e, oo0⟩ := hR
 subst e
 exact ret_plain ⟨rfl, rfl, _, rfl, OwnS.str (OwnS.last oo0)⟩
theorem read_FactS : Reads Tryz.prog 47 fun d => ∃ l : List Fc, d = .sl 2 (l.map Fc.d) ∧ D.wds (l.map Fc.d) := fun n =>
 (reads_sl ti47.kind (cellsOf_tt ti63) (fun d h => by obtain ⟨a, rfl, _⟩ := h; exact Fc.d_n a) read_Fact n).weaken fun d h => by
  obtain ⟨xs, rfl, hx⟩ := h
  obtain ⟨l, rfl⟩ := lift_list (f := Fc.d) fun x h => by obtain ⟨t, h, _⟩ := hx x h; exact ⟨t, h⟩
  exact ⟨l, rfl, D.wds_of fun x hm => by obtain ⟨t, rfl, h⟩ := hx x hm; exact h⟩
end
end Go.Vx
namespace Go.Vx
open Go.Proofs Classical
theorem Gl.pos_eq (g : Gl) : g.Pos ↔ g.kind ≠ 10 ∧ ∀ x ∈ g.goals, x.Pos := by
 unfold Gl.Pos
 rw [Gl.all_eq]
 constructor
 ·exact fun h => ⟨h g (by simp), fun x hx y hy => h y (List.mem_cons_of_mem _ (List.mem_flatMap.2 ⟨x, hx, hy⟩))⟩
 ·rintro ⟨h1, h2⟩ x hx
  rcases List.mem_cons.1 hx with rfl | hx
  ·exact h1
  ·have hv_ := List.mem_flatMap.1 hx
   obtain ⟨y, hy, hx⟩ := hv_
   exact h2 y hy x hx
section
variable {μ : Mem}
theorem l14Only_spec : ∀ (g : Gl) {v : Value}, RepV μ g.d v → Gives Tryz.prog 249 [v, .bool false] μ (.bool (decide g.Pos)) :=
 Gl.ind fun g ih v hv => by
  have hv_ := Gl.inv hv
  obtain ⟨p, rfl, hts, hgs⟩ := hv_
  have hn := maxLen_le hgs.max
  refine Spec.mk Tryz.func249 (by kernel_rfl) ?_
  intro r
  refine loop_intro (fun i : Nat => i ≤ g.goals.length ∧ ∀ (j : Nat) x, j < i → g.goals[j]? = some x → x.Pos)
   (fun i => ⟨[(1, .val (.bool false)), (2, .loc 0 r 0), (8, .val (.slice p.2.1 g.goals.length p.2.2)), (9, .val (.int .i64 g.goals.length)), (10, .val (.int .i64 i))], [(0, some (.cells r [.val (.int .i64 g.kind), .val (.string g.name), .val (.slice p.1.1 g.terms.length p.1.2), .val (.slice p.2.1 g.goals.length p.2.2)] 87))], 1, μ, Mem.nil⟩) (fun i => g.goals.length - i)
   0 ⟨Nat.zero_le _, fun j x h => by omega⟩ (fun _ => ⟨rfl, rfl⟩) ⟨⟨rfl, rfl, rfl, rfl, rfl, trivial⟩, ⟨rfl, trivial⟩, rfl, rfl⟩ ?_
  rintro i ⟨hi, hall⟩
  refine ifd (fun hlt => ?_) (fun hlt => ?_)
  ·have hv_ := at_some (l := g.goals) (i := i) (by omega)
   obtain ⟨t, ht⟩ := hv_
   have hv_ := Gl.elem hgs ht
   obtain ⟨ad, p3, hel, hr⟩ := hv_
   refine elem_intro hel ?_
   intro r2
   refine call_gives (ih t (mem_at ht) hr) ?_
   refine ifnd (fun h => ret_gives ?_ rfl) (fun h => ?_)
   ·rw [decide_eq_false fun k => h (((Gl.pos_eq g).1 k).2 t (mem_at ht))]
   ·refine num64 (by omega) (by omega) ⟨i + 1, ⟨by omega, fun j y hj hy => ?_⟩, by omega, ⟨⟨rfl, rfl, rfl, rfl, rfl, trivial⟩, ⟨rfl, trivial⟩, rfl, rfl⟩⟩
    rcases Nat.lt_or_ge j i with h6 | h6
    ·exact hall j y h6 hy
    ·obtain rfl : j = i := by omega
     rw [ht] at hy; cases hy; exact h
  ·obtain rfl : i = g.goals.length := by omega
   have hsub : ∀ x ∈ g.goals, x.Pos := fun x hx => by
    have hv_ := List.mem_iff_getElem?.1 hx
    obtain ⟨j, hj⟩ := hv_
    exact hall j x (List.getElem?_eq_some_iff.1 hj).1 hj
   refine ifnd (fun h => ?_) (fun h => ?_)
   ·refine if_intro (fun h => nomatch h) (fun _ => ?_)
    exact ret_gives (by rw [decide_eq_true ((Gl.pos_eq g).2 ⟨h, hsub⟩)]; rfl) rfl
   ·exact ret_gives (by rw [decide_eq_false fun k => ((Gl.pos_eq g).1 k).1 h]) rfl
theorem l14All_spec {p : Pg} {v : Value} (hp : RepV μ p.d v) (hw : p.d.wd) : Spec Tryz.prog 223 [v, .bool false] μ fun r _ => r = .bool (decide p.Pos) := by
 have hv_ := Pg.inv hp
 obtain ⟨q, rfl, hrl⟩ := hv_
 refine Spec.mk Tryz.func223 (by kernel_rfl) ?_
 intro r1
 refine call_plain (spec_ProgramOk_spec hp hw) fun v1 μ1 hle1 hR => ?_
 obtain rfl := hR
 refine ifnd (fun h => ret_plain (isF fun k => h k.1)) (fun hok => ?_)
 have hn := hok.1
 refine loop_intro (fun i : Nat => i ≤ p.rels.length ∧ ∀ (j : Nat) x, j < i → p.rels[j]? = some x → x.body.Pos)
  (fun i => ⟨[(1, .val (.bool false)), (11, .val (.slice q.1 p.rels.length q.2)), (12, .val (.int .i64 p.rels.length)), (13, .val (.int .i64 i))], [], 1, μ1, Mem.nil⟩) (fun i => p.rels.length - i)
  0 ⟨Nat.zero_le _, fun j x h => by omega⟩ (fun _ => ⟨rfl, rfl⟩) ⟨⟨rfl, rfl, rfl, rfl, trivial⟩, trivial, rfl, rfl⟩ ?_
 rintro i ⟨hi, hall⟩
 refine ifd (fun hlt => ?_) (fun hlt => ?_)
 ·have hv_ := at_some (l := p.rels) (i := i) (by omega)
  obtain ⟨x, hx⟩ := hv_
  have hv_ := Rl.elemA (hrl.mono hle1) hx
  obtain ⟨ad, q2, hel, hr, hb⟩ := hv_
  have hb : RepV μ1 x.body.d (.agg (x.body.cs q2).toArray) := hb
  refine elem_intro hel ?_
  intro r2
  refine call_gives (l14Only_spec x.body hb) ?_
  refine ifnd (fun h => ret_plain (isF fun k => h (k.2 x (mem_at hx)))) (fun h => ?_)
  refine num64 (by omega) (by omega) ⟨i + 1, ⟨by omega, fun j y hj hy => ?_⟩, by omega, ⟨⟨rfl, rfl, rfl, rfl, trivial⟩, trivial, rfl, rfl⟩⟩
  rcases Nat.lt_or_ge j i with h6 | h6
  ·exact hall j y h6 hy
  ·obtain rfl : j = i := by omega
   rw [hx] at hy; cases hy; exact h
 ·obtain rfl : i = p.rels.length := by omega
  exact ret_plain (isT ⟨hok, fun x hx => by
   have hv_ := List.mem_iff_getElem?.1 hx
   obtain ⟨j, hj⟩ := hv_
   exact hall j x (List.getElem?_eq_some_iff.1 hj).1 hj⟩)
theorem spec_IsPositive_spec {p : Pg} {v : Value} (hp : RepV μ p.d v) (hw : p.d.wd) : Spec Tryz.prog 174 [v] μ fun r _ => r = .bool (decide p.Pos) := by
 have hv_ := Pg.inv hp
 obtain ⟨q, rfl, hrl⟩ := hv_
 refine Spec.mk Tryz.func174 (by kernel_rfl) ?_
 intro r1
 refine call_plain (l14All_spec hp hw) fun v1 μ1 hle1 hR => ?_
 obtain rfl := hR
 exact ret_plain rfl
theorem negative1_spec (n : Int) : Gives Tryz.prog 255 [.int .i64 n] μ (.bool (decide (n = 10))) := by
 refine Spec.mk Tryz.func255 (by kernel_rfl) ?_
 exact ret_gives rfl rfl
theorem hasKind1_spec {H : Mem} {r3 : Nat} (r : Nat) (b : Bool) {g : Gl} {v : Value} (hv : RepV μ g.d v) (hne : r3 ≠ r) (h3 : H r3 = some (.cells #[.func (.func 255) #[] #[]] 175 (0, 0))) :
  SpecH Tryz.prog 258 [v, .pointer (some ⟨r, 0, none⟩), .pointer (some ⟨r3, 0, none⟩)] μ (boolOn H r b) fun r' μ' h' => r' = .tuple #[] ∧ μ' = μ ∧ h' = boolOn H r (b || decide (g.kind = 10)) := by
 have hv_ := Gl.inv hv
 obtain ⟨p, rfl, -, -⟩ := hv_
 refine SpecH.mk [] Tryz.func258 (by kernel_rfl) ?_
 intro r0
 refine own_intro [.bool b] rfl (box_at (set_self _ _ _)) ?_
 refine if_intro (fun hb => ?_) (fun hb => ?_)
 ·refine sto_intro (h := boolOn H r b) (a := ⟨r, 0, none⟩) [.bool b] 4 (set_self _ _ _) rfl (Nat.le_refl _) ?_
  exact ret_plain ⟨rfl, rfl, by rw [hb]; exact Mem.set_set _ _ _ _⟩
 ·refine own_intro [.func (.func 255) #[] #[]] rfl (box_at ((Mem.set_ne hne).trans h3)) ?_
  refine call_gives (negative1_spec _) ?_
  refine sto_intro (h := boolOn H r b) (a := ⟨r, 0, none⟩) [.bool b] 4 (set_self _ _ _) rfl (Nat.le_refl _) ?_
  exact ret_plain ⟨rfl, rfl, by rw [hb]; exact Mem.set_set _ _ _ _⟩
theorem or_fold : ∀ (l : List Gl) (b : Bool), l.foldl (fun b g => b || decide (g.kind = 10)) b = (b || !decide (∀ x ∈ l, x.kind ≠ 10))
 | [], b => by simp
 | a :: l, b => by
  rw [List.foldl_cons, or_fold l]
  by_cases h : a.kind = 10 <;> cases b <;> simp [h]
theorem hasKind_spec {g : Gl} {v : Value} (hv : RepV μ g.d v) : Spec Tryz.prog 254 [v, .func (.func 255) #[] #[]] μ fun r μ' => r = .bool (!decide g.Pos) ∧ μ' = μ := by
 have hv_ := Gl.inv hv
 obtain ⟨p, rfl, -, -⟩ := hv_
 refine Spec.mkO [3, 5] Tryz.func254 (by kernel_rfl) ?_
 intro r1 r3 hm3 ho3 r5 hm5 ho5
 have hne : r3 ≠ r5 := fun e => by
  subst e
  have h : Mem.set Mem.nil r3 _ r3 = none := ho5
  rw [Mem.set_at] at h; cases h
 refine sto_intro [.bool false] 4 (Mem.set_at _ _ _) rfl (Nat.le_refl _) ?_
 refine call_own (R := fun r μ' h' => r = .tuple #[] ∧ μ' = μ ∧ h' = boolOn (Mem.nil.set r3 (.cells #[.func (.func 255) #[] #[]] 175 (0, 0))) r5 (g.all.foldl (fun b g => b || decide (g.kind = 10)) false)) ?_ fun v μ' h' hle hap hR => ?_
 ·have := eachGoal_rel (μ := μ) (fun b h => h = boolOn (Mem.nil.set r3 (.cells #[.func (.func 255) #[] #[]] 175 (0, 0))) r5 b) (fun b g => b || decide (g.kind = 10)) (fun _ => True) (k := 258) (caps := [.pointer (some ⟨r5, 0, none⟩), .pointer (some ⟨r3, 0, none⟩)])
   (fun s h x v _ hx hj => by subst hj; exact hasKind1_spec r5 s hx hne (Mem.set_at _ _ _)) g false _ hv (fun _ _ => trivial) rfl
  have e : ∀ X : Mem, ((X.set r5 (.cells #[.bool false] 4 (0, 0))).set r5 (.cells #[.bool false] 4 (0, 0))) = boolOn X r5 false := fun X => Mem.set_set _ _ _ _
  rw [← e] at this
  exact this
 obtain ⟨rfl, e4, rfl⟩ := hR
 obtain rfl := e4.symm
 rw [or_fold, Bool.false_or]
 refine own_intro [.bool (!decide (∀ x ∈ g.all, x.kind ≠ 10))] rfl (box_at (set_self _ _ _)) ?_
 exact ret_plain ⟨congrArg (fun b => Value.bool (!b)) (decide_eq_decide.2 Iff.rfl), rfl⟩
theorem negative_spec {g : Gl} {v : Value} (hv : RepV μ g.d v) : Spec Tryz.prog 250 [v] μ fun r μ' => r = .bool (!decide g.Pos) ∧ μ' = μ := by
 have hv0 := hv
 have hv_ := Gl.inv hv
 obtain ⟨p, rfl, -, -⟩ := hv_
 refine Spec.mk Tryz.func250 (by kernel_rfl) ?_
 intro r1
 refine call_plain (hasKind_spec hv0) fun v1 μ1 hle1 hR => ?_
 obtain ⟨rfl, e⟩ := hR
 obtain rfl := e.symm
 exact ret_plain ⟨rfl, rfl⟩
theorem positive_spec {p : Pg} {v : Value} (hp : RepV μ p.d v) : Spec Tryz.prog 224 [v] μ fun r μ' => r = .bool (decide (∀ r ∈ p.rels, r.body.Pos)) ∧ μ' = μ := by
 have hv_ := Pg.inv hp
 obtain ⟨q, rfl, hrl⟩ := hv_
 have hn := maxLen_le hrl.max
 refine Spec.mk Tryz.func224 (by kernel_rfl) ?_
 intro r1
 refine loop_intro (fun i : Nat => i ≤ p.rels.length ∧ ∀ (j : Nat) x, j < i → p.rels[j]? = some x → x.body.Pos)
  (fun i => ⟨[(6, .val (.slice q.1 p.rels.length q.2)), (7, .val (.int .i64 p.rels.length)), (8, .val (.int .i64 i))], [], 1, μ, Mem.nil⟩) (fun i => p.rels.length - i)
  0 ⟨Nat.zero_le _, fun j x h => by omega⟩ (fun _ => ⟨rfl, rfl⟩) ⟨⟨rfl, rfl, rfl, trivial⟩, trivial, rfl, rfl⟩ ?_
 rintro i ⟨hi, hall⟩
 refine ifd (fun hlt => ?_) (fun hlt => ?_)
 ·have hv_ := at_some (l := p.rels) (i := i) (by omega)
  obtain ⟨x, hx⟩ := hv_
  have hv_ := Rl.elemA hrl hx
  obtain ⟨ad, q2, hel, hr, hb⟩ := hv_
  have hb : RepV μ x.body.d (.agg (x.body.cs q2).toArray) := hb
  refine elem_intro hel ?_
  intro r2
  refine call_plain (negative_spec hb) fun v1 μ1 hle1 hR => ?_
  obtain ⟨rfl, e⟩ := hR
  obtain rfl := e.symm
  refine if_intro (fun h => ret_plain ⟨isF fun k => ?_, rfl⟩) (fun h => ?_)
  ·have := k x (mem_at hx); simp [this] at h
  ·have hpos : x.body.Pos := by simpa using h
   refine num64 (by omega) (by omega) ⟨i + 1, ⟨by omega, fun j y hj hy => ?_⟩, by omega, ⟨⟨rfl, rfl, rfl, trivial⟩, trivial, rfl, rfl⟩⟩
   rcases Nat.lt_or_ge j i with h6 | h6
   ·exact hall j y h6 hy
   ·obtain rfl : j = i := by omega
    rw [hx] at hy; cases hy; exact hpos
 ·obtain rfl : i = p.rels.length := by omega
  exact ret_plain ⟨isT fun x hx => by
   have hv_ := List.mem_iff_getElem?.1 hx
   obtain ⟨j, hj⟩ := hv_
   exact hall j x (List.getElem?_eq_some_iff.1 hj).1 hj, rfl⟩
theorem impl_IsPositive_spec {p : Pg} {v : Value} (hp : RepV μ p.d v) : Spec Tryz.prog 175 [v] μ fun r _ => r = .bool (decide p.Pos) := by
 have hv_ := Pg.inv hp
 obtain ⟨q, rfl, hrl⟩ := hv_
 refine Spec.mk Tryz.func175 (by kernel_rfl) ?_
 intro r1
 refine call_plain (impl_ProgramOk_spec hp) fun v1 μ1 hle1 hR => ?_
 obtain rfl := hR
 refine ifd (fun hok => ?_) (fun hok => ret_plain (isF fun k => hok k.1))
 refine call_plain (positive_spec (hp.mono hle1)) fun v2 μ2 hle2 hR => ?_
 obtain ⟨rfl, e⟩ := hR
 refine ret_plain ?_
 by_cases h : ∀ r ∈ p.rels, r.body.Pos
 ·rw [decide_eq_true h, decide_eq_true (show p.Pos from ⟨hok, h⟩)]
 ·rw [decide_eq_false h, decide_eq_false fun k : p.Pos => h k.2]
end
end Go.Vx
namespace Go.Vx
open Go.Proofs Classical
theorem F.fc_f (f : F) : f.fc.f = f := by
 show F.mk f.rel ((f.args.map T.tm).map Tm.toT) = f
 rw [toTs_tm]
section
variable {μ : Mem}
end
end Go.Vx
namespace Go.Vx
open Go.Proofs Classical
theorem gl_cnt_sz3 : ∀ g : Gl, g.d.cnt ≤ 3 + 3 * g.d.sz :=
 Gl.ind fun g ih => by
  have h1 := tms_cnt g.terms
  have h2 : D.cnts (g.goals.map Gl.d) ≤ 3 * g.goals.length + 3 * D.szs (g.goals.map Gl.d) := by
   generalize g.goals = l at ih
   induction l with
   | nil => simp [D.cnts, D.szs]
   | cons t l ih2 =>
    have h1 := ih t (by simp)
    have h2 := ih2 fun t ht => ih t (by simp [ht])
    simp only [List.map_cons, D.cnts, D.szs, List.length_cons]; omega
  rw [Gl.cnt_eq, Gl.sz_eq]; omega
theorem rls_cnt : ∀ l : List Rl, D.cnts (l.map Rl.d) ≤ 10 * l.length + 3 * D.szs (l.map Rl.d)
 | [] => by simp [D.cnts, D.szs]
 | x :: l => by
  have h1 := rls_cnt l
  have h2 := gl_cnt_sz3 x.body
  have h3 := Rl.sz_eq x
  rw [Gl.cnt_eq] at h2
  simp only [List.map_cons, D.cnts, D.szs, List.length_cons]
  rw [Rl.cnt_eq, Rl.sz_eq]; omega
theorem pg_cnt_sz (p : Pg) : p.d.cnt ≤ 10 * p.d.sz := by
 have h1 := rls_cnt p.rels
 rw [Pg.cnt_eq, Pg.sz_eq]; omega
theorem pg_mt (p : Pg) (k : Int) : (p.d.mt k).2 = k + D.cnts (p.rels.map Rl.d) := by
 rw [Pg.mt_eq]
 exact D.mks_cnt (p.rels.map Rl.d) k
end Go.Vx
namespace Go.Vx
open Go.Proofs Classical
def BaseP (p : Pg) (u : List Tm) (b : List Fc) : Prop :=
 groundO p u ≠ none ∧ p.Pos ∧ (∀ f ∈ b, FactFits p f) ∧ (∀ f ∈ b.map Fc.f, ∀ a ∈ f.args, a ∈ u.map Tm.toT) ∧ AscF (b.map Fc.f) b.length
noncomputable def posRules (p : Pg) (u : List Tm) : Option (List Ru) := if p.Pos then groundO p u else none
theorem F.fcs (L : List F) : (L.map F.fc).map Fc.f = L := by
 rw [List.map_map]
 conv => rhs; rw [← List.map_id L]
 exact List.map_congr_left fun f _ => F.fc_f f
section
variable {μ : Mem}
theorem inUniverse_any {p : Pg} {U : List T} {f : Fc} {ub lb : Option Addr} {uc lc : Nat} (hf : FactFits p f) (hu : Sl μ 4 ub U.length ((U.map T.tm).map Tm.d)) (hl : Sl μ 4 lb f.args.length (f.args.map Tm.d)) :
  Gives Tryz.prog 176 [.slice ub U.length uc, .slice lb f.args.length lc] μ (.bool (decide (∀ a ∈ f.f.args, a ∈ U))) := by
 have e : f.args = f.f.args.map T.tm := (congrArg Fc.args hf.lift.1).symm
 have el : f.args.length = f.f.args.length := (List.length_map ..).symm
 rw [el] at hl ⊢
 rw [e] at hl
 exact inUniverse_spec hu hl
theorem baseFits_spec {p : Pg} {U : List T} {b : List Fc} {v : Value} {ub fb : Option Addr} {uc fc : Nat} (hp : RepV μ p.d v) (hu : Sl μ 4 ub U.length ((U.map T.tm).map Tm.d)) (hb : Sl μ 2 fb b.length (b.map Fc.d)) :
  Gives Tryz.prog 107 [v, .slice ub U.length uc, .slice fb b.length fc] μ (.bool (decide ((∀ f ∈ b, FactFits p f) ∧ (∀ f ∈ b.map Fc.f, ∀ a ∈ f.args, a ∈ U) ∧ AscF (b.map Fc.f) b.length))) := by
 have hp0 := hp
 have hv_ := Pg.inv hp
 obtain ⟨q0, rfl, hrl⟩ := hv_
 have hn := maxLen_le hb.max
 refine Spec.forget (Spec.mk Tryz.func107 (by kernel_rfl) ?_)
 intro r3
 refine loop_intro (fun i : Nat => i ≤ b.length ∧ (∀ f ∈ b.take i, FactFits p f ∧ ∀ a ∈ f.f.args, a ∈ U) ∧ AscF (b.map Fc.f) i)
  (fun i => ⟨[(1, .val (.slice ub U.length uc)), (2, .val (.slice fb b.length fc)), (3, .loc 0 r3 0), (9, .val (.slice fb b.length fc)), (10, .val (.int .i64 b.length)), (11, .val (.int .i64 i))], [(0, some (.cells r3 [.val (.slice q0.1 p.rels.length q0.2)] 32))], 1, μ, Mem.nil⟩) (fun i => b.length - i)
  0 ⟨Nat.zero_le _, by simp, fun j x y hj _ _ => by omega⟩ (fun _ => ⟨rfl, rfl⟩) ⟨⟨rfl, rfl, rfl, rfl, rfl, rfl, trivial⟩, ⟨rfl, trivial⟩, rfl, rfl⟩ ?_
 rintro i ⟨hi, hall, hasc⟩
 refine ifd (fun hlt => ?_) (fun hlt => ?_)
 ·have hv_ := at_some (l := b) (i := i) (by omega)
  obtain ⟨f, hf⟩ := hv_
  have hfm := mem_at hf
  have hv_ := Fc.elemA hb hf
  obtain ⟨ad, q, hel, hrf, hA⟩ := hv_
  have hA : Sl μ 4 q.1 f.args.length (f.args.map Tm.d) := hA
  refine elem_intro hel ?_
  intro r8
  refine call_gives (factFits_spec hp0 hrf) ?_
  refine ifnd (fun h => ret_plain (isF fun k => h (k.1 f hfm))) (fun hfit => ?_)
  refine call_gives (inUniverse_any hfit hu hA) ?_
  refine ifnd (fun h => ret_plain (isF fun k => h (k.2.1 f.f (List.mem_map_of_mem hfm)))) (fun hin => ?_)
  have hall' : ∀ x ∈ b.take (i + 1), FactFits p x ∧ ∀ a ∈ x.f.args, a ∈ U := by
   rw [List.take_add_one, hf, Option.toList_some]
   intro y hy
   rcases List.mem_append.1 hy with hy | hy
   ·exact hall y hy
   ·rw [List.mem_singleton.1 hy]; exact ⟨hfit, hin⟩
  have hfe : (b.map Fc.f)[i]? = some f.f := by rw [List.getElem?_map, hf]; rfl
  refine ifd (fun hi0 => ?_) (fun hi0 => ?_)
  ·have hv_ := at_some (l := b) (i := i - 1) (by omega)
   obtain ⟨g, hg⟩ := hv_
   have hv_ := Fc.elemA hb hg
   obtain ⟨ad', q', hel', hrg, _⟩ := hv_
   have hgfit := (hall g (by rw [List.mem_iff_getElem?]; exact ⟨i - 1, by rw [List.getElem?_take, if_pos (by omega)]; exact hg⟩)).1
   have hge : (b.map Fc.f)[i - 1]? = some g.f := by rw [List.getElem?_map, hg]; rfl
   refine num64 (by omega) (by omega) ?_
   refine elem_intro (by rw [show ((i : Int) - 1) = ((i - 1 : Nat) : Int) by omega]; exact hel') ?_
   refine call_gives (orderFacts_spec (f := g.f) (g := f.f) (by rw [hgfit.lift.1]; exact hrg) (by rw [hfit.lift.1]; exact hrf)) ?_
   refine ifd (fun hc => ret_plain (isF fun k => ?_)) (fun hc => ?_)
   ·have := k.2.2 (i - 1) g.f f.f (by omega) hge (by rw [show i - 1 + 1 = i by omega]; exact hfe)
    omega
   ·refine num64 (by omega) (by omega) ⟨i + 1, ⟨by omega, hall', hasc.next fun x y _ hx hy => ?_⟩, by omega, ⟨⟨rfl, rfl, rfl, rfl, rfl, rfl, trivial⟩, ⟨rfl, trivial⟩, rfl, rfl⟩⟩
    rw [hge] at hx; rw [hfe] at hy; cases hx; cases hy
    omega
  ·exact num64 (by omega) (by omega) ⟨i + 1, ⟨by omega, hall', hasc.next fun x y h0 _ _ => by omega⟩, by omega, ⟨⟨rfl, rfl, rfl, rfl, rfl, rfl, trivial⟩, ⟨rfl, trivial⟩, rfl, rfl⟩⟩
 ·obtain rfl : i = b.length := by omega
  rw [List.take_length] at hall
  refine ret_plain (isT ⟨fun f hf => (hall f hf).1, fun f hf => ?_, hasc⟩)
  have hv_ := List.mem_map.1 hf
  obtain ⟨x, hx, rfl⟩ := hv_
  exact (hall x hx).2
theorem positiveRules_spec {p : Pg} {u : List Tm} {v : Value} {ub : Option Addr} {uc : Nat} (hp : RepV μ p.d v) (hu : Sl μ 4 ub u.length (u.map Tm.d)) :
  Spec Tryz.prog 106 [v, .slice ub u.length uc] μ fun v μ' => optRu (fun y tv => RepV μ' (.sl 6 ((y.map Ru.rd).map RuD.d)) tv) (posRules p u) v := by
 have hp0 := hp
 have hv_ := Pg.inv hp
 obtain ⟨q, rfl, hrl⟩ := hv_
 refine Spec.mk Tryz.func106 (by kernel_rfl) ?_
 intro r2
 refine call_plain (impl_IsPositive_spec hp0) fun v1 μ1 hle1 hR => ?_
 obtain rfl := hR
 refine ifnd (fun h => ret_plain (by rw [posRules, if_neg h]; rfl)) (fun hpos => ?_)
 refine call_gives (impl_UniverseOk_spec (hu.mono hle1)) ?_
 refine ifnd (fun h => ret_plain (by rw [posRules, if_pos hpos, groundO, if_neg fun k => h k.2]; rfl)) (fun huok => ?_)
 have hv_ := huok.lift
 obtain ⟨U, rfl, hUg, hUl⟩ := hv_
 have hgo : posRules p (U.map T.tm) = groundR p U := by rw [posRules, if_pos hpos, groundO, if_pos ⟨hpos.1, huok⟩, toTs_tm]
 rw [hgo]
 have h1 := huok.pos
 have h8 := huok.max
 rw [List.length_map] at h1 h8 hu ⊢
 refine call_plain (groundRules_spec (hp0.mono hle1) hpos.1 (hu.mono hle1) h1 h8) fun v2 μ2 hle2 hR => ?_
 cases hL : groundR p U with
 | none =>
  rw [hL] at hR
  obtain rfl := hR
  exact ret_plain rfl
 | some y =>
  rw [hL] at hR
  obtain ⟨tv, rfl, hR⟩ := hR
  exact ret_plain ⟨tv, rfl, hR⟩
theorem spec_BaseOk_spec {p : Pg} {u : List Tm} {b : List Fc} {v : Value} {ub fb : Option Addr} {uc fc : Nat} (hp : RepV μ p.d v) (hw : p.d.wd) (hu : Sl μ 4 ub u.length (u.map Tm.d)) (hwu : D.wds (u.map Tm.d)) (hb : Sl μ 2 fb b.length (b.map Fc.d)) (hwb : D.wds (b.map Fc.d)) :
  Spec Tryz.prog 104 [v, .slice ub u.length uc, .slice fb b.length fc] μ fun r _ => r = .bool (decide (BaseP p u b)) := by
 have hp0 := hp
 have hv_ := Pg.inv hp
 obtain ⟨q, rfl, hrl⟩ := hv_
 refine Spec.mk Tryz.func104 (by kernel_rfl) ?_
 intro r3
 refine call_plain (spec_GroundRules_spec hp0 hw hu hwu) fun v1 μ1 hle1 hR => ?_
 cases hL : groundO p u with
 | none =>
  rw [hL] at hR
  obtain rfl := hR
  exact if_intro (fun _ => ret_plain (isF fun k => k.1 hL)) (fun h => nomatch h)
 | some y =>
  rw [hL] at hR
  obtain ⟨tv, rfl, hR⟩ := hR
  have hok := groundO_some hL
  have hv_ := hok.2.lift
  obtain ⟨U, rfl, hUg, hUl⟩ := hv_
  refine if_intro (fun h => nomatch h) (fun _ => ?_)
  refine call_plain (spec_IsPositive_spec (hp0.mono hle1) hw) fun v2 μ2 hle2 hR2 => ?_
  obtain rfl := hR2
  refine ifnd (fun h => ret_plain (isF fun k => h k.2.1)) (fun hpos => ?_)
  have hle12 := hle1.trans hle2
  refine call_plain (l19FactsOk_spec (hp0.mono hle12) hw (hb.mono hle12) hwb) fun v3 μ3 hle3 hR3 => ?_
  obtain rfl := hR3
  refine ifnd (fun h => ret_plain (isF fun k => h fun f hf => ⟨hok.1, k.2.2.1 f hf⟩)) (fun hfit => ?_)
  have hfit : ∀ f ∈ b, FactFits p f := fun f hf => (hfit f hf).2
  have hbl := facts_lift hfit
  generalize hLe : b.map Fc.f = L at hbl
  subst hbl
  have hle := hle12.trans hle3
  have hu' := hu
  have hb' := hb
  rw [List.length_map] at hu' hb' ⊢
  rw [List.length_map]
  have hn := maxLen_le hb'.max
  refine call_gives (l18Inside_spec (hu'.mono hle) (hb'.mono hle)) ?_
  refine ifnd (fun h => ret_plain (isF fun k => h ?_)) (fun hin => ?_)
  ·have := k.2.2.2.1
   rw [F.fcs, toTs_tm] at this
   exact this
  have hBP : AscF L L.length → BaseP p (U.map T.tm) (L.map F.fc) := fun k => ⟨by rw [hL]; exact (fun h => nomatch h), hpos, hfit, by rw [F.fcs, toTs_tm]; exact hin, by rw [F.fcs, List.length_map]; exact k⟩
  have hBN : BaseP p (U.map T.tm) (L.map F.fc) → AscF L L.length := fun k => by have := k.2.2.2.2; rwa [F.fcs, List.length_map] at this
  refine loop_intro (fun i : Nat => 1 ≤ i ∧ (i ≤ L.length ∨ i = 1) ∧ AscF L i)
   (fun i => ⟨[(2, .val (.slice fb L.length fc)), (9, .val (.int .i64 i))], [], 1, μ3, Mem.nil⟩) (fun i => L.length - i)
   1 ⟨Nat.le_refl _, .inr rfl, fun j x y hj _ _ => by omega⟩ (fun _ => ⟨rfl, rfl⟩) ⟨⟨rfl, rfl, trivial⟩, trivial, rfl, rfl⟩ ?_
  rintro i ⟨hi1, hi, hasc⟩
  refine ifd (fun hlt => ?_) (fun hlt => ?_)
  ·have hv_ := at_some (l := L) (i := i) (by omega)
   obtain ⟨f, hf⟩ := hv_
   have hv_ := at_some (l := L) (i := i - 1) (by omega)
   obtain ⟨g, hg⟩ := hv_
   have hv_ := F.elem (hb'.mono hle) hf
   obtain ⟨ad, q1, hel, hrf, _⟩ := hv_
   have hv_ := F.elem (hb'.mono hle) hg
   obtain ⟨ad', q2, hel', hrg, _⟩ := hv_
   refine num64 (by omega) (by omega) ?_
   refine elem_intro (by rw [show ((i : Int) - 1) = ((i - 1 : Nat) : Int) by omega]; exact hel') ?_
   refine elem_intro hel ?_
   refine call_gives (l18Cmp_spec hrg hrf) ?_
   refine ifd (fun hc => ret_plain (isF fun k => ?_)) (fun hc => ?_)
   ·have := hBN k (i - 1) g f (by omega) hg (by rw [show i - 1 + 1 = i by omega]; exact hf)
    omega
   ·refine num64 (by omega) (by omega) ⟨i + 1, ⟨by omega, .inl (by omega), hasc.next fun x y _ hx hy => ?_⟩, by omega, ⟨⟨rfl, rfl, trivial⟩, trivial, rfl, rfl⟩⟩
    rw [hg] at hx; rw [hf] at hy; cases hx; cases hy
    omega
  ·refine ret_plain (isT (hBP ?_))
   rcases Nat.lt_or_ge L.length i with h6 | h6
   ·exact fun j x y hj _ _ => by omega
   ·obtain rfl : i = L.length := by omega
    exact hasc
end
end Go.Vx
namespace Go.Vx
open Go.Proofs Classical
theorem ascF_id {L : List F} (h : Asc3 cmpF L) : ascF L = L := (ascOf_eq cmpF_ord h fun _ => Iff.rfl).symm
theorem headsF_succ {rs : List Ru} {pos neg : List F} {i : Nat} {r : Ru} (h : rs[i]? = some r) : headsF rs pos neg (i + 1) = headsF rs pos neg i ++ (if fires pos neg r then [r.head] else []) := by
 rw [headsF, List.take_add_one, h, Option.toList_some, List.filter_append, List.map_append, ← headsF]
 congr 1
 by_cases k : fires pos neg r <;> simp [k]
theorem lfp_len (rs : List Ru) (base : List F) : (lfp rs base).length ≤ base.length + rs.length := by
 rw [lfp]
 refine Nat.le_trans (ascOf_len _ _) (Nat.le_trans (List.length_filter_le _ _) ?_)
 rw [List.length_append, List.length_map]
 exact Nat.le_refl _
section
variable {rs : List Ru} {S out : List F}
end
theorem growL_succ {rs : List Ru} {out : List F} {i : Nat} {r : Ru} (h : rs[i]? = some r) : growL rs out (i + 1) = growL rs out i ++ (if r.head ∉ out ∧ ∀ f ∈ r.pos, f ∈ out then [r.head] else []) := by
 rw [growL, List.take_add_one, h, Option.toList_some, List.filter_append, List.map_append, ← growL]
 congr 1
 by_cases k : r.head ∉ out ∧ ∀ f ∈ r.pos, f ∈ out
 ·rw [if_pos k, List.filter_cons_of_pos (by simpa using k)]; rfl
 ·rw [if_neg k, List.filter_cons_of_neg (by simpa using k)]; rfl
theorem growL_len (rs : List Ru) (out : List F) (i : Nat) : (growL rs out i).length ≤ i := by
 rw [growL, List.length_map]
 exact Nat.le_trans (List.length_filter_le _ _) (List.length_take_le _ _)
theorem growF_next (rs : List Ru) (out : List F) : ascF (out ++ nextF rs out []) = growF rs out := Asc3.uniq cmpF_ord (ascF_asc _) (ascF_asc _) fun f => by
 show _ ↔ f ∈ growF rs out
 rw [mem_growF, mem_ascF, List.mem_append, mem_nextF]
 constructor
 ·rintro (h | ⟨r, h1, h2, h3⟩)
  ·exact .inl h
  ·exact .inr ⟨r, h1, h2.1, h3⟩
 ·rintro (h | ⟨r, h1, h2, h3⟩)
  ·exact .inl h
  ·exact .inr ⟨r, h1, ⟨h2, fun _ _ k => nomatch k⟩, h3⟩
section
variable {rs : List Ru} {base out : List F}
end
section
variable {rs : List Ru} {model B out : List F}
end
end Go.Vx
namespace Go.Vx
open Go.Proofs Classical
section
variable {μ : Mem}
theorem l19Fires_spec {r : Ru} {pos neg : List F} {v : Value} {b b2 : Option Addr} {c c2 : Nat} (hr : RepV μ r.rd.d v) (hs : Sl μ 2 b pos.length ((pos.map F.fc).map Fc.d)) (hs2 : Sl μ 2 b2 neg.length ((neg.map F.fc).map Fc.d)) :
  Gives Tryz.prog 111 [v, .slice b pos.length c, .slice b2 neg.length c2] μ (.bool (decide (fires pos neg r))) := by
 have hv_ := Ru.inv hr
 obtain ⟨p, rfl, -, -, h3, h4⟩ := hv_
 have hm1 := maxLen_le h3.max
 have hm2 := maxLen_le h4.max
 refine Spec.mk Tryz.func111 (by kernel_rfl) ?_
 intro r3
 refine loop_intro (fun k : Nat => k ≤ r.pos.length ∧ ∀ f ∈ r.pos.take k, f ∈ pos)
  (fun k => ⟨[(1, .val (.slice b pos.length c)), (2, .val (.slice b2 neg.length c2)), (3, .loc 0 r3 0), (12, .val (.slice p.2.2.1.1 r.pos.length p.2.2.1.2)), (13, .val (.int .i64 r.pos.length)), (14, .val (.int .i64 k))], [(0, some (.cells r3 (vals (r.cs p)) 126))], 1, μ, Mem.nil⟩) (fun k => r.pos.length - k)
  0 ⟨Nat.zero_le _, by simp⟩ (fun _ => ⟨rfl, rfl⟩) ⟨⟨rfl, rfl, rfl, rfl, rfl, rfl, trivial⟩, ⟨rfl, trivial⟩, rfl, rfl⟩ ?_
 rintro k ⟨hk, hall⟩
 refine ifd (fun hlt => ?_) (fun hlt => ?_)
 ·have hv_ := at_some (l := r.pos) (i := k) (by omega)
  obtain ⟨y, hy⟩ := hv_
  have hv_ := F.elem h3 hy
  obtain ⟨ad3, p3, hel3, hry, hsy⟩ := hv_
  refine elem_intro hel3 ?_
  intro r8
  refine call_gives (l18Has_spec hs hry) ?_
  refine ifnd (fun h => ret_gives (isF fun k => h (k.1 y (mem_at hy))) rfl) (fun h => ?_)
  ·exact num64 (by omega) (by omega) ⟨k + 1, ⟨by omega, take_all_at hall hy h⟩, by omega, ⟨⟨rfl, rfl, rfl, rfl, rfl, rfl, trivial⟩, ⟨rfl, trivial⟩, rfl, rfl⟩⟩
 obtain rfl : k = r.pos.length := by omega
 rw [List.take_length] at hall
 refine loop_intro (fun k : Nat => k ≤ r.neg.length ∧ ∀ f ∈ r.neg.take k, f ∉ neg)
  (fun k => ⟨[(2, .val (.slice b2 neg.length c2)), (24, .val (.slice p.2.2.2.1 r.neg.length p.2.2.2.2)), (25, .val (.int .i64 r.neg.length)), (26, .val (.int .i64 k))], [], 1, μ, Mem.nil⟩) (fun k => r.neg.length - k)
  0 ⟨Nat.zero_le _, by simp⟩ (fun _ => ⟨rfl, rfl⟩) ⟨⟨rfl, rfl, rfl, rfl, trivial⟩, trivial, rfl, rfl⟩ ?_
 rintro k ⟨hk, hall2⟩
 refine ifd (fun hlt => ?_) (fun hlt => ?_)
 ·have hv_ := at_some (l := r.neg) (i := k) (by omega)
  obtain ⟨y, hy⟩ := hv_
  have hv_ := F.elem h4 hy
  obtain ⟨ad3, p3, hel3, hry, hsy⟩ := hv_
  refine elem_intro hel3 ?_
  intro r8
  refine call_gives (l18Has_spec hs2 hry) ?_
  refine ifd (fun h => ret_gives (isF fun k => (k.2 y (mem_at hy)) h) rfl) (fun h => ?_)
  ·exact num64 (by omega) (by omega) ⟨k + 1, ⟨by omega, take_all_at hall2 hy h⟩, by omega, ⟨⟨rfl, rfl, rfl, rfl, trivial⟩, trivial, rfl, rfl⟩⟩
 obtain rfl : k = r.neg.length := by omega
 rw [List.take_length] at hall2
 exact ret_gives (isT ⟨hall, hall2⟩) rfl
theorem l19Next_spec {rs : List Ru} {pos neg : List F} {b b2 b3 : Option Addr} {c c2 c3 : Nat} (hr : Sl μ 6 b3 rs.length ((rs.map Ru.rd).map RuD.d)) (hn : rs.length ≤ 10000000) (hs : Sl μ 2 b pos.length ((pos.map F.fc).map Fc.d)) (hs2 : Sl μ 2 b2 neg.length ((neg.map F.fc).map Fc.d)) :
  Spec Tryz.prog 168 [.slice b3 rs.length c3, .slice b pos.length c, .slice b2 neg.length c2] μ fun r μ' => FsV μ' (nextF rs pos neg) r := by
 refine Spec.mk Tryz.func168 (by kernel_rfl) ?_
 intro r10
 refine loop_frz (fun z : Nat × Option Addr × Nat × Mem => z.1 ≤ rs.length ∧ μ.Le z.2.2.2 ∧ FsV z.2.2.2 (ascF (headsF rs pos neg z.1)) (.slice z.2.1 (ascF (headsF rs pos neg z.1)).length z.2.2.1))
  (fun (i, b4, c4, μ') => ⟨[(1, .val (.slice b pos.length c)), (2, .val (.slice b2 neg.length c2)), (7, .val (.slice b4 (ascF (headsF rs pos neg i)).length c4)), (11, .val (.slice b3 rs.length c3)), (12, .val (.int .i64 rs.length)), (13, .val (.int .i64 i))], [], 0, μ', Mem.nil⟩) (fun z => rs.length - z.1) [0]
  (fun (_, _, _, _) => ⟨rfl, rfl⟩) (fun μ1 hle1 hno1 hat1 => ?_) ?_
 ·have e0 : ascF (headsF rs pos neg 0) = [] := by simp [headsF, ascF_id (L := []) List.Pairwise.nil]
  refine ⟨(0, some ⟨r10, 0, none⟩, 0, μ1), ⟨Nat.zero_le _, hle1, ?_⟩, ⟨rfl, rfl, ?_, rfl, rfl, rfl, trivial⟩, trivial, rfl, rfl⟩
  ·dsimp only; rw [e0]; exact FsV.nil _ _
  ·dsimp only; rw [e0]; rfl
 rintro ⟨i, b4, c4, μ'⟩ ⟨hi, hle, hout⟩
 dsimp only at hi hle hout
 refine ifd (fun hlt => ?_) (fun hlt => ?_)
 rotate_left
 ·obtain rfl : i = rs.length := by omega
  rw [headsF_all] at hout ⊢
  exact ret_plain hout
 have hv_ := at_some (l := rs) (i := i) (by omega)
 obtain ⟨r, hri⟩ := hv_
 have hv_ := Ru.elem (hr.mono hle) hri
 obtain ⟨ad, p, hel, hrv, hat⟩ := hv_
 have hlen : (ascF (headsF rs pos neg i)).length ≤ i := Nat.le_trans (ascF_len _) (headsF_len _ _ _ _)
 have hsucc := headsF_succ (pos := pos) (neg := neg) hri
 refine elem_intro hel ?_
 intro r9
 refine call_gives (l19Fires_spec hrv (hs.mono hle) (hs2.mono hle)) ?_
 refine ifd (fun hf => ?_) (fun hf => ?_)
 ·rw [if_pos hf] at hsucc
  refine call_plain (l18Insert_spec (ascF_asc _) hout hat.head (by omega)) fun v4 μ4 hle4 hR4 => ?_
  have e : insF (ascF (headsF rs pos neg i)) r.head = ascF (headsF rs pos neg (i + 1)) := ascF_congr fun x => by
   rw [List.mem_cons, mem_ascF, hsucc, List.mem_append, List.mem_singleton]; exact Or.comm
  rw [e] at hR4
  have hv_ := FsV.sl hR4
  obtain ⟨b5, c5, rfl, -, -⟩ := hv_
  exact num64 (by omega) (by omega) ⟨[], (i + 1, b5, c5, μ4), ⟨by dsimp only; omega, hle.trans hle4, hR4⟩, by dsimp only; omega, ⟨⟨rfl, rfl, rfl, rfl, rfl, rfl, trivial⟩, trivial, rfl, rfl⟩⟩
 ·rw [if_neg hf, List.append_nil] at hsucc
  refine num64 (by omega) (by omega) ⟨[], (i + 1, b4, c4, μ'), ⟨by dsimp only; omega, hle, ?_⟩, by dsimp only; omega, ⟨⟨rfl, rfl, ?_, rfl, rfl, rfl, trivial⟩, trivial, rfl, rfl⟩⟩
  ·dsimp only; rw [hsucc]; exact hout
  ·dsimp only; rw [hsucc]; rfl
end
end Go.Vx
namespace Go.Vx
open Go.Proofs Classical
section
variable {μ : Mem}
theorem slF_nil : Sl μ 2 none 0 ((([] : List F).map F.fc).map Fc.d) := ⟨rfl, Nat.zero_le _, fun i x h => by simp at h⟩
theorem l35Model_spec {rs : List Ru} {base : List F} {v : Value} {b3 : Option Addr} {c3 : Nat} (hr : Sl μ 6 b3 rs.length ((rs.map Ru.rd).map RuD.d)) (hn : rs.length ≤ 3000000) (hb : Asc3 cmpF base) (h : FsV μ base v) (hbn : base.length ≤ 3000000) :
  Spec Tryz.prog 124 [.slice b3 rs.length c3, v] μ fun r μ' => FsV μ' (lfp rs base) r := by
 have hv_ := FsV.sl h
 obtain ⟨b, c, rfl, hlc, hs⟩ := hv_
 refine Spec.mk Tryz.func124 (by kernel_rfl) ?_
 refine loop_intro (fun z : List F × Option Addr × Nat × Mem => BasI rs base z.1 ∧ μ.Le z.2.2.2 ∧ FsV z.2.2.2 z.1 (.slice z.2.1 z.1.length z.2.2.1))
  (fun (out, b4, c4, μ') => ⟨[(0, .val (.slice b3 rs.length c3)), (5, .val (.slice b4 out.length c4))], [], 0, μ', Mem.nil⟩) (fun z => base.length + rs.length - z.1.length)
  (base, b, c, μ) ⟨by have := BasI.start rs base; rwa [ascF_id hb] at this, Mem.Le.refl _, h⟩ (fun (_, _, _, _) => ⟨rfl, rfl⟩) ⟨⟨rfl, rfl, trivial⟩, trivial, rfl, rfl⟩ ?_
 rintro ⟨out, b4, c4, μ'⟩ ⟨hI, hle, hout⟩
 dsimp only at hI hle hout
 have hv_ := FsV.sl hout
 obtain ⟨b5, c5, e, -, hso⟩ := hv_
 have hv_ := Value.slice.inj e
 obtain ⟨rfl, _, rfl⟩ := hv_
 have hol := hI.len
 refine call_plain (l19Next_spec (neg := []) (b2 := none) (c2 := 0) (hr.mono hle) (by omega) hso slF_nil) fun v4 μ4 hle4 hR4 => ?_
 have hv_ := FsV.sl hR4
 obtain ⟨b6, c6, rfl, -, hsn⟩ := hv_
 have hnl := nextF_len rs out []
 generalize hN : nextF rs out [] = N at *
 refine loop_intro (fun z : Nat × Option Addr × Nat × Mem => z.1 ≤ N.length ∧ μ4.Le z.2.2.2 ∧ FsV z.2.2.2 (ascF (out ++ N.take z.1)) (.slice z.2.1 (ascF (out ++ N.take z.1)).length z.2.2.1))
  (fun (j, b7, c7, μ') => ⟨[(0, .val (.slice b3 rs.length c3)), (5, .val (.slice b4 out.length c4)), (6, .val (.slice b7 (ascF (out ++ N.take j)).length c7)), (13, .val (.slice b6 N.length c6)), (14, .val (.int .i64 N.length)), (15, .val (.int .i64 j))], [], 0, μ', Mem.nil⟩) (fun z => N.length - z.1)
  (0, b4, c4, μ4) ⟨Nat.zero_le _, Mem.Le.refl _, ?_⟩ (fun (_, _, _, _) => ⟨rfl, rfl⟩) ⟨⟨rfl, rfl, ?_, rfl, rfl, rfl, trivial⟩, trivial, rfl, rfl⟩ ?_
 ·dsimp only
  rw [List.take_zero, List.append_nil, ascF_id hI.asc]
  exact RepV.mono hle4 hout
 ·dsimp only
  rw [List.take_zero, List.append_nil, ascF_id hI.asc]; rfl
 rintro ⟨j, b7, c7, μ5⟩ ⟨hj, hle5, hacc⟩
 dsimp only at hj hle5 hacc
 have hal : (ascF (out ++ N.take j)).length ≤ out.length + j := by
  have := ascF_len (out ++ N.take j)
  rw [List.length_append, List.length_take] at this
  omega
 refine ifd (fun hlt => ?_) (fun hlt => ?_)
 ·have hv_ := at_some (l := N) (i := j) (by omega)
  obtain ⟨f, hf⟩ := hv_
  have hv_ := F.elem (hsn.mono hle5) hf
  obtain ⟨ad, p, hel, hrf, hsf⟩ := hv_
  refine elem_intro hel ?_
  intro r8
  refine call_plain (l18Insert_spec (ascF_asc _) hacc hrf (by omega)) fun v6 μ6 hle6 hR6 => ?_
  have e : insF (ascF (out ++ N.take j)) f = ascF (out ++ N.take (j + 1)) := ascF_congr fun x => by
   rw [List.mem_cons, mem_ascF, List.take_add_one, hf, Option.toList_some, ← List.append_assoc, List.mem_append (s := out ++ _), List.mem_singleton]; exact Or.comm
  rw [e] at hR6
  have hv_ := FsV.sl hR6
  obtain ⟨b8, c8, rfl, -, -⟩ := hv_
  exact num64 (by omega) (by omega) ⟨(j + 1, b8, c8, μ6), ⟨by dsimp only; omega, hle5.trans hle6, hR6⟩, by dsimp only; omega, ⟨⟨rfl, rfl, rfl, rfl, rfl, rfl, trivial⟩, trivial, rfl, rfl⟩⟩
 obtain rfl : j = N.length := by omega
 have eg : ascF (out ++ N.take N.length) = growF rs out := by rw [List.take_length, ← hN, growF_next]
 rw [eg] at hacc hal ⊢
 have hgl := hI.next.len
 refine ifd (fun he => ?_) (fun he => ?_)
 ·refine ret_plain ?_
  rw [← hI.done (by omega)]
  exact RepV.mono (hle4.trans hle5) hout
 ·have := hI.more (by omega)
  exact ⟨(growF rs out, b7, c7, μ5), ⟨hI.next, (hle.trans hle4).trans hle5, hacc⟩, by dsimp only; omega, ⟨⟨rfl, rfl, trivial⟩, trivial, rfl, rfl⟩⟩
end
end Go.Vx
namespace Go.Vx
open Go.Proofs Classical
open Go.Sort
section
variable {μ h0 : Mem} {r : Nat} {ty : TypeId} {rest : List Value}
end
section
variable {μ : Mem}
theorem sortFacts_spec {L : List F} {v : Value} (h : FsV μ L v) (hn : L.length ≤ 100000000) :
  Spec Tryz.prog 94 [v] μ fun v μ' => FsV μ' (ascF L) v := by
 have hv_ := FsV.sl h
 obtain ⟨b, c, rfl, hlc, hs⟩ := hv_
 have hv_ := Rep.srcAll h
 obtain ⟨vs, hrows, hvl, hsrc⟩ := hv_
 have hE := FElts.zip hrows
 have hl : (L.zip vs).length = L.length := by rw [List.length_zip]; omega
 have := sortFacts_core (l := L.zip vs) (base := b) (cap := c) (by rw [hl, zip_snd (by omega)]; exact hsrc) hE (by omega)
 rw [hl] at this
 refine this.weaken fun v μ' hle hR => ?_
 obtain ⟨l', h1, h2, bb, cc, g, rfl, hro, hg, _⟩ := hR
 replace h1 := core_mem h1
 have hE' : FElts μ' l' := fun p hp => RepV.mono hle (hE p (h1 p hp))
 rw [zip_fst (by omega)] at h2
 have := hro.rep hg hE'.rows
 rw [h2] at this
 exact this
end
end Go.Vx
namespace Go.Vx
open Go.Proofs Classical
section
variable {μ : Mem}
theorem sameFacts_spec {L M : List F} {b b2 : Option Addr} {c c2 : Nat} (hs : Sl μ 2 b L.length ((L.map F.fc).map Fc.d)) (hs2 : Sl μ 2 b2 M.length ((M.map F.fc).map Fc.d)) :
  Gives Tryz.prog 93 [.slice b L.length c, .slice b2 M.length c2] μ (.bool (decide (L = M))) := by
 have hm1 := maxLen_le hs.max
 refine Spec.mk Tryz.func93 (by kernel_rfl) ?_
 refine ifnd (fun h => ret_gives (isF fun k => h (by rw [k])) rfl) (fun he => ?_)
 refine loop_intro (fun k : Nat => k ≤ L.length ∧ ∀ j, j < k → L[j]? = M[j]?)
  (fun k => ⟨[(0, .val (.slice b L.length c)), (1, .val (.slice b2 M.length c2)), (12, .val (.int .i64 L.length)), (13, .val (.int .i64 k))], [], 0, μ, Mem.nil⟩) (fun k => L.length - k)
  0 ⟨Nat.zero_le _, fun j h => by omega⟩ (fun _ => ⟨rfl, rfl⟩) ⟨⟨rfl, rfl, rfl, rfl, trivial⟩, trivial, rfl, rfl⟩ ?_
 rintro k ⟨hk, hall⟩
 refine ifd (fun hlt => ?_) (fun hlt => ?_)
 ·have hv_ := at_some (l := L) (i := k) (by omega)
  obtain ⟨x, hx⟩ := hv_
  have hv_ := at_some (l := M) (i := k) (by omega)
  obtain ⟨y, hy⟩ := hv_
  have hv_ := F.elem hs hx
  obtain ⟨ad, q, hel, hrx, _⟩ := hv_
  have hv_ := F.elem hs2 hy
  obtain ⟨ad2, q2, hel2, hry, _⟩ := hv_
  refine elem_intro hel (elem_intro hel2 ?_)
  refine call_gives (orderFacts_spec hrx hry) ?_
  refine ifnd (fun h => ret_gives (isF fun e => h ?_) rfl) (fun h => ?_)
  ·subst e
   rw [hx] at hy; cases hy
   exact (cmpF_ord.zero _ _).2 rfl
  ·refine num64 (by omega) (by omega) ⟨k + 1, ⟨by omega, fun j hj => ?_⟩, by omega, ⟨⟨rfl, rfl, rfl, rfl, trivial⟩, trivial, rfl, rfl⟩⟩
   rcases Nat.lt_or_ge j k with h6 | h6
   ·exact hall j h6
   ·obtain rfl : j = k := by omega
    rw [hx, hy, (cmpF_ord.zero _ _).1 h]
 ·obtain rfl : k = L.length := by omega
  refine ret_gives (isT (List.ext_getElem? fun j => ?_)) rfl
  rcases Nat.lt_or_ge j L.length with h6 | h6
  ·exact hall j h6
  ·rw [List.getElem?_eq_none h6, List.getElem?_eq_none (by omega)]
end
theorem all_take {α : Type} {l : List α} {j : Nat} {x : α} {P : α → Prop} (h : l[j]? = some x) : (∀ y ∈ l.take (j + 1), P y) ↔ (∀ y ∈ l.take j, P y) ∧ P x := by
 rw [List.take_add_one, h, Option.toList_some]
 constructor
 ·exact fun k => ⟨fun y hy => k y (List.mem_append_left _ hy), k x (by simp)⟩
 ·rintro ⟨h1, h2⟩ y hy
  rcases List.mem_append.1 hy with k | k
  ·exact h1 y k
  ·rw [List.mem_singleton.1 k]; exact h2
section
variable {μ : Mem}
set_option maxHeartbeats 1000000 in
theorem grow_spec {rs : List Ru} {base : List F} {v : Value} {b3 : Option Addr} {c3 : Nat} (hr : Sl μ 6 b3 rs.length ((rs.map Ru.rd).map RuD.d)) (hn : rs.length ≤ 3000000) (h : FsV μ base v) (hbn : base.length ≤ 3000000) :
  Spec Tryz.prog 114 [.slice b3 rs.length c3, v] μ fun r μ' => FsV μ' (lfp rs base) r := by
 have hv_ := FsV.sl h
 obtain ⟨b, c, rfl, hlc, hs⟩ := hv_
 refine Spec.mk Tryz.func114 (by kernel_rfl) ?_
 refine call_plain (sortFacts_spec h (by omega)) fun v1 μ1 hle1 hR1 => ?_
 have hv_ := FsV.sl hR1
 obtain ⟨b1, c1, rfl, -, -⟩ := hv_
 refine loop_intro (fun z : List F × Option Addr × Nat × Mem => BasI rs base z.1 ∧ μ1.Le z.2.2.2 ∧ FsV z.2.2.2 z.1 (.slice z.2.1 z.1.length z.2.2.1))
  (fun (out, b4, c4, μ') => ⟨[(0, .val (.slice b3 rs.length c3)), (5, .val (.slice b4 out.length c4))], [], 0, μ', Mem.nil⟩) (fun z => base.length + rs.length - z.1.length)
  (ascF base, b1, c1, μ1) ⟨BasI.start rs base, Mem.Le.refl _, hR1⟩ (fun (_, _, _, _) => ⟨rfl, rfl⟩) ⟨⟨rfl, rfl, trivial⟩, trivial, rfl, rfl⟩ ?_
 rintro ⟨out, b4, c4, μ'⟩ ⟨hI, hle, hout⟩
 dsimp only at hI hle hout
 have hv_ := FsV.sl hout
 obtain ⟨b5, c5, e, -, hso⟩ := hv_
 have hv_ := Value.slice.inj e
 obtain ⟨rfl, _, rfl⟩ := hv_
 have hol := hI.len
 have hv_ := Rep.srcAll hout
 obtain ⟨vs, hvrows, hvl, hsrc⟩ := hv_
 have hr' := (hr.mono hle1).mono hle
 intro r14
 refine src_intro _ hsrc ?_
 refine grow_intro ?_ ?_ fun bn cn _ => ?_
 ·show (0 + _) * 40 ≤ _; omega
 ·exact Nat.le_trans (m := 100000000) (show 0 + vs.length ≤ _ by omega) (by decide)
 refine loop_intro (fun z : Nat × Option Nat × Nat × List Value => z.1 ≤ rs.length ∧ Rows μ' 2 (((out ++ growL rs out z.1).map F.fc).map Fc.d) z.2.2.2)
  (fun (i, bo, co, ys) => ⟨[(0, .val (.slice b3 rs.length c3)), (5, .val (.slice b4 out.length c4)), (6, .row 0 bo ys.length co), (17, .val (.slice b3 rs.length c3)), (18, .val (.int .i64 rs.length)), (19, .val (.int .i64 i))], [(0, some (.row bo co 67 2 ys))], 1, μ', Mem.nil⟩) (fun z => rs.length - z.1)
  (0, bn, cn, [] ++ vs) ⟨Nat.zero_le _, by simpa [growL] using hvrows⟩ (fun (_, _, _, _) => ⟨rfl, rfl⟩) ⟨⟨rfl, rfl, rfl, rfl, rfl, rfl, trivial⟩, ⟨rfl, trivial⟩, rfl, rfl⟩ ?_
 rintro ⟨i, bo, co, ys⟩ ⟨hi, hrows⟩
 dsimp only at hi hrows
 have hyl := hrows.len
 simp only [List.length_map, List.length_append] at hyl
 have hhl := growL_len rs out i
 refine ifd (fun hlt => ?_) (fun hlt => ?_)
 rotate_left
 ·obtain rfl : i = rs.length := by omega
  refine call_frz [0] ?_
  intro μ2 hle2 hno2 hat2
  have hrep := Rows.sl hat2 (hrows.mono hle2) (Nat.le_trans (m := 100000000) (by omega) (by decide))
  refine call_go (sortFacts_spec hrep (by rw [List.length_append]; omega)) fun v3 μ3 hle3 hR => ?_
  have hR : FsV μ3 (growF rs out) v3 := hR
  have hv_ := FsV.sl hR
  obtain ⟨b6, c6, rfl, -, -⟩ := hv_
  have hgl := hI.next.len
  refine ifd (fun he => ?_) (fun he => ?_)
  ·refine ret_plain ?_
   rw [← hI.done (by omega)]
   exact RepV.mono (hle2.trans hle3) hout
  ·have := hI.more (by omega)
   exact ⟨(growF rs out, b6, c6, μ3), ⟨hI.next, hle.trans (hle2.trans hle3), hR⟩, by dsimp only; omega, ⟨⟨rfl, rfl, trivial⟩, trivial, rfl, rfl⟩⟩
 have hv_ := at_some (l := rs) (i := i) (by omega)
 obtain ⟨r, hri⟩ := hv_
 have hv_ := Ru.elem hr' hri
 obtain ⟨ad, p, hel, hrv, hat⟩ := hv_
 have hsucc := growL_succ (out := out) hri
 refine elem_intro hel ?_
 intro r7
 have hmp := maxLen_le hat.pos.max
 refine call_gives (hasFact_spec hI.asc (by omega) hso hat.head) ?_
 refine loop_intro (fun z : Nat × Bool => z.1 ≤ r.pos.length ∧ (z.2 = true ↔ r.head ∉ out ∧ ∀ f ∈ r.pos.take z.1, f ∈ out))
  (fun (j, fine) => ⟨[(0, .val (.slice b3 rs.length c3)), (5, .val (.slice b4 out.length c4)), (6, .row 0 bo ys.length co), (8, .loc 1 r7 0), (9, .val (.bool fine)), (17, .val (.slice b3 rs.length c3)), (18, .val (.int .i64 rs.length)), (19, .val (.int .i64 i)), (29, .val (.slice p.2.2.1.1 r.pos.length p.2.2.1.2)), (30, .val (.int .i64 r.pos.length)), (31, .val (.int .i64 j))],
   [(0, some (.row bo co 67 2 ys)), (1, some (.cells r7 (vals (r.cs p)) 126))], 2, μ', Mem.nil⟩) (fun z => r.pos.length - z.1)
  (0, !decide (r.head ∈ out)) ⟨Nat.zero_le _, by simp⟩ (fun (_, _) => ⟨rfl, rfl⟩) ⟨⟨rfl, rfl, rfl, rfl, rfl, rfl, rfl, rfl, rfl, rfl, rfl, trivial⟩, ⟨rfl, rfl, trivial⟩, rfl, rfl⟩ ?_
 rintro ⟨j, fine⟩ ⟨hj, hfine⟩
 dsimp only at hj hfine
 refine ifd (fun hlt2 => ?_) (fun hlt2 => ?_)
 ·have hv_ := at_some (l := r.pos) (i := j) (by omega)
  obtain ⟨f, hf⟩ := hv_
  have hv_ := F.elem hat.pos hf
  obtain ⟨ad2, p2, hel2, hrf, _⟩ := hv_
  have hstep := all_take (P := fun f => f ∈ out) hf
  refine elem_intro hel2 ?_
  intro r10
  refine if_intro (fun hk => ?_) (fun hk => ?_)
  ·refine call_gives (hasFact_spec hI.asc (by omega) hso hrf) ?_
   refine num64 (by omega) (by omega) ⟨(j + 1, decide (f ∈ out)), ⟨by dsimp only; omega, ?_⟩, by dsimp only; omega, ⟨⟨rfl, rfl, rfl, rfl, rfl, rfl, rfl, rfl, rfl, rfl, rfl, trivial⟩, ⟨rfl, rfl, trivial⟩, rfl, rfl⟩⟩
   dsimp only
   rw [hstep, ← and_assoc, ← hfine, decide_eq_true_eq]
   exact ⟨fun h => ⟨hk, h⟩, fun h => h.2⟩
  ·refine num64 (by omega) (by omega) ⟨(j + 1, false), ⟨by dsimp only; omega, ?_⟩, by dsimp only; omega, ⟨⟨rfl, rfl, rfl, rfl, rfl, rfl, rfl, rfl, rfl, rfl, rfl, trivial⟩, ⟨rfl, rfl, trivial⟩, rfl, rfl⟩⟩
   dsimp only
   rw [hstep, ← and_assoc, ← hfine, hk]
   simp
 obtain rfl : j = r.pos.length := by omega
 rw [List.take_length] at hfine
 refine if_intro (fun hk => ?_) (fun hk => ?_)
 ·rw [if_pos (hfine.1 hk)] at hsucc
  intro r53
  refine grow_intro ?_ ?_ fun b' c' _ => ?_
  ·show (ys.length + 1) * 40 ≤ _; omega
  ·exact Nat.le_trans (m := 100000000) (show ys.length + 1 ≤ _ by omega) (by decide)
  refine num64 (by omega) (by omega) ⟨(i + 1, b', c', _), ⟨by dsimp only; omega, ?_⟩, by dsimp only; omega, ⟨⟨rfl, rfl, rfl, rfl, rfl, rfl, trivial⟩, ⟨rfl, trivial⟩, rfl, rfl⟩⟩
  dsimp only
  rw [hsucc, ← List.append_assoc, List.map_append (l₂ := [r.head]), List.map_append (l₂ := [r.head].map F.fc)]
  exact hrows.append (Rows.one hat.head (Fc.d_n _))
 ·rw [if_neg (fun k => by rw [hfine.2 k] at hk; cases hk), List.append_nil] at hsucc
  refine num64 (by omega) (by omega) ⟨(i + 1, bo, co, ys), ⟨by dsimp only; omega, ?_⟩, by dsimp only; omega, ⟨⟨rfl, rfl, rfl, rfl, rfl, rfl, trivial⟩, ⟨rfl, trivial⟩, rfl, rfl⟩⟩
  dsimp only
  rw [hsucc]; exact hrows
end
end Go.Vx
namespace Go.Vx
open Go.Proofs Classical
theorem fits_wds {p : Pg} (hp : p.Ok) {l : List Fc} (h : ∀ f ∈ l, FactFits p f) : D.wds (l.map Fc.d) := D.wds_of fun d hd => by
 have hv_ := List.mem_map.1 hd
 obtain ⟨x, hx, rfl⟩ := hv_
 exact (h x hx).wd hp
theorem lfp_ok {p : Pg} {rs : List Ru} {base : List F} (hr : ∀ r ∈ rs, RuOk p r) (hb : FsOk p base) : FsOk p (lfp rs base) := fun f hf => by
 cases mem_lfp.1 hf with
 | base h => exact hb _ h
 | rule h _ => exact (hr _ h).head
def optFs (P : List F → Value → Prop) (o : Option (List F)) (v : Value) : Prop := match o with
 | some y => ∃ tv, v = .tuple #[tv, .bool true] ∧ P y tv
 | none => v = .tuple #[.slice none 0 0, .bool false]
noncomputable def baseM (p : Pg) (u : List Tm) (b : List Fc) : Option (List F) := if BaseP p u b then (groundO p u).map fun rs => lfp rs (b.map Fc.f) else none
theorem baseM_ok {p : Pg} {u : List Tm} {b : List Fc} {y : List F} (h : baseM p u b = some y) : p.Ok ∧ FsOk p y ∧ y.length ≤ b.length + 2000 ∧ BaseP p u b := by
 rw [baseM] at h
 split at h
 ·rename_i hb
  cases hg : groundO p u with
  | none => rw [hg] at h; cases h
  | some rs =>
   rw [hg, Option.map_some] at h
   cases h
   have hv_ := groundO_ok hg
   obtain ⟨h1, h2⟩ := hv_
   have hl := lfp_len rs (b.map Fc.f)
   rw [List.length_map] at hl
   have h3 := facts_lift hb.2.2.1
   exact ⟨(groundO_some hg).1, lfp_ok h2 fun f hf => by
    have : f.fc ∈ (b.map Fc.f).map F.fc := List.mem_map_of_mem hf
    rw [h3] at this
    exact hb.2.2.1 _ this, by omega, hb⟩
 ·cases h
section
variable {μ : Mem}
theorem impl_BaseModel_spec {p : Pg} {u : List Tm} {l : List Fc} {v : Value} {ub fb : Option Addr} {uc fc : Nat} (hp : RepV μ p.d v) (hu : Sl μ 4 ub u.length (u.map Tm.d)) (hb : RepV μ (.sl 2 (l.map Fc.d)) (.slice fb l.length fc)) (hn : l.length ≤ 2000000) :
  Spec Tryz.prog 56 [v, .slice ub u.length uc, .slice fb l.length fc] μ fun v μ' => optFs (fun y tv => Fresh μ μ' (.sl 2 ((y.map F.fc).map Fc.d)) tv) (baseM p u l) v := by
 have hp0 := hp
 have hv_ := Pg.inv hp
 obtain ⟨q, rfl, hrl⟩ := hv_
 have hb0 := hb
 have hbs := fcs_sl hb
 refine Spec.mk Tryz.func56 (by kernel_rfl) ?_
 intro r3
 refine call_plain (positiveRules_spec hp0 hu) fun v1 μ1 hle1 hR => ?_
 have hposg : ∀ {rs}, posRules p u = some rs → p.Pos ∧ groundO p u = some rs := fun {rs} h => by
  rw [posRules] at h
  split at h
  ·rename_i k; exact ⟨k, h⟩
  ·cases h
 cases hP : posRules p u with
 | none =>
  rw [hP] at hR
  obtain rfl := hR
  refine if_intro (fun _ => ret_plain ?_) (fun h => nomatch h)
  rw [baseM, if_neg fun k => k.1 (by rw [posRules, if_pos k.2.1] at hP; exact hP)]; rfl
 | some rs =>
 rw [hP] at hR
 obtain ⟨tv, rfl, hR⟩ := hR
 have hR : RsV μ1 rs tv := hR
 have hv_ := hposg hP
 obtain ⟨hpos, hL⟩ := hv_
 have hv_ := RsV.sl hR
 obtain ⟨b1, c1, rfl, hrs⟩ := hv_
 have hv_ := groundO_ok hL
 obtain ⟨hrl2, hro⟩ := hv_
 have hok := groundO_some hL
 have hpo := hok.1
 have hv_ := hok.2.lift
 obtain ⟨U, rfl, hUg, hUl⟩ := hv_
 refine if_intro (fun h => nomatch h) (fun _ => ?_)
 have hu' := hu
 rw [List.length_map] at hu' ⊢
 refine call_gives (baseFits_spec (hp0.mono hle1) (hu'.mono hle1) (hbs.mono hle1)) ?_
 refine ifnd (fun h => ret_plain ?_) (fun hall => ?_)
 ·rw [baseM, if_neg fun k => h (by have := k.2.2; rwa [toTs_tm] at this)]; rfl
 have hBP : BaseP p (U.map T.tm) l := ⟨by rw [hL]; exact (fun h => nomatch h), hpos, by rw [toTs_tm]; exact hall⟩
 have hlift := facts_lift hall.1
 have hb1 : FsV μ1 (l.map Fc.f) (.slice fb l.length fc) := by
  show RepV μ1 (.sl 2 (((l.map Fc.f).map F.fc).map Fc.d)) _
  rw [hlift]; exact RepV.mono hle1 hb0
 have hbase := baseM_ok (p := p) (u := U.map T.tm) (b := l) (y := lfp rs (l.map Fc.f)) (by rw [baseM, if_pos hBP, hL]; rfl)
 have hgo := hbase.2.1.len hpo
 have hgl := hbase.2.2.1
 refine call_plain (grow_spec hrs (by omega) hb1 (by rw [List.length_map]; omega)) fun v3 μ3 hle3 hR3 => ?_
 refine call_plain (copyFacts_spec hR3 (by omega) fun f hf => Nat.le_trans (hgo f hf) (by decide)) fun v4 μ4 hle4 hR4 => ?_
 refine ret_plain ?_
 rw [baseM, if_pos hBP, hL]
 exact ⟨_, rfl, hR4.mono (hle1.trans hle3) (Mem.Le.refl _)⟩
theorem spec_BaseModel_spec {p : Pg} {u : List Tm} {l : List Fc} {v : Value} {ub fb : Option Addr} {uc fc : Nat} (hp : RepV μ p.d v) (hw : p.d.wd) (hu : Sl μ 4 ub u.length (u.map Tm.d)) (hwu : D.wds (u.map Tm.d)) (hb : RepV μ (.sl 2 (l.map Fc.d)) (.slice fb l.length fc)) (hwb : D.wds (l.map Fc.d)) (hn : l.length ≤ 2000000) :
  Spec Tryz.prog 55 [v, .slice ub u.length uc, .slice fb l.length fc] μ fun v μ' => optFs (fun y tv => FsV μ' y tv) (baseM p u l) v := by
 have hp0 := hp
 have hv_ := Pg.inv hp
 obtain ⟨q, rfl, hrl⟩ := hv_
 have hb0 := hb
 have hbs := fcs_sl hb
 refine Spec.mk Tryz.func55 (by kernel_rfl) ?_
 intro r3
 refine call_plain (spec_GroundRules_spec hp0 hw hu hwu) fun v1 μ1 hle1 hR => ?_
 cases hL : groundO p u with
 | none =>
  rw [hL] at hR
  obtain rfl := hR
  refine call_plain (spec_BaseOk_spec (hp0.mono hle1) hw (hu.mono hle1) hwu (hbs.mono hle1) hwb) fun v2 μ2 hle2 hR2 => ?_
  obtain rfl := hR2
  refine ifnd (fun h => ret_plain (by rw [baseM, if_neg h]; rfl)) (fun h => absurd hL h.1)
 | some rs =>
 rw [hL] at hR
 obtain ⟨tv, rfl, hR⟩ := hR
 have hR : RsV μ1 rs tv := hR
 have hv_ := RsV.sl hR
 obtain ⟨b1, c1, rfl, hrs⟩ := hv_
 have hv_ := groundO_ok hL
 obtain ⟨hrl2, hro⟩ := hv_
 have hpo := (groundO_some hL).1
 refine call_plain (spec_BaseOk_spec (hp0.mono hle1) hw (hu.mono hle1) hwu (hbs.mono hle1) hwb) fun v2 μ2 hle2 hR2 => ?_
 obtain rfl := hR2
 refine ifnd (fun h => ret_plain (by rw [baseM, if_neg h]; rfl)) (fun hBP => ?_)
 have hlift := facts_lift hBP.2.2.1
 have hb1 : FsV μ2 (l.map Fc.f) (.slice fb l.length fc) := by
  show RepV μ2 (.sl 2 (((l.map Fc.f).map F.fc).map Fc.d)) _
  rw [hlift]; exact RepV.mono (hle1.trans hle2) hb0
 have hbase := baseM_ok (p := p) (u := u) (b := l) (y := lfp rs (l.map Fc.f)) (by rw [baseM, if_pos hBP, hL]; rfl)
 have hgo := hbase.2.1.len hpo
 have hgl := hbase.2.2.1
 refine call_plain (l35Model_spec (hrs.mono hle2) (by omega) (AscF.asc (by rw [List.length_map]; exact hBP.2.2.2.2)) hb1 (by rw [List.length_map]; omega)) fun v3 μ3 hle3 hR3 => ?_
 have hv_ := FsV.sl hR3
 obtain ⟨b4, c4, rfl, -, hs4⟩ := hv_
 refine call_plain (l18Copy_spec hs4 (by omega) fun f hf => Nat.le_trans (hgo f hf) (by decide)) fun v4 μ4 hle4 hR4 => ?_
 refine ret_plain ?_
 rw [baseM, if_pos hBP, hL]
 exact ⟨_, rfl, hR4⟩
end
end Go.Vx
namespace Go.Vx
open Go.Proofs Classical
theorem fc_cnt_sz (x : Fc) : x.d.cnt ≤ 1 + 3 * x.d.sz := by
 have h := tms_cnt x.args
 rw [Fc.cnt_eq, Fc.sz_eq]; omega
theorem fc_mt (x : Fc) (k : Int) : (x.d.mt k).2 = k + D.cnts (x.args.map Tm.d) := by
 rw [Fc.mt_eq]
 exact D.mks_cnt (x.args.map Tm.d) k
theorem fcs_cnt : ∀ l : List Fc, D.cnts (l.map Fc.d) ≤ 1 * l.length + 3 * D.szs (l.map Fc.d)
 | [] => by simp [D.cnts, D.szs]
 | x :: l => by
  have h1 := fc_cnt_sz x
  have h2 := fcs_cnt l
  simp only [List.map_cons, D.cnts, D.szs, List.length_cons]; omega
theorem fcs_cnt2 {p : Pg} (hp : p.Ok) : ∀ L : List F, FsOk p L → D.cnts ((L.map F.fc).map Fc.d) ≤ 60001 * L.length
 | [], _ => by simp [D.cnts]
 | f :: L, h => by
  have ih := fcs_cnt2 hp L fun x hx => h x (List.mem_cons_of_mem _ hx)
  have h0 := h f (by simp)
  have h1 := h0.len hp
  have h2 := tms_cnt2 f.fc.args fun t ht => (h0.2 t ht).1.2
  have h3 := Fc.cnt_eq f.fc
  have := Nat.mul_le_mul_left 15000 h1
  simp only [List.map_cons, D.cnts, List.length_cons]
  omega
def resF (o : Option (List F)) : List Fc := (o.getD []).map F.fc
theorem optFs_rep {μ : Mem} {o : Option (List F)} {v : Value} (h : optFs (fun y tv => FsV μ y tv) o v) : ∃ tv, v = .tuple #[tv, .bool o.isSome] ∧ RepV μ (.sl 2 ((resF o).map Fc.d)) tv := by
 cases o with
 | some y => obtain ⟨tv, rfl, h⟩ := h; exact ⟨tv, rfl, h⟩
 | none => exact ⟨_, h, OwnV.rep (h := Mem.nil) (Own.nilSl 2) (fun _ _ h => nomatch h)⟩
theorem optFs_fresh {μ μ' : Mem} {o : Option (List F)} {v : Value} (h : optFs (fun y tv => Fresh μ μ' (.sl 2 ((y.map F.fc).map Fc.d)) tv) o v) : ∃ tv, v = .tuple #[tv, .bool o.isSome] ∧ Fresh μ μ' (.sl 2 ((resF o).map Fc.d)) tv := by
 cases o with
 | some y => obtain ⟨tv, rfl, h⟩ := h; exact ⟨tv, rfl, h⟩
 | none => exact ⟨_, h, Mem.nil, Own.nilSl 2, (fun _ _ h => nomatch h), fun _ h => absurd rfl h⟩
theorem resF_cnt {o : Option (List F)} {n : Nat} (h : ∀ y, o = some y → ∃ p : Pg, p.Ok ∧ FsOk p y ∧ y.length ≤ n) : D.cnts ((resF o).map Fc.d) ≤ 60001 * n := by
 cases o with
 | none => simp [resF, D.cnts]
 | some y =>
  have hv_ := h y rfl
  obtain ⟨p, h1, h2, h3⟩ := hv_
  have := fcs_cnt2 h1 y h2
  have := Nat.mul_le_mul_left 60001 h3
  rw [resF, Option.getD_some]; omega
end Go.Vx
namespace Go.Vx
open Go.Proofs Classical
def ReadyP (p : Pg) (u : List Tm) (b m : List Fc) (f : Fc) : Prop := ∃ y, baseM p u b = some y ∧ m = y.map F.fc ∧ BaseP p u [f]
noncomputable def remL (b : List Fc) (f : Fc) (i : Nat) : List F := ((b.map Fc.f).take i).filter fun x => decide (x ≠ f.f)
noncomputable def remM (p : Pg) (u : List Tm) (b m : List Fc) (f : Fc) : Option (List F) := if ReadyP p u b m f ∧ f.f ∈ b.map Fc.f then baseM p u ((remL b f b.length).map F.fc) else none
theorem remL_succ {b : List Fc} {f : Fc} {i : Nat} {x : F} (h : (b.map Fc.f)[i]? = some x) : remL b f (i + 1) = remL b f i ++ (if x ≠ f.f then [x] else []) := by
 rw [remL, List.take_add_one, h, Option.toList_some, List.filter_append, ← remL]
 congr 1
 by_cases k : x = f.f <;> simp [k]
theorem remL_len (b : List Fc) (f : Fc) (i : Nat) : (remL b f i).length ≤ i := Nat.le_trans (List.length_filter_le _ _) (List.length_take_le _ _)
theorem ReadyP.fact {p : Pg} {u : List Tm} {b m : List Fc} {f : Fc} (h : ReadyP p u b m f) : BaseP p u b ∧ FactFits p f ∧ p.Ok := by
 obtain ⟨y, h1, _, h3⟩ := h
 have hk := baseM_ok h1
 exact ⟨hk.2.2.2, h3.2.2.1 f (by simp), hk.1⟩
theorem remM_cnt (p : Pg) (u : List Tm) (b m : List Fc) (f : Fc) : ∀ y, remM p u b m f = some y → ∃ p : Pg, p.Ok ∧ FsOk p y ∧ y.length ≤ b.length + 2001 := fun y h => by
 rw [remM] at h
 split at h
 ·have hk := baseM_ok h
  have hl := remL_len b f b.length
  have h2 := hk.2.2.1
  rw [List.length_map] at h2
  exact ⟨p, hk.1, hk.2.1, by omega⟩
 ·cases h
section
variable {μ : Mem}
theorem one_base1 {f : Fc} {v : Value} {b : Option Nat} {c : Nat} (hf : RepV μ f.d v) (hat : RowAt μ b c 2 [v]) : RepV μ (.sl 2 ([f].map Fc.d)) (.slice (b.map fun r => ⟨r, 0, none⟩) [f].length c) :=
 Rows.sl hat (Rows.one hf (Fc.d_n _)) (show 1 ≤ maxLen by decide)
theorem l35Same_spec {L M : List F} {b b2 : Option Addr} {c c2 : Nat} (hs : Sl μ 2 b L.length ((L.map F.fc).map Fc.d)) (hs2 : Sl μ 2 b2 M.length ((M.map F.fc).map Fc.d)) :
  Gives Tryz.prog 188 [.slice b L.length c, .slice b2 M.length c2] μ (.bool (decide (L = M))) := by
 have hm1 := maxLen_le hs.max
 refine Spec.mk Tryz.func188 (by kernel_rfl) ?_
 refine ifnd (fun h => ret_gives (isF fun k => h (by rw [k])) rfl) (fun he => ?_)
 refine loop_intro (fun k : Nat => k ≤ L.length ∧ ∀ j, j < k → L[j]? = M[j]?)
  (fun k => ⟨[(1, .val (.slice b2 M.length c2)), (12, .val (.slice b L.length c)), (13, .val (.int .i64 L.length)), (14, .val (.int .i64 k))], [], 0, μ, Mem.nil⟩) (fun k => L.length - k)
  0 ⟨Nat.zero_le _, fun j h => by omega⟩ (fun _ => ⟨rfl, rfl⟩) ⟨⟨rfl, rfl, rfl, rfl, trivial⟩, trivial, rfl, rfl⟩ ?_
 rintro k ⟨hk, hall⟩
 refine ifd (fun hlt => ?_) (fun hlt => ?_)
 ·have hv_ := at_some (l := L) (i := k) (by omega)
  obtain ⟨x, hx⟩ := hv_
  have hv_ := at_some (l := M) (i := k) (by omega)
  obtain ⟨y, hy⟩ := hv_
  have hv_ := F.elem hs hx
  obtain ⟨ad, q, hel, hrx, _⟩ := hv_
  have hv_ := F.elem hs2 hy
  obtain ⟨ad2, q2, hel2, hry, _⟩ := hv_
  refine elem_intro hel ?_
  intro r6
  refine elem_intro hel2 ?_
  refine call_gives (l18Cmp_spec hrx hry) ?_
  refine ifnd (fun h => ret_gives (isF fun e => h ?_) rfl) (fun h => ?_)
  ·subst e
   rw [hx] at hy; cases hy
   exact (cmpF_ord.zero _ _).2 rfl
  ·refine num64 (by omega) (by omega) ⟨k + 1, ⟨by omega, fun j hj => ?_⟩, by omega, ⟨⟨rfl, rfl, rfl, rfl, trivial⟩, trivial, rfl, rfl⟩⟩
   rcases Nat.lt_or_ge j k with h6 | h6
   ·exact hall j h6
   ·obtain rfl : j = k := by omega
    rw [hx, hy, (cmpF_ord.zero _ _).1 h]
 ·obtain rfl : k = L.length := by omega
  refine ret_gives (isT (List.ext_getElem? fun j => ?_)) rfl
  rcases Nat.lt_or_ge j L.length with h6 | h6
  ·exact hall j h6
  ·rw [List.getElem?_eq_none h6, List.getElem?_eq_none (by omega)]
theorem sameModel_spec {p : Pg} {L : List F} {m : List Fc} {b b2 : Option Addr} {c c2 : Nat} (hL : FsOk p L) (hs : Sl μ 2 b L.length ((L.map F.fc).map Fc.d)) (hs2 : Sl μ 2 b2 m.length (m.map Fc.d)) :
  Gives Tryz.prog 126 [.slice b L.length c, .slice b2 m.length c2] μ (.bool (decide (m = L.map F.fc))) := by
 have hm1 := maxLen_le hs2.max
 refine Spec.mk Tryz.func126 (by kernel_rfl) ?_
 refine loop_intro (fun k : Nat => k ≤ m.length ∧ ∀ f ∈ m.take k, ∀ t ∈ f.args, t.Ok)
  (fun k => ⟨[(0, .val (.slice b L.length c)), (1, .val (.slice b2 m.length c2)), (7, .val (.slice b2 m.length c2)), (8, .val (.int .i64 m.length)), (9, .val (.int .i64 k))], [], 0, μ, Mem.nil⟩) (fun k => m.length - k)
  0 ⟨Nat.zero_le _, by simp⟩ (fun _ => ⟨rfl, rfl⟩) ⟨⟨rfl, rfl, rfl, rfl, rfl, trivial⟩, trivial, rfl, rfl⟩ ?_
 rintro k ⟨hk, hall⟩
 refine ifd (fun hlt => ?_) (fun hlt => ?_)
 ·have hv_ := at_some (l := m) (i := k) (by omega)
  obtain ⟨x, hx⟩ := hv_
  have hv_ := Fc.elemA hs2 hx
  obtain ⟨ad, q, hel, hrx, hA⟩ := hv_
  have hA : Sl μ 4 q.1 x.args.length (x.args.map Tm.d) := hA
  refine elem_intro hel ?_
  intro r6
  refine call_gives (termsOk_spec hA) ?_
  refine ifnd (fun h => ret_gives (isF fun e => h ?_) rfl) (fun h => ?_)
  ·have : x ∈ L.map F.fc := by rw [← e]; exact mem_at hx
   exact fun t ht => ((hL.lift x this).2 t ht).1
  ·exact num64 (by omega) (by omega) ⟨k + 1, ⟨by omega, take_all_at hall hx h⟩, by omega, ⟨⟨rfl, rfl, rfl, rfl, rfl, trivial⟩, trivial, rfl, rfl⟩⟩
 ·obtain rfl : k = m.length := by omega
  rw [List.take_length] at hall
  have hlift : (m.map Fc.f).map F.fc = m := by
   clear hs2 hm1 hk hlt
   induction m with
   | nil => rfl
   | cons x m ih =>
    rw [List.map_cons, List.map_cons, ih fun f hf => hall f (List.mem_cons_of_mem _ hf)]
    congr 1
    have hv_ := lift_ok (hall x (by simp))
    obtain ⟨xs, hxs, _⟩ := hv_
    cases x with
    | mk r a =>
     have hxs : a = xs.map T.tm := hxs
     subst hxs
     show Fc.mk r (((xs.map T.tm).map Tm.toT).map T.tm) = _
     rw [toTs_tm]
  generalize hM : m.map Fc.f = M at hlift
  subst hlift
  have hs3 : Sl μ 2 b2 M.length ((M.map F.fc).map Fc.d) := by rw [List.length_map] at hs2; exact hs2
  have := sameFacts_spec (c := c) (c2 := c2) hs hs3
  rw [show M.length = (M.map F.fc).length from (List.length_map ..).symm] at this
  refine call_gives this ?_
  refine ret_gives (isI ?_) rfl
  constructor
  ·intro e; rw [e]
  ·intro e
   rw [← F.fcs L, ← e, F.fcs]
theorem l35Ready_spec {p : Pg} {u : List Tm} {l m : List Fc} {f : Fc} {v w : Value} {ub fb mb : Option Addr} {uc fc mc : Nat} (hp : RepV μ p.d v) (hw : p.d.wd) (hu : Sl μ 4 ub u.length (u.map Tm.d)) (hwu : D.wds (u.map Tm.d)) (hb : RepV μ (.sl 2 (l.map Fc.d)) (.slice fb l.length fc)) (hwb : D.wds (l.map Fc.d)) (hn : l.length ≤ 2000000)
  (hm : Sl μ 2 mb m.length (m.map Fc.d)) (hwm : D.wds (m.map Fc.d)) (hf : RepV μ f.d w) (hwf : f.d.wd) :
  Spec Tryz.prog 125 [v, .slice ub u.length uc, .slice fb l.length fc, .slice mb m.length mc, w] μ fun r _ => r = .bool (decide (ReadyP p u l m f)) := by
 have hp0 := hp
 have hv_ := Pg.inv hp
 obtain ⟨q, rfl, hrl⟩ := hv_
 have hf0 := hf
 have hv_ := Fc.inv hf
 obtain ⟨qf, rfl, _⟩ := hv_
 refine Spec.mk Tryz.func125 (by kernel_rfl) ?_
 intro r5 r9
 refine call_plain (spec_BaseModel_spec hp0 hw hu hwu hb hwb hn) fun v1 μ1 hle1 hR => ?_
 cases hL : baseM p u l with
 | none =>
  rw [hL] at hR
  obtain rfl := hR
  refine if_intro (fun h => nomatch h) (fun _ => ?_)
  refine ret_plain (isF fun k => ?_)
  obtain ⟨y, hy, _⟩ := k
  rw [hL] at hy; cases hy
 | some y =>
 rw [hL] at hR
 obtain ⟨tv, rfl, hR⟩ := hR
 have hv_ := FsV.sl hR
 obtain ⟨b1, c1, rfl, -, hs1⟩ := hv_
 have hk := baseM_ok hL
 have no : ∀ {P : Prop}, (ReadyP p u l m f → P) → ¬ P → ¬ ReadyP p u l m f := fun h1 h2 k => h2 (h1 k)
 refine if_intro (fun _ => ?_) (fun h => nomatch h)
 refine call_plain (l19FactsOk_spec (hp0.mono hle1) hw (hm.mono hle1) hwm) fun v2 μ2 hle2 hR2 => ?_
 obtain rfl := hR2
 refine ifd (fun hall => ?_) (fun h => ?_)
 rotate_left
 ·refine ret_plain (isF fun k => h fun x hx => ?_)
  obtain ⟨y', hy, e, _⟩ := k
  rw [hL] at hy; cases hy
  rw [e] at hx
  exact ⟨hk.1, hk.2.1.lift x hx⟩
 have hall : ∀ f ∈ m, FactFits p f := fun f hf => (hall f hf).2
 have hlift := facts_lift hall
 generalize hM : m.map Fc.f = M at hlift
 subst hlift
 have hs2 : Sl μ2 2 mb M.length ((M.map F.fc).map Fc.d) := by have := (hm.mono hle1).mono hle2; rw [List.length_map] at this; exact this
 have hsame := l35Same_spec (c := c1) (c2 := mc) (hs1.mono hle2) hs2
 rw [show M.length = (M.map F.fc).length from (List.length_map ..).symm] at hsame
 refine call_gives hsame ?_
 refine ifd (fun heq => ?_) (fun h => ?_)
 rotate_left
 ·refine ret_plain (isF fun k => h ?_)
  obtain ⟨y', hy, e, _⟩ := k
  rw [hL] at hy; cases hy
  rw [← F.fcs y, ← e, F.fcs]
 intro r35
 refine call_frz [2] ?_
 intro μ3 hle3 hno3 hat3
 have hle13 := (hle1.trans hle2).trans hle3
 have hone := one_base1 (RepV.mono hle13 hf0) hat3
 have hbok := spec_BaseOk_spec (uc := uc) (fc := 1) (hp0.mono hle13) hw (hu.mono hle13) hwu (fcs_sl hone) (D.wds_of fun d hd => by
  rw [List.map_cons, List.map_nil, List.mem_singleton] at hd; rw [hd]; exact hwf)
 refine call_go hbok fun v4 μ4 hle4 hR4 => ?_
 obtain rfl := hR4
 refine ret_plain (isI ?_)
 constructor
 ·exact fun k => ⟨y, hL, by rw [heq], k⟩
 ·rintro ⟨_, _, _, k⟩
  exact k
theorem impl_RemoveFact_spec {p : Pg} {u : List Tm} {l m : List Fc} {f : Fc} {v w : Value} {ub fb mb : Option Addr} {uc fc mc : Nat} (hp : RepV μ p.d v) (hu : Sl μ 4 ub u.length (u.map Tm.d)) (hb : RepV μ (.sl 2 (l.map Fc.d)) (.slice fb l.length fc)) (hn : l.length ≤ 1900000)
  (hm : Sl μ 2 mb m.length (m.map Fc.d)) (hf : RepV μ f.d w) :
  Spec Tryz.prog 60 [v, .slice ub u.length uc, .slice fb l.length fc, .slice mb m.length mc, w] μ fun v μ' => optFs (fun y tv => Fresh μ μ' (.sl 2 ((y.map F.fc).map Fc.d)) tv) (remM p u l m f) v := by
 have hp0 := hp
 have hv_ := Pg.inv hp
 obtain ⟨q, rfl, hrl⟩ := hv_
 have hf0 := hf
 have hv_ := Fc.inv hf
 obtain ⟨qf, rfl, _⟩ := hv_
 refine Spec.mk Tryz.func60 (by kernel_rfl) ?_
 intro r5 r9
 refine call_plain (impl_BaseModel_spec hp0 hu hb (by omega)) fun v1 μ1 hle1 hR => ?_
 cases hL : baseM p u l with
 | none =>
  rw [hL] at hR
  obtain rfl := hR
  refine if_intro (fun _ => ret_plain ?_) (fun h => nomatch h)
  rw [remM, if_neg (fun k => by obtain ⟨⟨y, hy, _⟩, _⟩ := k; rw [hL] at hy; cases hy)]; rfl
 | some y =>
 rw [hL] at hR
 obtain ⟨tv, rfl, hR⟩ := hR
 have hR : FsV μ1 y tv := hR.rep
 have hv_ := FsV.sl hR
 obtain ⟨b1, c1, rfl, -, hs1⟩ := hv_
 have hk := baseM_ok hL
 have hgx : ∃ rs, groundO p u = some rs := by
  cases e : groundO p u with
  | none => exact absurd e hk.2.2.2.1
  | some rs => exact ⟨rs, rfl⟩
 obtain ⟨rs0, hg0⟩ := hgx
 have hv_ := (groundO_some hg0).2.lift
 obtain ⟨U, hUe, hUg, hUl⟩ := hv_
 have hu' : Sl μ 4 ub U.length ((U.map T.tm).map Tm.d) := by have := hu; rw [hUe, List.length_map] at this; exact this
 have huc : U.length = u.length := by rw [hUe, List.length_map]
 refine if_intro (fun h => nomatch h) (fun _ => ?_)
 intro r29
 refine call_frz [2] ?_
 intro μ2 hle2 hno2 hat2
 have hle12 := hle1.trans hle2
 have hone := one_base1 (RepV.mono hle12 hf0) hat2
 have hbf := baseFits_spec (uc := uc) (fc := 1) (hp0.mono hle12) (hu'.mono hle12) (fcs_sl hone)
 rw [huc] at hbf
 refine call_go (R := fun v μ' => v = _ ∧ μ' = μ2) hbf fun v3 μ3 hle3 hR3 => ?_
 obtain ⟨rfl, e30⟩ := hR3
 obtain rfl := e30.symm
 have hBiff : (∀ x ∈ [f], FactFits p x) ∧ (∀ x ∈ [f].map Fc.f, ∀ a ∈ x.args, a ∈ U) ∧ AscF ([f].map Fc.f) [f].length ↔ BaseP p u [f] := by
  rw [BaseP, hUe, toTs_tm, ← hUe]
  exact ⟨fun k => ⟨hk.2.2.2.1, hk.2.2.2.2.1, k⟩, fun k => k.2.2⟩
 refine ifnd (fun h => ret_plain ?_) (fun hfit => ?_)
 ·rw [remM, if_neg (fun k => h (by obtain ⟨⟨_, _, _, k⟩, _⟩ := k; exact hBiff.2 k))]; rfl
 refine call_gives (sameModel_spec hk.2.1 (hs1.mono hle2) (hm.mono hle12)) ?_
 refine ifnd (fun h => ret_plain ?_) (fun hsame => ?_)
 ·rw [remM, if_neg (fun k => h (by obtain ⟨⟨y', hy, e, _⟩, _⟩ := k; rw [hL] at hy; cases hy; exact e))]; rfl
 have hrdy : ReadyP p u l m f := ⟨y, hL, hsame, hBiff.1 hfit⟩
 have hk2 := hrdy.fact
 have hlift := facts_lift hk2.1.2.2.1
 have hasc := AscF.asc (L := l.map Fc.f) (by rw [List.length_map]; exact hk2.1.2.2.2.2)
 have hb1 : FsV μ2 (l.map Fc.f) (.slice fb l.length fc) := by
  show RepV μ2 (.sl 2 (((l.map Fc.f).map F.fc).map Fc.d)) _
  rw [hlift]; exact RepV.mono hle12 hb
 have hf1 := hk2.2.1.lift
 have hfR : RepV μ2 f.f.fc.d (.agg #[.string f.rel, .slice qf.1 f.args.length qf.2]) := by rw [hf1.1]; exact RepV.mono hle12 hf0
 have hv_ := FsV.sl hb1
 obtain ⟨b3, c3, e3, -, hbs1⟩ := hv_
 have hv_ := Value.slice.inj e3
 obtain ⟨rfl, e4, rfl⟩ := hv_
 have hhas := hasFact_spec (c := fc) hasc (by rw [List.length_map]; omega) hbs1 hfR
 rw [← e4] at hhas hbs1
 refine call_gives hhas ?_
 refine ifnd (fun h => ret_plain ?_) (fun hin => ?_)
 ·rw [remM, if_neg fun k => h k.2]; rfl
 rw [remM, if_pos ⟨hrdy, hin⟩]
 intro r14
 refine loop_intro (fun z : Nat × Option Nat × Nat × List Value => z.1 ≤ l.length ∧ Rows μ2 2 (((remL l f z.1).map F.fc).map Fc.d) z.2.2.2)
  (fun (i, bo, co, ys) => ⟨[(1, .val (.slice ub u.length uc)), (5, .loc 0 r5 0), (9, .loc 1 r9 0), (14, .row 3 bo ys.length co), (49, .val (.slice fb l.length fc)), (50, .val (.int .i64 l.length)), (51, .val (.int .i64 i))], [(0, some (.cells r5 [.val (.slice q.1 p.rels.length q.2)] 32)), (1, some (.cells r9 [.val (.string f.rel), .val (.slice qf.1 f.args.length qf.2)] 67)), (3, some (.row bo co 67 2 ys))], 4, μ2, Mem.nil⟩) (fun z => l.length - z.1)
  (0, some r14, 0, []) ⟨Nat.zero_le _, by simpa [remL] using .nil⟩ (fun (_, _, _, _) => ⟨rfl, rfl⟩) ⟨⟨rfl, rfl, rfl, rfl, rfl, rfl, rfl, trivial⟩, ⟨rfl, rfl, rfl, trivial⟩, rfl, rfl⟩ ?_
 rintro ⟨i, bo, co, ys⟩ ⟨hi, hrows⟩
 dsimp only at hi hrows
 have hyl := hrows.len
 simp only [List.length_map] at hyl
 have hrl2 := remL_len l f i
 refine ifd (fun hlt => ?_) (fun hlt => ?_)
 ·have hv_ := at_some (l := l.map Fc.f) (i := i) (by rw [List.length_map]; omega)
  obtain ⟨x, hx⟩ := hv_
  have hv_ := F.elem hbs1 hx
  obtain ⟨ad, p3, hel, hrx, _⟩ := hv_
  have hsucc := remL_succ (f := f) hx
  refine elem_intro hel ?_
  intro r16
  refine call_gives (orderFacts_spec hrx hfR) ?_
  refine ifnd (fun hc => ?_) (fun hc => ?_)
  ·rw [if_pos (fun e => hc ((cmpF_ord.zero _ _).2 e))] at hsucc
   intro r60
   refine grow_intro ?_ ?_ fun b' c' _ => ?_
   ·show (ys.length + 1) * 40 ≤ _; omega
   ·exact Nat.le_trans (m := 100000000) (show ys.length + 1 ≤ _ by omega) (by decide)
   refine num64 (by omega) (by omega) ⟨(i + 1, b', c', _), ⟨by dsimp only; omega, ?_⟩, by dsimp only; omega, ⟨⟨rfl, rfl, rfl, rfl, rfl, rfl, rfl, trivial⟩, ⟨rfl, rfl, rfl, trivial⟩, rfl, rfl⟩⟩
   dsimp only
   rw [hsucc]
   simp only [List.map_append, List.map_cons, List.map_nil]
   exact hrows.append (Rows.one hrx (Fc.d_n _))
  ·rw [if_neg (fun k => k ((cmpF_ord.zero _ _).1 hc)), List.append_nil] at hsucc
   refine num64 (by omega) (by omega) ⟨(i + 1, bo, co, ys), ⟨by dsimp only; omega, ?_⟩, by dsimp only; omega, ⟨⟨rfl, rfl, rfl, rfl, rfl, rfl, rfl, trivial⟩, ⟨rfl, rfl, rfl, trivial⟩, rfl, rfl⟩⟩
   dsimp only
   rw [hsucc]; exact hrows
 obtain rfl : i = l.length := by omega
 have hfits : ∀ x ∈ (remL l f l.length).map F.fc, FactFits p x := fun x hx => by
  have hv_ := List.mem_map.1 hx
  obtain ⟨z, hz, rfl⟩ := hv_
  have hz := List.mem_of_mem_take (List.mem_filter.1 hz).1
  have : z.fc ∈ (l.map Fc.f).map F.fc := List.mem_map_of_mem hz
  rw [hlift] at this
  exact hk2.1.2.2.1 _ this
 refine call_frz [3] ?_
 intro μ7 hle7 hno7 hat7
 have hrep := Rows.sl hat7 (hrows.mono hle7) (Nat.le_trans (m := 100000000) (by omega) (by decide))
 have el : ys.length = ((remL l f l.length).map F.fc).length := by rw [List.length_map, hyl]
 rw [el] at hrep
 have hle27 := hle12.trans hle7
 have hbm := impl_BaseModel_spec (uc := uc) (hp0.mono hle27) (hu.mono hle27) hrep (by rw [List.length_map]; omega)
 rw [← el] at hbm
 refine call_go hbm fun v6 μ6 hle6 hR6 => ?_
 cases hB : baseM p u ((remL l f l.length).map F.fc) with
 | none =>
  rw [hB] at hR6
  obtain rfl := hR6
  exact ret_plain rfl
 | some z =>
  rw [hB] at hR6
  obtain ⟨tv, rfl, hR6⟩ := hR6
  exact ret_plain ⟨tv, rfl, hR6.mono hle27 (Mem.Le.refl _)⟩
theorem spec_RemoveFact_spec {p : Pg} {u : List Tm} {l m : List Fc} {f : Fc} {v w : Value} {ub fb mb : Option Addr} {uc fc mc : Nat} (hp : RepV μ p.d v) (hw : p.d.wd) (hu : Sl μ 4 ub u.length (u.map Tm.d)) (hwu : D.wds (u.map Tm.d)) (hb : RepV μ (.sl 2 (l.map Fc.d)) (.slice fb l.length fc)) (hwb : D.wds (l.map Fc.d)) (hn : l.length ≤ 1900000)
  (hm : Sl μ 2 mb m.length (m.map Fc.d)) (hwm : D.wds (m.map Fc.d)) (hf : RepV μ f.d w) (hwf : f.d.wd) :
  Spec Tryz.prog 59 [v, .slice ub u.length uc, .slice fb l.length fc, .slice mb m.length mc, w] μ fun v μ' => optFs (fun y tv => FsV μ' y tv) (remM p u l m f) v := by
 have hp0 := hp
 have hv_ := Pg.inv hp
 obtain ⟨q, rfl, hrl⟩ := hv_
 have hf0 := hf
 have hv_ := Fc.inv hf
 obtain ⟨qf, rfl, _⟩ := hv_
 refine Spec.mk Tryz.func59 (by kernel_rfl) ?_
 intro r5 r9
 refine call_plain (l35Ready_spec hp0 hw hu hwu hb hwb (by omega) hm hwm hf0 hwf) fun v1 μ1 hle1 hR => ?_
 obtain rfl := hR
 refine ifnd (fun h => ret_plain (by rw [remM, if_neg fun k => h k.1]; rfl)) (fun hrdy => ?_)
 have hk2 := hrdy.fact
 have hlift := facts_lift hk2.1.2.2.1
 have hb1 : FsV μ1 (l.map Fc.f) (.slice fb l.length fc) := by
  show RepV μ1 (.sl 2 (((l.map Fc.f).map F.fc).map Fc.d)) _
  rw [hlift]; exact RepV.mono hle1 hb
 have hf1 := hk2.2.1.lift
 have hfR : RepV μ1 f.f.fc.d (.agg #[.string f.rel, .slice qf.1 f.args.length qf.2]) := by rw [hf1.1]; exact RepV.mono hle1 hf0
 have hv_ := FsV.sl hb1
 obtain ⟨b3, c3, e3, -, hbs1⟩ := hv_
 have hv_ := Value.slice.inj e3
 obtain ⟨rfl, e4, rfl⟩ := hv_
 have hhas := l18Has_spec (c := fc) hbs1 hfR
 rw [← e4] at hhas hbs1
 refine call_gives hhas ?_
 refine ifnd (fun h => ret_plain ?_) (fun hin => ?_)
 ·rw [remM, if_neg fun k => h k.2]; rfl
 rw [remM, if_pos ⟨hrdy, hin⟩]
 intro r14
 refine loop_intro (fun z : Nat × Option Nat × Nat × List Value => z.1 ≤ l.length ∧ Rows μ1 2 (((remL l f z.1).map F.fc).map Fc.d) z.2.2.2)
  (fun (i, bo, co, ys) => ⟨[(1, .val (.slice ub u.length uc)), (5, .loc 0 r5 0), (9, .loc 1 r9 0), (12, .row 2 bo ys.length co), (29, .val (.slice fb l.length fc)), (30, .val (.int .i64 l.length)), (31, .val (.int .i64 i))], [(0, some (.cells r5 [.val (.slice q.1 p.rels.length q.2)] 32)), (1, some (.cells r9 [.val (.string f.rel), .val (.slice qf.1 f.args.length qf.2)] 67)), (2, some (.row bo co 67 2 ys))], 3, μ1, Mem.nil⟩) (fun z => l.length - z.1)
  (0, some r14, 0, []) ⟨Nat.zero_le _, by simpa [remL] using .nil⟩ (fun (_, _, _, _) => ⟨rfl, rfl⟩) ⟨⟨rfl, rfl, rfl, rfl, rfl, rfl, rfl, trivial⟩, ⟨rfl, rfl, rfl, trivial⟩, rfl, rfl⟩ ?_
 rintro ⟨i, bo, co, ys⟩ ⟨hi, hrows⟩
 dsimp only at hi hrows
 have hyl := hrows.len
 simp only [List.length_map] at hyl
 have hrl2 := remL_len l f i
 refine ifd (fun hlt => ?_) (fun hlt => ?_)
 ·have hv_ := at_some (l := l.map Fc.f) (i := i) (by rw [List.length_map]; omega)
  obtain ⟨x, hx⟩ := hv_
  have hv_ := F.elem hbs1 hx
  obtain ⟨ad, p3, hel, hrx, _⟩ := hv_
  have hsucc := remL_succ (f := f) hx
  refine elem_intro hel ?_
  intro r16
  refine call_gives (l18Cmp_spec hrx hfR) ?_
  refine ifnd (fun hc => ?_) (fun hc => ?_)
  ·rw [if_pos (fun e => hc ((cmpF_ord.zero _ _).2 e))] at hsucc
   intro r60
   refine grow_intro ?_ ?_ fun b' c' _ => ?_
   ·show (ys.length + 1) * 40 ≤ _; omega
   ·exact Nat.le_trans (m := 100000000) (show ys.length + 1 ≤ _ by omega) (by decide)
   refine num64 (by omega) (by omega) ⟨(i + 1, b', c', _), ⟨by dsimp only; omega, ?_⟩, by dsimp only; omega, ⟨⟨rfl, rfl, rfl, rfl, rfl, rfl, rfl, trivial⟩, ⟨rfl, rfl, rfl, trivial⟩, rfl, rfl⟩⟩
   dsimp only
   rw [hsucc]
   simp only [List.map_append, List.map_cons, List.map_nil]
   exact hrows.append (Rows.one hrx (Fc.d_n _))
  ·rw [if_neg (fun k => k ((cmpF_ord.zero _ _).1 hc)), List.append_nil] at hsucc
   refine num64 (by omega) (by omega) ⟨(i + 1, bo, co, ys), ⟨by dsimp only; omega, ?_⟩, by dsimp only; omega, ⟨⟨rfl, rfl, rfl, rfl, rfl, rfl, rfl, trivial⟩, ⟨rfl, rfl, rfl, trivial⟩, rfl, rfl⟩⟩
   dsimp only
   rw [hsucc]; exact hrows
 obtain rfl : i = l.length := by omega
 have hfits : ∀ x ∈ (remL l f l.length).map F.fc, FactFits p x := fun x hx => by
  have hv_ := List.mem_map.1 hx
  obtain ⟨z, hz, rfl⟩ := hv_
  have hz := List.mem_of_mem_take (List.mem_filter.1 hz).1
  have : z.fc ∈ (l.map Fc.f).map F.fc := List.mem_map_of_mem hz
  rw [hlift] at this
  exact hk2.1.2.2.1 _ this
 refine call_frz [2] ?_
 intro μ7 hle7 hno7 hat7
 have hrep := Rows.sl hat7 (hrows.mono hle7) (Nat.le_trans (m := 100000000) (by omega) (by decide))
 have el : ys.length = ((remL l f l.length).map F.fc).length := by rw [List.length_map, hyl]
 rw [el] at hrep
 have hle17 := hle1.trans hle7
 have hbm := spec_BaseModel_spec (uc := uc) (hp0.mono hle17) hw (hu.mono hle17) hwu hrep (fits_wds hk2.2.2 hfits) (by rw [List.length_map]; omega)
 rw [← el] at hbm
 refine call_go hbm fun v6 μ6 hle6 hR6 => ?_
 cases hB : baseM p u ((remL l f l.length).map F.fc) with
 | none =>
  rw [hB] at hR6
  obtain rfl := hR6
  exact ret_plain rfl
 | some z =>
  rw [hB] at hR6
  obtain ⟨tv, rfl, hR6⟩ := hR6
  exact ret_plain ⟨tv, rfl, hR6⟩
end
end Go.Vx
namespace Go.Vx
open Go.ChangeShapes Go.RowKit
section
variable {H : Type} {enc : TypeId × Value → H} {P : Program} {w : World} {base : Nat} {spare : Nat → Bool} {held : Bool}
theorem trodAll_five {t0 t1 t2 t3 t4 : TypeId} {args : Array Value} {ds : List (DataW H)} {ps : List MemPlace} (h : DataW.TrodAll enc P w base spare held [t0, t1, t2, t3, t4] args.toList ds ps) :
  ∃ v0 v1 v2 v3 v4 d0 d1 d2 d3 d4 p0 p1 p2 p3 p4, args = #[v0, v1, v2, v3, v4] ∧ ds = [d0, d1, d2, d3, d4] ∧ ps = p0 ++ p1 ++ p2 ++ p3 ++ p4 ∧ DataW.Trod enc P w base spare held t0 v0 d0 p0 ∧ DataW.Trod enc P w base spare held t1 v1 d1 p1 ∧ DataW.Trod enc P w base spare held t2 v2 d2 p2 ∧ DataW.Trod enc P w base spare held t3 v3 d3 p3 ∧ DataW.Trod enc P w base spare held t4 v4 d4 p4 := by
 obtain ⟨v0, r0, d0, e0, p0, q0, ha, rfl, rfl, h0, h⟩ := trodAll_cons h
 obtain ⟨v1, r1, d1, e1, p1, q1, rfl, rfl, rfl, h1, h⟩ := trodAll_cons h
 obtain ⟨v2, r2, d2, e2, p2, q2, rfl, rfl, rfl, h2, h⟩ := trodAll_cons h
 obtain ⟨v3, r3, d3, e3, p3, q3, rfl, rfl, rfl, h3, h⟩ := trodAll_cons h
 obtain ⟨v4, r4, d4, e4, p4, q4, rfl, rfl, rfl, h4, h⟩ := trodAll_cons h
 obtain ⟨rfl, rfl, rfl⟩ := trodAll_nil h
 exact ⟨v0, v1, v2, v3, v4, d0, d1, d2, d3, d4, p0, p1, p2, p3, p4, by cases args; simp_all, rfl, by simp, h0, h1, h2, h3, h4⟩
end
end Go.Vx
namespace Go.Vx
open Go.Proofs Classical
section
variable {μ : Mem}
set_option maxHeartbeats 4000000 in
theorem FnExactRemoveFact_spec {t0 : Pg} {v0 : Value} {t1 : List Tm} {v1 : Value} {t2 : List Fc} {v2 : Value} {t3 : List Fc} {v3 : Value} {t4 : Fc} {v4 : Value} (h0 : RepV μ t0.d v0) (h1 : RepV μ (.sl 4 (t1.map Tm.d)) v1) (h2 : RepV μ (.sl 2 (t2.map Fc.d)) v2) (h3 : RepV μ (.sl 2 (t3.map Fc.d)) v3) (h4 : RepV μ t4.d v4) (w0 : t0.d.wd) (w1 : D.wds (t1.map Tm.d)) (w2 : D.wds (t2.map Fc.d)) (w3 : D.wds (t3.map Fc.d)) (w4 : t4.d.wd) :
  Spec Tryz.prog 14 [v0, v1, v2, v3, v4] μ fun r _ => r = .bool true := by
 have hv_ := Pg.invV h0
 obtain ⟨p0, rfl⟩ := hv_
 have hv_ := Rep.sl h1
 obtain ⟨b1, c1, rfl, s1⟩ := hv_
 rw [List.length_map] at s1 ⊢
 have hv_ := Rep.sl h2
 obtain ⟨b2, c2, rfl, s2⟩ := hv_
 rw [List.length_map] at s2 ⊢
 have hv_ := Rep.sl h3
 obtain ⟨b3, c3, rfl, s3⟩ := hv_
 rw [List.length_map] at s3 ⊢
 have hv_ := Fc.invV h4
 obtain ⟨p4, rfl⟩ := hv_
 refine Spec.mk Tryz.func14 (by kernel_rfl) ?_
 intro r0 r1
 refine call_gives (szProgram_spec t0 h0 (by omega) (by omega) w0) ?_
 refine ifd (fun h => ret_plain rfl) (fun h => ?_)
 have q0 := szR_ge h
 rw [szR_pos q0] at h ⊢
 refine call_gives (szTermS_spec s1 (by omega) (by omega) w1) ?_
 refine ifd (fun h => ret_plain rfl) (fun h => ?_)
 have q1 := szR_ge h
 rw [szR_pos q1] at h ⊢
 refine call_gives (szFactS_spec s2 (by omega) (by omega) w2) ?_
 refine ifd (fun h => ret_plain rfl) (fun h => ?_)
 have q2 := szR_ge h
 rw [szR_pos q2] at h ⊢
 refine call_gives (szFactS_spec s3 (by omega) (by omega) w3) ?_
 refine ifd (fun h => ret_plain rfl) (fun h => ?_)
 have q3 := szR_ge h
 rw [szR_pos q3] at h ⊢
 refine call_gives (szFact_spec t4 h4 (by omega) (by omega) w4) ?_
 refine ifd (fun h => ret_plain rfl) (fun h => ?_)
 have q4 := szR_ge h
 rw [szR_pos q4] at h
 have hb0 : t0.d.sz ≤ 1048576 := by omega
 have hb1 : t1.length + D.szs (t1.map Tm.d) ≤ 1048576 := by omega
 have hb2 : t2.length + D.szs (t2.map Fc.d) ≤ 1048576 := by omega
 have hb3 : t3.length + D.szs (t3.map Fc.d) ≤ 1048576 := by omega
 have hb4 : t4.d.sz ≤ 1048576 := by omega
 refine call_plain (toProgram_spec t0 h0 hb0) fun u1 μ1 hle1 hf1 => ?_
 replace h0 := h0.mono hle1
 replace s1 := s1.mono hle1
 replace s2 := s2.mono hle1
 replace s3 := s3.mono hle1
 replace h4 := h4.mono hle1
 have hv_ := Pg.invV hf1.rep
 obtain ⟨qq2, rfl⟩ := hv_
 have a0 := hf1.rep
 refine call_plain (toTermS_spec s1 hb1) fun u3 μ3 hle3 hf3 => ?_
 replace h0 := h0.mono hle3
 replace s1 := s1.mono hle3
 replace s2 := s2.mono hle3
 replace s3 := s3.mono hle3
 replace h4 := h4.mono hle3
 replace a0 := a0.mono hle3
 have hv_ := Rep.sl hf3.rep
 obtain ⟨bb4, cc4, rfl, a1⟩ := hv_
 rw [List.length_map] at a1 ⊢
 refine call_plain (toFactS_spec s2 hb2) fun u5 μ5 hle5 hf5 => ?_
 replace h0 := h0.mono hle5
 replace s1 := s1.mono hle5
 replace s2 := s2.mono hle5
 replace s3 := s3.mono hle5
 replace h4 := h4.mono hle5
 replace a0 := a0.mono hle5
 replace a1 := a1.mono hle5
 have hv_ := Rep.sl hf5.rep
 obtain ⟨bb6, cc6, rfl, a2⟩ := hv_
 rw [List.length_map] at a2 ⊢
 have a2r := hf5.rep
 rw [List.length_map] at a2r
 refine call_plain (toFactS_spec s3 hb3) fun u7 μ7 hle7 hf7 => ?_
 replace h0 := h0.mono hle7
 replace s1 := s1.mono hle7
 replace s2 := s2.mono hle7
 replace s3 := s3.mono hle7
 replace h4 := h4.mono hle7
 replace a0 := a0.mono hle7
 replace a1 := a1.mono hle7
 replace a2 := a2.mono hle7
 replace a2r := a2r.mono hle7
 have hv_ := Rep.sl hf7.rep
 obtain ⟨bb8, cc8, rfl, a3⟩ := hv_
 rw [List.length_map] at a3 ⊢
 refine call_plain (toFact_spec t4 h4 hb4) fun u9 μ9 hle9 hf9 => ?_
 replace h0 := h0.mono hle9
 replace s1 := s1.mono hle9
 replace s2 := s2.mono hle9
 replace s3 := s3.mono hle9
 replace h4 := h4.mono hle9
 replace a0 := a0.mono hle9
 replace a1 := a1.mono hle9
 replace a2 := a2.mono hle9
 replace a2r := a2r.mono hle9
 replace a3 := a3.mono hle9
 have hv_ := Fc.invV hf9.rep
 obtain ⟨qq10, rfl⟩ := hv_
 have a4 := hf9.rep
 refine call_plain (spec_RemoveFact_spec a0 w0 a1 w1 a2r w2 (by omega) a3 w3 a4 w4) fun u11 μ11 hle11 hR => ?_
 replace h0 := h0.mono hle11
 replace s1 := s1.mono hle11
 replace s2 := s2.mono hle11
 replace s3 := s3.mono hle11
 replace h4 := h4.mono hle11
 replace a0 := a0.mono hle11
 replace a1 := a1.mono hle11
 replace a2 := a2.mono hle11
 replace a2r := a2r.mono hle11
 replace a3 := a3.mono hle11
 replace a4 := a4.mono hle11
 have hv_ := optFs_rep hR
 obtain ⟨w0, rfl, hw0⟩ := hv_
 have hv_ := Rep.sl hw0
 obtain ⟨bb12, cc12, rfl, hw⟩ := hv_
 rw [List.length_map] at hw ⊢
 refine call_new id (apart_nil _) Owns.none ((toProgram_spec t0 (h0.mono (Mem.le_join _ _)) hb0).weaken fun v μ' _ h => ⟨v, rfl, h⟩) fun x0 μ13 H13 hle13 hap13 ho13 => ?_
 replace h0 := h0.mono hle13
 replace s1 := s1.mono hle13
 replace s2 := s2.mono hle13
 replace s3 := s3.mono hle13
 replace h4 := h4.mono hle13
 replace hw := hw.mono hle13
 have hv_ := Pg.invV (Owns.rep (l1 := []) hap13 ho13)
 obtain ⟨qq14, rfl⟩ := hv_
 have xx0 := (Owns.rep (l1 := []) hap13 ho13)
 intro rx0
 refine call_new id hap13 ho13 ((toTermS_spec (s1.mono (Mem.le_join _ _)) hb1).weaken fun v μ' _ h => ⟨v, rfl, h⟩) fun x1 μ15 H15 hle15 hap15 ho15 => ?_
 replace h0 := h0.mono hle15
 replace s1 := s1.mono hle15
 replace s2 := s2.mono hle15
 replace s3 := s3.mono hle15
 replace h4 := h4.mono hle15
 replace hw := hw.mono hle15
 have hv_ := Rep.sl (Owns.rep (l1 := [_]) hap15 ho15)
 obtain ⟨bb16, cc16, rfl, xx1⟩ := hv_
 rw [List.length_map] at xx1 ho15 ⊢
 refine call_new id hap15 ho15 ((toFactS_spec (s2.mono (Mem.le_join _ _)) hb2).weaken fun v μ' _ h => ⟨v, rfl, h⟩) fun x2 μ17 H17 hle17 hap17 ho17 => ?_
 replace h0 := h0.mono hle17
 replace s1 := s1.mono hle17
 replace s2 := s2.mono hle17
 replace s3 := s3.mono hle17
 replace h4 := h4.mono hle17
 replace hw := hw.mono hle17
 have hv_ := Rep.sl (Owns.rep (l1 := [_, _]) hap17 ho17)
 obtain ⟨bb18, cc18, rfl, xx2⟩ := hv_
 rw [List.length_map] at xx2 ho17 ⊢
 refine call_new id hap17 ho17 ((toFactS_spec (s3.mono (Mem.le_join _ _)) hb3).weaken fun v μ' _ h => ⟨v, rfl, h⟩) fun x3 μ19 H19 hle19 hap19 ho19 => ?_
 replace h0 := h0.mono hle19
 replace s1 := s1.mono hle19
 replace s2 := s2.mono hle19
 replace s3 := s3.mono hle19
 replace h4 := h4.mono hle19
 replace hw := hw.mono hle19
 have hv_ := Rep.sl (Owns.rep (l1 := [_, _, _]) hap19 ho19)
 obtain ⟨bb20, cc20, rfl, xx3⟩ := hv_
 rw [List.length_map] at xx3 ho19 ⊢
 refine call_new id hap19 ho19 ((toFact_spec t4 (h4.mono (Mem.le_join _ _)) hb4).weaken fun v μ' _ h => ⟨v, rfl, h⟩) fun x4 μ21 H21 hle21 hap21 ho21 => ?_
 replace h0 := h0.mono hle21
 replace s1 := s1.mono hle21
 replace s2 := s2.mono hle21
 replace s3 := s3.mono hle21
 replace h4 := h4.mono hle21
 replace hw := hw.mono hle21
 have hv_ := Fc.invV (Owns.rep (l1 := [_, _, _, _]) hap21 ho21)
 obtain ⟨qq22, rfl⟩ := hv_
 have xx4 := (Owns.rep (l1 := [_, _, _, _]) hap21 ho21)
 intro rx4
 have hv_ := Rep.sl (Owns.rep (l1 := [_]) hap21 ho21)
 obtain ⟨bn25, cn25, en25, ya24⟩ := hv_
 rw [List.length_map] at ya24 en25
 have hv_ := Value.slice.inj en25
 obtain ⟨rfl, _, rfl⟩ := hv_
 have yr26 := Owns.rep (l1 := [_, _]) hap21 ho21
 have hv_ := Rep.sl (Owns.rep (l1 := [_, _, _]) hap21 ho21)
 obtain ⟨bn28, cn28, en28, ya27⟩ := hv_
 rw [List.length_map] at ya27 en28
 have hv_ := Value.slice.inj en28
 obtain ⟨rfl, _, rfl⟩ := hv_
 refine call_new (fun gv => .tuple #[gv, .bool (remM t0 t1 t2 t3 t4).isSome]) hap21 ho21 ((impl_RemoveFact_spec (Owns.rep (l1 := []) hap21 ho21) ya24 yr26 (by omega) ya27 (Owns.rep (l1 := [_, _, _, _]) hap21 ho21)).weaken fun v μ' _ h => optFs_fresh h) fun g0 μ23 H23 hle23 hap23 ho23 => ?_
 replace h0 := h0.mono hle23
 replace s1 := s1.mono hle23
 replace s2 := s2.mono hle23
 replace s3 := s3.mono hle23
 replace h4 := h4.mono hle23
 replace hw := hw.mono hle23
 have hv_ := Rep.sl (Owns.rep (l1 := [_, _, _, _, _]) hap23 ho23)
 obtain ⟨bb29, cc29, rfl, gg⟩ := hv_
 rw [List.length_map] at gg ho23 ⊢
 have hv_ := Rep.sl (Owns.rep (l1 := [_, _, _, _, _]) hap23 ho23)
 obtain ⟨bn31, cn31, en31, yg30⟩ := hv_
 rw [List.length_map] at yg30 en31
 have hv_ := Value.slice.inj en31
 obtain ⟨rfl, _, rfl⟩ := hv_
 refine call_read hap23 (eqFactS_spec yg30 (hw.mono (Mem.le_join _ _))) ?_
 refine if_intro (fun h => nomatch h) (fun _ => ?_)
 refine if_intro (fun h => absurd h (by simp)) (fun _ => ?_)
 refine call_data hap23 (toProgram_spec t0 h0 hb0) fun u32 μ32 hle32 hap32 hf32 => ?_
 replace h0 := h0.mono hle32
 replace s1 := s1.mono hle32
 replace s2 := s2.mono hle32
 replace s3 := s3.mono hle32
 replace h4 := h4.mono hle32
 replace hw := hw.mono hle32
 refine call_read hap32 (eqProgram_spec t0 (Owns.rep (l1 := []) hap32 ho23) (hf32.rep.mono (Mem.le_join _ _))) ?_
 refine if_intro (fun h => nomatch h) (fun _ => ?_)
 refine call_data hap32 (toTermS_spec s1 hb1) fun u33 μ33 hle33 hap33 hf33 => ?_
 replace h0 := h0.mono hle33
 replace s1 := s1.mono hle33
 replace s2 := s2.mono hle33
 replace s3 := s3.mono hle33
 replace h4 := h4.mono hle33
 replace hw := hw.mono hle33
 have hv_ := Rep.sl hf33.rep
 obtain ⟨bb34, cc34, rfl, z1⟩ := hv_
 rw [List.length_map] at z1 ⊢
 have hv_ := Rep.sl (Owns.rep (l1 := [_]) hap33 ho23)
 obtain ⟨bn36, cn36, en36, yb35⟩ := hv_
 rw [List.length_map] at yb35 en36
 have hv_ := Value.slice.inj en36
 obtain ⟨rfl, _, rfl⟩ := hv_
 refine call_read hap33 (eqTermS_spec yb35 (z1.mono (Mem.le_join _ _))) ?_
 refine if_intro (fun h => nomatch h) (fun _ => ?_)
 refine call_data hap33 (toFactS_spec s2 hb2) fun u37 μ37 hle37 hap37 hf37 => ?_
 replace h0 := h0.mono hle37
 replace s1 := s1.mono hle37
 replace s2 := s2.mono hle37
 replace s3 := s3.mono hle37
 replace h4 := h4.mono hle37
 replace hw := hw.mono hle37
 have hv_ := Rep.sl hf37.rep
 obtain ⟨bb38, cc38, rfl, z2⟩ := hv_
 rw [List.length_map] at z2 ⊢
 have hv_ := Rep.sl (Owns.rep (l1 := [_, _]) hap37 ho23)
 obtain ⟨bn40, cn40, en40, yb39⟩ := hv_
 rw [List.length_map] at yb39 en40
 have hv_ := Value.slice.inj en40
 obtain ⟨rfl, _, rfl⟩ := hv_
 refine call_read hap37 (eqFactS_spec yb39 (z2.mono (Mem.le_join _ _))) ?_
 refine if_intro (fun h => nomatch h) (fun _ => ?_)
 refine call_data hap37 (toFactS_spec s3 hb3) fun u41 μ41 hle41 hap41 hf41 => ?_
 replace h0 := h0.mono hle41
 replace s1 := s1.mono hle41
 replace s2 := s2.mono hle41
 replace s3 := s3.mono hle41
 replace h4 := h4.mono hle41
 replace hw := hw.mono hle41
 have hv_ := Rep.sl hf41.rep
 obtain ⟨bb42, cc42, rfl, z3⟩ := hv_
 rw [List.length_map] at z3 ⊢
 have hv_ := Rep.sl (Owns.rep (l1 := [_, _, _]) hap41 ho23)
 obtain ⟨bn44, cn44, en44, yb43⟩ := hv_
 rw [List.length_map] at yb43 en44
 have hv_ := Value.slice.inj en44
 obtain ⟨rfl, _, rfl⟩ := hv_
 refine call_read hap41 (eqFactS_spec yb43 (z3.mono (Mem.le_join _ _))) ?_
 refine if_intro (fun h => nomatch h) (fun _ => ?_)
 refine call_data hap41 (toFact_spec t4 h4 hb4) fun u45 μ45 hle45 hap45 hf45 => ?_
 replace h0 := h0.mono hle45
 replace s1 := s1.mono hle45
 replace s2 := s2.mono hle45
 replace s3 := s3.mono hle45
 replace h4 := h4.mono hle45
 replace hw := hw.mono hle45
 refine call_read hap45 (eqFact_spec t4 (Owns.rep (l1 := [_, _, _, _]) hap45 ho23) (hf45.rep.mono (Mem.le_join _ _))) ?_
 refine if_intro (fun h => nomatch h) (fun _ => ?_)
 have ca0 := pg_cnt_sz t0
 rw [Pg.cnt_eq] at ca0
 have ma0 := pg_mt t0 (1)
 have ca1 := tms_cnt t1
 have ma1 := D.mks_cnt (t1.map Tm.d) ((t0.d.mt (1)).2)
 have ca2 := fcs_cnt t2
 have ma2 := D.mks_cnt (t2.map Fc.d) ((D.mks (t1.map Tm.d) ((t0.d.mt (1)).2)).2)
 have ca3 := fcs_cnt t3
 have ma3 := D.mks_cnt (t3.map Fc.d) ((D.mks (t2.map Fc.d) ((D.mks (t1.map Tm.d) ((t0.d.mt (1)).2)).2)).2)
 have ca4 := fc_cnt_sz t4
 rw [Fc.cnt_eq] at ca4
 have ma4 := fc_mt t4 ((D.mks (t3.map Fc.d) ((D.mks (t2.map Fc.d) ((D.mks (t1.map Tm.d) ((t0.d.mt (1)).2)).2)).2)).2)
 have rz := resF_cnt (remM_cnt t0 t1 t2 t3 t4)
 have mg := D.mks_cnt ((resF (remM t0 t1 t2 t3 t4)).map Fc.d) 1
 refine call_mark (l1 := []) hap45 ho23 (fun hx o => markProgram_spec t0 o (by omega) (by omega)) fun H46 hap46 ho46 => ?_
 refine call_mark (l1 := [_]) hap46 ho46 (fun hx o => markTermS_spec o (by omega) (by omega)) fun H47 hap47 ho47 => ?_
 refine call_mark (l1 := [_, _]) hap47 ho47 (fun hx o => markFactS_spec o (by omega) (by omega)) fun H48 hap48 ho48 => ?_
 refine call_mark (l1 := [_, _, _]) hap48 ho48 (fun hx o => markFactS_spec o (by omega) (by omega)) fun H49 hap49 ho49 => ?_
 refine call_mark (l1 := [_, _, _, _]) hap49 ho49 (fun hx o => markFact_spec t4 o (by omega) (by omega)) fun H50 hap50 ho50 => ?_
 refine ifd (fun h => by omega) (fun _ => ?_)
 have hv_ := Rep.sl (Owns.rep (l1 := [_, _, _, _, _]) hap50 ho50)
 obtain ⟨bn52, cn52, en52, yg51⟩ := hv_
 rw [List.length_map] at yg51 en52
 have hv_ := Value.slice.inj en52
 obtain ⟨rfl, _, rfl⟩ := hv_
 refine call_read hap50 (eqFactS_spec yg51 (hw.mono (Mem.le_join _ _))) ?_
 refine if_intro (fun h => nomatch h) (fun _ => ?_)
 refine if_intro (fun h => absurd h (by simp)) (fun _ => ?_)
 refine call_mark (l1 := [_, _, _, _, _]) hap50 ho50 (fun hx o => markFactS_spec o (by omega) (by omega)) fun H53 hap53 ho53 => ?_
 refine call_read hap53 (heldFactS_spec (Owns.rep (l1 := [_, _, _, _, _]) hap53 ho53) (by omega) (by omega)) ?_
 refine ifd (fun h => by omega) (fun _ => ?_)
 refine ifnd (fun h => absurd rfl h) (fun _ => ?_)
 refine call_data hap53 (toProgram_spec t0 h0 hb0) fun u54 μ54 hle54 hap54 hf54 => ?_
 replace h0 := h0.mono hle54
 replace s1 := s1.mono hle54
 replace s2 := s2.mono hle54
 replace s3 := s3.mono hle54
 replace h4 := h4.mono hle54
 replace hw := hw.mono hle54
 have hv_ := Pg.invV hf54.rep
 obtain ⟨qq55, rfl⟩ := hv_
 have o0 := hf54.rep
 refine call_data hap54 (toTermS_spec s1 hb1) fun u56 μ56 hle56 hap56 hf56 => ?_
 replace h0 := h0.mono hle56
 replace s1 := s1.mono hle56
 replace s2 := s2.mono hle56
 replace s3 := s3.mono hle56
 replace h4 := h4.mono hle56
 replace hw := hw.mono hle56
 replace o0 := o0.mono hle56
 have hv_ := Rep.sl hf56.rep
 obtain ⟨bb57, cc57, rfl, o1⟩ := hv_
 rw [List.length_map] at o1 ⊢
 refine call_data hap56 (toFactS_spec s2 hb2) fun u58 μ58 hle58 hap58 hf58 => ?_
 replace h0 := h0.mono hle58
 replace s1 := s1.mono hle58
 replace s2 := s2.mono hle58
 replace s3 := s3.mono hle58
 replace h4 := h4.mono hle58
 replace hw := hw.mono hle58
 replace o0 := o0.mono hle58
 replace o1 := o1.mono hle58
 have hv_ := Rep.sl hf58.rep
 obtain ⟨bb59, cc59, rfl, o2⟩ := hv_
 rw [List.length_map] at o2 ⊢
 have o2r := hf58.rep
 rw [List.length_map] at o2r
 refine call_data hap58 (toFactS_spec s3 hb3) fun u60 μ60 hle60 hap60 hf60 => ?_
 replace h0 := h0.mono hle60
 replace s1 := s1.mono hle60
 replace s2 := s2.mono hle60
 replace s3 := s3.mono hle60
 replace h4 := h4.mono hle60
 replace hw := hw.mono hle60
 replace o0 := o0.mono hle60
 replace o1 := o1.mono hle60
 replace o2 := o2.mono hle60
 replace o2r := o2r.mono hle60
 have hv_ := Rep.sl hf60.rep
 obtain ⟨bb61, cc61, rfl, o3⟩ := hv_
 rw [List.length_map] at o3 ⊢
 refine call_data hap60 (toFact_spec t4 h4 hb4) fun u62 μ62 hle62 hap62 hf62 => ?_
 replace h0 := h0.mono hle62
 replace s1 := s1.mono hle62
 replace s2 := s2.mono hle62
 replace s3 := s3.mono hle62
 replace h4 := h4.mono hle62
 replace hw := hw.mono hle62
 replace o0 := o0.mono hle62
 replace o1 := o1.mono hle62
 replace o2 := o2.mono hle62
 replace o2r := o2r.mono hle62
 replace o3 := o3.mono hle62
 have hv_ := Fc.invV hf62.rep
 obtain ⟨qq63, rfl⟩ := hv_
 have o4 := hf62.rep
 refine call_data hap62 ((impl_RemoveFact_spec o0 o1 o2r (by omega) o3 o4).weaken fun v μ' _ h => optFs_fresh h) fun u64 μ64 hle64 hap64 hR => ?_
 replace h0 := h0.mono hle64
 replace s1 := s1.mono hle64
 replace s2 := s2.mono hle64
 replace s3 := s3.mono hle64
 replace h4 := h4.mono hle64
 replace hw := hw.mono hle64
 replace o0 := o0.mono hle64
 replace o1 := o1.mono hle64
 replace o2 := o2.mono hle64
 replace o2r := o2r.mono hle64
 replace o3 := o3.mono hle64
 replace o4 := o4.mono hle64
 obtain ⟨h0, rfl, hh0⟩ := hR
 have hv_ := Rep.sl hh0.rep
 obtain ⟨bb65, cc65, rfl, hh⟩ := hv_
 rw [List.length_map] at hh ⊢
 refine call_read hap64 (eqFactS_spec (hh.mono (Mem.le_join _ _)) (hw.mono (Mem.le_join _ _))) ?_
 refine if_intro (fun h => nomatch h) (fun _ => ?_)
 refine if_intro (fun h => absurd h (by simp)) (fun _ => ?_)
 refine call_read hap64 (heldFactS_spec (Owns.rep (l1 := [_, _, _, _, _]) hap64 ho53) (by omega) (by omega)) ?_
 refine ifd (fun h => by omega) (fun _ => ?_)
 refine ifnd (fun h => absurd rfl h) (fun _ => ?_)
 exact ret_plain rfl
end
end Go.Vx
