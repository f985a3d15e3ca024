/- Texts of the proof, part E1. -/
import Derived.Test.YtheneidclfohoaaGreatM5
namespace Go.Vx
section
variable {P : Program} {f : FuncId} {args : List Value} {μ h0 : Mem}
theorem Mem.sub_le (μ g : Mem) : (μ.sub g).Le μ := fun b o h => by
  unfold Mem.sub at h
  split at h
  · cases h
  · exact h
theorem Mem.sub_none {μ g : Mem} {b : Nat} (h : (μ.sub g) b ≠ none) : g b = none := by
  unfold Mem.sub at h
  split at h
  · exact absurd rfl h
  · assumption
theorem Mem.sub_of {μ g : Mem} {b : Nat} (h : g b = none) : (μ.sub g) b = μ b := by unfold Mem.sub; rw [h]
theorem Mem.join_sub {μ g : Mem} (h : Apart μ g) : (μ.join g).sub g = μ := funext fun b => by
  cases hg : g b with
  | some o =>
    have : μ b = none := h.symm b (by simp [hg])
    unfold Mem.sub; rw [hg, this]
  | none =>
    rw [Mem.sub_of hg, Mem.join_get]
    cases μ b with
    | some o => rfl
    | none => exact hg
theorem Mem.le_sub {μ μ' g : Mem} (h : μ.Le μ') (ha : Apart μ g) : μ.Le (μ'.sub g) := fun b o hb => by
  rw [Mem.sub_of (ha b (by simp [hb]))]; exact h b o hb
theorem SpecH.lend {H : Mem} {R : Value → Mem → Prop} (ha : Apart μ H) (h : Spec P f args (μ.join H) R) : SpecH P f args μ H fun v μ1 H1 => H1 = H ∧ ∃ μ', R v μ' ∧ (μ.join H).Le μ' ∧ μ1 = μ'.sub H := by
  refine ⟨h.1, fun w hm hH _ => (h.2 w (hm.join hH) (holds_nil w) (apart_nil _)).mono ?_⟩
  rintro e w' ⟨v, μ', h', rfl, hr, hS⟩
  refine ⟨v, μ'.sub H, H, rfl, ⟨rfl, μ', hr, hS.le, rfl⟩, ⟨Mem.le_sub ((Mem.le_join μ H).trans hS.le) ha, hS.mem.le (Mem.sub_le _ _), hS.mem.le ((Mem.le_join_right ha).trans hS.le), fun b hb => Mem.sub_none hb, fun b hb hb' => ?_, fun b hb => .inr hb, hS.size, fun b hb _ => hS.keep b hb rfl, hS.os, hS.tape, hS.output⟩⟩
  have h1 := Mem.sub_none hb'
  rw [Mem.sub_of h1] at hb'
  refine .inl ((hS.fresh b ?_ hb').resolve_right (fun h => h rfl))
  rw [Mem.join_get, hb]; exact h1
theorem SpecH.lendGives {H : Mem} {x : Value} (ha : Apart μ H) (h : Spec P f args (μ.join H) fun v μ' => v = x ∧ μ' = μ.join H) : SpecH P f args μ H fun v μ1 H1 => v = x ∧ μ1 = μ ∧ H1 = H :=
  (SpecH.lend ha h).weaken fun v μ1 H1 _ _ ⟨h1, μ', ⟨h2, h3⟩, _, h4⟩ => ⟨h2, by rw [h4, h3, Mem.join_sub ha], h1⟩
end
theorem digits_zero : digits 0 = [] := by rw [digits]; simp
theorem digits_pos {k : Nat} (h : k ≠ 0) : digits k = digits (k / 10) ++ [UInt8.ofNat (48 + k % 10)] := by rw [digits]; simp [h]
mutual
def D.mt : D → Int → D × Int
  | .i n, k => (.i n, k)
  | .b x, k => (.b x, k)
  | .s x, k => (.s x, k)
  | .st fs, k => (.st (D.mts fs k).1, (D.mts fs k).2)
  | .sl es xs, k => (.sl es (D.mks xs k).1, (D.mks xs k).2)
def D.mts : List D → Int → List D × Int
  | [], k => ([], k)
  | d :: r, k => ((d.mt k).1 :: (D.mts r (d.mt k).2).1, (D.mts r (d.mt k).2).2)
end
theorem Mem.set_apart {h k : Mem} {r : Nat} {o : Obj} (_h1 : h r = none) (p : Apart (h.set r o) k) : Apart h k ∧ k r = none :=
  ⟨fun b hb => p b (by rw [Mem.set_get]; split; · simp
                       · exact hb), p r (by rw [Mem.set_get, if_pos rfl]; simp)⟩
theorem D.mks_length : ∀ (xs : List D) (k : Int), (D.mks xs k).1.length = xs.length
  | [], _ => rfl
  | d :: r, k => by simp [D.mks, D.mks_length r]
theorem D.mks_get : ∀ {xs : List D} {i : Nat} {x : D} (_ : xs[i]? = some x) (k : Int), (D.mks xs k).1[i]? = some (x.mk (D.mks (xs.take i) k).2).1
  | [], j, x, h, _ => by simp at h
  | d :: r, 0, x, h, k => by simp at h; subst h; simp [D.mks]
  | d :: r, j + 1, x, h, k => by
    have := D.mks_get (xs := r) (i := j) (by simpa using h) (d.mk k).2
    simpa [D.mks] using this
theorem D.mks_size {es : Nat} : ∀ {xs : List D} (k : Int), (∀ x ∈ xs, x.n = es) → ∀ y ∈ (D.mks xs k).1, y.n = es
  | [], _, _, y, h => by simp [D.mks] at h
  | d :: r, k, hn, y, h => by
    simp only [D.mks, List.mem_cons] at h
    rcases h with rfl | h
    · rw [D.mk_n]; exact hn d (by simp)
    · exact D.mks_size _ (fun x hx => hn x (by simp [hx])) y h
end Go.Vx
namespace Go.Vx
section
variable {P : Program} {f : FuncId} {args : List Value} {μ H : Mem}
theorem Spec.lendOwn {R : Value → Mem → Prop} {R' : Value → Mem → Mem → Prop} (ha : Apart μ H) (h : Spec P f args (μ.join H) R) (G : ∀ v μ1, (μ.join H).Le μ1 → R v μ1 → ∃ g : Mem, g.Le μ1 ∧ (∀ b, g b ≠ none → (μ.join H) b = none) ∧ R' v g μ1) :
  SpecH P f args μ H fun v μ2 H2 => ∃ g μ1, R' v g μ1 ∧ (μ.join H).Le μ1 ∧ Parts H2 H g ∧ μ2 = (μ1.sub H).sub g := by
 refine ⟨h.1, fun w hm hH _ => (h.2 w (hm.join hH) (holds_nil w) (apart_nil _)).mono ?_⟩
 rintro e w' ⟨v, μ1, h1, rfl, hr, hS⟩
 obtain ⟨g, hg, hf, hr'⟩ := G v μ1 hS.le hr
 have hgH : Apart H g := fun b hb => by
  cases h2 : g b with
  | none => rfl
  | some o =>
   have := hf b (by simp [h2])
   cases h3 : H b with
   | none => exact absurd h3 hb
   | some o' => rw [Mem.le_join_right ha b o' h3] at this; cases this
 have hgμ : Apart μ g := fun b hb => by
  cases h2 : g b with
  | none => rfl
  | some o =>
   have := hf b (by simp [h2])
   cases h3 : μ b with
   | none => exact absurd h3 hb
   | some o' => rw [Mem.le_join μ H b o' h3] at this; cases this
 refine ⟨v, (μ1.sub H).sub g, H.join g, rfl, ⟨g, μ1, hr', hS.le, Parts.join hgH, rfl⟩, ⟨Mem.le_sub (Mem.le_sub ((Mem.le_join μ H).trans hS.le) ha) hgμ, hS.mem.le ((Mem.sub_le _ _).trans (Mem.sub_le _ _)), (hS.mem.le ((Mem.le_join_right ha).trans hS.le)).join (hS.mem.le hg), fun b hb => ?_, fun b hb hb' => ?_, fun b hb => ?_, hS.size, fun b hb _ => hS.keep b hb rfl, hS.os, hS.tape, hS.output⟩⟩
 ·have k1 := Mem.sub_none hb
  rw [Mem.sub_of k1] at hb
  rw [Mem.join_get, Mem.sub_none hb]; exact k1
 ·have k1 := Mem.sub_none hb'
  rw [Mem.sub_of k1] at hb'
  have k2 := Mem.sub_none hb'
  rw [Mem.sub_of k2] at hb'
  refine .inl ((hS.fresh b ?_ hb').resolve_right fun h => h rfl)
  rw [Mem.join_get, hb]; exact k2
 ·rcases join_ne hb with h2 | h2
  ·exact .inr h2
  ·refine .inl ((hS.fresh b (hf b h2) ?_).resolve_right fun h => h rfl)
   cases h3 : g b with
   | none => exact absurd h3 h2
   | some o => rw [hg b o h3]; simp
variable {dr : Bool} {s : St} {K : Value → St → Prop}
theorem call_new {l : List (D × Value)} {d : D} (T : Value → Value) (hap : Apart s.mem s.own) (ho : Owns s.own l) (h : Spec P f args (s.mem.join s.own) fun v μ' => ∃ gv, v = T gv ∧ Fresh (s.mem.join s.own) μ' d gv)
  (k : ∀ gv μ' H', s.mem.Le μ' → Apart μ' H' → Owns H' (l ++ [(d, gv)]) → memOwnK s μ' H' fun s => K (T gv) s) : callVC dr P f args s K := by
 refine call_own (Spec.lendOwn (R' := fun v g μ1 => ∃ gv, v = T gv ∧ OwnV d g gv) hap h fun v μ1 hle hR => ?_) fun v μ' H' hle ha' hR => ?_
 ·obtain ⟨gv, e, g, h1, h2, h3⟩ := hR
  exact ⟨g, h2, h3, gv, e, h1⟩
 ·obtain ⟨g, μ1, ⟨gv, rfl, h1⟩, _, hp, _⟩ := hR
  exact k gv μ' H' hle ha' (ho.snoc h1 hp)
theorem call_read {x : Value} (hap : Apart s.mem s.own) (h : Spec P f args (s.mem.join s.own) fun v μ' => v = x ∧ μ' = s.mem.join s.own) (k : K x s) : callVC dr P f args s K :=
 call_own (SpecH.lendGives hap h) fun v μ' H' _ _ ⟨h1, h2, h3⟩ => by
  subst h1 h2 h3
  cases s
  exact k
theorem call_mark {l1 l2 : List (D × Value)} {d d' : D} {u : Value} {x : Value} (_hap : Apart s.mem s.own) (ho : Owns s.own (l1 ++ (d, u) :: l2)) (h : ∀ hx, OwnV d hx u → SpecH P f args s.mem hx fun r μ' h' => r = x ∧ μ' = s.mem ∧ OwnV d' h' u)
  (k : ∀ H', Apart s.mem H' → Owns H' (l1 ++ (d', u) :: l2) → memOwnK s s.mem H' fun s => K x s) : callVC dr P f args s K := by
 obtain ⟨h1, k1, p, o, back⟩ := ho.focus
 refine call_own (SpecH.frame p (h h1 o)) fun v μ' H' hle ha' ⟨h', ⟨e1, e2, o'⟩, p'⟩ => ?_
 subst e1 e2
 exact k H' ha' (back H' h' d' p' o')
end
end Go.Vx
namespace Go.Vx
open Go.Proofs Classical
section
variable {μ : Mem}
theorem wrap8 {n : Int} (h1 : 0 ≤ n) (h2 : n < 256) : IntKind.u8.wrap n = n := by
 have e : IntKind.u8.bits = 8 := rfl
 have e2 : IntKind.u8.signed = false := rfl
 simp only [IntKind.wrap, e, e2, Bool.false_and]
 simp only [show (2 : Int) ^ 8 = 256 from rfl]
 simp; omega
theorem bytes_app (a b : List UInt8) : (⟨a.toArray⟩ : ByteArray) ++ ⟨b.toArray⟩ = ⟨(a ++ b).toArray⟩ := by
 have : ((⟨a.toArray⟩ : ByteArray) ++ ⟨b.toArray⟩).data = (a ++ b).toArray := by
  rw [ByteArray.data_append]; simp
 cases h : (⟨a.toArray⟩ : ByteArray) ++ ⟨b.toArray⟩
 rw [h] at this
 simp only at this
 rw [this]
theorem markText_spec (k : Int) (hk : k ≤ 9223372036854775807) : Gives Tryz.prog 102 [.int .i64 k] μ (.string (mtext k)) := by
 refine Spec.mk Tryz.func102 (by kernel_rfl) ?_
 refine ifd (fun h => ret_gives ?_ rfl) (fun h => ?_)
 ·rw [mtext, if_pos h]
 obtain ⟨n, rfl⟩ : ∃ n : Nat, k = n := ⟨k.toNat, by omega⟩
 refine loop_intro (fun p : Nat × List UInt8 => digits n = digits p.1 ++ p.2 ∧ p.1 * 2 ^ p.2.length ≤ n ∧ p.2.length ≤ 64) (fun p => ⟨[(0, .val (.int .i64 p.1)), (3, .val (.string ⟨p.2.toArray⟩))], [], 0, μ, Mem.nil⟩) (fun p => p.1)
  (n, []) ⟨by simp, by simp, by simp⟩ (fun i => ⟨rfl, rfl⟩) ⟨⟨rfl, rfl, trivial⟩, trivial, rfl, rfl⟩ ?_
 rintro ⟨m, l⟩ ⟨h1, h2, hlen0⟩
 simp only at h1 h2 hlen0
 refine ifd (fun h3 => ?_) (fun h3 => ?_)
 ·have hm : m ≠ 0 := by omega
  have hmn : m ≤ n := Nat.le_trans (Nat.le_mul_of_pos_right _ (Nat.two_pow_pos _)) h2
  have hlen : l.length ≤ 63 := by
   rcases Nat.lt_or_ge 63 l.length with h | h
   ·exfalso
    have h4 : 2 ^ 64 ≤ 2 ^ l.length := Nat.pow_le_pow_right (by omega) h
    have h5 : 1 * 2 ^ l.length ≤ m * 2 ^ l.length := Nat.mul_le_mul_right _ (by omega)
    omega
   ·exact h
  refine need_intro (by omega) (num_eq (x := ((m % 10 : Nat) : Int)) (by rw [Int.tmod_eq_emod_of_nonneg (by omega)]; omega) ?_)
  refine num64 (by omega) (by omega) (num_eq (wrap8 (by omega) (by omega)) ?_)
  intro r
  have hb : (UInt8.ofNat (48 + m % 10)).toNat = 48 + m % 10 := by
   rw [UInt8.toNat_ofNat']; omega
  refine bytes_intro [UInt8.ofNat (48 + m % 10)] (by simp only [List.map_cons, List.map_nil, hb]; congr 2) ?_
  refine need_intro (by simp [ByteArray.size]; omega) ?_
  refine need_intro (by omega) (num_eq (x := ((m / 10 : Nat) : Int)) (by show IntKind.i64.wrap (Int.tdiv (m : Int) 10) = _; rw [Int.tdiv_eq_ediv_of_nonneg (by omega), wrap64 (by omega) (by omega)]; simp) ?_)
  refine ⟨(m / 10, UInt8.ofNat (48 + m % 10) :: l), ⟨?_, ?_, by simp only [List.length_cons]; omega⟩, by simp only; omega, ⟨⟨rfl, ?_, trivial⟩, trivial, rfl, rfl⟩⟩
  ·simp only; rw [h1, digits_pos hm]; simp
  ·simp only [List.length_cons, Nat.pow_succ]
   have : m / 10 * 2 ≤ m := by omega
   calc m / 10 * (2 ^ l.length * 2) = (m / 10 * 2) * 2 ^ l.length := by rw [Nat.mul_comm (2 ^ l.length) 2, ← Nat.mul_assoc]
    _ ≤ m * 2 ^ l.length := Nat.mul_le_mul_right _ this
    _ ≤ n := h2
  ·simp only [look]
   rw [bytes_app]; rfl
 ·have hm : m = 0 := by omega
  subst hm
  refine need_intro (by simp [ByteArray.size]; omega) ?_
  refine ret_gives ?_ rfl
  rw [mtext, if_neg (by omega)]
  have := bytes_app [109] l
  rw [this, Int.toNat_natCast, h1, digits_zero]; rfl
end
end Go.Vx
namespace Go.Vx
open Go.Proofs Classical
theorem back_of {g' m H' : Mem} {r : Nat} {o : Obj} (hm : m r = none) (p : Parts H' g' (m.set r o)) : Apart g' m ∧ g' r = none ∧ H' = (g'.join m).set r o := by
 have hv_ := Mem.set_apart hm p.apart.symm
 obtain ⟨a1, a2⟩ := hv_
 exact ⟨a1.symm, a2, p.eq ((Parts.join a1.symm).set (by rw [Mem.join_get, a2]; exact hm))⟩
theorem Tm.mk_eq (t : Tm) (k : Int) : t.d.mk k = (.st [.i k, .i (k + 1), .s (mtext (k + 1 + 1)), .sl 4 (D.mks (t.args.map Tm.d) (k + 1 + 1 + 1)).1], (D.mks (t.args.map Tm.d) (k + 1 + 1 + 1)).2) := by
 rw [Tm.d_eq]; simp [D.mk, D.mks]
theorem Tm.cnt_eq (t : Tm) : t.d.cnt = 3 + D.cnts (t.args.map Tm.d) := by
 rw [Tm.d_eq]; simp [D.cnt, D.cnts]; omega
section
variable {μ : Mem}
theorem markTermS_of {l : List Tm} (he : ∀ t ∈ l, ∀ {h : Mem} {v : Value} {k : Int}, OwnV (.sl 4 (t.args.map Tm.d)) h v → 0 ≤ k → k + D.cnts (t.args.map Tm.d) ≤ 9223372036854775807 →
   SpecH Tryz.prog 38 [v, .int .i64 k] μ h fun r μ' h' => r = .int .i64 (D.mks (t.args.map Tm.d) k).2 ∧ μ' = μ ∧ OwnV (.sl 4 (D.mks (t.args.map Tm.d) k).1) h' v)
  {h : Mem} {v : Value} {k : Int} (ho : OwnV (.sl 4 (l.map Tm.d)) h v) (hk : 0 ≤ k) (hk2 : k + D.cnts (l.map Tm.d) ≤ 9223372036854775807) :
  SpecH Tryz.prog 38 [v, .int .i64 k] μ h fun r μ' h' => r = .int .i64 (D.mks (l.map Tm.d) k).2 ∧ μ' = μ ∧ OwnV (.sl 4 (D.mks (l.map Tm.d) k).1) h' v := by
 obtain ⟨base, cap, e, hm, hn, ho⟩ := ho
 simp only [List.cons.injEq, and_true] at e
 subst e
 have hm' : (l.map Tm.d).length ≤ 9223372036854775807 := Nat.le_trans hm.max (by decide)
 refine SpecH.mk [] Tryz.func38 (by kernel_rfl) ?_
 rcases ho with ⟨hnil, rfl⟩ | ⟨r, flat, rest, ty, h2, rfl, hr, rfl, ho⟩
 ·rw [hnil]
  refine loop_intro (fun i : Nat => i = 0) (fun i => ⟨[(0, .val (.slice base 0 cap)), (1, .val (.int .i64 k)), (5, .val (.int .i64 i))], [], 0, μ, Mem.nil⟩) (fun i => 0 - i)
   0 rfl (fun i => ⟨rfl, rfl⟩) ⟨⟨rfl, rfl, rfl, trivial⟩, trivial, rfl, rfl⟩ ?_
  rintro i rfl
  refine ifd (fun h => by omega) (fun h => ret_plain ⟨rfl, rfl, base, cap, rfl, ⟨Nat.zero_le _, Nat.zero_le _⟩, by simp [D.mks], .inl ⟨rfl, rfl⟩⟩)
 ·generalize hxs : l.map Tm.d = xs at *
  refine loop_intro (fun p : Nat × List Value × List Value × Mem => Marking xs k rest r p.1 p.2.1 p.2.2.1 p.2.2.2)
   (fun (i, pre, tail, hh) => ⟨[(0, .val (.slice (some ⟨r, 0, none⟩) xs.length cap)), (1, .val (.int .i64 (D.mks (xs.take i) k).2)), (5, .val (.int .i64 i))], [], 0, μ, hh.set r (.cells (List.toArray (pre ++ tail)) ty (0, 0))⟩) (fun p => xs.length - p.1)
   (0, [], flat ++ rest, h2) (Marking.start hr ho) (fun (_, _, _, _) => ⟨rfl, rfl⟩) ⟨⟨rfl, rfl, rfl, trivial⟩, trivial, rfl, rfl⟩ ?_
  rintro ⟨i, pre, tail, hh⟩ M
  dsimp only at M
  have hi := M.le
  have hge := D.mks_cnt (xs.take i) k
  refine ifd (fun h => ?_) (fun h => ?_)
  ·obtain ⟨t, ht⟩ := at_some (l := l) (i := i) (by rw [← hxs] at h; simp at h; omega)
   have hx : xs[i]? = some t.d := by rw [← hxs]; simp [ht]
   have hv_ := M.next hx
   obtain ⟨c, g, m, c2, rfl, hown, hp, hmr, back⟩ := hv_
   have hv_ := Tm.own hown
   obtain ⟨v, rfl, hv⟩ := hv_
   have hv_ := OwnV.slice hv
   obtain ⟨b2, cap2, rfl⟩ := hv_
   have hlen := M.len hn
   have hcnt := Marking.cnt (k := k) hx
   rw [Tm.cnt_eq] at hcnt
   refine ptr_intro ⟨r, 0, none⟩ rfl (by omega) (by omega) ?_
   refine sto_at (j := 0) (by simp [Addr.add_lit', hlen]) (by simp) ?_
   refine num64 (by omega) (by omega) ?_
   refine ptr_intro ⟨r, 0, none⟩ rfl (by omega) (by omega) ?_
   refine sto_at (j := 1) (by simp [Addr.add_lit', hlen]) (by simp) ?_
   refine num64 (by omega) (by omega) ?_
   refine call_gives (markText_spec _ (by omega)) ?_
   refine ptr_intro ⟨r, 0, none⟩ rfl (by omega) (by omega) ?_
   refine sto_at (j := 2) (by simp [Addr.add_lit', hlen]) (by simp) ?_
   refine num64 (by omega) (by omega) ?_
   refine ptr_intro ⟨r, 0, none⟩ rfl (by omega) (by omega) ?_
   refine own_at (j := 3) (by simp [Addr.add_lit', hlen]) rfl ?_
   refine call_own (SpecH.frame (hp.set M.out) (he t (mem_at ht) hv (by omega) (by omega))) fun v μ' H' hle hap hR => ?_
   obtain ⟨h', ⟨rfl, rfl, ho'⟩, hp'⟩ := hR
   have hv_ := back_of hmr hp'
   obtain ⟨a1, a2, rfl⟩ := hv_
   have hmk := D.mks_take hx k
   have hmk2 := Tm.mk_eq t (D.mks (xs.take i) k).2
   refine num64 (by omega) (by omega) ⟨(i + 1, pre ++ [.int .i64 (D.mks (xs.take i) k).2, .int .i64 ((D.mks (xs.take i) k).2 + 1), .string (mtext ((D.mks (xs.take i) k).2 + 1 + 1)), .slice b2 (t.args.map Tm.d).length cap2], c2 ++ rest, h'.join m), back _ _ a1 a2 ?_, by dsimp only; omega, ⟨⟨rfl, ?_, rfl, trivial⟩, trivial, rfl, ?_⟩⟩
   ·rw [hmk2]
    exact OwnS.int (OwnS.int (OwnS.str (OwnS.last ho')))
   ·rw [hmk, hmk2]
    rfl
   ·simp
  ·have hi' : i = xs.length := by omega
   subst hi'
   obtain ⟨rfl, o1⟩ := M.last
   refine ret_plain ⟨by rw [List.take_length], rfl, some ⟨r, 0, none⟩, cap, by rw [D.mks_length], by rw [D.mks_length]; exact hm, D.mks_size k hn, .inr ⟨r, pre, tail, ty, hh, rfl, M.out, rfl, o1⟩⟩
theorem markTermS_spec {l : List Tm} {h : Mem} {v : Value} {k : Int} (ho : OwnV (.sl 4 (l.map Tm.d)) h v) (hk : 0 ≤ k) (hk2 : k + D.cnts (l.map Tm.d) ≤ 9223372036854775807) :
  SpecH Tryz.prog 38 [v, .int .i64 k] μ h fun r μ' h' => r = .int .i64 (D.mks (l.map Tm.d) k).2 ∧ μ' = μ ∧ OwnV (.sl 4 (D.mks (l.map Tm.d) k).1) h' v :=
 Tm.ind (p := fun t => ∀ {h : Mem} {v : Value} {k : Int}, OwnV (.sl 4 (t.args.map Tm.d)) h v → 0 ≤ k → k + D.cnts (t.args.map Tm.d) ≤ 9223372036854775807 →
   SpecH Tryz.prog 38 [v, .int .i64 k] μ h fun r μ' h' => r = .int .i64 (D.mks (t.args.map Tm.d) k).2 ∧ μ' = μ ∧ OwnV (.sl 4 (D.mks (t.args.map Tm.d) k).1) h' v)
  (fun _ _ _ _ ih _ _ _ => markTermS_of fun t ht _ _ _ => ih t ht) (.mk 0 0 ⟨#[]⟩ l) ho hk hk2
theorem heldTermS_of {l : List Tm} (he : ∀ t ∈ l, ∀ {v : Value} {k : Int}, RepV μ (.sl 4 (D.mks (t.args.map Tm.d) k).1) v → 0 ≤ k → k + D.cnts (t.args.map Tm.d) ≤ 9223372036854775807 →
   Gives Tryz.prog 103 [v, .int .i64 k] μ (.int .i64 (D.mks (t.args.map Tm.d) k).2))
  {v : Value} {k : Int} (ho : RepV μ (.sl 4 (D.mks (l.map Tm.d) k).1) v) (hk : 0 ≤ k) (hk2 : k + D.cnts (l.map Tm.d) ≤ 9223372036854775807) :
  Gives Tryz.prog 103 [v, .int .i64 k] μ (.int .i64 (D.mks (l.map Tm.d) k).2) := by
 have hv_ := Rep.sl ho
 obtain ⟨base, cap, rfl, hsl⟩ := hv_
 have hm' := Nat.le_trans hsl.max (show maxLen ≤ 9223372036854775807 by decide)
 rw [D.mks_length] at hm' hsl ⊢
 refine Spec.mk Tryz.func103 (by kernel_rfl) ?_
 generalize hxs : l.map Tm.d = xs at *
 refine loop_intro (fun i : Nat => i ≤ xs.length) (fun i => ⟨[(0, .val (.slice base xs.length cap)), (1, .val (.int .i64 (D.mks (xs.take i) k).2)), (5, .val (.int .i64 i))], [], 0, μ, Mem.nil⟩) (fun i => xs.length - i)
  0 (by simp) (fun i => ⟨rfl, rfl⟩) ⟨⟨rfl, rfl, rfl, trivial⟩, trivial, rfl, rfl⟩ ?_
 intro i hi
 have hge := D.mks_cnt (xs.take i) k
 refine ifd (fun h => ?_) (fun h => ?_)
 ·obtain ⟨t, ht⟩ := at_some (l := l) (i := i) (by rw [← hxs] at h; simp at h; omega)
  have hx : xs[i]? = some t.d := by rw [← hxs]; simp [ht]
  have hcnt := Marking.cnt (k := k) hx
  rw [Tm.cnt_eq] at hcnt
  have hv_ := hsl.get i _ (D.mks_get hx k)
  obtain ⟨ad, cs, hel, hcs⟩ := hv_
  have hmk := D.mks_take hx k
  have hmk2 := Tm.mk_eq t (D.mks (xs.take i) k).2
  rw [hmk2] at hcs
  obtain ⟨_, _, rfl, rfl, _, _, rfl, rfl, _, _, rfl, rfl, c7, _, rfl, h7, rfl⟩ := hcs
  have hl := Rep.len _ _ h7
  match c7, hl with
  | [v], _ =>
   have h7' := h7
   obtain ⟨b2, cap2, rfl, _⟩ := h7'.sl
   have hge2 := D.mks_cnt (t.args.map Tm.d) ((D.mks (xs.take i) k).2 + 1 + 1 + 1)
   refine elem_intro hel (ifnd (fun h => absurd rfl h) fun _ => ?_)
   refine num64 (by omega) (by omega) ?_
   refine elem_intro hel (ifnd (fun h => absurd rfl h) fun _ => ?_)
   refine num64 (by omega) (by omega) ?_
   refine elem_intro hel ?_
   refine call_gives (markText_spec _ (by omega)) ?_
   refine ifnd (fun h => absurd rfl h) fun _ => ?_
   refine num64 (by omega) (by omega) ?_
   refine elem_intro hel ?_
   refine call_gives (he t (mem_at ht) h7 (by omega) (by omega)) ?_
   refine ifd (fun h => absurd h (by omega)) (fun _ => ?_)
   refine num64 (by omega) (by omega) ?_
   exact ⟨i + 1, by omega, by omega, ⟨⟨rfl, by rw [hmk, hmk2]; rfl, rfl, trivial⟩, trivial, rfl, rfl⟩⟩
 ·have hi' : i = xs.length := by omega
  subst hi'
  rw [List.take_length]
  exact ret_gives rfl rfl
theorem heldTermS_spec {l : List Tm} {v : Value} {k : Int} (ho : RepV μ (.sl 4 (D.mks (l.map Tm.d) k).1) v) (hk : 0 ≤ k) (hk2 : k + D.cnts (l.map Tm.d) ≤ 9223372036854775807) :
  Gives Tryz.prog 103 [v, .int .i64 k] μ (.int .i64 (D.mks (l.map Tm.d) k).2) :=
 Tm.ind (p := fun t => ∀ {v : Value} {k : Int}, RepV μ (.sl 4 (D.mks (t.args.map Tm.d) k).1) v → 0 ≤ k → k + D.cnts (t.args.map Tm.d) ≤ 9223372036854775807 →
   Gives Tryz.prog 103 [v, .int .i64 k] μ (.int .i64 (D.mks (t.args.map Tm.d) k).2))
  (fun _ _ _ _ ih _ _ => heldTermS_of fun t ht _ _ => ih t ht) (.mk 0 0 ⟨#[]⟩ l) ho hk hk2
theorem Tm.mt_eq (t : Tm) (k : Int) : t.d.mt k = (.st [.i t.kind, .i t.num, .s t.name, .sl 4 (D.mks (t.args.map Tm.d) k).1], (D.mks (t.args.map Tm.d) k).2) := by
 rw [Tm.d_eq]; simp [D.mt, D.mts]
theorem Bd.mk_eq (b : Bd) (k : Int) : b.d.mk k = (.st [.i k, .st [.i (k + 1), .i (k + 1 + 1), .s (mtext (k + 1 + 1 + 1)), .sl 4 (D.mks (b.to.args.map Tm.d) (k + 1 + 1 + 1 + 1)).1]], (D.mks (b.to.args.map Tm.d) (k + 1 + 1 + 1 + 1)).2) := by
 simp only [Bd.d, D.mk, D.mks, Tm.mk_eq]
theorem Bd.cnt_eq (b : Bd) : b.d.cnt = 4 + D.cnts (b.to.args.map Tm.d) := by
 simp only [Bd.d, D.cnt, D.cnts, Tm.cnt_eq]; omega
end
end Go.Vx
namespace Go.Vx
open Go.Proofs Classical
theorem sub_none : ∀ {bs : List B} {n : Int}, (∀ b ∈ bs, b.var ≠ n) → sub bs n = none
 | [], _, _ => rfl
 | c :: bs, n, h => by
  rw [sub, if_neg (h c (by simp))]
  exact sub_none fun b hb => h b (by simp [hb])
section
variable {μ : Mem}
end
end Go.Vx
namespace Go.Vx
open Go.Proofs Classical
theorem tm_cnt : ∀ t : Tm, t.d.cnt = 3 * t.cnt :=
 Tm.ind fun k n s l ih => by
  have : D.cnts (l.map Tm.d) = 3 * Tm.cnts l := by
   induction l with
   | nil => rfl
   | cons t l ih2 =>
    have h1 := ih t (by simp)
    have h2 := ih2 fun t ht => ih t (by simp [ht])
    simp only [List.map_cons, D.cnts, Tm.cnts, h1, h2]; omega
  rw [Tm.cnt_eq, Tm.cnt]
  show 3 + D.cnts (l.map Tm.d) = _
  omega
theorem tm_cnt_sz : ∀ t : Tm, t.d.cnt ≤ 3 + 3 * t.d.sz :=
 Tm.ind fun k n s l ih => by
  have : D.cnts (l.map Tm.d) ≤ 3 * l.length + 3 * D.szs (l.map Tm.d) := by
   induction l with
   | nil => simp [D.cnts, D.szs]
   | cons t l ih2 =>
    have h1 := ih t (by simp)
    have h2 := ih2 fun t ht => ih t (by simp [ht])
    simp only [List.map_cons, D.cnts, D.szs, List.length_cons]; omega
  rw [Tm.cnt_eq, Tm.d_mk]
  show 3 + D.cnts (l.map Tm.d) ≤ _
  simp only [D.sz, D.szs, List.length_map]
  omega
end Go.Vx
namespace Go.Vx
open Go.Proofs Classical
theorem tms_cnt : ∀ l : List Tm, D.cnts (l.map Tm.d) ≤ 3 * l.length + 3 * D.szs (l.map Tm.d)
 | [] => by simp [D.cnts, D.szs]
 | t :: l => by
  have h1 := tms_cnt l
  have h2 := tm_cnt_sz t
  simp only [List.map_cons, D.cnts, D.szs, List.length_cons]; omega
theorem tms_cnt2 : ∀ l : List Tm, (∀ t ∈ l, t.cnt ≤ 5000) → D.cnts (l.map Tm.d) ≤ 15000 * l.length
 | [], _ => by simp [D.cnts]
 | t :: l, h => by
  have h1 := tms_cnt2 l fun t ht => h t (by simp [ht])
  have h2 := tm_cnt t
  have h3 := h t (by simp)
  simp only [List.map_cons, D.cnts, List.length_cons]; omega
section
variable {μ : Mem}
end
end Go.Vx
namespace Go.Vx
open Go.Proofs Classical
section
variable {μ : Mem}
theorem Tm.ownR {t : Tm} {h : Mem} {cs : List Value} (k : Own t.d h cs) : ∃ p : Tm.P, cs = t.cs p ∧ OwnV (.sl 4 (t.args.map Tm.d)) h (.slice p.1 t.args.length p.2) := by
 have hv_ := Tm.own k
 obtain ⟨v, rfl, hv⟩ := hv_
 have hv_ := OwnV.slice hv
 obtain ⟨b, c, rfl⟩ := hv_
 rw [List.length_map] at hv ⊢
 exact ⟨(b, c), rfl, hv⟩
theorem Bd.ownR {t : Bd} {h : Mem} {cs : List Value} (k : Own t.d h cs) : ∃ p : Bd.P, cs = t.cs p ∧ OwnV (.sl 4 (t.to.args.map Tm.d)) h (.slice p.1 t.to.args.length p.2) := by
 have hv_ := Bd.own k
 obtain ⟨v, rfl, hv⟩ := hv_
 have hv_ := OwnV.slice hv
 obtain ⟨b, c, rfl⟩ := hv_
 rw [List.length_map] at hv ⊢
 exact ⟨(b, c), rfl, hv⟩
variable {μ1 μ' : Mem}
theorem mark_step {hh M G g G' : Mem} {r : Nat} (hr : hh r = none) (p : Parts hh M G) (q : Parts G g G') :
  ∃ mm : Mem, ∀ o, Parts (hh.set r o) g (mm.set r o) ∧ ∀ h' H', Parts H' h' (mm.set r o) → ∃ M' hh' : Mem, H' = hh'.set r o ∧ hh' r = none ∧ h' r = none ∧ Apart h' M ∧ Parts M' h' M ∧ Parts hh' M' G' := by
 have hv_ := p.assoc q.symm
 obtain ⟨mm, p1, p2⟩ := hv_
 have hm : mm r = none := by
  cases h : mm r with
  | none => rfl
  | some x => have := p2.left r x h; rw [hr] at this; cases this
 refine ⟨mm, fun o => ⟨(p2.symm.set hr), fun h' H' pH => ?_⟩⟩
 have hv_ := back_of hm pH
 obtain ⟨a1, a2, rfl⟩ := hv_
 have hv_ := (Parts.join a1).assoc p1
 obtain ⟨M', m1, m2⟩ := hv_
 refine ⟨M', h'.join mm, rfl, by rw [Mem.join_get, a2]; exact hm, a2, ?_, m1, m2⟩
 intro b hb
 cases h : M b with
 | none => rfl
 | some x => have := a1 b hb; rw [p1.left b x h] at this; cases this
theorem Parts.none_of {h g k : Mem} {r : Nat} (p : Parts h g k) (h1 : g r = none) (h2 : k r = none) : h r = none := by
 rcases p r with ⟨e, _⟩ | ⟨e, _⟩
 ·rw [e]; exact h1
 ·rw [e]; exact h2
end
end Go.Vx
namespace Go.Vx
open Go.Proofs Classical
section
variable {μ : Mem}
theorem Gl.ownR {x : Gl} {h : Mem} {cs : List Value} (k : Own x.d h cs) : ∃ p : Gl.P, cs = x.cs p ∧ ∃ g1 g2, Parts h g1 g2 ∧ OwnV (.sl 4 (x.terms.map Tm.d)) g1 (.slice p.1.1 x.terms.length p.1.2) ∧ OwnV (.sl 4 (x.goals.map Gl.d)) g2 (.slice p.2.1 x.goals.length p.2.2) := by
 rw [Gl.d_eq] at k
 obtain ⟨a0, t0, h0, r0, rfl, q0, o0, k⟩ := k
 obtain ⟨rfl, rfl⟩ := o0
 have hv_ := q0.eq (Parts.nil_left _)
 obtain rfl := hv_
 obtain ⟨a1, t1, h1, r1, rfl, q1, o1, k⟩ := k
 obtain ⟨rfl, rfl⟩ := o1
 have hv_ := q1.eq (Parts.nil_left _)
 obtain rfl := hv_
 obtain ⟨a2, t2, h2, r2, rfl, q2, o2, k⟩ := k
 have hv_ := one_of (Own.len o2)
 obtain ⟨v2, rfl⟩ := hv_
 have hv_ := Own.sl o2
 obtain ⟨b2, c2, rfl⟩ := hv_
 rw [List.length_map] at o2
 obtain ⟨a3, t3, h3, r3, rfl, q3, o3, k⟩ := k
 have hv_ := one_of (Own.len o3)
 obtain ⟨v3, rfl⟩ := hv_
 have hv_ := Own.sl o3
 obtain ⟨b3, c3, rfl⟩ := hv_
 rw [List.length_map] at o3
 obtain ⟨rfl, rfl⟩ := k
 have hv_ := q3.eq (Parts.nil_right _)
 obtain rfl := hv_
 exact ⟨((b2, c2), (b3, c3)), by simp [Gl.cs], ⟨_, _, q2, o2, o3⟩⟩
theorem Gl.mk_eq (x : Gl) (k : Int) : x.d.mk k = (.st [.i (k), .s (mtext (k + 1)), .sl 4 (D.mks (x.terms.map Tm.d) (k + 1 + 1)).1, .sl 4 (D.mks (x.goals.map Gl.d) ((D.mks (x.terms.map Tm.d) (k + 1 + 1)).2)).1], (D.mks (x.goals.map Gl.d) ((D.mks (x.terms.map Tm.d) (k + 1 + 1)).2)).2) := by
 rw [Gl.d_eq]
 simp only [D.mk, D.mks]
theorem Gl.cnt_eq (x : Gl) : x.d.cnt = 2 + D.cnts (x.terms.map Tm.d) + D.cnts (x.goals.map Gl.d) := by
 rw [Gl.d_eq]
 simp only [D.cnt, D.cnts]
 omega
set_option maxHeartbeats 1000000 in
theorem markGoalS_of {l : List Gl} (he : ∀ t ∈ l, ∀ {h : Mem} {v : Value} {k : Int}, OwnV (.sl 4 (t.goals.map Gl.d)) h v → 0 ≤ k → k + D.cnts (t.goals.map Gl.d) ≤ 9223372036854775807 →
   SpecH Tryz.prog 148 [v, .int .i64 k] μ h fun r μ' h' => r = .int .i64 (D.mks (t.goals.map Gl.d) k).2 ∧ μ' = μ ∧ OwnV (.sl 4 (D.mks (t.goals.map Gl.d) k).1) h' v)
  {h : Mem} {v : Value} {k : Int} (ho : OwnV (.sl 4 (l.map Gl.d)) h v) (hk : 0 ≤ k) (hk2 : k + D.cnts (l.map Gl.d) ≤ 9223372036854775807) :
  SpecH Tryz.prog 148 [v, .int .i64 k] μ h fun r μ' h' => r = .int .i64 (D.mks (l.map Gl.d) k).2 ∧ μ' = μ ∧ OwnV (.sl 4 (D.mks (l.map Gl.d) k).1) h' v := by
 obtain ⟨base, cap, e, hm, hn, ho⟩ := ho
 simp only [List.cons.injEq, and_true] at e
 subst e
 have hm' : (l.map Gl.d).length ≤ 9223372036854775807 := Nat.le_trans hm.max (by decide)
 refine SpecH.mk [] Tryz.func148 (by kernel_rfl) ?_
 rcases ho with ⟨hnil, rfl⟩ | ⟨r, flat, rest, ty, h2, rfl, hr, rfl, ho⟩
 ·rw [hnil]
  refine loop_intro (fun i : Nat => i = 0) (fun i => ⟨[(0, .val (.slice base 0 cap)), (1, .val (.int .i64 k)), (5, .val (.int .i64 i))], [], 0, μ, Mem.nil⟩) (fun i => 0 - i)
   0 rfl (fun i => ⟨rfl, rfl⟩) ⟨⟨rfl, rfl, rfl, trivial⟩, trivial, rfl, rfl⟩ ?_
  rintro i rfl
  refine ifd (fun h => by omega) (fun h => ret_plain ⟨rfl, rfl, base, cap, rfl, ⟨Nat.zero_le _, Nat.zero_le _⟩, by simp [D.mks], .inl ⟨rfl, rfl⟩⟩)
 ·generalize hxs : l.map Gl.d = xs at *
  refine loop_intro (fun p : Nat × List Value × List Value × Mem => Marking xs k rest r p.1 p.2.1 p.2.2.1 p.2.2.2)
   (fun (i, pre, tail, hh) => ⟨[(0, .val (.slice (some ⟨r, 0, none⟩) xs.length cap)), (1, .val (.int .i64 (D.mks (xs.take i) k).2)), (5, .val (.int .i64 i))], [], 0, μ, hh.set r (.cells (List.toArray (pre ++ tail)) ty (0, 0))⟩) (fun p => xs.length - p.1)
   (0, [], flat ++ rest, h2) (Marking.start hr ho) (fun (_, _, _, _) => ⟨rfl, rfl⟩) ⟨⟨rfl, rfl, rfl, trivial⟩, trivial, rfl, rfl⟩ ?_
  rintro ⟨i, pre, tail, hh⟩ M
  dsimp only at M
  have hi := M.le
  have hge := D.mks_cnt (xs.take i) k
  refine ifd (fun h => ?_) (fun h => ?_)
  ·obtain ⟨x, ht⟩ := at_some (l := l) (i := i) (by rw [← hxs] at h; simp at h; omega)
   have hx : xs[i]? = some x.d := by rw [← hxs]; simp [ht]
   have hv_ := M.next hx
   obtain ⟨c, g, m, c2, rfl, hown, hp, hmr, back⟩ := hv_
   have hv_ := Gl.ownR hown
   obtain ⟨p, rfl, ch⟩ := hv_
   have hlen := M.len hn
   have hcnt := Marking.cnt (k := k) hx
   rw [Gl.cnt_eq] at hcnt
   generalize hk0 : (D.mks (xs.take i) k).2 = k0 at *
   have hs0 := D.mks_cnt (x.terms.map Tm.d) (k0 + 1 + 1)
   have hs1 := D.mks_cnt (x.goals.map Gl.d) ((D.mks (x.terms.map Tm.d) (k0 + 1 + 1)).2)
   obtain ⟨g1, g2, q0, ch0, ch1⟩ := ch
   have q1 := Parts.nil_right g2
   have P0 := hp.symm
   have R0 := M.out
   refine ptr_intro ⟨r, 0, none⟩ rfl (by omega) (by omega) ?_
   refine sto_at (j := 0) (by simp [Addr.add_lit', hlen]) (by simp [Gl.cs]) ?_
   refine num64 (by omega) (by omega) ?_
   refine call_gives (markText_spec _ (by omega)) ?_
   refine ptr_intro ⟨r, 0, none⟩ rfl (by omega) (by omega) ?_
   refine sto_at (j := 1) (by simp [Addr.add_lit', hlen]) (by simp [Gl.cs]) ?_
   refine num64 (by omega) (by omega) ?_
   refine ptr_intro ⟨r, 0, none⟩ rfl (by omega) (by omega) ?_
   refine own_at (j := 2) (by simp [Addr.add_lit', hlen]) rfl ?_
   have hv_ := mark_step R0 P0 q0
   obtain ⟨mm0, st0⟩ := hv_
   refine call_own (SpecH.frame (st0 _).1 (markTermS_spec ch0 (by omega) (by omega))) fun v0 μ0 H0 hle0 hap0 hR0 => ?_
   obtain ⟨y0, ⟨rfl, eμ0, oo0⟩, pp0⟩ := hR0
   subst eμ0
   have hv_ := (st0 _).2 _ _ pp0
   obtain ⟨M1, hh1, rfl, R1, n0, ap0, mj0, P1⟩ := hv_
   refine ptr_intro ⟨r, 0, none⟩ rfl (by omega) (by omega) ?_
   refine own_at (j := 3) (by simp [Addr.add_lit', hlen]) rfl ?_
   have hv_ := mark_step R1 P1 q1
   obtain ⟨mm1, st1⟩ := hv_
   refine call_own (SpecH.frame (st1 _).1 (he x (mem_at ht) ch1 (by omega) (by omega))) fun v1 μ1 H1 hle1 hap1 hR1 => ?_
   obtain ⟨y1, ⟨rfl, eμ1, oo1⟩, pp1⟩ := hR1
   subst eμ1
   have hv_ := (st1 _).2 _ _ pp1
   obtain ⟨M2, hh2, rfl, R2, n1, ap1, mj1, P2⟩ := hv_
   have e1 := P2.eq (Parts.nil_right _)
   subst e1
   have hv_ := mj1.assoc mj0
   obtain ⟨gg, u1, u2⟩ := hv_
   have e2 := u2.is_join
   subst e2
   have PP := u1.symm
   have hmk := D.mks_take hx k
   have hmk2 := Gl.mk_eq x k0
   rw [hk0] at hmk
   refine num64 (by omega) (by omega) ⟨(i + 1, pre ++ [.int .i64 (k0), .string (mtext (k0 + 1)), .slice p.1.1 x.terms.length p.1.2, .slice p.2.1 x.goals.length p.2.2], c2 ++ rest, Mem.join gg m), back _ _ u2.apart (u1.none_of n1 n0) ?_, by dsimp only; omega, ⟨⟨rfl, ?_, rfl, trivial⟩, trivial, rfl, ?_⟩⟩
   ·rw [hmk2]
    exact OwnS.int (OwnS.str (OwnS.cons (c1 := [_]) PP oo0 (OwnS.last oo1)))
   ·rw [hmk, hmk2]
    rfl
   ·simp [Gl.cs]
  ·have hi' : i = xs.length := by omega
   subst hi'
   obtain ⟨rfl, o1⟩ := M.last
   refine ret_plain ⟨by rw [List.take_length], rfl, some ⟨r, 0, none⟩, cap, by rw [D.mks_length], by rw [D.mks_length]; exact hm, D.mks_size k hn, .inr ⟨r, pre, tail, ty, hh, rfl, M.out, rfl, o1⟩⟩
theorem markGoalS_spec {l : List Gl} {h : Mem} {v : Value} {k : Int} (ho : OwnV (.sl 4 (l.map Gl.d)) h v) (hk : 0 ≤ k) (hk2 : k + D.cnts (l.map Gl.d) ≤ 9223372036854775807) :
  SpecH Tryz.prog 148 [v, .int .i64 k] μ h fun r μ' h' => r = .int .i64 (D.mks (l.map Gl.d) k).2 ∧ μ' = μ ∧ OwnV (.sl 4 (D.mks (l.map Gl.d) k).1) h' v :=
 Gl.ind (q := fun t => ∀ {h : Mem} {v : Value} {k : Int}, OwnV (.sl 4 (t.goals.map Gl.d)) h v → 0 ≤ k → k + D.cnts (t.goals.map Gl.d) ≤ 9223372036854775807 →
   SpecH Tryz.prog 148 [v, .int .i64 k] μ h fun r μ' h' => r = .int .i64 (D.mks (t.goals.map Gl.d) k).2 ∧ μ' = μ ∧ OwnV (.sl 4 (D.mks (t.goals.map Gl.d) k).1) h' v)
  (fun _ ih _ _ _ => markGoalS_of fun t ht _ _ _ => ih t ht) (.mk 0 ⟨#[]⟩ [] l) ho hk hk2
theorem Gl.mt_eq (x : Gl) (k : Int) : x.d.mt k = (.st [.i x.kind, .s x.name, .sl 4 (D.mks (x.terms.map Tm.d) (k)).1, .sl 4 (D.mks (x.goals.map Gl.d) ((D.mks (x.terms.map Tm.d) (k)).2)).1], (D.mks (x.goals.map Gl.d) ((D.mks (x.terms.map Tm.d) (k)).2)).2) := by
 rw [Gl.d_eq]
 simp only [D.mt, D.mts]
end
end Go.Vx
namespace Go.Vx
open Go.Proofs Classical
section
variable {μ : Mem}
theorem Rl.ownR {x : Rl} {h : Mem} {cs : List Value} (k : Own x.d h cs) : ∃ p : Rl.P, cs = x.cs p ∧ ∃ g1 g2, Parts h g1 g2 ∧ OwnV (.sl 4 (x.body.terms.map Tm.d)) g1 (.slice p.1.1 x.body.terms.length p.1.2) ∧ OwnV (.sl 4 (x.body.goals.map Gl.d)) g2 (.slice p.2.1 x.body.goals.length p.2.2) := by
 rw [Rl.d_eq] at k
 obtain ⟨a0, t0, h0, r0, rfl, q0, o0, k⟩ := k
 obtain ⟨rfl, rfl⟩ := o0
 have hv_ := q0.eq (Parts.nil_left _)
 obtain rfl := hv_
 obtain ⟨a1, t1, h1, r1, rfl, q1, o1, k⟩ := k
 obtain ⟨rfl, rfl⟩ := o1
 have hv_ := q1.eq (Parts.nil_left _)
 obtain rfl := hv_
 obtain ⟨a2, t2, h2, r2, rfl, q2, o2, k⟩ := k
 obtain ⟨rfl, rfl⟩ := o2
 have hv_ := q2.eq (Parts.nil_left _)
 obtain rfl := hv_
 obtain ⟨a3, t3, h3, r3, rfl, q3, o3, k⟩ := k
 have hv_ := Gl.ownR o3
 obtain ⟨p3, rfl, ch3⟩ := hv_
 obtain ⟨rfl, rfl⟩ := k
 have hv_ := q3.eq (Parts.nil_right _)
 obtain rfl := hv_
 exact ⟨p3, by simp [Rl.cs, Gl.cs], ch3⟩
theorem Rl.mk_eq (x : Rl) (k : Int) : x.d.mk k = (.st [.s (mtext (k)), .i (k + 1), .i (k + 1 + 1), .st [.i (k + 1 + 1 + 1), .s (mtext (k + 1 + 1 + 1 + 1)), .sl 4 (D.mks (x.body.terms.map Tm.d) (k + 1 + 1 + 1 + 1 + 1)).1, .sl 4 (D.mks (x.body.goals.map Gl.d) ((D.mks (x.body.terms.map Tm.d) (k + 1 + 1 + 1 + 1 + 1)).2)).1]], (D.mks (x.body.goals.map Gl.d) ((D.mks (x.body.terms.map Tm.d) (k + 1 + 1 + 1 + 1 + 1)).2)).2) := by
 rw [Rl.d_eq]
 simp only [D.mk, D.mks, Gl.mk_eq]
theorem Rl.cnt_eq (x : Rl) : x.d.cnt = 5 + D.cnts (x.body.terms.map Tm.d) + D.cnts (x.body.goals.map Gl.d) := by
 rw [Rl.d_eq]
 simp only [D.cnt, D.cnts, Gl.cnt_eq]
 omega
set_option maxHeartbeats 1000000 in
theorem markRelS_spec {l : List Rl} {h : Mem} {v : Value} {k : Int} (ho : OwnV (.sl 7 (l.map Rl.d)) h v) (hk : 0 ≤ k) (hk2 : k + D.cnts (l.map Rl.d) ≤ 9223372036854775807) :
  SpecH Tryz.prog 83 [v, .int .i64 k] μ h fun r μ' h' => r = .int .i64 (D.mks (l.map Rl.d) k).2 ∧ μ' = μ ∧ OwnV (.sl 7 (D.mks (l.map Rl.d) k).1) h' v := by
 obtain ⟨base, cap, e, hm, hn, ho⟩ := ho
 simp only [List.cons.injEq, and_true] at e
 subst e
 have hm' : (l.map Rl.d).length ≤ 9223372036854775807 := Nat.le_trans hm.max (by decide)
 refine SpecH.mk [] Tryz.func83 (by kernel_rfl) ?_
 rcases ho with ⟨hnil, rfl⟩ | ⟨r, flat, rest, ty, h2, rfl, hr, rfl, ho⟩
 ·rw [hnil]
  refine loop_intro (fun i : Nat => i = 0) (fun i => ⟨[(0, .val (.slice base 0 cap)), (1, .val (.int .i64 k)), (5, .val (.int .i64 i))], [], 0, μ, Mem.nil⟩) (fun i => 0 - i)
   0 rfl (fun i => ⟨rfl, rfl⟩) ⟨⟨rfl, rfl, rfl, trivial⟩, trivial, rfl, rfl⟩ ?_
  rintro i rfl
  refine ifd (fun h => by omega) (fun h => ret_plain ⟨rfl, rfl, base, cap, rfl, ⟨Nat.zero_le _, Nat.zero_le _⟩, by simp [D.mks], .inl ⟨rfl, rfl⟩⟩)
 ·generalize hxs : l.map Rl.d = xs at *
  refine loop_intro (fun p : Nat × List Value × List Value × Mem => Marking xs k rest r p.1 p.2.1 p.2.2.1 p.2.2.2)
   (fun (i, pre, tail, hh) => ⟨[(0, .val (.slice (some ⟨r, 0, none⟩) xs.length cap)), (1, .val (.int .i64 (D.mks (xs.take i) k).2)), (5, .val (.int .i64 i))], [], 0, μ, hh.set r (.cells (List.toArray (pre ++ tail)) ty (0, 0))⟩) (fun p => xs.length - p.1)
   (0, [], flat ++ rest, h2) (Marking.start hr ho) (fun (_, _, _, _) => ⟨rfl, rfl⟩) ⟨⟨rfl, rfl, rfl, trivial⟩, trivial, rfl, rfl⟩ ?_
  rintro ⟨i, pre, tail, hh⟩ M
  dsimp only at M
  have hi := M.le
  have hge := D.mks_cnt (xs.take i) k
  refine ifd (fun h => ?_) (fun h => ?_)
  ·obtain ⟨x, ht⟩ := at_some (l := l) (i := i) (by rw [← hxs] at h; simp at h; omega)
   have hx : xs[i]? = some x.d := by rw [← hxs]; simp [ht]
   have hv_ := M.next hx
   obtain ⟨c, g, m, c2, rfl, hown, hp, hmr, back⟩ := hv_
   have hv_ := Rl.ownR hown
   obtain ⟨p, rfl, ch⟩ := hv_
   have hlen := M.len hn
   have hcnt := Marking.cnt (k := k) hx
   rw [Rl.cnt_eq] at hcnt
   generalize hk0 : (D.mks (xs.take i) k).2 = k0 at *
   have hs0 := D.mks_cnt (x.body.terms.map Tm.d) (k0 + 1 + 1 + 1 + 1 + 1)
   have hs1 := D.mks_cnt (x.body.goals.map Gl.d) ((D.mks (x.body.terms.map Tm.d) (k0 + 1 + 1 + 1 + 1 + 1)).2)
   obtain ⟨g1, g2, q0, ch0, ch1⟩ := ch
   have q1 := Parts.nil_right g2
   have P0 := hp.symm
   have R0 := M.out
   refine call_gives (markText_spec _ (by omega)) ?_
   refine ptr_intro ⟨r, 0, none⟩ rfl (by omega) (by omega) ?_
   refine sto_at (j := 0) (by simp [Addr.add_lit', hlen]) (by simp [Rl.cs]) ?_
   refine num64 (by omega) (by omega) ?_
   refine ptr_intro ⟨r, 0, none⟩ rfl (by omega) (by omega) ?_
   refine sto_at (j := 1) (by simp [Addr.add_lit', hlen]) (by simp [Rl.cs]) ?_
   refine num64 (by omega) (by omega) ?_
   refine ptr_intro ⟨r, 0, none⟩ rfl (by omega) (by omega) ?_
   refine sto_at (j := 2) (by simp [Addr.add_lit', hlen]) (by simp [Rl.cs]) ?_
   refine num64 (by omega) (by omega) ?_
   refine ptr_intro ⟨r, 0, none⟩ rfl (by omega) (by omega) ?_
   refine sto_at (j := 3) (by simp [Addr.add_lit', hlen]) (by simp [Rl.cs]) ?_
   refine num64 (by omega) (by omega) ?_
   refine call_gives (markText_spec _ (by omega)) ?_
   refine ptr_intro ⟨r, 0, none⟩ rfl (by omega) (by omega) ?_
   refine sto_at (j := 4) (by simp [Addr.add_lit', hlen]) (by simp [Rl.cs]) ?_
   refine num64 (by omega) (by omega) ?_
   refine ptr_intro ⟨r, 0, none⟩ rfl (by omega) (by omega) ?_
   refine own_at (j := 5) (by simp [Addr.add_lit', hlen]) rfl ?_
   have hv_ := mark_step R0 P0 q0
   obtain ⟨mm0, st0⟩ := hv_
   refine call_own (SpecH.frame (st0 _).1 (markTermS_spec ch0 (by omega) (by omega))) fun v0 μ0 H0 hle0 hap0 hR0 => ?_
   obtain ⟨y0, ⟨rfl, eμ0, oo0⟩, pp0⟩ := hR0
   subst eμ0
   have hv_ := (st0 _).2 _ _ pp0
   obtain ⟨M1, hh1, rfl, R1, n0, ap0, mj0, P1⟩ := hv_
   refine ptr_intro ⟨r, 0, none⟩ rfl (by omega) (by omega) ?_
   refine own_at (j := 6) (by simp [Addr.add_lit', hlen]) rfl ?_
   have hv_ := mark_step R1 P1 q1
   obtain ⟨mm1, st1⟩ := hv_
   refine call_own (SpecH.frame (st1 _).1 (markGoalS_spec ch1 (by omega) (by omega))) fun v1 μ1 H1 hle1 hap1 hR1 => ?_
   obtain ⟨y1, ⟨rfl, eμ1, oo1⟩, pp1⟩ := hR1
   subst eμ1
   have hv_ := (st1 _).2 _ _ pp1
   obtain ⟨M2, hh2, rfl, R2, n1, ap1, mj1, P2⟩ := hv_
   have e1 := P2.eq (Parts.nil_right _)
   subst e1
   have hv_ := mj1.assoc mj0
   obtain ⟨gg, u1, u2⟩ := hv_
   have e2 := u2.is_join
   subst e2
   have PP := u1.symm
   have hmk := D.mks_take hx k
   have hmk2 := Rl.mk_eq x k0
   rw [hk0] at hmk
   refine num64 (by omega) (by omega) ⟨(i + 1, pre ++ [.string (mtext (k0)), .int .i64 (k0 + 1), .int .i64 (k0 + 1 + 1), .int .i64 (k0 + 1 + 1 + 1), .string (mtext (k0 + 1 + 1 + 1 + 1)), .slice p.1.1 x.body.terms.length p.1.2, .slice p.2.1 x.body.goals.length p.2.2], c2 ++ rest, Mem.join gg m), back _ _ u2.apart (u1.none_of n1 n0) ?_, by dsimp only; omega, ⟨⟨rfl, ?_, rfl, trivial⟩, trivial, rfl, ?_⟩⟩
   ·rw [hmk2]
    exact OwnS.str (OwnS.int (OwnS.int (OwnS.last (OwnS.int (OwnS.str (OwnS.cons (c1 := [_]) PP oo0 (OwnS.last oo1)))))))
   ·rw [hmk, hmk2]
    rfl
   ·simp [Rl.cs]
  ·have hi' : i = xs.length := by omega
   subst hi'
   obtain ⟨rfl, o1⟩ := M.last
   refine ret_plain ⟨by rw [List.take_length], rfl, some ⟨r, 0, none⟩, cap, by rw [D.mks_length], by rw [D.mks_length]; exact hm, D.mks_size k hn, .inr ⟨r, pre, tail, ty, hh, rfl, M.out, rfl, o1⟩⟩
end
end Go.Vx
namespace Go.Vx
open Go.Proofs Classical
section
variable {μ : Mem}
theorem Pg.ownR {x : Pg} {h : Mem} {cs : List Value} (k : Own x.d h cs) : ∃ p : Pg.P, cs = x.cs p ∧ OwnV (.sl 7 (x.rels.map Rl.d)) h (.slice p.1 x.rels.length p.2) := by
 rw [Pg.d_eq] at k
 obtain ⟨a0, t0, h0, r0, rfl, q0, o0, k⟩ := k
 have hv_ := one_of (Own.len o0)
 obtain ⟨v0, rfl⟩ := hv_
 have hv_ := Own.sl o0
 obtain ⟨b0, c0, rfl⟩ := hv_
 rw [List.length_map] at o0
 obtain ⟨rfl, rfl⟩ := k
 have hv_ := q0.eq (Parts.nil_right _)
 obtain rfl := hv_
 exact ⟨(b0, c0), by simp [Pg.cs], o0⟩
theorem Pg.mk_eq (x : Pg) (k : Int) : x.d.mk k = (.st [.sl 7 (D.mks (x.rels.map Rl.d) (k)).1], (D.mks (x.rels.map Rl.d) (k)).2) := by
 rw [Pg.d_eq]
 simp only [D.mk, D.mks]
theorem Pg.cnt_eq (x : Pg) : x.d.cnt = 0 + D.cnts (x.rels.map Rl.d) := by
 rw [Pg.d_eq]
 simp only [D.cnt, D.cnts]
 omega
theorem Pg.mt_eq (x : Pg) (k : Int) : x.d.mt k = (.st [.sl 7 (D.mks (x.rels.map Rl.d) (k)).1], (D.mks (x.rels.map Rl.d) (k)).2) := by
 rw [Pg.d_eq]
 simp only [D.mt, D.mts]
theorem markProgram_spec (x : Pg) {h : Mem} {v : Value} {k : Int} (ho : OwnV x.d h v) (hk : 0 ≤ k) (hk2 : k + (D.cnts (x.rels.map Rl.d)) ≤ 9223372036854775807) :
  SpecH Tryz.prog 23 [v, .int .i64 k] μ h fun r μ' h' => r = .int .i64 (x.d.mt k).2 ∧ μ' = μ ∧ OwnV (x.d.mt k).1 h' v := by
 have ho2 : ∃ cs, v = .agg (List.toArray cs) ∧ Own x.d h cs := by rw [Pg.d_eq] at ho ⊢; exact ho
 obtain ⟨cs, rfl, ho2⟩ := ho2
 have hv_ := Pg.ownR ho2
 obtain ⟨p, rfl, ch⟩ := hv_
 rw [Pg.mt_eq]
 have hs0 := D.mks_cnt (x.rels.map Rl.d) (k)
 refine SpecH.mk [] Tryz.func23 (by kernel_rfl) ?_
 intro r
 refine call_own (markRelS_spec ch (by omega) (by omega)) fun v μ' h' hle hap hR => ?_
 obtain ⟨rfl, e, oo0⟩ := hR
 subst e
 exact ret_plain ⟨rfl, rfl, _, rfl, OwnS.last oo0⟩
end
end Go.Vx
namespace Go.Vx
open Go.Proofs Classical
section
variable {μ : Mem}
theorem Fc.ownR {x : Fc} {h : Mem} {cs : List Value} (k : Own x.d h cs) : ∃ p : Fc.P, cs = x.cs p ∧ OwnV (.sl 4 (x.args.map Tm.d)) h (.slice p.1 x.args.length p.2) := by
 rw [Fc.d_eq] at k
 obtain ⟨a0, t0, h0, r0, rfl, q0, o0, k⟩ := k
 obtain ⟨rfl, rfl⟩ := o0
 have hv_ := q0.eq (Parts.nil_left _)
 obtain rfl := hv_
 obtain ⟨a1, t1, h1, r1, rfl, q1, o1, k⟩ := k
 have hv_ := one_of (Own.len o1)
 obtain ⟨v1, rfl⟩ := hv_
 have hv_ := Own.sl o1
 obtain ⟨b1, c1, rfl⟩ := hv_
 rw [List.length_map] at o1
 obtain ⟨rfl, rfl⟩ := k
 have hv_ := q1.eq (Parts.nil_right _)
 obtain rfl := hv_
 exact ⟨(b1, c1), by simp [Fc.cs], o1⟩
theorem Fc.mk_eq (x : Fc) (k : Int) : x.d.mk k = (.st [.s (mtext (k)), .sl 4 (D.mks (x.args.map Tm.d) (k + 1)).1], (D.mks (x.args.map Tm.d) (k + 1)).2) := by
 rw [Fc.d_eq]
 simp only [D.mk, D.mks]
theorem Fc.cnt_eq (x : Fc) : x.d.cnt = 1 + D.cnts (x.args.map Tm.d) := by
 rw [Fc.d_eq]
 simp only [D.cnt, D.cnts]
 omega
set_option maxHeartbeats 1000000 in
theorem markFactS_spec {l : List Fc} {h : Mem} {v : Value} {k : Int} (ho : OwnV (.sl 2 (l.map Fc.d)) h v) (hk : 0 ≤ k) (hk2 : k + D.cnts (l.map Fc.d) ≤ 9223372036854775807) :
  SpecH Tryz.prog 39 [v, .int .i64 k] μ h fun r μ' h' => r = .int .i64 (D.mks (l.map Fc.d) k).2 ∧ μ' = μ ∧ OwnV (.sl 2 (D.mks (l.map Fc.d) k).1) h' v := by
 obtain ⟨base, cap, e, hm, hn, ho⟩ := ho
 simp only [List.cons.injEq, and_true] at e
 subst e
 have hm' : (l.map Fc.d).length ≤ 9223372036854775807 := Nat.le_trans hm.max (by decide)
 refine SpecH.mk [] Tryz.func39 (by kernel_rfl) ?_
 rcases ho with ⟨hnil, rfl⟩ | ⟨r, flat, rest, ty, h2, rfl, hr, rfl, ho⟩
 ·rw [hnil]
  refine loop_intro (fun i : Nat => i = 0) (fun i => ⟨[(0, .val (.slice base 0 cap)), (1, .val (.int .i64 k)), (5, .val (.int .i64 i))], [], 0, μ, Mem.nil⟩) (fun i => 0 - i)
   0 rfl (fun i => ⟨rfl, rfl⟩) ⟨⟨rfl, rfl, rfl, trivial⟩, trivial, rfl, rfl⟩ ?_
  rintro i rfl
  refine ifd (fun h => by omega) (fun h => ret_plain ⟨rfl, rfl, base, cap, rfl, ⟨Nat.zero_le _, Nat.zero_le _⟩, by simp [D.mks], .inl ⟨rfl, rfl⟩⟩)
 ·generalize hxs : l.map Fc.d = xs at *
  refine loop_intro (fun p : Nat × List Value × List Value × Mem => Marking xs k rest r p.1 p.2.1 p.2.2.1 p.2.2.2)
   (fun (i, pre, tail, hh) => ⟨[(0, .val (.slice (some ⟨r, 0, none⟩) xs.length cap)), (1, .val (.int .i64 (D.mks (xs.take i) k).2)), (5, .val (.int .i64 i))], [], 0, μ, hh.set r (.cells (List.toArray (pre ++ tail)) ty (0, 0))⟩) (fun p => xs.length - p.1)
   (0, [], flat ++ rest, h2) (Marking.start hr ho) (fun (_, _, _, _) => ⟨rfl, rfl⟩) ⟨⟨rfl, rfl, rfl, trivial⟩, trivial, rfl, rfl⟩ ?_
  rintro ⟨i, pre, tail, hh⟩ M
  dsimp only at M
  have hi := M.le
  have hge := D.mks_cnt (xs.take i) k
  refine ifd (fun h => ?_) (fun h => ?_)
  ·obtain ⟨x, ht⟩ := at_some (l := l) (i := i) (by rw [← hxs] at h; simp at h; omega)
   have hx : xs[i]? = some x.d := by rw [← hxs]; simp [ht]
   have hv_ := M.next hx
   obtain ⟨c, g, m, c2, rfl, hown, hp, hmr, back⟩ := hv_
   have hv_ := Fc.ownR hown
   obtain ⟨p, rfl, ch⟩ := hv_
   have hlen := M.len hn
   have hcnt := Marking.cnt (k := k) hx
   rw [Fc.cnt_eq] at hcnt
   generalize hk0 : (D.mks (xs.take i) k).2 = k0 at *
   have hs0 := D.mks_cnt (x.args.map Tm.d) (k0 + 1)
   have ch0 := ch
   have q0 := Parts.nil_right g
   have P0 := hp.symm
   have R0 := M.out
   refine call_gives (markText_spec _ (by omega)) ?_
   refine ptr_intro ⟨r, 0, none⟩ rfl (by omega) (by omega) ?_
   refine sto_at (j := 0) (by simp [Addr.add_lit', hlen]) (by simp [Fc.cs]) ?_
   refine num64 (by omega) (by omega) ?_
   refine ptr_intro ⟨r, 0, none⟩ rfl (by omega) (by omega) ?_
   refine own_at (j := 1) (by simp [Addr.add_lit', hlen]) rfl ?_
   have hv_ := mark_step R0 P0 q0
   obtain ⟨mm0, st0⟩ := hv_
   refine call_own (SpecH.frame (st0 _).1 (markTermS_spec ch0 (by omega) (by omega))) fun v0 μ0 H0 hle0 hap0 hR0 => ?_
   obtain ⟨y0, ⟨rfl, eμ0, oo0⟩, pp0⟩ := hR0
   subst eμ0
   have hv_ := (st0 _).2 _ _ pp0
   obtain ⟨M1, hh1, rfl, R1, n0, ap0, mj0, P1⟩ := hv_
   have e1 := P1.eq (Parts.nil_right _)
   subst e1
   have e2 := mj0.is_join
   subst e2
   have hmk := D.mks_take hx k
   have hmk2 := Fc.mk_eq x k0
   rw [hk0] at hmk
   refine num64 (by omega) (by omega) ⟨(i + 1, pre ++ [.string (mtext (k0)), .slice p.1 x.args.length p.2], c2 ++ rest, Mem.join y0 m), back _ _ ap0 n0 ?_, by dsimp only; omega, ⟨⟨rfl, ?_, rfl, trivial⟩, trivial, rfl, ?_⟩⟩
   ·rw [hmk2]
    exact OwnS.str (OwnS.last oo0)
   ·rw [hmk, hmk2]
    rfl
   ·simp [Fc.cs]
  ·have hi' : i = xs.length := by omega
   subst hi'
   obtain ⟨rfl, o1⟩ := M.last
   refine ret_plain ⟨by rw [List.take_length], rfl, some ⟨r, 0, none⟩, cap, by rw [D.mks_length], by rw [D.mks_length]; exact hm, D.mks_size k hn, .inr ⟨r, pre, tail, ty, hh, rfl, M.out, rfl, o1⟩⟩
set_option maxHeartbeats 1000000 in
theorem heldFactS_spec {l : List Fc} {v : Value} {k : Int} (ho : RepV μ (.sl 2 (D.mks (l.map Fc.d) k).1) v) (hk : 0 ≤ k) (hk2 : k + D.cnts (l.map Fc.d) ≤ 9223372036854775807) :
  Gives Tryz.prog 40 [v, .int .i64 k] μ (.int .i64 (D.mks (l.map Fc.d) k).2) := by
 have hv_ := Rep.sl ho
 obtain ⟨base, cap, rfl, hsl⟩ := hv_
 have hm' := Nat.le_trans hsl.max (show maxLen ≤ 9223372036854775807 by decide)
 rw [D.mks_length] at hm' hsl ⊢
 refine Spec.mk Tryz.func40 (by kernel_rfl) ?_
 generalize hxs : l.map Fc.d = xs at *
 refine loop_intro (fun i : Nat => i ≤ xs.length) (fun i => ⟨[(0, .val (.slice base xs.length cap)), (1, .val (.int .i64 (D.mks (xs.take i) k).2)), (5, .val (.int .i64 i))], [], 0, μ, Mem.nil⟩) (fun i => xs.length - i)
  0 (by simp) (fun i => ⟨rfl, rfl⟩) ⟨⟨rfl, rfl, rfl, trivial⟩, trivial, rfl, rfl⟩ ?_
 intro i hi
 have hge := D.mks_cnt (xs.take i) k
 refine ifd (fun h => ?_) (fun h => ?_)
 ·obtain ⟨x, ht⟩ := at_some (l := l) (i := i) (by rw [← hxs] at h; simp at h; omega)
  have hx : xs[i]? = some x.d := by rw [← hxs]; simp [ht]
  have hcnt := Marking.cnt (k := k) hx
  rw [Fc.cnt_eq] at hcnt
  have hv_ := hsl.get i _ (D.mks_get hx k)
  obtain ⟨ad, cs, hel, hcs⟩ := hv_
  have hmk := D.mks_take hx k
  generalize hk0 : (D.mks (xs.take i) k).2 = k0 at *
  have hmk2 := Fc.mk_eq x k0
  rw [hmk2] at hcs
  obtain ⟨_, _, rfl, rfl, cc0, _, rfl, hh0, rfl⟩ := hcs
  have hv_ := one_of (Rep.len _ _ hh0)
  obtain ⟨vv0, rfl⟩ := hv_
  have hv0 := hh0
  have hv_ := Rep.sl hv0
  obtain ⟨bb0, kk0, rfl, _⟩ := hv_
  have hs0 := D.mks_cnt (x.args.map Tm.d) (k0 + 1)
  refine elem_intro hel ?_
  refine call_gives (markText_spec _ (by omega)) ?_
  refine ifnd (fun h => absurd rfl h) fun _ => ?_
  refine num64 (by omega) (by omega) ?_
  refine elem_intro hel ?_
  refine call_gives (heldTermS_spec hh0 (by omega) (by omega)) ?_
  refine ifd (fun h => absurd h (by omega)) (fun _ => ?_)
  exact num64 (by omega) (by omega) ⟨i + 1, by omega, by omega, ⟨⟨rfl, by rw [hmk, hmk2]; rfl, rfl, trivial⟩, trivial, rfl, rfl⟩⟩
 ·have hi' : i = xs.length := by omega
  subst hi'
  rw [List.take_length]
  exact ret_gives rfl rfl
theorem Fc.mt_eq (x : Fc) (k : Int) : x.d.mt k = (.st [.s x.rel, .sl 4 (D.mks (x.args.map Tm.d) (k)).1], (D.mks (x.args.map Tm.d) (k)).2) := by
 rw [Fc.d_eq]
 simp only [D.mt, D.mts]
end
end Go.Vx
namespace Go.Vx
open Go.Proofs Classical
theorem gl_cnt_sz3 : ∀ g : Gl, g.d.cnt ≤ 3 + 3 * g.d.sz :=
 Gl.ind fun g ih => by
  have h1 := tms_cnt g.terms
  have h2 : D.cnts (g.goals.map Gl.d) ≤ 3 * g.goals.length + 3 * D.szs (g.goals.map Gl.d) := by
   generalize g.goals = l at ih
   induction l with
   | nil => simp [D.cnts, D.szs]
   | cons t l ih2 =>
    have h1 := ih t (by simp)
    have h2 := ih2 fun t ht => ih t (by simp [ht])
    simp only [List.map_cons, D.cnts, D.szs, List.length_cons]; omega
  rw [Gl.cnt_eq, Gl.sz_eq]; omega
theorem rls_cnt : ∀ l : List Rl, D.cnts (l.map Rl.d) ≤ 10 * l.length + 3 * D.szs (l.map Rl.d)
 | [] => by simp [D.cnts, D.szs]
 | x :: l => by
  have h1 := rls_cnt l
  have h2 := gl_cnt_sz3 x.body
  have h3 := Rl.sz_eq x
  rw [Gl.cnt_eq] at h2
  simp only [List.map_cons, D.cnts, D.szs, List.length_cons]
  rw [Rl.cnt_eq, Rl.sz_eq]; omega
theorem pg_cnt_sz (p : Pg) : p.d.cnt ≤ 10 * p.d.sz := by
 have h1 := rls_cnt p.rels
 rw [Pg.cnt_eq, Pg.sz_eq]; omega
theorem pg_mt (p : Pg) (k : Int) : (p.d.mt k).2 = k + D.cnts (p.rels.map Rl.d) := by
 rw [Pg.mt_eq]
 exact D.mks_cnt (p.rels.map Rl.d) k
end Go.Vx
namespace Go.Vx
open Go.Proofs Classical
theorem ascF_id {L : List F} (h : Asc3 cmpF L) : ascF L = L := (ascOf_eq cmpF_ord h fun _ => Iff.rfl).symm
theorem headsF_succ {rs : List Ru} {pos neg : List F} {i : Nat} {r : Ru} (h : rs[i]? = some r) : headsF rs pos neg (i + 1) = headsF rs pos neg i ++ (if fires pos neg r then [r.head] else []) := by
 rw [headsF, List.take_add_one, h, Option.toList_some, List.filter_append, List.map_append, ← headsF]
 congr 1
 by_cases k : fires pos neg r <;> simp [k]
theorem lfp_len (rs : List Ru) (base : List F) : (lfp rs base).length ≤ base.length + rs.length := by
 rw [lfp]
 refine Nat.le_trans (ascOf_len _ _) (Nat.le_trans (List.length_filter_le _ _) ?_)
 rw [List.length_append, List.length_map]
 exact Nat.le_refl _
section
variable {rs : List Ru} {S out : List F}
end
theorem growL_succ {rs : List Ru} {out : List F} {i : Nat} {r : Ru} (h : rs[i]? = some r) : growL rs out (i + 1) = growL rs out i ++ (if r.head ∉ out ∧ ∀ f ∈ r.pos, f ∈ out then [r.head] else []) := by
 rw [growL, List.take_add_one, h, Option.toList_some, List.filter_append, List.map_append, ← growL]
 congr 1
 by_cases k : r.head ∉ out ∧ ∀ f ∈ r.pos, f ∈ out
 ·rw [if_pos k, List.filter_cons_of_pos (by simpa using k)]; rfl
 ·rw [if_neg k, List.filter_cons_of_neg (by simpa using k)]; rfl
theorem growL_len (rs : List Ru) (out : List F) (i : Nat) : (growL rs out i).length ≤ i := by
 rw [growL, List.length_map]
 exact Nat.le_trans (List.length_filter_le _ _) (List.length_take_le _ _)
section
variable {rs : List Ru} {base out : List F}
end
theorem unlessR_len (rs : List Ru) (S : List F) : (unlessR rs S).length ≤ rs.length := List.length_filter_le _ _
theorem unlessR_take {rs : List Ru} {S : List F} {i : Nat} {r : Ru} (h : rs[i]? = some r) : unlessR (rs.take (i + 1)) S = unlessR (rs.take i) S ++ (if ∀ f ∈ r.neg, f ∉ S then [r] else []) := by
 rw [unlessR, List.take_add_one, h, Option.toList_some, List.filter_append, ← unlessR]
 congr 1
 by_cases k : ∀ f ∈ r.neg, f ∉ S
 ·rw [if_pos k, List.filter_cons_of_pos (by simpa using k)]; rfl
 ·rw [if_neg k, List.filter_cons_of_neg (by simpa using k)]; rfl
noncomputable def gam (rs : List Ru) (S : List F) : List F := lfp (unlessR rs S) []
theorem gam_len (rs : List Ru) (S : List F) : (gam rs S).length ≤ rs.length := by
 have := lfp_len (unlessR rs S) []
 have h2 := unlessR_len rs S
 simp only [List.length_nil] at this
 rw [gam]; omega
theorem gam_asc (rs : List Ru) (S : List F) : Asc3 cmpF (gam rs S) := lfp_asc _ _
theorem gam_anti {rs : List Ru} {S S' : List F} (h : ∀ f ∈ S, f ∈ S') {f : F} (hf : f ∈ gam rs S') : f ∈ gam rs S := by
 rw [gam, mem_lfp] at hf ⊢
 induction hf with
 | base k => cases k
 | rule k _ ih =>
  rw [mem_unlessR] at k
  exact .rule (mem_unlessR.2 ⟨k.1, fun x hx hS => k.2 x hx (h x hS)⟩) ih
noncomputable def gam2 (rs : List Ru) (S : List F) : List F := gam rs (gam rs S)
noncomputable def wfAt (rs : List Ru) : Nat → List F
 | 0 => []
 | n + 1 => gam2 rs (wfAt rs n)
theorem wfAt_asc (rs : List Ru) : ∀ n, Asc3 cmpF (wfAt rs n)
 | 0 => List.Pairwise.nil
 | _ + 1 => gam_asc _ _
theorem wfAt_sub (rs : List Ru) : ∀ n, ∀ f ∈ wfAt rs n, f ∈ wfAt rs (n + 1)
 | 0, _, h => nomatch h
 | n + 1, _, h => gam_anti (fun _ k => gam_anti (wfAt_sub rs n) k) h
theorem wfAt_len (rs : List Ru) : ∀ n, (wfAt rs n).length ≤ rs.length
 | 0 => Nat.zero_le _
 | _ + 1 => gam_len _ _
theorem wfAt_stay {rs : List Ru} {n : Nat} (h : gam2 rs (wfAt rs n) = wfAt rs n) : ∀ k, wfAt rs (n + k) = wfAt rs n
 | 0 => rfl
 | k + 1 => by rw [← Nat.add_assoc, wfAt, wfAt_stay h k, h]
theorem wfAt_uniq {rs : List Ru} {n m : Nat} (h : gam2 rs (wfAt rs n) = wfAt rs n) (k : gam2 rs (wfAt rs m) = wfAt rs m) : wfAt rs n = wfAt rs m := by
 rcases Nat.le_total n m with e | e
 ·have := wfAt_stay h (m - n)
  rw [show n + (m - n) = m by omega] at this
  exact this.symm
 ·have := wfAt_stay k (n - m)
  rwa [show m + (n - m) = n by omega] at this
noncomputable def wfT (rs : List Ru) : List F := if h : ∃ n, gam2 rs (wfAt rs n) = wfAt rs n then wfAt rs h.choose else []
theorem wfT_eq {rs : List Ru} {n : Nat} (h : gam2 rs (wfAt rs n) = wfAt rs n) : wfAt rs n = wfT rs := by
 have k : ∃ n, gam2 rs (wfAt rs n) = wfAt rs n := ⟨n, h⟩
 rw [wfT, dif_pos k]
 exact wfAt_uniq h k.choose_spec
noncomputable def wfO (rs : List Ru) : List F := (gam rs (wfT rs)).filter fun f => decide (f ∉ wfT rs)
section
variable {rs : List Ru} {model B out : List F}
end
end Go.Vx
namespace Go.Vx
open Go.Proofs Classical
section
variable {μ : Mem}
theorem l19Fires_spec {r : Ru} {pos neg : List F} {v : Value} {b b2 : Option Addr} {c c2 : Nat} (hr : RepV μ r.rd.d v) (hs : Sl μ 2 b pos.length ((pos.map F.fc).map Fc.d)) (hs2 : Sl μ 2 b2 neg.length ((neg.map F.fc).map Fc.d)) :
  Gives Tryz.prog 111 [v, .slice b pos.length c, .slice b2 neg.length c2] μ (.bool (decide (fires pos neg r))) := by
 have hv_ := Ru.inv hr
 obtain ⟨p, rfl, -, -, h3, h4⟩ := hv_
 have hm1 := maxLen_le h3.max
 have hm2 := maxLen_le h4.max
 refine Spec.mk Tryz.func111 (by kernel_rfl) ?_
 intro r3
 refine loop_intro (fun k : Nat => k ≤ r.pos.length ∧ ∀ f ∈ r.pos.take k, f ∈ pos)
  (fun k => ⟨[(1, .val (.slice b pos.length c)), (2, .val (.slice b2 neg.length c2)), (3, .loc 0 r3 0), (12, .val (.slice p.2.2.1.1 r.pos.length p.2.2.1.2)), (13, .val (.int .i64 r.pos.length)), (14, .val (.int .i64 k))], [(0, some (.cells r3 (vals (r.cs p)) 126))], 1, μ, Mem.nil⟩) (fun k => r.pos.length - k)
  0 ⟨Nat.zero_le _, by simp⟩ (fun _ => ⟨rfl, rfl⟩) ⟨⟨rfl, rfl, rfl, rfl, rfl, rfl, trivial⟩, ⟨rfl, trivial⟩, rfl, rfl⟩ ?_
 rintro k ⟨hk, hall⟩
 refine ifd (fun hlt => ?_) (fun hlt => ?_)
 ·have hv_ := at_some (l := r.pos) (i := k) (by omega)
  obtain ⟨y, hy⟩ := hv_
  have hv_ := F.elem h3 hy
  obtain ⟨ad3, p3, hel3, hry, hsy⟩ := hv_
  refine elem_intro hel3 ?_
  intro r8
  refine call_gives (l18Has_spec hs hry) ?_
  refine ifnd (fun h => ret_gives (isF fun k => h (k.1 y (mem_at hy))) rfl) (fun h => ?_)
  ·exact num64 (by omega) (by omega) ⟨k + 1, ⟨by omega, take_all_at hall hy h⟩, by omega, ⟨⟨rfl, rfl, rfl, rfl, rfl, rfl, trivial⟩, ⟨rfl, trivial⟩, rfl, rfl⟩⟩
 obtain rfl : k = r.pos.length := by omega
 rw [List.take_length] at hall
 refine loop_intro (fun k : Nat => k ≤ r.neg.length ∧ ∀ f ∈ r.neg.take k, f ∉ neg)
  (fun k => ⟨[(2, .val (.slice b2 neg.length c2)), (24, .val (.slice p.2.2.2.1 r.neg.length p.2.2.2.2)), (25, .val (.int .i64 r.neg.length)), (26, .val (.int .i64 k))], [], 1, μ, Mem.nil⟩) (fun k => r.neg.length - k)
  0 ⟨Nat.zero_le _, by simp⟩ (fun _ => ⟨rfl, rfl⟩) ⟨⟨rfl, rfl, rfl, rfl, trivial⟩, trivial, rfl, rfl⟩ ?_
 rintro k ⟨hk, hall2⟩
 refine ifd (fun hlt => ?_) (fun hlt => ?_)
 ·have hv_ := at_some (l := r.neg) (i := k) (by omega)
  obtain ⟨y, hy⟩ := hv_
  have hv_ := F.elem h4 hy
  obtain ⟨ad3, p3, hel3, hry, hsy⟩ := hv_
  refine elem_intro hel3 ?_
  intro r8
  refine call_gives (l18Has_spec hs2 hry) ?_
  refine ifd (fun h => ret_gives (isF fun k => (k.2 y (mem_at hy)) h) rfl) (fun h => ?_)
  ·exact num64 (by omega) (by omega) ⟨k + 1, ⟨by omega, take_all_at hall2 hy h⟩, by omega, ⟨⟨rfl, rfl, rfl, rfl, trivial⟩, trivial, rfl, rfl⟩⟩
 obtain rfl : k = r.neg.length := by omega
 rw [List.take_length] at hall2
 exact ret_gives (isT ⟨hall, hall2⟩) rfl
theorem l19Next_spec {rs : List Ru} {pos neg : List F} {b b2 b3 : Option Addr} {c c2 c3 : Nat} (hr : Sl μ 6 b3 rs.length ((rs.map Ru.rd).map RuD.d)) (hn : rs.length ≤ 10000000) (hs : Sl μ 2 b pos.length ((pos.map F.fc).map Fc.d)) (hs2 : Sl μ 2 b2 neg.length ((neg.map F.fc).map Fc.d)) :
  Spec Tryz.prog 168 [.slice b3 rs.length c3, .slice b pos.length c, .slice b2 neg.length c2] μ fun r μ' => FsV μ' (nextF rs pos neg) r := by
 refine Spec.mk Tryz.func168 (by kernel_rfl) ?_
 intro r10
 refine loop_frz (fun z : Nat × Option Addr × Nat × Mem => z.1 ≤ rs.length ∧ μ.Le z.2.2.2 ∧ FsV z.2.2.2 (ascF (headsF rs pos neg z.1)) (.slice z.2.1 (ascF (headsF rs pos neg z.1)).length z.2.2.1))
  (fun (i, b4, c4, μ') => ⟨[(1, .val (.slice b pos.length c)), (2, .val (.slice b2 neg.length c2)), (7, .val (.slice b4 (ascF (headsF rs pos neg i)).length c4)), (11, .val (.slice b3 rs.length c3)), (12, .val (.int .i64 rs.length)), (13, .val (.int .i64 i))], [], 0, μ', Mem.nil⟩) (fun z => rs.length - z.1) [0]
  (fun (_, _, _, _) => ⟨rfl, rfl⟩) (fun μ1 hle1 hno1 hat1 => ?_) ?_
 ·have e0 : ascF (headsF rs pos neg 0) = [] := by simp [headsF, ascF_id (L := []) List.Pairwise.nil]
  refine ⟨(0, some ⟨r10, 0, none⟩, 0, μ1), ⟨Nat.zero_le _, hle1, ?_⟩, ⟨rfl, rfl, ?_, rfl, rfl, rfl, trivial⟩, trivial, rfl, rfl⟩
  ·dsimp only; rw [e0]; exact FsV.nil _ _
  ·dsimp only; rw [e0]; rfl
 rintro ⟨i, b4, c4, μ'⟩ ⟨hi, hle, hout⟩
 dsimp only at hi hle hout
 refine ifd (fun hlt => ?_) (fun hlt => ?_)
 rotate_left
 ·obtain rfl : i = rs.length := by omega
  rw [headsF_all] at hout ⊢
  exact ret_plain hout
 have hv_ := at_some (l := rs) (i := i) (by omega)
 obtain ⟨r, hri⟩ := hv_
 have hv_ := Ru.elem (hr.mono hle) hri
 obtain ⟨ad, p, hel, hrv, hat⟩ := hv_
 have hlen : (ascF (headsF rs pos neg i)).length ≤ i := Nat.le_trans (ascF_len _) (headsF_len _ _ _ _)
 have hsucc := headsF_succ (pos := pos) (neg := neg) hri
 refine elem_intro hel ?_
 intro r9
 refine call_gives (l19Fires_spec hrv (hs.mono hle) (hs2.mono hle)) ?_
 refine ifd (fun hf => ?_) (fun hf => ?_)
 ·rw [if_pos hf] at hsucc
  refine call_plain (l18Insert_spec (ascF_asc _) hout hat.head (by omega)) fun v4 μ4 hle4 hR4 => ?_
  have e : insF (ascF (headsF rs pos neg i)) r.head = ascF (headsF rs pos neg (i + 1)) := ascF_congr fun x => by
   rw [List.mem_cons, mem_ascF, hsucc, List.mem_append, List.mem_singleton]; exact Or.comm
  rw [e] at hR4
  have hv_ := FsV.sl hR4
  obtain ⟨b5, c5, rfl, -, -⟩ := hv_
  exact num64 (by omega) (by omega) ⟨[], (i + 1, b5, c5, μ4), ⟨by dsimp only; omega, hle.trans hle4, hR4⟩, by dsimp only; omega, ⟨⟨rfl, rfl, rfl, rfl, rfl, rfl, trivial⟩, trivial, rfl, rfl⟩⟩
 ·rw [if_neg hf, List.append_nil] at hsucc
  refine num64 (by omega) (by omega) ⟨[], (i + 1, b4, c4, μ'), ⟨by dsimp only; omega, hle, ?_⟩, by dsimp only; omega, ⟨⟨rfl, rfl, ?_, rfl, rfl, rfl, trivial⟩, trivial, rfl, rfl⟩⟩
  ·dsimp only; rw [hsucc]; exact hout
  ·dsimp only; rw [hsucc]; rfl
end
end Go.Vx
namespace Go.Vx
open Go.Proofs Classical
section
variable {μ : Mem}
theorem l29Reduct_spec {rs : List Ru} {S : List F} {b b3 : Option Addr} {c c3 : Nat} (hr : Sl μ 6 b3 rs.length ((rs.map Ru.rd).map RuD.d)) (hn : rs.length ≤ 10000000) (hs : Sl μ 2 b S.length ((S.map F.fc).map Fc.d)) :
  Spec Tryz.prog 96 [.slice b3 rs.length c3, .slice b S.length c] μ fun r μ' => FsV μ' (gam rs S) r := by
 refine Spec.mk Tryz.func96 (by kernel_rfl) ?_
 intro r7
 refine loop_frz (fun z : List F × Option Addr × Nat × Mem => RedI rs S z.1 ∧ μ.Le z.2.2.2 ∧ FsV z.2.2.2 z.1 (.slice z.2.1 z.1.length z.2.2.1))
  (fun (out, b4, c4, μ') => ⟨[(0, .val (.slice b3 rs.length c3)), (1, .val (.slice b S.length c)), (5, .val (.slice b4 out.length c4))], [], 0, μ', Mem.nil⟩) (fun z => rs.length - z.1.length) [0]
  (fun (_, _, _, _) => ⟨rfl, rfl⟩) (fun μ1 hle1 hno1 hat1 => ⟨([], some ⟨r7, 0, none⟩, 0, μ1), ⟨RedI.nil _ _, hle1, FsV.nil _ _⟩, ⟨rfl, rfl, rfl, trivial⟩, trivial, rfl, rfl⟩) ?_
 rintro ⟨out, b4, c4, μ'⟩ ⟨hI, hle, hout⟩
 dsimp only at hI hle hout
 have hv_ := FsV.sl hout
 obtain ⟨b5, c5, e, -, hso⟩ := hv_
 have hv_ := Value.slice.inj e
 obtain ⟨rfl, _, rfl⟩ := hv_
 refine call_plain (l19Next_spec (hr.mono hle) hn hso (hs.mono hle)) fun v4 μ4 hle4 hR4 => ?_
 have hv_ := FsV.sl hR4
 obtain ⟨b6, c6, rfl, -, -⟩ := hv_
 have hl := hI.next.len
 refine ifd (fun he => ?_) (fun he => ?_)
 ·refine ret_plain ?_
  rw [gam, ← hI.done (by omega)]
  exact RepV.mono hle4 hout
 ·have := hI.more (by omega)
  exact ⟨[], (nextF rs out S, b6, c6, μ4), ⟨hI.next, hle.trans hle4, hR4⟩, by dsimp only; omega, ⟨⟨rfl, rfl, rfl, trivial⟩, trivial, rfl, rfl⟩⟩
end
end Go.Vx
namespace Go.Vx
open Go.Proofs Classical
open Go.Sort
section
variable {μ h0 : Mem} {r : Nat} {ty : TypeId} {rest : List Value}
end
section
variable {μ : Mem}
theorem sortFacts_spec {L : List F} {v : Value} (h : FsV μ L v) (hn : L.length ≤ 100000000) :
  Spec Tryz.prog 94 [v] μ fun v μ' => FsV μ' (ascF L) v := by
 have hv_ := FsV.sl h
 obtain ⟨b, c, rfl, hlc, hs⟩ := hv_
 have hv_ := Rep.srcAll h
 obtain ⟨vs, hrows, hvl, hsrc⟩ := hv_
 have hE := FElts.zip hrows
 have hl : (L.zip vs).length = L.length := by rw [List.length_zip]; omega
 have := sortFacts_core (l := L.zip vs) (base := b) (cap := c) (by rw [hl, zip_snd (by omega)]; exact hsrc) hE (by omega)
 rw [hl] at this
 refine this.weaken fun v μ' hle hR => ?_
 obtain ⟨l', h1, h2, bb, cc, g, rfl, hro, hg, _⟩ := hR
 replace h1 := core_mem h1
 have hE' : FElts μ' l' := fun p hp => RepV.mono hle (hE p (h1 p hp))
 rw [zip_fst (by omega)] at h2
 have := hro.rep hg hE'.rows
 rw [h2] at this
 exact this
end
end Go.Vx
namespace Go.Vx
open Go.Proofs Classical
section
variable {μ : Mem}
theorem sameFacts_spec {L M : List F} {b b2 : Option Addr} {c c2 : Nat} (hs : Sl μ 2 b L.length ((L.map F.fc).map Fc.d)) (hs2 : Sl μ 2 b2 M.length ((M.map F.fc).map Fc.d)) :
  Gives Tryz.prog 93 [.slice b L.length c, .slice b2 M.length c2] μ (.bool (decide (L = M))) := by
 have hm1 := maxLen_le hs.max
 refine Spec.mk Tryz.func93 (by kernel_rfl) ?_
 refine ifnd (fun h => ret_gives (isF fun k => h (by rw [k])) rfl) (fun he => ?_)
 refine loop_intro (fun k : Nat => k ≤ L.length ∧ ∀ j, j < k → L[j]? = M[j]?)
  (fun k => ⟨[(0, .val (.slice b L.length c)), (1, .val (.slice b2 M.length c2)), (12, .val (.int .i64 L.length)), (13, .val (.int .i64 k))], [], 0, μ, Mem.nil⟩) (fun k => L.length - k)
  0 ⟨Nat.zero_le _, fun j h => by omega⟩ (fun _ => ⟨rfl, rfl⟩) ⟨⟨rfl, rfl, rfl, rfl, trivial⟩, trivial, rfl, rfl⟩ ?_
 rintro k ⟨hk, hall⟩
 refine ifd (fun hlt => ?_) (fun hlt => ?_)
 ·have hv_ := at_some (l := L) (i := k) (by omega)
  obtain ⟨x, hx⟩ := hv_
  have hv_ := at_some (l := M) (i := k) (by omega)
  obtain ⟨y, hy⟩ := hv_
  have hv_ := F.elem hs hx
  obtain ⟨ad, q, hel, hrx, _⟩ := hv_
  have hv_ := F.elem hs2 hy
  obtain ⟨ad2, q2, hel2, hry, _⟩ := hv_
  refine elem_intro hel (elem_intro hel2 ?_)
  refine call_gives (orderFacts_spec hrx hry) ?_
  refine ifnd (fun h => ret_gives (isF fun e => h ?_) rfl) (fun h => ?_)
  ·subst e
   rw [hx] at hy; cases hy
   exact (cmpF_ord.zero _ _).2 rfl
  ·refine num64 (by omega) (by omega) ⟨k + 1, ⟨by omega, fun j hj => ?_⟩, by omega, ⟨⟨rfl, rfl, rfl, rfl, trivial⟩, trivial, rfl, rfl⟩⟩
   rcases Nat.lt_or_ge j k with h6 | h6
   ·exact hall j h6
   ·obtain rfl : j = k := by omega
    rw [hx, hy, (cmpF_ord.zero _ _).1 h]
 ·obtain rfl : k = L.length := by omega
  refine ret_gives (isT (List.ext_getElem? fun j => ?_)) rfl
  rcases Nat.lt_or_ge j L.length with h6 | h6
  ·exact hall j h6
  ·rw [List.getElem?_eq_none h6, List.getElem?_eq_none (by omega)]
end
theorem all_take {α : Type} {l : List α} {j : Nat} {x : α} {P : α → Prop} (h : l[j]? = some x) : (∀ y ∈ l.take (j + 1), P y) ↔ (∀ y ∈ l.take j, P y) ∧ P x := by
 rw [List.take_add_one, h, Option.toList_some]
 constructor
 ·exact fun k => ⟨fun y hy => k y (List.mem_append_left _ hy), k x (by simp)⟩
 ·rintro ⟨h1, h2⟩ y hy
  rcases List.mem_append.1 hy with k | k
  ·exact h1 y k
  ·rw [List.mem_singleton.1 k]; exact h2
section
variable {μ : Mem}
set_option maxHeartbeats 1000000 in
theorem unless_spec {rs : List Ru} {S : List F} {b b3 : Option Addr} {c c3 : Nat} (hr : Sl μ 6 b3 rs.length ((rs.map Ru.rd).map RuD.d)) (hn : rs.length ≤ 10000000) (hS : Asc3 cmpF S) (hSn : S.length ≤ 1000000000) (hs : Sl μ 2 b S.length ((S.map F.fc).map Fc.d)) :
  Spec Tryz.prog 115 [.slice b3 rs.length c3, .slice b S.length c] μ fun r μ' => RsV μ' (unlessR rs S) r := by
 refine Spec.mk Tryz.func115 (by kernel_rfl) ?_
 intro r13
 refine loop_intro (fun z : Nat × Option Nat × Nat × List Value => z.1 ≤ rs.length ∧ Rows μ 6 (((unlessR (rs.take z.1) S).map Ru.rd).map RuD.d) z.2.2.2)
  (fun (i, bo, co, ys) => ⟨[(1, .val (.slice b S.length c)), (5, .row 0 bo ys.length co), (12, .val (.slice b3 rs.length c3)), (13, .val (.int .i64 rs.length)), (14, .val (.int .i64 i))], [(0, some (.row bo co 126 6 ys))], 1, μ, Mem.nil⟩) (fun z => rs.length - z.1)
  (0, some r13, 0, []) ⟨Nat.zero_le _, by simpa [unlessR] using .nil⟩ (fun (_, _, _, _) => ⟨rfl, rfl⟩) ⟨⟨rfl, rfl, rfl, rfl, rfl, trivial⟩, ⟨rfl, trivial⟩, rfl, rfl⟩ ?_
 rintro ⟨i, bo, co, ys⟩ ⟨hi, hrows⟩
 dsimp only at hi hrows
 have hyl := hrows.len
 simp only [List.length_map] at hyl
 have hhl := unlessR_len (rs.take i) S
 rw [List.length_take] at hhl
 refine ifd (fun hlt => ?_) (fun hlt => ?_)
 rotate_left
 ·obtain rfl : i = rs.length := by omega
  rw [List.take_length] at hrows
  refine ret_frz [0] fun μ2 hle2 hno2 hrow2 => .inl ?_
  exact Rows.sl hrow2 (hrows.mono hle2) (Nat.le_trans (m := 100000000) (by omega) (by decide))
 have hv_ := at_some (l := rs) (i := i) (by omega)
 obtain ⟨r, hri⟩ := hv_
 have hv_ := Ru.elem hr hri
 obtain ⟨ad, p, hel, hrv, hat⟩ := hv_
 have hsucc := unlessR_take (S := S) hri
 refine elem_intro hel ?_
 intro r7
 have hmn := maxLen_le hat.neg.max
 refine loop_intro (fun z : Nat × Bool => z.1 ≤ r.neg.length ∧ (z.2 = true ↔ ∀ f ∈ r.neg.take z.1, f ∉ S))
  (fun (j, fine) => ⟨[(1, .val (.slice b S.length c)), (5, .row 0 bo ys.length co), (7, .loc 1 r7 0), (8, .val (.bool fine)), (12, .val (.slice b3 rs.length c3)), (13, .val (.int .i64 rs.length)), (14, .val (.int .i64 i)), (19, .val (.slice p.2.2.2.1 r.neg.length p.2.2.2.2)), (20, .val (.int .i64 r.neg.length)), (21, .val (.int .i64 j))],
   [(0, some (.row bo co 126 6 ys)), (1, some (.cells r7 (vals (r.cs p)) 126))], 2, μ, Mem.nil⟩) (fun z => r.neg.length - z.1)
  (0, true) ⟨Nat.zero_le _, by simp⟩ (fun (_, _) => ⟨rfl, rfl⟩) ⟨⟨rfl, rfl, rfl, rfl, rfl, rfl, rfl, rfl, rfl, rfl, trivial⟩, ⟨rfl, rfl, trivial⟩, rfl, rfl⟩ ?_
 rintro ⟨j, fine⟩ ⟨hj, hfine⟩
 dsimp only at hj hfine
 refine ifd (fun hlt2 => ?_) (fun hlt2 => ?_)
 ·have hv_ := at_some (l := r.neg) (i := j) (by omega)
  obtain ⟨f, hf⟩ := hv_
  have hv_ := F.elem hat.neg hf
  obtain ⟨ad2, p2, hel2, hrf, _⟩ := hv_
  have hstep := all_take (P := fun f => f ∉ S) hf
  refine elem_intro hel2 ?_
  intro r10
  refine if_intro (fun hk => ?_) (fun hk => ?_)
  ·refine call_gives (hasFact_spec hS hSn hs hrf) ?_
   refine num64 (by omega) (by omega) ⟨(j + 1, !decide (f ∈ S)), ⟨by dsimp only; omega, ?_⟩, by dsimp only; omega, ⟨⟨rfl, rfl, rfl, rfl, rfl, rfl, rfl, rfl, rfl, rfl, trivial⟩, ⟨rfl, rfl, trivial⟩, rfl, rfl⟩⟩
   dsimp only
   rw [hstep, ← hfine, Bool.not_eq_true', decide_eq_false_iff_not]
   exact ⟨fun h => ⟨hk, h⟩, fun h => h.2⟩
  ·refine num64 (by omega) (by omega) ⟨(j + 1, false), ⟨by dsimp only; omega, ?_⟩, by dsimp only; omega, ⟨⟨rfl, rfl, rfl, rfl, rfl, rfl, rfl, rfl, rfl, rfl, trivial⟩, ⟨rfl, rfl, trivial⟩, rfl, rfl⟩⟩
   dsimp only
   rw [hstep, ← hfine, hk]
   simp
 obtain rfl : j = r.neg.length := by omega
 rw [List.take_length] at hfine
 refine if_intro (fun hk => ?_) (fun hk => ?_)
 ·rw [if_pos (hfine.1 hk)] at hsucc
  intro r53
  refine grow_intro ?_ ?_ fun b' c' _ => ?_
  ·show (ys.length + 1) * 120 ≤ _; omega
  ·exact Nat.le_trans (m := 100000000) (show ys.length + 1 ≤ _ by omega) (by decide)
  refine num64 (by omega) (by omega) ⟨(i + 1, b', c', _), ⟨by dsimp only; omega, ?_⟩, by dsimp only; omega, ⟨⟨rfl, rfl, rfl, rfl, rfl, trivial⟩, ⟨rfl, trivial⟩, rfl, rfl⟩⟩
  dsimp only
  rw [hsucc]
  simp only [List.map_append, List.map_cons, List.map_nil]
  exact hrows.append (Rows.one hrv (RuD.d_n _))
 ·rw [if_neg (fun k => by rw [hfine.2 k] at hk; cases hk), List.append_nil] at hsucc
  refine num64 (by omega) (by omega) ⟨(i + 1, bo, co, ys), ⟨by dsimp only; omega, ?_⟩, by dsimp only; omega, ⟨⟨rfl, rfl, rfl, rfl, rfl, trivial⟩, ⟨rfl, trivial⟩, rfl, rfl⟩⟩
  dsimp only
  rw [hsucc]; exact hrows
set_option maxHeartbeats 1000000 in
theorem grow_spec {rs : List Ru} {base : List F} {v : Value} {b3 : Option Addr} {c3 : Nat} (hr : Sl μ 6 b3 rs.length ((rs.map Ru.rd).map RuD.d)) (hn : rs.length ≤ 3000000) (h : FsV μ base v) (hbn : base.length ≤ 3000000) :
  Spec Tryz.prog 114 [.slice b3 rs.length c3, v] μ fun r μ' => FsV μ' (lfp rs base) r := by
 have hv_ := FsV.sl h
 obtain ⟨b, c, rfl, hlc, hs⟩ := hv_
 refine Spec.mk Tryz.func114 (by kernel_rfl) ?_
 refine call_plain (sortFacts_spec h (by omega)) fun v1 μ1 hle1 hR1 => ?_
 have hv_ := FsV.sl hR1
 obtain ⟨b1, c1, rfl, -, -⟩ := hv_
 refine loop_intro (fun z : List F × Option Addr × Nat × Mem => BasI rs base z.1 ∧ μ1.Le z.2.2.2 ∧ FsV z.2.2.2 z.1 (.slice z.2.1 z.1.length z.2.2.1))
  (fun (out, b4, c4, μ') => ⟨[(0, .val (.slice b3 rs.length c3)), (5, .val (.slice b4 out.length c4))], [], 0, μ', Mem.nil⟩) (fun z => base.length + rs.length - z.1.length)
  (ascF base, b1, c1, μ1) ⟨BasI.start rs base, Mem.Le.refl _, hR1⟩ (fun (_, _, _, _) => ⟨rfl, rfl⟩) ⟨⟨rfl, rfl, trivial⟩, trivial, rfl, rfl⟩ ?_
 rintro ⟨out, b4, c4, μ'⟩ ⟨hI, hle, hout⟩
 dsimp only at hI hle hout
 have hv_ := FsV.sl hout
 obtain ⟨b5, c5, e, -, hso⟩ := hv_
 have hv_ := Value.slice.inj e
 obtain ⟨rfl, _, rfl⟩ := hv_
 have hol := hI.len
 have hv_ := Rep.srcAll hout
 obtain ⟨vs, hvrows, hvl, hsrc⟩ := hv_
 have hr' := (hr.mono hle1).mono hle
 intro r14
 refine src_intro _ hsrc ?_
 refine grow_intro ?_ ?_ fun bn cn _ => ?_
 ·show (0 + _) * 40 ≤ _; omega
 ·exact Nat.le_trans (m := 100000000) (show 0 + vs.length ≤ _ by omega) (by decide)
 refine loop_intro (fun z : Nat × Option Nat × Nat × List Value => z.1 ≤ rs.length ∧ Rows μ' 2 (((out ++ growL rs out z.1).map F.fc).map Fc.d) z.2.2.2)
  (fun (i, bo, co, ys) => ⟨[(0, .val (.slice b3 rs.length c3)), (5, .val (.slice b4 out.length c4)), (6, .row 0 bo ys.length co), (17, .val (.slice b3 rs.length c3)), (18, .val (.int .i64 rs.length)), (19, .val (.int .i64 i))], [(0, some (.row bo co 67 2 ys))], 1, μ', Mem.nil⟩) (fun z => rs.length - z.1)
  (0, bn, cn, [] ++ vs) ⟨Nat.zero_le _, by simpa [growL] using hvrows⟩ (fun (_, _, _, _) => ⟨rfl, rfl⟩) ⟨⟨rfl, rfl, rfl, rfl, rfl, rfl, trivial⟩, ⟨rfl, trivial⟩, rfl, rfl⟩ ?_
 rintro ⟨i, bo, co, ys⟩ ⟨hi, hrows⟩
 dsimp only at hi hrows
 have hyl := hrows.len
 simp only [List.length_map, List.length_append] at hyl
 have hhl := growL_len rs out i
 refine ifd (fun hlt => ?_) (fun hlt => ?_)
 rotate_left
 ·obtain rfl : i = rs.length := by omega
  refine call_frz [0] ?_
  intro μ2 hle2 hno2 hat2
  have hrep := Rows.sl hat2 (hrows.mono hle2) (Nat.le_trans (m := 100000000) (by omega) (by decide))
  refine call_go (sortFacts_spec hrep (by rw [List.length_append]; omega)) fun v3 μ3 hle3 hR => ?_
  have hR : FsV μ3 (growF rs out) v3 := hR
  have hv_ := FsV.sl hR
  obtain ⟨b6, c6, rfl, -, -⟩ := hv_
  have hgl := hI.next.len
  refine ifd (fun he => ?_) (fun he => ?_)
  ·refine ret_plain ?_
   rw [← hI.done (by omega)]
   exact RepV.mono (hle2.trans hle3) hout
  ·have := hI.more (by omega)
   exact ⟨(growF rs out, b6, c6, μ3), ⟨hI.next, hle.trans (hle2.trans hle3), hR⟩, by dsimp only; omega, ⟨⟨rfl, rfl, trivial⟩, trivial, rfl, rfl⟩⟩
 have hv_ := at_some (l := rs) (i := i) (by omega)
 obtain ⟨r, hri⟩ := hv_
 have hv_ := Ru.elem hr' hri
 obtain ⟨ad, p, hel, hrv, hat⟩ := hv_
 have hsucc := growL_succ (out := out) hri
 refine elem_intro hel ?_
 intro r7
 have hmp := maxLen_le hat.pos.max
 refine call_gives (hasFact_spec hI.asc (by omega) hso hat.head) ?_
 refine loop_intro (fun z : Nat × Bool => z.1 ≤ r.pos.length ∧ (z.2 = true ↔ r.head ∉ out ∧ ∀ f ∈ r.pos.take z.1, f ∈ out))
  (fun (j, fine) => ⟨[(0, .val (.slice b3 rs.length c3)), (5, .val (.slice b4 out.length c4)), (6, .row 0 bo ys.length co), (8, .loc 1 r7 0), (9, .val (.bool fine)), (17, .val (.slice b3 rs.length c3)), (18, .val (.int .i64 rs.length)), (19, .val (.int .i64 i)), (29, .val (.slice p.2.2.1.1 r.pos.length p.2.2.1.2)), (30, .val (.int .i64 r.pos.length)), (31, .val (.int .i64 j))],
   [(0, some (.row bo co 67 2 ys)), (1, some (.cells r7 (vals (r.cs p)) 126))], 2, μ', Mem.nil⟩) (fun z => r.pos.length - z.1)
  (0, !decide (r.head ∈ out)) ⟨Nat.zero_le _, by simp⟩ (fun (_, _) => ⟨rfl, rfl⟩) ⟨⟨rfl, rfl, rfl, rfl, rfl, rfl, rfl, rfl, rfl, rfl, rfl, trivial⟩, ⟨rfl, rfl, trivial⟩, rfl, rfl⟩ ?_
 rintro ⟨j, fine⟩ ⟨hj, hfine⟩
 dsimp only at hj hfine
 refine ifd (fun hlt2 => ?_) (fun hlt2 => ?_)
 ·have hv_ := at_some (l := r.pos) (i := j) (by omega)
  obtain ⟨f, hf⟩ := hv_
  have hv_ := F.elem hat.pos hf
  obtain ⟨ad2, p2, hel2, hrf, _⟩ := hv_
  have hstep := all_take (P := fun f => f ∈ out) hf
  refine elem_intro hel2 ?_
  intro r10
  refine if_intro (fun hk => ?_) (fun hk => ?_)
  ·refine call_gives (hasFact_spec hI.asc (by omega) hso hrf) ?_
   refine num64 (by omega) (by omega) ⟨(j + 1, decide (f ∈ out)), ⟨by dsimp only; omega, ?_⟩, by dsimp only; omega, ⟨⟨rfl, rfl, rfl, rfl, rfl, rfl, rfl, rfl, rfl, rfl, rfl, trivial⟩, ⟨rfl, rfl, trivial⟩, rfl, rfl⟩⟩
   dsimp only
   rw [hstep, ← and_assoc, ← hfine, decide_eq_true_eq]
   exact ⟨fun h => ⟨hk, h⟩, fun h => h.2⟩
  ·refine num64 (by omega) (by omega) ⟨(j + 1, false), ⟨by dsimp only; omega, ?_⟩, by dsimp only; omega, ⟨⟨rfl, rfl, rfl, rfl, rfl, rfl, rfl, rfl, rfl, rfl, rfl, trivial⟩, ⟨rfl, rfl, trivial⟩, rfl, rfl⟩⟩
   dsimp only
   rw [hstep, ← and_assoc, ← hfine, hk]
   simp
 obtain rfl : j = r.pos.length := by omega
 rw [List.take_length] at hfine
 refine if_intro (fun hk => ?_) (fun hk => ?_)
 ·rw [if_pos (hfine.1 hk)] at hsucc
  intro r53
  refine grow_intro ?_ ?_ fun b' c' _ => ?_
  ·show (ys.length + 1) * 40 ≤ _; omega
  ·exact Nat.le_trans (m := 100000000) (show ys.length + 1 ≤ _ by omega) (by decide)
  refine num64 (by omega) (by omega) ⟨(i + 1, b', c', _), ⟨by dsimp only; omega, ?_⟩, by dsimp only; omega, ⟨⟨rfl, rfl, rfl, rfl, rfl, rfl, trivial⟩, ⟨rfl, trivial⟩, rfl, rfl⟩⟩
  dsimp only
  rw [hsucc, ← List.append_assoc, List.map_append (l₂ := [r.head]), List.map_append (l₂ := [r.head].map F.fc)]
  exact hrows.append (Rows.one hat.head (Fc.d_n _))
 ·rw [if_neg (fun k => by rw [hfine.2 k] at hk; cases hk), List.append_nil] at hsucc
  refine num64 (by omega) (by omega) ⟨(i + 1, bo, co, ys), ⟨by dsimp only; omega, ?_⟩, by dsimp only; omega, ⟨⟨rfl, rfl, rfl, rfl, rfl, rfl, trivial⟩, ⟨rfl, trivial⟩, rfl, rfl⟩⟩
  dsimp only
  rw [hsucc]; exact hrows
theorem reduct_spec {rs : List Ru} {S : List F} {b b3 : Option Addr} {c c3 : Nat} (hr : Sl μ 6 b3 rs.length ((rs.map Ru.rd).map RuD.d)) (hn : rs.length ≤ 3000000) (hS : Asc3 cmpF S) (hSn : S.length ≤ 1000000000) (hs : Sl μ 2 b S.length ((S.map F.fc).map Fc.d)) :
  Spec Tryz.prog 99 [.slice b3 rs.length c3, .slice b S.length c] μ fun r μ' => FsV μ' (gam rs S) r := by
 refine Spec.mk Tryz.func99 (by kernel_rfl) ?_
 refine call_plain (unless_spec hr (by omega) hS hSn hs) fun v1 μ1 hle1 hR1 => ?_
 have hv_ := RsV.sl hR1
 obtain ⟨b1, c1, rfl, hs1⟩ := hv_
 have := unlessR_len rs S
 refine call_plain (grow_spec hs1 (by omega) (FsV.nil none 0) (Nat.zero_le _)) fun v2 μ2 hle2 hR2 => ?_
 exact ret_plain hR2
end
end Go.Vx
namespace Go.Vx
open Go.Proofs Classical
theorem lfp_ok {p : Pg} {rs : List Ru} {base : List F} (hr : ∀ r ∈ rs, RuOk p r) (hb : FsOk p base) : FsOk p (lfp rs base) := fun f hf => by
 cases mem_lfp.1 hf with
 | base h => exact hb _ h
 | rule h _ => exact (hr _ h).head
theorem gam_ok {p : Pg} {rs : List Ru} {S : List F} (hr : ∀ r ∈ rs, RuOk p r) : FsOk p (gam rs S) := lfp_ok (fun r h => hr r (mem_unlessR.1 h).1) (fun _ h => nomatch h)
section
variable {μ : Mem}
theorem rulesFor_spec {p : Pg} {u : List Tm} {v : Value} {ub : Option Addr} {uc : Nat} (hp : RepV μ p.d v) (hu : Sl μ 4 ub u.length (u.map Tm.d)) :
  Spec Tryz.prog 98 [v, .slice ub u.length uc] μ fun v μ' => optRu (fun y tv => RsV μ' y tv) (groundO p u) v := by
 have hp0 := hp
 have hv_ := Pg.inv hp
 obtain ⟨q, rfl, hrl⟩ := hv_
 refine Spec.mk Tryz.func98 (by kernel_rfl) ?_
 intro r2
 refine call_plain (impl_ProgramOk_spec hp0) fun v1 μ1 hle1 hR => ?_
 obtain rfl := hR
 refine ifnd (fun h => ret_plain (by rw [groundO, if_neg fun k => h k.1]; rfl)) (fun hok => ?_)
 refine call_gives (impl_UniverseOk_spec (hu.mono hle1)) ?_
 refine ifnd (fun h => ret_plain (by rw [groundO, if_neg fun k => h k.2]; rfl)) (fun huok => ?_)
 have hv_ := huok.lift
 obtain ⟨U, rfl, hUg, hUl⟩ := hv_
 have hgo : groundO p (U.map T.tm) = groundR p U := by rw [groundO, if_pos ⟨hok, huok⟩, toTs_tm]
 rw [hgo]
 have h1 := huok.pos
 have h8 := huok.max
 rw [List.length_map] at h1 h8 hu ⊢
 refine call_plain (groundRules_spec (hp0.mono hle1) hok (hu.mono hle1) h1 h8) fun v2 μ2 hle2 hR => ?_
 cases hL : groundR p U with
 | none =>
  rw [hL] at hR
  obtain rfl := hR
  exact ret_plain rfl
 | some y =>
  rw [hL] at hR
  obtain ⟨tv, rfl, hR⟩ := hR
  exact ret_plain ⟨tv, rfl, hR⟩
end
end Go.Vx
namespace Go.Vx
open Go.Proofs Classical
noncomputable def wfM (p : Pg) (u : List Tm) : Option (List F × List F) := (groundO p u).map fun rs => (wfT rs, wfO rs)
def optFs2 (P : List F → List F → Value → Value → Prop) (o : Option (List F × List F)) (v : Value) : Prop := match o with
 | some y => ∃ tv tw, v = .tuple #[tv, tw, .bool true] ∧ P y.1 y.2 tv tw
 | none => v = .tuple #[.slice none 0 0, .slice none 0 0, .bool false]
noncomputable def openL (rs : List Ru) (t : List F) (i : Nat) : List F := ((gam rs t).take i).filter fun f => decide (f ∉ t)
theorem openL_succ {rs : List Ru} {t : List F} {i : Nat} {f : F} (h : (gam rs t)[i]? = some f) : openL rs t (i + 1) = openL rs t i ++ (if f ∉ t then [f] else []) := by
 rw [openL, List.take_add_one, h, Option.toList_some, List.filter_append, ← openL]
 congr 1
 by_cases k : f ∈ t <;> simp [k]
theorem openL_len (rs : List Ru) (t : List F) (i : Nat) : (openL rs t i).length ≤ i := Nat.le_trans (List.length_filter_le _ _) (List.length_take_le _ _)
theorem wf_more {rs : List Ru} {n : Nat} (h : gam2 rs (wfAt rs n) ≠ wfAt rs n) : (wfAt rs n).length < (gam2 rs (wfAt rs n)).length :=
 asc_more cmpF_ord (wfAt_asc rs n) (gam_asc _ _) (wfAt_sub rs n) fun e => h (asc_same cmpF_ord (wfAt_asc rs n) (gam_asc _ _) (wfAt_sub rs n) e).symm
theorem wfT_ok {p : Pg} {rs : List Ru} (hr : ∀ r ∈ rs, RuOk p r) (n : Nat) : FsOk p (wfAt rs n) := by
 cases n with
 | zero => exact fun _ h => nomatch h
 | succ n => exact gam_ok hr
section
variable {μ : Mem}
set_option maxHeartbeats 1000000 in
theorem spec_WellFounded_spec {p : Pg} {u : List Tm} {v : Value} {ub : Option Addr} {uc : Nat} (hp : RepV μ p.d v) (hw : p.d.wd) (hu : Sl μ 4 ub u.length (u.map Tm.d)) (hwu : D.wds (u.map Tm.d)) :
  Spec Tryz.prog 36 [v, .slice ub u.length uc] μ fun v μ' => optFs2 (fun y z tv tw => FsV μ' y tv ∧ FsV μ' z tw) (wfM p u) v := by
 have hp0 := hp
 have hv_ := Pg.inv hp
 obtain ⟨q, rfl, hrl⟩ := hv_
 refine Spec.mk Tryz.func36 (by kernel_rfl) ?_
 intro r3
 refine call_plain (spec_GroundRules_spec hp0 hw hu hwu) fun v1 μ1 hle1 hR => ?_
 cases hL : groundO p u with
 | none =>
  rw [hL] at hR
  obtain rfl := hR
  exact if_intro (fun _ => ret_plain (by rw [wfM, hL]; rfl)) (fun h => nomatch h)
 | some rs =>
 rw [hL] at hR
 obtain ⟨tv, rfl, hR⟩ := hR
 have hR : RsV μ1 rs tv := hR
 have hv_ := RsV.sl hR
 obtain ⟨b1, c1, rfl, hrs⟩ := hv_
 have hv_ := groundO_ok hL
 obtain ⟨hrl2, hro⟩ := hv_
 have hpo := (groundO_some hL).1
 refine if_intro (fun h => nomatch h) (fun _ => ?_)
 intro r23
 refine loop_frz (fun z : Nat × Option Addr × Nat × Mem => μ1.Le z.2.2.2 ∧ FsV z.2.2.2 (wfAt rs z.1) (.slice z.2.1 (wfAt rs z.1).length z.2.2.1))
  (fun (n, b4, c4, μ') => ⟨[(7, .val (.slice b1 rs.length c1)), (9, .val (.slice b4 (wfAt rs n).length c4))], [], 1, μ', Mem.nil⟩) (fun z => rs.length - (wfAt rs z.1).length) [1]
  (fun (_, _, _, _) => ⟨rfl, rfl⟩) (fun μ2 hle2 hno2 hat2 => ⟨(0, some ⟨r23, 0, none⟩, 0, μ2), ⟨hle2, FsV.nil _ _⟩, ⟨rfl, rfl, trivial⟩, trivial, rfl, rfl⟩) ?_
 rintro ⟨n, b4, c4, μ'⟩ ⟨hle, hout⟩
 dsimp only at hle hout
 have hv_ := FsV.sl hout
 obtain ⟨b5, c5, e, -, hso⟩ := hv_
 have hv_ := Value.slice.inj e
 obtain ⟨rfl, _, rfl⟩ := hv_
 have hwl := wfAt_len rs n
 have hrs' := hrs.mono hle
 have hga := gam_asc rs (wfAt rs n)
 have hgl := gam_len rs (wfAt rs n)
 have hnl : (gam2 rs (wfAt rs n)).length ≤ rs.length := gam_len _ _
 have hokT := (wfT_ok hro n).len hpo
 have hokG := (gam_ok (S := wfAt rs n) hro).len hpo
 refine call_plain (l29Reduct_spec hrs' (by omega) hso) fun v3 μ3 hle3 hR3 => ?_
 have hv_ := FsV.sl hR3
 obtain ⟨b6, c6, rfl, -, hs3⟩ := hv_
 refine call_plain (l29Reduct_spec (hrs'.mono hle3) (by omega) hs3) fun v4 μ4 hle4 hR4 => ?_
 have hR4 : FsV μ4 (gam2 rs (wfAt rs n)) v4 := hR4
 have hv_ := FsV.sl hR4
 obtain ⟨b7, c7, rfl, -, hs4⟩ := hv_
 have hsg := hs3.mono hle4
 refine ifd (fun he => ?_) (fun he => ?_)
 rotate_left
 ·have hmore := wf_more (rs := rs) (n := n) (fun e => he (by rw [e]))
  exact ⟨[], (n + 1, b7, c7, μ4), ⟨hle.trans (hle3.trans hle4), hR4⟩, by show rs.length - (gam2 rs (wfAt rs n)).length < rs.length - (wfAt rs n).length; omega, ⟨⟨rfl, rfl, trivial⟩, trivial, rfl, rfl⟩⟩
 have hfix : gam2 rs (wfAt rs n) = wfAt rs n := (asc_same cmpF_ord (wfAt_asc rs n) (gam_asc _ _) (wfAt_sub rs n) (by
  have : (gam2 rs (wfAt rs n)).length = (wfAt rs n).length := by omega
  exact this)).symm
 have hT := wfT_eq hfix
 have e1 : wfM p u = some (wfAt rs n, openL rs (wfAt rs n) (gam rs (wfAt rs n)).length) := by
  rw [wfM, hL, hT, openL, List.take_length]; rfl
 rw [e1]
 intro r35
 refine loop_intro (fun z : Nat × Option Nat × Nat × List Value => z.1 ≤ (gam rs (wfAt rs n)).length ∧ Rows μ4 2 (((openL rs (wfAt rs n) z.1).map F.fc).map Fc.d) z.2.2.2)
  (fun (i, bo, co, ys) => ⟨[(9, .val (.slice b4 (wfAt rs n).length c4)), (12, .row 1 bo ys.length co), (36, .val (.slice b6 (gam rs (wfAt rs n)).length c6)), (37, .val (.int .i64 (gam rs (wfAt rs n)).length)), (38, .val (.int .i64 i))], [(1, some (.row bo co 67 2 ys))], 2, μ4, Mem.nil⟩) (fun z => (gam rs (wfAt rs n)).length - z.1)
  (0, some r35, 0, []) ⟨Nat.zero_le _, by simpa [openL] using .nil⟩ (fun (_, _, _, _) => ⟨rfl, rfl⟩) ⟨⟨rfl, rfl, rfl, rfl, rfl, trivial⟩, ⟨rfl, trivial⟩, rfl, rfl⟩ ?_
 rintro ⟨i, bo, co, ys⟩ ⟨hi, hrows⟩
 dsimp only at hi hrows
 have hyl := hrows.len
 simp only [List.length_map] at hyl
 have hol := openL_len rs (wfAt rs n) i
 refine ifd (fun hlt => ?_) (fun hlt => ?_)
 ·have hv_ := at_some (l := gam rs (wfAt rs n)) (i := i) (by omega)
  obtain ⟨f, hf⟩ := hv_
  have hv_ := F.elem hsg hf
  obtain ⟨ad, q2, hel, hrf, _⟩ := hv_
  have hsucc := openL_succ (t := wfAt rs n) hf
  refine elem_intro hel ?_
  intro r14
  refine call_gives (l18Has_spec ((hso.mono hle3).mono hle4) hrf) ?_
  refine ifnd (fun hin => ?_) (fun hin => ?_)
  ·rw [if_pos hin] at hsucc
   intro r48
   refine grow_intro ?_ ?_ fun b' c' _ => ?_
   ·show (ys.length + 1) * 40 ≤ _; omega
   ·exact Nat.le_trans (m := 100000000) (show ys.length + 1 ≤ _ by omega) (by decide)
   refine num64 (by omega) (by omega) ⟨(i + 1, b', c', _), ⟨by dsimp only; omega, ?_⟩, by dsimp only; omega, ⟨⟨rfl, rfl, rfl, rfl, rfl, trivial⟩, ⟨rfl, trivial⟩, rfl, rfl⟩⟩
   dsimp only
   rw [hsucc]
   simp only [List.map_append, List.map_cons, List.map_nil]
   exact hrows.append (Rows.one hrf (Fc.d_n _))
  ·rw [if_neg (fun k => k hin), List.append_nil] at hsucc
   refine num64 (by omega) (by omega) ⟨(i + 1, bo, co, ys), ⟨by dsimp only; omega, ?_⟩, by dsimp only; omega, ⟨⟨rfl, rfl, rfl, rfl, rfl, trivial⟩, ⟨rfl, trivial⟩, rfl, rfl⟩⟩
   dsimp only
   rw [hsucc]; exact hrows
 obtain rfl : i = (gam rs (wfAt rs n)).length := by omega
 have hokO : ∀ f ∈ openL rs (wfAt rs n) (gam rs (wfAt rs n)).length, f.args.length ≤ 1000000 := fun f hf => Nat.le_trans (hokG f (List.mem_of_mem_take (List.mem_filter.1 hf).1)) (by decide)
 refine call_plain (l18Copy_spec ((hso.mono hle3).mono hle4) (by omega) fun f hf => Nat.le_trans (hokT f hf) (by decide)) fun v5 μ5 hle5 hR5 => ?_
 refine call_frz [1] ?_
 intro μ6 hle6 hno6 hat6
 have hrep : FsV μ6 (openL rs (wfAt rs n) (gam rs (wfAt rs n)).length) _ := Rows.sl hat6 ((hrows.mono hle5).mono hle6) (Nat.le_trans (m := 100000000) (by omega) (by decide))
 have hv_ := FsV.sl hrep
 obtain ⟨b8, c8, e8, -, hs8⟩ := hv_
 have hv_ := Value.slice.inj e8
 obtain ⟨e81, e82, e83⟩ := hv_
 rw [e81, e82, e83]
 refine call_go (l18Copy_spec hs8 (by omega) hokO) fun v7 μ7 hle7 hR7 => ?_
 exact ret_plain ⟨_, _, rfl, RepV.mono (hle6.trans hle7) hR5, hR7⟩
set_option maxHeartbeats 1000000 in
theorem impl_WellFounded_spec {p : Pg} {u : List Tm} {v : Value} {ub : Option Addr} {uc : Nat} (hp : RepV μ p.d v) (hu : Sl μ 4 ub u.length (u.map Tm.d)) :
  Spec Tryz.prog 37 [v, .slice ub u.length uc] μ fun v μ' => optFs2 (fun y z tv tw => ∃ μ1 μ2, μ.Le μ1 ∧ μ1.Le μ2 ∧ μ2.Le μ' ∧ Fresh μ μ1 (.sl 2 ((y.map F.fc).map Fc.d)) tv ∧ Fresh μ2 μ' (.sl 2 ((z.map F.fc).map Fc.d)) tw) (wfM p u) v := by
 have hp0 := hp
 have hv_ := Pg.inv hp
 obtain ⟨q, rfl, hrl⟩ := hv_
 refine Spec.mk Tryz.func37 (by kernel_rfl) ?_
 intro r3
 refine call_plain (rulesFor_spec hp0 hu) fun v1 μ1 hle1 hR => ?_
 cases hL : groundO p u with
 | none =>
  rw [hL] at hR
  obtain rfl := hR
  exact if_intro (fun _ => ret_plain (by rw [wfM, hL]; rfl)) (fun h => nomatch h)
 | some rs =>
 rw [hL] at hR
 obtain ⟨tv, rfl, hR⟩ := hR
 have hv_ := RsV.sl hR
 obtain ⟨b1, c1, rfl, hrs⟩ := hv_
 have hv_ := groundO_ok hL
 obtain ⟨hrl2, hro⟩ := hv_
 have hpo := (groundO_some hL).1
 refine if_intro (fun h => nomatch h) (fun _ => ?_)
 intro r23
 refine loop_frz (fun z : Nat × Option Addr × Nat × Mem => μ1.Le z.2.2.2 ∧ FsV z.2.2.2 (wfAt rs z.1) (.slice z.2.1 (wfAt rs z.1).length z.2.2.1))
  (fun (n, b4, c4, μ') => ⟨[(7, .val (.slice b1 rs.length c1)), (9, .val (.slice b4 (wfAt rs n).length c4))], [], 1, μ', Mem.nil⟩) (fun z => rs.length - (wfAt rs z.1).length) [1]
  (fun (_, _, _, _) => ⟨rfl, rfl⟩) (fun μ2 hle2 hno2 hat2 => ⟨(0, some ⟨r23, 0, none⟩, 0, μ2), ⟨hle2, FsV.nil _ _⟩, ⟨rfl, rfl, trivial⟩, trivial, rfl, rfl⟩) ?_
 rintro ⟨n, b4, c4, μ'⟩ ⟨hle, hout⟩
 dsimp only at hle hout
 have hv_ := FsV.sl hout
 obtain ⟨b5, c5, e, -, hso⟩ := hv_
 have hv_ := Value.slice.inj e
 obtain ⟨rfl, _, rfl⟩ := hv_
 have hwl := wfAt_len rs n
 have hrs' := hrs.mono hle
 have hga := gam_asc rs (wfAt rs n)
 have hgl := gam_len rs (wfAt rs n)
 have hnl : (gam2 rs (wfAt rs n)).length ≤ rs.length := gam_len _ _
 have hokT := (wfT_ok hro n).len hpo
 have hokG := (gam_ok (S := wfAt rs n) hro).len hpo
 refine call_plain (reduct_spec hrs' (by omega) (wfAt_asc rs n) (by omega) hso) fun v3 μ3 hle3 hR3 => ?_
 have hv_ := FsV.sl hR3
 obtain ⟨b6, c6, rfl, -, hs3⟩ := hv_
 refine call_plain (reduct_spec (hrs'.mono hle3) (by omega) hga (by omega) hs3) fun v4 μ4 hle4 hR4 => ?_
 have hR4 : FsV μ4 (gam2 rs (wfAt rs n)) v4 := hR4
 have hv_ := FsV.sl hR4
 obtain ⟨b7, c7, rfl, -, hs4⟩ := hv_
 have hsg := hs3.mono hle4
 refine call_gives (sameFacts_spec hs4 ((hso.mono hle3).mono hle4)) ?_
 refine ifd (fun hfix => ?_) (fun he => ?_)
 rotate_left
 ·have hmore := wf_more (rs := rs) (n := n) he
  exact ⟨[], (n + 1, b7, c7, μ4), ⟨hle.trans (hle3.trans hle4), hR4⟩, by show rs.length - (gam2 rs (wfAt rs n)).length < rs.length - (wfAt rs n).length; omega, ⟨⟨rfl, rfl, trivial⟩, trivial, rfl, rfl⟩⟩
 have hT := wfT_eq hfix
 have e1 : wfM p u = some (wfAt rs n, openL rs (wfAt rs n) (gam rs (wfAt rs n)).length) := by
  rw [wfM, hL, hT, openL, List.take_length]; rfl
 rw [e1]
 intro r35
 refine loop_intro (fun z : Nat × Option Nat × Nat × List Value => z.1 ≤ (gam rs (wfAt rs n)).length ∧ Rows μ4 2 (((openL rs (wfAt rs n) z.1).map F.fc).map Fc.d) z.2.2.2)
  (fun (i, bo, co, ys) => ⟨[(9, .val (.slice b4 (wfAt rs n).length c4)), (12, .row 1 bo ys.length co), (34, .val (.slice b6 (gam rs (wfAt rs n)).length c6)), (35, .val (.int .i64 (gam rs (wfAt rs n)).length)), (36, .val (.int .i64 i))], [(1, some (.row bo co 67 2 ys))], 2, μ4, Mem.nil⟩) (fun z => (gam rs (wfAt rs n)).length - z.1)
  (0, some r35, 0, []) ⟨Nat.zero_le _, by simpa [openL] using .nil⟩ (fun (_, _, _, _) => ⟨rfl, rfl⟩) ⟨⟨rfl, rfl, rfl, rfl, rfl, trivial⟩, ⟨rfl, trivial⟩, rfl, rfl⟩ ?_
 rintro ⟨i, bo, co, ys⟩ ⟨hi, hrows⟩
 dsimp only at hi hrows
 have hyl := hrows.len
 simp only [List.length_map] at hyl
 have hol := openL_len rs (wfAt rs n) i
 refine ifd (fun hlt => ?_) (fun hlt => ?_)
 ·have hv_ := at_some (l := gam rs (wfAt rs n)) (i := i) (by omega)
  obtain ⟨f, hf⟩ := hv_
  have hv_ := F.elem hsg hf
  obtain ⟨ad, q2, hel, hrf, _⟩ := hv_
  have hsucc := openL_succ (t := wfAt rs n) hf
  refine elem_intro hel ?_
  intro r14
  refine call_gives (hasFact_spec (wfAt_asc rs n) (by omega) ((hso.mono hle3).mono hle4) hrf) ?_
  refine ifnd (fun hin => ?_) (fun hin => ?_)
  ·rw [if_pos hin] at hsucc
   intro r48
   refine grow_intro ?_ ?_ fun b' c' _ => ?_
   ·show (ys.length + 1) * 40 ≤ _; omega
   ·exact Nat.le_trans (m := 100000000) (show ys.length + 1 ≤ _ by omega) (by decide)
   refine num64 (by omega) (by omega) ⟨(i + 1, b', c', _), ⟨by dsimp only; omega, ?_⟩, by dsimp only; omega, ⟨⟨rfl, rfl, rfl, rfl, rfl, trivial⟩, ⟨rfl, trivial⟩, rfl, rfl⟩⟩
   dsimp only
   rw [hsucc]
   simp only [List.map_append, List.map_cons, List.map_nil]
   exact hrows.append (Rows.one hrf (Fc.d_n _))
  ·rw [if_neg (fun k => k hin), List.append_nil] at hsucc
   refine num64 (by omega) (by omega) ⟨(i + 1, bo, co, ys), ⟨by dsimp only; omega, ?_⟩, by dsimp only; omega, ⟨⟨rfl, rfl, rfl, rfl, rfl, trivial⟩, ⟨rfl, trivial⟩, rfl, rfl⟩⟩
   dsimp only
   rw [hsucc]; exact hrows
 obtain rfl : i = (gam rs (wfAt rs n)).length := by omega
 have hokO : ∀ f ∈ openL rs (wfAt rs n) (gam rs (wfAt rs n)).length, f.args.length ≤ 1000000 := fun f hf => Nat.le_trans (hokG f (List.mem_of_mem_take (List.mem_filter.1 hf).1)) (by decide)
 refine call_plain (copyFacts_spec ((RepV.mono hle3 hout).mono hle4) (by omega) fun f hf => Nat.le_trans (hokT f hf) (by decide)) fun v5 μ5 hle5 hR5 => ?_
 refine call_frz [1] ?_
 intro μ6 hle6 hno6 hat6
 have hrep : FsV μ6 (openL rs (wfAt rs n) (gam rs (wfAt rs n)).length) _ := Rows.sl hat6 ((hrows.mono hle5).mono hle6) (Nat.le_trans (m := 100000000) (by omega) (by decide))
 refine call_go (copyFacts_spec hrep (by omega) hokO) fun v7 μ7 hle7 hR7 => ?_
 have hm : μ.Le μ4 := ((hle1.trans hle).trans hle3).trans hle4
 exact ret_plain ⟨_, _, rfl, μ5, μ6, hm.trans hle5, hle6, hle7, hR5.mono hm (Mem.Le.refl _), hR7⟩
end
end Go.Vx
namespace Go.Vx
open Go.Proofs Classical
theorem fcs_cnt2 {p : Pg} (hp : p.Ok) : ∀ L : List F, FsOk p L → D.cnts ((L.map F.fc).map Fc.d) ≤ 60001 * L.length
 | [], _ => by simp [D.cnts]
 | f :: L, h => by
  have ih := fcs_cnt2 hp L fun x hx => h x (List.mem_cons_of_mem _ hx)
  have h0 := h f (by simp)
  have h1 := h0.len hp
  have h2 := tms_cnt2 f.fc.args fun t ht => (h0.2 t ht).1.2
  have h3 := Fc.cnt_eq f.fc
  have := Nat.mul_le_mul_left 15000 h1
  simp only [List.map_cons, D.cnts, List.length_cons]
  omega
def resF (o : Option (List F)) : List Fc := (o.getD []).map F.fc
theorem resF_cnt {o : Option (List F)} {n : Nat} (h : ∀ y, o = some y → ∃ p : Pg, p.Ok ∧ FsOk p y ∧ y.length ≤ n) : D.cnts ((resF o).map Fc.d) ≤ 60001 * n := by
 cases o with
 | none => simp [resF, D.cnts]
 | some y =>
  have hv_ := h y rfl
  obtain ⟨p, h1, h2, h3⟩ := hv_
  have := fcs_cnt2 h1 y h2
  have := Nat.mul_le_mul_left 60001 h3
  rw [resF, Option.getD_some]; omega
end Go.Vx
namespace Go.Vx
open Go.Proofs Classical
section
variable {μ : Mem}
theorem call_new2 {P : Program} {f : FuncId} {args : List Value} {dr : Bool} {s : St} {K : Value → St → Prop} {l : List (D × Value)} {e1 e2 : Nat} {x1 x2 : List D} (T : Value → Value → Value) (hap : Apart s.mem s.own) (ho : Owns s.own l) (h : Spec P f args (s.mem.join s.own) fun v μ' => ∃ gv gw, v = T gv gw ∧ FreshS (s.mem.join s.own) μ' [.sl e1 x1, .sl e2 x2] [gv, gw])
  (k : ∀ gv gw μ' H', s.mem.Le μ' → Apart μ' H' → Owns H' (l ++ [(.sl e1 x1, gv)] ++ [(.sl e2 x2, gw)]) → memOwnK s μ' H' fun s => K (T gv gw) s) : callVC dr P f args s K := by
 refine call_own (Spec.lendOwn (R' := fun v g μ1 => ∃ gv gw, v = T gv gw ∧ OwnS [.sl e1 x1, .sl e2 x2] g [gv, gw]) hap h fun v μ1 hle hR => ?_) fun v μ' H' hle ha' hR => ?_
 ·obtain ⟨gv, gw, e, g, h1, h2, h3⟩ := hR
  exact ⟨g, h2, h3, gv, gw, e, h1⟩
 ·obtain ⟨g, μ1, ⟨gv, gw, rfl, c1, c2, g1, g2, e, pg, o1, c3, c4, g3, g4, e4, p3, o3, o4⟩, _, hp, _⟩ := hR
  obtain ⟨b1, k1, rfl, o1'⟩ := o1
  simp only [List.cons_append, List.nil_append, List.cons.injEq] at e
  obtain ⟨rfl, rfl⟩ := e
  obtain ⟨b2, k2, rfl, o2'⟩ := o3
  simp only [List.cons_append, List.nil_append, List.cons.injEq] at e4
  obtain ⟨rfl, rfl⟩ := e4
  obtain ⟨-, rfl⟩ := o4
  have hv_ := hp.assoc pg
  obtain ⟨m, q1, q2⟩ := hv_
  obtain rfl : g3 = g2 := ((Parts.nil_right g3).eq p3)
  exact k _ _ μ' H' hle ha' ((ho.snoc (d := .sl e1 x1) (v := .slice b1 x1.length k1) ⟨b1, k1, rfl, o1'⟩ q1).snoc (d := .sl e2 x2) (v := .slice b2 x2.length k2) ⟨b2, k2, rfl, o2'⟩ q2)
theorem FreshS.two_rep {μ μ' : Mem} {e1 e2 : Nat} {x1 x2 : List D} {T : Value → Value → Value} {v : Value} (h : ∃ gv gw, v = T gv gw ∧ FreshS μ μ' [.sl e1 x1, .sl e2 x2] [gv, gw]) : ∃ gv gw, v = T gv gw ∧ RepV μ' (.sl e1 x1) gv ∧ RepV μ' (.sl e2 x2) gw := by
 obtain ⟨gv, gw, e, g, h1, h2, h3⟩ := h
 have hr := OwnS.rep _ _ _ h1 h2
 obtain ⟨c1, c2, e1', r1, c3, c4, e2', r2, r3⟩ := hr
 obtain ⟨b1, k1, rfl, r1⟩ := r1
 simp only [List.cons_append, List.nil_append, List.cons.injEq] at e1'
 obtain ⟨rfl, rfl⟩ := e1'
 obtain ⟨b2, k2, rfl, r2⟩ := r2
 simp only [List.cons_append, List.nil_append, List.cons.injEq] at e2'
 obtain ⟨rfl, rfl⟩ := e2'
 exact ⟨_, _, e, ⟨b1, k1, rfl, r1⟩, ⟨b2, k2, rfl, r2⟩⟩
def resA (o : Option (List F × List F)) : List Fc := resF (o.map Prod.fst)
def resO (o : Option (List F × List F)) : List Fc := resF (o.map Prod.snd)
theorem optFs2_rep {μ : Mem} {o : Option (List F × List F)} {v : Value} (h : optFs2 (fun y z tv tw => FsV μ y tv ∧ FsV μ z tw) o v) : ∃ tv tw, v = .tuple #[tv, tw, .bool o.isSome] ∧ RepV μ (.sl 2 ((resA o).map Fc.d)) tv ∧ RepV μ (.sl 2 ((resO o).map Fc.d)) tw := by
 cases o with
 | some y => obtain ⟨tv, tw, rfl, h1, h2⟩ := h; exact ⟨tv, tw, rfl, h1, h2⟩
 | none => exact ⟨_, _, h, OwnV.rep (h := Mem.nil) (Own.nilSl 2) (fun _ _ h => nomatch h), OwnV.rep (h := Mem.nil) (Own.nilSl 2) (fun _ _ h => nomatch h)⟩
theorem optFs2_fresh {μ μ' : Mem} {o : Option (List F × List F)} {v : Value} (h : optFs2 (fun y z tv tw => ∃ μ1 μ2, μ.Le μ1 ∧ μ1.Le μ2 ∧ μ2.Le μ' ∧ Fresh μ μ1 (.sl 2 ((y.map F.fc).map Fc.d)) tv ∧ Fresh μ2 μ' (.sl 2 ((z.map F.fc).map Fc.d)) tw) o v) :
  ∃ tv tw, v = (fun gv gw => Value.tuple #[gv, gw, .bool o.isSome]) tv tw ∧ FreshS μ μ' [.sl 2 ((resA o).map Fc.d), .sl 2 ((resO o).map Fc.d)] [tv, tw] := by
 cases o with
 | some y =>
  obtain ⟨tv, tw, rfl, μ1, μ2, l1, l2, l3, h1, h2⟩ := h
  refine ⟨tv, tw, rfl, ?_⟩
  have hv_ := Rep.sl h1.rep
  obtain ⟨b1, c1, rfl, -⟩ := hv_
  have hv_ := Rep.sl h2.rep
  obtain ⟨b2, c2, rfl, -⟩ := hv_
  exact FreshS.cons h1 l1 (l2.trans l3) ((FreshS.cons h2 l3 (Mem.Le.refl _) FreshS.nil).mono l2)
 | none =>
  exact ⟨_, _, h, Mem.nil, OwnS.cons (c1 := [_]) (Parts.nil_left _) (Own.nilSl 2) (OwnS.last (Own.nilSl 2)), (fun _ _ h => nomatch h), fun _ h => absurd rfl h⟩
theorem wfM_cnt (p : Pg) (u : List Tm) : D.cnts ((resA (wfM p u)).map Fc.d) ≤ 60001 * 2000 ∧ D.cnts ((resO (wfM p u)).map Fc.d) ≤ 60001 * 2000 := by
 have key : ∀ y, wfM p u = some y → ∃ p : Pg, p.Ok ∧ (FsOk p y.1 ∧ y.1.length ≤ 2000) ∧ FsOk p y.2 ∧ y.2.length ≤ 2000 := fun y h => by
  rw [wfM] at h
  cases hg : groundO p u with
  | none => rw [hg] at h; cases h
  | some rs =>
   rw [hg, Option.map_some] at h
   cases h
   have hv_ := groundO_ok hg
   obtain ⟨h1, h2⟩ := hv_
   have e : FsOk p (wfT rs) ∧ (wfT rs).length ≤ 2000 := by
    by_cases k : ∃ n, gam2 rs (wfAt rs n) = wfAt rs n
    ·obtain ⟨n, hn⟩ := k
     rw [← wfT_eq hn]
     exact ⟨wfT_ok h2 n, Nat.le_trans (wfAt_len rs n) h1⟩
    ·rw [wfT, dif_neg k]; exact ⟨(fun _ h => nomatch h), Nat.zero_le _⟩
   refine ⟨p, (groundO_some hg).1, e, fun f hf => ?_, ?_⟩
   ·exact gam_ok h2 f (List.mem_filter.1 hf).1
   ·exact Nat.le_trans (List.length_filter_le _ _) (Nat.le_trans (gam_len _ _) h1)
 constructor
 ·exact resF_cnt fun y h => by
   cases hw : wfM p u with
   | none => rw [hw] at h; cases h
   | some z =>
    rw [hw] at h; cases h
    have hv_ := key z hw
    obtain ⟨p, h1, h2, h3⟩ := hv_
    exact ⟨p, h1, h2.1, h2.2⟩
 ·exact resF_cnt fun y h => by
   cases hw : wfM p u with
   | none => rw [hw] at h; cases h
   | some z =>
    rw [hw] at h; cases h
    have hv_ := key z hw
    obtain ⟨p, h1, h2, h3⟩ := hv_
    exact ⟨p, h1, h3.1, h3.2⟩
set_option maxHeartbeats 4000000 in
theorem FnExactWellFounded_spec {t0 : Pg} {v0 : Value} {t1 : List Tm} {v1 : Value} (h0 : RepV μ t0.d v0) (h1 : RepV μ (.sl 4 (t1.map Tm.d)) v1) (w0 : t0.d.wd) (w1 : D.wds (t1.map Tm.d)) :
  Spec Tryz.prog 6 [v0, v1] μ fun r _ => r = .bool true := by
 have hv_ := Pg.invV h0
 obtain ⟨p0, rfl⟩ := hv_
 have hv_ := Rep.sl h1
 obtain ⟨b1, c1, rfl, s1⟩ := hv_
 rw [List.length_map] at s1 ⊢
 refine Spec.mk Tryz.func6 (by kernel_rfl) ?_
 intro r0
 refine call_gives (szProgram_spec t0 h0 (by omega) (by omega) w0) ?_
 refine ifd (fun h => ret_plain rfl) (fun h => ?_)
 have q0 := szR_ge h
 rw [szR_pos q0] at h ⊢
 refine call_gives (szTermS_spec s1 (by omega) (by omega) w1) ?_
 refine ifd (fun h => ret_plain rfl) (fun h => ?_)
 have q1 := szR_ge h
 rw [szR_pos q1] at h
 have hb0 : t0.d.sz ≤ 1048576 := by omega
 have hb1 : t1.length + D.szs (t1.map Tm.d) ≤ 1048576 := by omega
 refine call_plain (toProgram_spec t0 h0 hb0) fun u1 μ1 hle1 hf1 => ?_
 replace h0 := h0.mono hle1
 replace s1 := s1.mono hle1
 have hv_ := Pg.invV hf1.rep
 obtain ⟨qq2, rfl⟩ := hv_
 have a0 := hf1.rep
 refine call_plain (toTermS_spec s1 hb1) fun u3 μ3 hle3 hf3 => ?_
 replace h0 := h0.mono hle3
 replace s1 := s1.mono hle3
 replace a0 := a0.mono hle3
 have hv_ := Rep.sl hf3.rep
 obtain ⟨bb4, cc4, rfl, a1⟩ := hv_
 rw [List.length_map] at a1 ⊢
 refine call_plain (spec_WellFounded_spec a0 w0 a1 w1) fun u5 μ5 hle5 hR => ?_
 replace h0 := h0.mono hle5
 replace s1 := s1.mono hle5
 replace a0 := a0.mono hle5
 replace a1 := a1.mono hle5
 have hv_ := optFs2_rep hR
 obtain ⟨w0, w9, rfl, hw0, hw9⟩ := hv_
 have hv_ := Rep.sl hw0
 obtain ⟨bb6, cc6, rfl, hw⟩ := hv_
 rw [List.length_map] at hw ⊢
 replace hw9 := hw9
 have hv_ := Rep.sl hw9
 obtain ⟨bb7, cc7, rfl, hx⟩ := hv_
 rw [List.length_map] at hx ⊢
 refine call_new id (apart_nil _) Owns.none ((toProgram_spec t0 (h0.mono (Mem.le_join _ _)) hb0).weaken fun v μ' _ h => ⟨v, rfl, h⟩) fun x0 μ8 H8 hle8 hap8 ho8 => ?_
 replace h0 := h0.mono hle8
 replace s1 := s1.mono hle8
 replace hw := hw.mono hle8
 replace hx := hx.mono hle8
 have hv_ := Pg.invV (Owns.rep (l1 := []) hap8 ho8)
 obtain ⟨qq9, rfl⟩ := hv_
 have xx0 := (Owns.rep (l1 := []) hap8 ho8)
 intro rx0
 refine call_new id hap8 ho8 ((toTermS_spec (s1.mono (Mem.le_join _ _)) hb1).weaken fun v μ' _ h => ⟨v, rfl, h⟩) fun x1 μ10 H10 hle10 hap10 ho10 => ?_
 replace h0 := h0.mono hle10
 replace s1 := s1.mono hle10
 replace hw := hw.mono hle10
 replace hx := hx.mono hle10
 have hv_ := Rep.sl (Owns.rep (l1 := [_]) hap10 ho10)
 obtain ⟨bb11, cc11, rfl, xx1⟩ := hv_
 rw [List.length_map] at xx1 ho10 ⊢
 have hv_ := Rep.sl (Owns.rep (l1 := [_]) hap10 ho10)
 obtain ⟨bn14, cn14, en14, ya13⟩ := hv_
 rw [List.length_map] at ya13 en14
 have hv_ := Value.slice.inj en14
 obtain ⟨rfl, _, rfl⟩ := hv_
 refine call_new2 (fun gv gw => Value.tuple #[gv, gw, .bool (wfM t0 t1).isSome]) hap10 ho10 ((impl_WellFounded_spec (Owns.rep (l1 := []) hap10 ho10) ya13).weaken fun v μ' _ h => optFs2_fresh h) fun g0 g9 μ12 H12 hle12 hap12 ho12 => ?_
 replace h0 := h0.mono hle12
 replace s1 := s1.mono hle12
 replace hw := hw.mono hle12
 replace hx := hx.mono hle12
 have hv_ := Rep.sl (Owns.rep (l1 := [_, _]) hap12 ho12)
 obtain ⟨bb15, cc15, rfl, gg⟩ := hv_
 rw [List.length_map] at gg ho12 ⊢
 have hv_ := Rep.sl (Owns.rep (l1 := [_, _, _]) hap12 ho12)
 obtain ⟨bb16, cc16, rfl, gk⟩ := hv_
 rw [List.length_map] at gk ho12 ⊢
 have hv_ := Rep.sl (Owns.rep (l1 := [_, _]) hap12 ho12)
 obtain ⟨bn18, cn18, en18, yg17⟩ := hv_
 rw [List.length_map] at yg17 en18
 have hv_ := Value.slice.inj en18
 obtain ⟨rfl, _, rfl⟩ := hv_
 refine call_read hap12 (eqFactS_spec yg17 (hw.mono (Mem.le_join _ _))) ?_
 refine if_intro (fun h => nomatch h) (fun _ => ?_)
 have hv_ := Rep.sl (Owns.rep (l1 := [_, _, _]) hap12 ho12)
 obtain ⟨bn20, cn20, en20, yg19⟩ := hv_
 rw [List.length_map] at yg19 en20
 have hv_ := Value.slice.inj en20
 obtain ⟨rfl, _, rfl⟩ := hv_
 refine call_read hap12 (eqFactS_spec yg19 (hx.mono (Mem.le_join _ _))) ?_
 refine if_intro (fun h => nomatch h) (fun _ => ?_)
 refine if_intro (fun h => absurd h (by simp)) (fun _ => ?_)
 refine call_data hap12 (toProgram_spec t0 h0 hb0) fun u21 μ21 hle21 hap21 hf21 => ?_
 replace h0 := h0.mono hle21
 replace s1 := s1.mono hle21
 replace hw := hw.mono hle21
 replace hx := hx.mono hle21
 refine call_read hap21 (eqProgram_spec t0 (Owns.rep (l1 := []) hap21 ho12) (hf21.rep.mono (Mem.le_join _ _))) ?_
 refine if_intro (fun h => nomatch h) (fun _ => ?_)
 refine call_data hap21 (toTermS_spec s1 hb1) fun u22 μ22 hle22 hap22 hf22 => ?_
 replace h0 := h0.mono hle22
 replace s1 := s1.mono hle22
 replace hw := hw.mono hle22
 replace hx := hx.mono hle22
 have hv_ := Rep.sl hf22.rep
 obtain ⟨bb23, cc23, rfl, z1⟩ := hv_
 rw [List.length_map] at z1 ⊢
 have hv_ := Rep.sl (Owns.rep (l1 := [_]) hap22 ho12)
 obtain ⟨bn25, cn25, en25, yb24⟩ := hv_
 rw [List.length_map] at yb24 en25
 have hv_ := Value.slice.inj en25
 obtain ⟨rfl, _, rfl⟩ := hv_
 refine call_read hap22 (eqTermS_spec yb24 (z1.mono (Mem.le_join _ _))) ?_
 refine if_intro (fun h => nomatch h) (fun _ => ?_)
 have ca0 := pg_cnt_sz t0
 rw [Pg.cnt_eq] at ca0
 have ma0 := pg_mt t0 (1)
 have ca1 := tms_cnt t1
 have ma1 := D.mks_cnt (t1.map Tm.d) ((t0.d.mt (1)).2)
 have rz := wfM_cnt t0 t1
 have rz1 := rz.1
 have rz2 := rz.2
 have mg := D.mks_cnt ((resA (wfM t0 t1)).map Fc.d) 1
 have mh := D.mks_cnt ((resO (wfM t0 t1)).map Fc.d) (D.mks ((resA (wfM t0 t1)).map Fc.d) 1).2
 refine call_mark (l1 := []) hap22 ho12 (fun hx o => markProgram_spec t0 o (by omega) (by omega)) fun H26 hap26 ho26 => ?_
 refine call_mark (l1 := [_]) hap26 ho26 (fun hx o => markTermS_spec o (by omega) (by omega)) fun H27 hap27 ho27 => ?_
 refine ifd (fun h => by omega) (fun _ => ?_)
 have hv_ := Rep.sl (Owns.rep (l1 := [_, _]) hap27 ho27)
 obtain ⟨bn29, cn29, en29, yg28⟩ := hv_
 rw [List.length_map] at yg28 en29
 have hv_ := Value.slice.inj en29
 obtain ⟨rfl, _, rfl⟩ := hv_
 refine call_read hap27 (eqFactS_spec yg28 (hw.mono (Mem.le_join _ _))) ?_
 refine if_intro (fun h => nomatch h) (fun _ => ?_)
 have hv_ := Rep.sl (Owns.rep (l1 := [_, _, _]) hap27 ho27)
 obtain ⟨bn31, cn31, en31, yg30⟩ := hv_
 rw [List.length_map] at yg30 en31
 have hv_ := Value.slice.inj en31
 obtain ⟨rfl, _, rfl⟩ := hv_
 refine call_read hap27 (eqFactS_spec yg30 (hx.mono (Mem.le_join _ _))) ?_
 refine if_intro (fun h => nomatch h) (fun _ => ?_)
 refine if_intro (fun h => absurd h (by simp)) (fun _ => ?_)
 refine call_mark (l1 := [_, _]) hap27 ho27 (fun hx o => markFactS_spec o (by omega) (by omega)) fun H32 hap32 ho32 => ?_
 refine call_mark (l1 := [_, _, _]) hap32 ho32 (fun hx o => markFactS_spec o (by omega) (by omega)) fun H33 hap33 ho33 => ?_
 refine call_read hap33 (heldFactS_spec (Owns.rep (l1 := [_, _]) hap33 ho33) (by omega) (by omega)) ?_
 refine ifd (fun h => by omega) (fun _ => ?_)
 refine call_read hap33 (heldFactS_spec (Owns.rep (l1 := [_, _, _]) hap33 ho33) (by omega) (by omega)) ?_
 refine ifd (fun h => by omega) (fun _ => ?_)
 refine ifnd (fun h => absurd rfl h) (fun _ => ?_)
 refine call_data hap33 (toProgram_spec t0 h0 hb0) fun u34 μ34 hle34 hap34 hf34 => ?_
 replace h0 := h0.mono hle34
 replace s1 := s1.mono hle34
 replace hw := hw.mono hle34
 replace hx := hx.mono hle34
 have hv_ := Pg.invV hf34.rep
 obtain ⟨qq35, rfl⟩ := hv_
 have o0 := hf34.rep
 refine call_data hap34 (toTermS_spec s1 hb1) fun u36 μ36 hle36 hap36 hf36 => ?_
 replace h0 := h0.mono hle36
 replace s1 := s1.mono hle36
 replace hw := hw.mono hle36
 replace hx := hx.mono hle36
 replace o0 := o0.mono hle36
 have hv_ := Rep.sl hf36.rep
 obtain ⟨bb37, cc37, rfl, o1⟩ := hv_
 rw [List.length_map] at o1 ⊢
 refine call_data hap36 ((impl_WellFounded_spec o0 o1).weaken fun v μ' _ h => optFs2_fresh h) fun u38 μ38 hle38 hap38 hR => ?_
 replace h0 := h0.mono hle38
 replace s1 := s1.mono hle38
 replace hw := hw.mono hle38
 replace hx := hx.mono hle38
 replace o0 := o0.mono hle38
 replace o1 := o1.mono hle38
 have hv_ := FreshS.two_rep hR
 obtain ⟨h0, h9, rfl, hh0, hh9⟩ := hv_
 have hv_ := Rep.sl hh0
 obtain ⟨bb39, cc39, rfl, hh⟩ := hv_
 rw [List.length_map] at hh ⊢
 have hv_ := Rep.sl hh9
 obtain ⟨bb40, cc40, rfl, hj⟩ := hv_
 rw [List.length_map] at hj ⊢
 refine call_read hap38 (eqFactS_spec (hh.mono (Mem.le_join _ _)) (hw.mono (Mem.le_join _ _))) ?_
 refine if_intro (fun h => nomatch h) (fun _ => ?_)
 refine call_read hap38 (eqFactS_spec (hj.mono (Mem.le_join _ _)) (hx.mono (Mem.le_join _ _))) ?_
 refine if_intro (fun h => nomatch h) (fun _ => ?_)
 refine if_intro (fun h => absurd h (by simp)) (fun _ => ?_)
 refine call_read hap38 (heldFactS_spec (Owns.rep (l1 := [_, _]) hap38 ho33) (by omega) (by omega)) ?_
 refine ifd (fun h => by omega) (fun _ => ?_)
 refine call_read hap38 (heldFactS_spec (Owns.rep (l1 := [_, _, _]) hap38 ho33) (by omega) (by omega)) ?_
 refine ifd (fun h => by omega) (fun _ => ?_)
 refine ifnd (fun h => absurd rfl h) (fun _ => ?_)
 exact ret_plain rfl
end
end Go.Vx
