/- Texts of the proof, part E1. -/
import Derived.Carry
import Derived.ChangeOld
import Derived.Handed
import Derived.JoinedOf
import Derived.OpenShut
import Derived.ProofKit
import Derived.WalkKit
import Derived.Test.YtheneidclfohoaaGreatM5
namespace Go.Vx
section
variable {P : Program} {f : FuncId} {args : List Value} {μ h0 : Mem}
theorem Mem.sub_le (μ g : Mem) : (μ.sub g).Le μ := fun b o h => by
  unfold Mem.sub at h
  split at h
  · cases h
  · exact h
theorem Mem.sub_none {μ g : Mem} {b : Nat} (h : (μ.sub g) b ≠ none) : g b = none := by
  unfold Mem.sub at h
  split at h
  · exact absurd rfl h
  · assumption
theorem Mem.sub_of {μ g : Mem} {b : Nat} (h : g b = none) : (μ.sub g) b = μ b := by unfold Mem.sub; rw [h]
theorem Mem.join_sub {μ g : Mem} (h : Apart μ g) : (μ.join g).sub g = μ := funext fun b => by
  cases hg : g b with
  | some o =>
    have : μ b = none := h.symm b (by simp [hg])
    unfold Mem.sub; rw [hg, this]
  | none =>
    rw [Mem.sub_of hg, Mem.join_get]
    cases μ b with
    | some o => rfl
    | none => exact hg
theorem Mem.le_sub {μ μ' g : Mem} (h : μ.Le μ') (ha : Apart μ g) : μ.Le (μ'.sub g) := fun b o hb => by
  rw [Mem.sub_of (ha b (by simp [hb]))]; exact h b o hb
theorem SpecH.lend {H : Mem} {R : Value → Mem → Prop} (ha : Apart μ H) (h : Spec P f args (μ.join H) R) : SpecH P f args μ H fun v μ1 H1 => H1 = H ∧ ∃ μ', R v μ' ∧ (μ.join H).Le μ' ∧ μ1 = μ'.sub H := by
  refine ⟨h.1, fun w hm hH _ => (h.2 w (hm.join hH) (holds_nil w) (apart_nil _)).mono ?_⟩
  rintro e w' ⟨v, μ', h', rfl, hr, hS⟩
  refine ⟨v, μ'.sub H, H, rfl, ⟨rfl, μ', hr, hS.le, rfl⟩, ⟨Mem.le_sub ((Mem.le_join μ H).trans hS.le) ha, hS.mem.le (Mem.sub_le _ _), hS.mem.le ((Mem.le_join_right ha).trans hS.le), fun b hb => Mem.sub_none hb, fun b hb hb' => ?_, fun b hb => .inr hb, hS.size, fun b hb _ => hS.keep b hb rfl, hS.os, hS.tape, hS.output⟩⟩
  have h1 := Mem.sub_none hb'
  rw [Mem.sub_of h1] at hb'
  refine .inl ((hS.fresh b ?_ hb').resolve_right (fun h => h rfl))
  rw [Mem.join_get, hb]; exact h1
theorem SpecH.lendGives {H : Mem} {x : Value} (ha : Apart μ H) (h : Spec P f args (μ.join H) fun v μ' => v = x ∧ μ' = μ.join H) : SpecH P f args μ H fun v μ1 H1 => v = x ∧ μ1 = μ ∧ H1 = H :=
  (SpecH.lend ha h).weaken fun v μ1 H1 _ _ ⟨h1, μ', ⟨h2, h3⟩, _, h4⟩ => ⟨h2, by rw [h4, h3, Mem.join_sub ha], h1⟩
end
theorem digits_zero : digits 0 = [] := by rw [digits]; simp
theorem digits_pos {k : Nat} (h : k ≠ 0) : digits k = digits (k / 10) ++ [UInt8.ofNat (48 + k % 10)] := by rw [digits]; simp [h]
mutual
def D.mt : D → Int → D × Int
  | .i n, k => (.i n, k)
  | .b x, k => (.b x, k)
  | .s x, k => (.s x, k)
  | .st fs, k => (.st (D.mts fs k).1, (D.mts fs k).2)
  | .sl es xs, k => (.sl es (D.mks xs k).1, (D.mks xs k).2)
def D.mts : List D → Int → List D × Int
  | [], k => ([], k)
  | d :: r, k => ((d.mt k).1 :: (D.mts r (d.mt k).2).1, (D.mts r (d.mt k).2).2)
end
theorem Mem.set_apart {h k : Mem} {r : Nat} {o : Obj} (_h1 : h r = none) (p : Apart (h.set r o) k) : Apart h k ∧ k r = none :=
  ⟨fun b hb => p b (by rw [Mem.set_get]; split; · simp
                       · exact hb), p r (by rw [Mem.set_get, if_pos rfl]; simp)⟩
theorem D.mks_length : ∀ (xs : List D) (k : Int), (D.mks xs k).1.length = xs.length
  | [], _ => rfl
  | d :: r, k => by simp [D.mks, D.mks_length r]
theorem D.mks_get : ∀ {xs : List D} {i : Nat} {x : D} (_ : xs[i]? = some x) (k : Int), (D.mks xs k).1[i]? = some (x.mk (D.mks (xs.take i) k).2).1
  | [], j, x, h, _ => by simp at h
  | d :: r, 0, x, h, k => by simp at h; subst h; simp [D.mks]
  | d :: r, j + 1, x, h, k => by
    have := D.mks_get (xs := r) (i := j) (by simpa using h) (d.mk k).2
    simpa [D.mks] using this
theorem D.mks_size {es : Nat} : ∀ {xs : List D} (k : Int), (∀ x ∈ xs, x.n = es) → ∀ y ∈ (D.mks xs k).1, y.n = es
  | [], _, _, y, h => by simp [D.mks] at h
  | d :: r, k, hn, y, h => by
    simp only [D.mks, List.mem_cons] at h
    rcases h with rfl | h
    · rw [D.mk_n]; exact hn d (by simp)
    · exact D.mks_size _ (fun x hx => hn x (by simp [hx])) y h
end Go.Vx
namespace Go.Vx
open Go.ChangeShapes Go.WideShapes Go.ChangeAt Go.RowKit
section
variable {P : Program} {t : TypeId}
theorem okWide_int {w : World} {b : Nat} {k : IntKind} (ht : P.underlying t = some (.int k)) (cs : Array Value) : ¬ Value.okWide P w .any b t (.agg cs) := fun h => by
 simp [Value.okWide, ht, Cell.okWide, Cell.ok] at h
theorem okWide_string {w : World} {b : Nat} (ht : P.underlying t = some .string) (cs : Array Value) : ¬ Value.okWide P w .any b t (.agg cs) := fun h => by
 simp [Value.okWide, ht, Cell.okWide, Cell.ok] at h
end
end Go.Vx
namespace Go.Vx
section
variable {P : Program} {f : FuncId} {args : List Value} {μ H : Mem}
theorem Spec.lendOwn {R : Value → Mem → Prop} {R' : Value → Mem → Mem → Prop} (ha : Apart μ H) (h : Spec P f args (μ.join H) R) (G : ∀ v μ1, (μ.join H).Le μ1 → R v μ1 → ∃ g : Mem, g.Le μ1 ∧ (∀ b, g b ≠ none → (μ.join H) b = none) ∧ R' v g μ1) :
  SpecH P f args μ H fun v μ2 H2 => ∃ g μ1, R' v g μ1 ∧ (μ.join H).Le μ1 ∧ Parts H2 H g ∧ μ2 = (μ1.sub H).sub g := by
 refine ⟨h.1, fun w hm hH _ => (h.2 w (hm.join hH) (holds_nil w) (apart_nil _)).mono ?_⟩
 rintro e w' ⟨v, μ1, h1, rfl, hr, hS⟩
 obtain ⟨g, hg, hf, hr'⟩ := G v μ1 hS.le hr
 have hgH : Apart H g := fun b hb => by
  cases h2 : g b with
  | none => rfl
  | some o =>
   have := hf b (by simp [h2])
   cases h3 : H b with
   | none => exact absurd h3 hb
   | some o' => rw [Mem.le_join_right ha b o' h3] at this; cases this
 have hgμ : Apart μ g := fun b hb => by
  cases h2 : g b with
  | none => rfl
  | some o =>
   have := hf b (by simp [h2])
   cases h3 : μ b with
   | none => exact absurd h3 hb
   | some o' => rw [Mem.le_join μ H b o' h3] at this; cases this
 refine ⟨v, (μ1.sub H).sub g, H.join g, rfl, ⟨g, μ1, hr', hS.le, Parts.join hgH, rfl⟩, ⟨Mem.le_sub (Mem.le_sub ((Mem.le_join μ H).trans hS.le) ha) hgμ, hS.mem.le ((Mem.sub_le _ _).trans (Mem.sub_le _ _)), (hS.mem.le ((Mem.le_join_right ha).trans hS.le)).join (hS.mem.le hg), fun b hb => ?_, fun b hb hb' => ?_, fun b hb => ?_, hS.size, fun b hb _ => hS.keep b hb rfl, hS.os, hS.tape, hS.output⟩⟩
 ·have k1 := Mem.sub_none hb
  rw [Mem.sub_of k1] at hb
  rw [Mem.join_get, Mem.sub_none hb]; exact k1
 ·have k1 := Mem.sub_none hb'
  rw [Mem.sub_of k1] at hb'
  have k2 := Mem.sub_none hb'
  rw [Mem.sub_of k2] at hb'
  refine .inl ((hS.fresh b ?_ hb').resolve_right fun h => h rfl)
  rw [Mem.join_get, hb]; exact k2
 ·rcases join_ne hb with h2 | h2
  ·exact .inr h2
  ·refine .inl ((hS.fresh b (hf b h2) ?_).resolve_right fun h => h rfl)
   cases h3 : g b with
   | none => exact absurd h3 h2
   | some o => rw [hg b o h3]; simp
variable {dr : Bool} {s : St} {K : Value → St → Prop}
theorem call_new {l : List (D × Value)} {d : D} (T : Value → Value) (hap : Apart s.mem s.own) (ho : Owns s.own l) (h : Spec P f args (s.mem.join s.own) fun v μ' => ∃ gv, v = T gv ∧ Fresh (s.mem.join s.own) μ' d gv)
  (k : ∀ gv μ' H', s.mem.Le μ' → Apart μ' H' → Owns H' (l ++ [(d, gv)]) → memOwnK s μ' H' fun s => K (T gv) s) : callVC dr P f args s K := by
 refine call_own (Spec.lendOwn (R' := fun v g μ1 => ∃ gv, v = T gv ∧ OwnV d g gv) hap h fun v μ1 hle hR => ?_) fun v μ' H' hle ha' hR => ?_
 ·obtain ⟨gv, e, g, h1, h2, h3⟩ := hR
  exact ⟨g, h2, h3, gv, e, h1⟩
 ·obtain ⟨g, μ1, ⟨gv, rfl, h1⟩, _, hp, _⟩ := hR
  exact k gv μ' H' hle ha' (ho.snoc h1 hp)
theorem call_read {x : Value} (hap : Apart s.mem s.own) (h : Spec P f args (s.mem.join s.own) fun v μ' => v = x ∧ μ' = s.mem.join s.own) (k : K x s) : callVC dr P f args s K :=
 call_own (SpecH.lendGives hap h) fun v μ' H' _ _ ⟨h1, h2, h3⟩ => by
  subst h1 h2 h3
  cases s
  exact k
theorem call_mark {l1 l2 : List (D × Value)} {d d' : D} {u : Value} {x : Value} (_hap : Apart s.mem s.own) (ho : Owns s.own (l1 ++ (d, u) :: l2)) (h : ∀ hx, OwnV d hx u → SpecH P f args s.mem hx fun r μ' h' => r = x ∧ μ' = s.mem ∧ OwnV d' h' u)
  (k : ∀ H', Apart s.mem H' → Owns H' (l1 ++ (d', u) :: l2) → memOwnK s s.mem H' fun s => K x s) : callVC dr P f args s K := by
 obtain ⟨h1, k1, p, o, back⟩ := ho.focus
 refine call_own (SpecH.frame p (h h1 o)) fun v μ' H' hle ha' ⟨h', ⟨e1, e2, o'⟩, p'⟩ => ?_
 subst e1 e2
 exact k H' ha' (back H' h' d' p' o')
end
end Go.Vx
namespace Go.Vx
open Go.Proofs Classical
section
variable {μ : Mem}
theorem wrap8 {n : Int} (h1 : 0 ≤ n) (h2 : n < 256) : IntKind.u8.wrap n = n := by
 have e : IntKind.u8.bits = 8 := rfl
 have e2 : IntKind.u8.signed = false := rfl
 simp only [IntKind.wrap, e, e2, Bool.false_and]
 simp only [show (2 : Int) ^ 8 = 256 from rfl]
 simp; omega
theorem bytes_app (a b : List UInt8) : (⟨a.toArray⟩ : ByteArray) ++ ⟨b.toArray⟩ = ⟨(a ++ b).toArray⟩ := by
 have : ((⟨a.toArray⟩ : ByteArray) ++ ⟨b.toArray⟩).data = (a ++ b).toArray := by
  rw [ByteArray.data_append]; simp
 cases h : (⟨a.toArray⟩ : ByteArray) ++ ⟨b.toArray⟩
 rw [h] at this
 simp only at this
 rw [this]
theorem markText_spec (k : Int) (hk : k ≤ 9223372036854775807) : Gives Tryz.prog 102 [.int .i64 k] μ (.string (mtext k)) := by
 refine Spec.mk Tryz.func102 (by kernel_rfl) ?_
 refine ifd (fun h => ret_gives ?_ rfl) (fun h => ?_)
 ·rw [mtext, if_pos h]
 obtain ⟨n, rfl⟩ : ∃ n : Nat, k = n := ⟨k.toNat, by omega⟩
 refine loop_intro (fun p : Nat × List UInt8 => digits n = digits p.1 ++ p.2 ∧ p.1 * 2 ^ p.2.length ≤ n ∧ p.2.length ≤ 64) (fun p => ⟨[(0, .val (.int .i64 p.1)), (3, .val (.string ⟨p.2.toArray⟩))], [], 0, μ, Mem.nil⟩) (fun p => p.1)
  (n, []) ⟨by simp, by simp, by simp⟩ (fun i => ⟨rfl, rfl⟩) ⟨⟨rfl, rfl, trivial⟩, trivial, rfl, rfl⟩ ?_
 rintro ⟨m, l⟩ ⟨h1, h2, hlen0⟩
 simp only at h1 h2 hlen0
 refine ifd (fun h3 => ?_) (fun h3 => ?_)
 ·have hm : m ≠ 0 := by omega
  have hmn : m ≤ n := Nat.le_trans (Nat.le_mul_of_pos_right _ (Nat.two_pow_pos _)) h2
  have hlen : l.length ≤ 63 := by
   rcases Nat.lt_or_ge 63 l.length with h | h
   ·exfalso
    have h4 : 2 ^ 64 ≤ 2 ^ l.length := Nat.pow_le_pow_right (by omega) h
    have h5 : 1 * 2 ^ l.length ≤ m * 2 ^ l.length := Nat.mul_le_mul_right _ (by omega)
    omega
   ·exact h
  refine need_intro (by omega) (num_eq (x := ((m % 10 : Nat) : Int)) (by rw [Int.tmod_eq_emod_of_nonneg (by omega)]; omega) ?_)
  refine num64 (by omega) (by omega) (num_eq (wrap8 (by omega) (by omega)) ?_)
  intro r
  have hb : (UInt8.ofNat (48 + m % 10)).toNat = 48 + m % 10 := by
   rw [UInt8.toNat_ofNat']; omega
  refine bytes_intro [UInt8.ofNat (48 + m % 10)] (by simp only [List.map_cons, List.map_nil, hb]; congr 2) ?_
  refine need_intro (by simp [ByteArray.size]; omega) ?_
  refine need_intro (by omega) (num_eq (x := ((m / 10 : Nat) : Int)) (by show IntKind.i64.wrap (Int.tdiv (m : Int) 10) = _; rw [Int.tdiv_eq_ediv_of_nonneg (by omega), wrap64 (by omega) (by omega)]; simp) ?_)
  refine ⟨(m / 10, UInt8.ofNat (48 + m % 10) :: l), ⟨?_, ?_, by simp only [List.length_cons]; omega⟩, by simp only; omega, ⟨⟨rfl, ?_, trivial⟩, trivial, rfl, rfl⟩⟩
  ·simp only; rw [h1, digits_pos hm]; simp
  ·simp only [List.length_cons, Nat.pow_succ]
   have : m / 10 * 2 ≤ m := by omega
   calc m / 10 * (2 ^ l.length * 2) = (m / 10 * 2) * 2 ^ l.length := by rw [Nat.mul_comm (2 ^ l.length) 2, ← Nat.mul_assoc]
    _ ≤ m * 2 ^ l.length := Nat.mul_le_mul_right _ this
    _ ≤ n := h2
  ·simp only [look]
   rw [bytes_app]; rfl
 ·have hm : m = 0 := by omega
  subst hm
  refine need_intro (by simp [ByteArray.size]; omega) ?_
  refine ret_gives ?_ rfl
  rw [mtext, if_neg (by omega)]
  have := bytes_app [109] l
  rw [this, Int.toNat_natCast, h1, digits_zero]; rfl
end
end Go.Vx
namespace Go.Vx
open Go.Proofs Classical
theorem back_of {g' m H' : Mem} {r : Nat} {o : Obj} (hm : m r = none) (p : Parts H' g' (m.set r o)) : Apart g' m ∧ g' r = none ∧ H' = (g'.join m).set r o := by
 have hv_ := Mem.set_apart hm p.apart.symm
 obtain ⟨a1, a2⟩ := hv_
 exact ⟨a1.symm, a2, p.eq ((Parts.join a1.symm).set (by rw [Mem.join_get, a2]; exact hm))⟩
theorem Tm.mk_eq (t : Tm) (k : Int) : t.d.mk k = (.st [.i k, .i (k + 1), .s (mtext (k + 1 + 1)), .sl 4 (D.mks (t.args.map Tm.d) (k + 1 + 1 + 1)).1], (D.mks (t.args.map Tm.d) (k + 1 + 1 + 1)).2) := by
 rw [Tm.d_eq]; simp [D.mk, D.mks]
theorem Tm.cnt_eq (t : Tm) : t.d.cnt = 3 + D.cnts (t.args.map Tm.d) := by
 rw [Tm.d_eq]; simp [D.cnt, D.cnts]; omega
section
variable {μ : Mem}
theorem markTermS_of {l : List Tm} (he : ∀ t ∈ l, ∀ {h : Mem} {v : Value} {k : Int}, OwnV (.sl 4 (t.args.map Tm.d)) h v → 0 ≤ k → k + D.cnts (t.args.map Tm.d) ≤ 9223372036854775807 →
   SpecH Tryz.prog 38 [v, .int .i64 k] μ h fun r μ' h' => r = .int .i64 (D.mks (t.args.map Tm.d) k).2 ∧ μ' = μ ∧ OwnV (.sl 4 (D.mks (t.args.map Tm.d) k).1) h' v)
  {h : Mem} {v : Value} {k : Int} (ho : OwnV (.sl 4 (l.map Tm.d)) h v) (hk : 0 ≤ k) (hk2 : k + D.cnts (l.map Tm.d) ≤ 9223372036854775807) :
  SpecH Tryz.prog 38 [v, .int .i64 k] μ h fun r μ' h' => r = .int .i64 (D.mks (l.map Tm.d) k).2 ∧ μ' = μ ∧ OwnV (.sl 4 (D.mks (l.map Tm.d) k).1) h' v := by
 obtain ⟨base, cap, e, hm, hn, ho⟩ := ho
 simp only [List.cons.injEq, and_true] at e
 subst e
 have hm' : (l.map Tm.d).length ≤ 9223372036854775807 := Nat.le_trans hm.max (by decide)
 refine SpecH.mk [] Tryz.func38 (by kernel_rfl) ?_
 rcases ho with ⟨hnil, rfl⟩ | ⟨r, flat, rest, ty, h2, rfl, hr, rfl, ho⟩
 ·rw [hnil]
  refine loop_intro (fun i : Nat => i = 0) (fun i => ⟨[(0, .val (.slice base 0 cap)), (1, .val (.int .i64 k)), (5, .val (.int .i64 i))], [], 0, μ, Mem.nil⟩) (fun i => 0 - i)
   0 rfl (fun i => ⟨rfl, rfl⟩) ⟨⟨rfl, rfl, rfl, trivial⟩, trivial, rfl, rfl⟩ ?_
  rintro i rfl
  refine ifd (fun h => by omega) (fun h => ret_plain ⟨rfl, rfl, base, cap, rfl, ⟨Nat.zero_le _, Nat.zero_le _⟩, by simp [D.mks], .inl ⟨rfl, rfl⟩⟩)
 ·generalize hxs : l.map Tm.d = xs at *
  refine loop_intro (fun p : Nat × List Value × List Value × Mem => Marking xs k rest r p.1 p.2.1 p.2.2.1 p.2.2.2)
   (fun (i, pre, tail, hh) => ⟨[(0, .val (.slice (some ⟨r, 0, none⟩) xs.length cap)), (1, .val (.int .i64 (D.mks (xs.take i) k).2)), (5, .val (.int .i64 i))], [], 0, μ, hh.set r (.cells (List.toArray (pre ++ tail)) ty (0, 0))⟩) (fun p => xs.length - p.1)
   (0, [], flat ++ rest, h2) (Marking.start hr ho) (fun (_, _, _, _) => ⟨rfl, rfl⟩) ⟨⟨rfl, rfl, rfl, trivial⟩, trivial, rfl, rfl⟩ ?_
  rintro ⟨i, pre, tail, hh⟩ M
  dsimp only at M
  have hi := M.le
  have hge := D.mks_cnt (xs.take i) k
  refine ifd (fun h => ?_) (fun h => ?_)
  ·obtain ⟨t, ht⟩ := at_some (l := l) (i := i) (by rw [← hxs] at h; simp at h; omega)
   have hx : xs[i]? = some t.d := by rw [← hxs]; simp [ht]
   have hv_ := M.next hx
   obtain ⟨c, g, m, c2, rfl, hown, hp, hmr, back⟩ := hv_
   have hv_ := Tm.own hown
   obtain ⟨v, rfl, hv⟩ := hv_
   have hv_ := OwnV.slice hv
   obtain ⟨b2, cap2, rfl⟩ := hv_
   have hlen := M.len hn
   have hcnt := Marking.cnt (k := k) hx
   rw [Tm.cnt_eq] at hcnt
   refine ptr_intro ⟨r, 0, none⟩ rfl (by omega) (by omega) ?_
   refine sto_at (j := 0) (by simp [Addr.add_lit', hlen]) (by simp) ?_
   refine num64 (by omega) (by omega) ?_
   refine ptr_intro ⟨r, 0, none⟩ rfl (by omega) (by omega) ?_
   refine sto_at (j := 1) (by simp [Addr.add_lit', hlen]) (by simp) ?_
   refine num64 (by omega) (by omega) ?_
   refine call_gives (markText_spec _ (by omega)) ?_
   refine ptr_intro ⟨r, 0, none⟩ rfl (by omega) (by omega) ?_
   refine sto_at (j := 2) (by simp [Addr.add_lit', hlen]) (by simp) ?_
   refine num64 (by omega) (by omega) ?_
   refine ptr_intro ⟨r, 0, none⟩ rfl (by omega) (by omega) ?_
   refine own_at (j := 3) (by simp [Addr.add_lit', hlen]) rfl ?_
   refine call_own (SpecH.frame (hp.set M.out) (he t (mem_at ht) hv (by omega) (by omega))) fun v μ' H' hle hap hR => ?_
   obtain ⟨h', ⟨rfl, rfl, ho'⟩, hp'⟩ := hR
   have hv_ := back_of hmr hp'
   obtain ⟨a1, a2, rfl⟩ := hv_
   have hmk := D.mks_take hx k
   have hmk2 := Tm.mk_eq t (D.mks (xs.take i) k).2
   refine num64 (by omega) (by omega) ⟨(i + 1, pre ++ [.int .i64 (D.mks (xs.take i) k).2, .int .i64 ((D.mks (xs.take i) k).2 + 1), .string (mtext ((D.mks (xs.take i) k).2 + 1 + 1)), .slice b2 (t.args.map Tm.d).length cap2], c2 ++ rest, h'.join m), back _ _ a1 a2 ?_, by dsimp only; omega, ⟨⟨rfl, ?_, rfl, trivial⟩, trivial, rfl, ?_⟩⟩
   ·rw [hmk2]
    exact OwnS.int (OwnS.int (OwnS.str (OwnS.last ho')))
   ·rw [hmk, hmk2]
    rfl
   ·simp
  ·have hi' : i = xs.length := by omega
   subst hi'
   obtain ⟨rfl, o1⟩ := M.last
   refine ret_plain ⟨by rw [List.take_length], rfl, some ⟨r, 0, none⟩, cap, by rw [D.mks_length], by rw [D.mks_length]; exact hm, D.mks_size k hn, .inr ⟨r, pre, tail, ty, hh, rfl, M.out, rfl, o1⟩⟩
theorem markTermS_spec {l : List Tm} {h : Mem} {v : Value} {k : Int} (ho : OwnV (.sl 4 (l.map Tm.d)) h v) (hk : 0 ≤ k) (hk2 : k + D.cnts (l.map Tm.d) ≤ 9223372036854775807) :
  SpecH Tryz.prog 38 [v, .int .i64 k] μ h fun r μ' h' => r = .int .i64 (D.mks (l.map Tm.d) k).2 ∧ μ' = μ ∧ OwnV (.sl 4 (D.mks (l.map Tm.d) k).1) h' v :=
 Tm.ind (p := fun t => ∀ {h : Mem} {v : Value} {k : Int}, OwnV (.sl 4 (t.args.map Tm.d)) h v → 0 ≤ k → k + D.cnts (t.args.map Tm.d) ≤ 9223372036854775807 →
   SpecH Tryz.prog 38 [v, .int .i64 k] μ h fun r μ' h' => r = .int .i64 (D.mks (t.args.map Tm.d) k).2 ∧ μ' = μ ∧ OwnV (.sl 4 (D.mks (t.args.map Tm.d) k).1) h' v)
  (fun _ _ _ _ ih _ _ _ => markTermS_of fun t ht _ _ _ => ih t ht) (.mk 0 0 ⟨#[]⟩ l) ho hk hk2
theorem heldTermS_of {l : List Tm} (he : ∀ t ∈ l, ∀ {v : Value} {k : Int}, RepV μ (.sl 4 (D.mks (t.args.map Tm.d) k).1) v → 0 ≤ k → k + D.cnts (t.args.map Tm.d) ≤ 9223372036854775807 →
   Gives Tryz.prog 103 [v, .int .i64 k] μ (.int .i64 (D.mks (t.args.map Tm.d) k).2))
  {v : Value} {k : Int} (ho : RepV μ (.sl 4 (D.mks (l.map Tm.d) k).1) v) (hk : 0 ≤ k) (hk2 : k + D.cnts (l.map Tm.d) ≤ 9223372036854775807) :
  Gives Tryz.prog 103 [v, .int .i64 k] μ (.int .i64 (D.mks (l.map Tm.d) k).2) := by
 have hv_ := Rep.sl ho
 obtain ⟨base, cap, rfl, hsl⟩ := hv_
 have hm' := Nat.le_trans hsl.max (show maxLen ≤ 9223372036854775807 by decide)
 rw [D.mks_length] at hm' hsl ⊢
 refine Spec.mk Tryz.func103 (by kernel_rfl) ?_
 generalize hxs : l.map Tm.d = xs at *
 refine loop_intro (fun i : Nat => i ≤ xs.length) (fun i => ⟨[(0, .val (.slice base xs.length cap)), (1, .val (.int .i64 (D.mks (xs.take i) k).2)), (5, .val (.int .i64 i))], [], 0, μ, Mem.nil⟩) (fun i => xs.length - i)
  0 (by simp) (fun i => ⟨rfl, rfl⟩) ⟨⟨rfl, rfl, rfl, trivial⟩, trivial, rfl, rfl⟩ ?_
 intro i hi
 have hge := D.mks_cnt (xs.take i) k
 refine ifd (fun h => ?_) (fun h => ?_)
 ·obtain ⟨t, ht⟩ := at_some (l := l) (i := i) (by rw [← hxs] at h; simp at h; omega)
  have hx : xs[i]? = some t.d := by rw [← hxs]; simp [ht]
  have hcnt := Marking.cnt (k := k) hx
  rw [Tm.cnt_eq] at hcnt
  have hv_ := hsl.get i _ (D.mks_get hx k)
  obtain ⟨ad, cs, hel, hcs⟩ := hv_
  have hmk := D.mks_take hx k
  have hmk2 := Tm.mk_eq t (D.mks (xs.take i) k).2
  rw [hmk2] at hcs
  obtain ⟨_, _, rfl, rfl, _, _, rfl, rfl, _, _, rfl, rfl, c7, _, rfl, h7, rfl⟩ := hcs
  have hl := Rep.len _ _ h7
  match c7, hl with
  | [v], _ =>
   have h7' := h7
   obtain ⟨b2, cap2, rfl, _⟩ := h7'.sl
   have hge2 := D.mks_cnt (t.args.map Tm.d) ((D.mks (xs.take i) k).2 + 1 + 1 + 1)
   refine elem_intro hel (ifnd (fun h => absurd rfl h) fun _ => ?_)
   refine num64 (by omega) (by omega) ?_
   refine elem_intro hel (ifnd (fun h => absurd rfl h) fun _ => ?_)
   refine num64 (by omega) (by omega) ?_
   refine elem_intro hel ?_
   refine call_gives (markText_spec _ (by omega)) ?_
   refine ifnd (fun h => absurd rfl h) fun _ => ?_
   refine num64 (by omega) (by omega) ?_
   refine elem_intro hel ?_
   refine call_gives (he t (mem_at ht) h7 (by omega) (by omega)) ?_
   refine ifd (fun h => absurd h (by omega)) (fun _ => ?_)
   refine num64 (by omega) (by omega) ?_
   exact ⟨i + 1, by omega, by omega, ⟨⟨rfl, by rw [hmk, hmk2]; rfl, rfl, trivial⟩, trivial, rfl, rfl⟩⟩
 ·have hi' : i = xs.length := by omega
  subst hi'
  rw [List.take_length]
  exact ret_gives rfl rfl
theorem heldTermS_spec {l : List Tm} {v : Value} {k : Int} (ho : RepV μ (.sl 4 (D.mks (l.map Tm.d) k).1) v) (hk : 0 ≤ k) (hk2 : k + D.cnts (l.map Tm.d) ≤ 9223372036854775807) :
  Gives Tryz.prog 103 [v, .int .i64 k] μ (.int .i64 (D.mks (l.map Tm.d) k).2) :=
 Tm.ind (p := fun t => ∀ {v : Value} {k : Int}, RepV μ (.sl 4 (D.mks (t.args.map Tm.d) k).1) v → 0 ≤ k → k + D.cnts (t.args.map Tm.d) ≤ 9223372036854775807 →
   Gives Tryz.prog 103 [v, .int .i64 k] μ (.int .i64 (D.mks (t.args.map Tm.d) k).2))
  (fun _ _ _ _ ih _ _ => heldTermS_of fun t ht _ _ => ih t ht) (.mk 0 0 ⟨#[]⟩ l) ho hk hk2
theorem Tm.mt_eq (t : Tm) (k : Int) : t.d.mt k = (.st [.i t.kind, .i t.num, .s t.name, .sl 4 (D.mks (t.args.map Tm.d) k).1], (D.mks (t.args.map Tm.d) k).2) := by
 rw [Tm.d_eq]; simp [D.mt, D.mts]
theorem markTerm_spec (t : Tm) {h : Mem} {v : Value} {k : Int} (ho : OwnV t.d h v) (hk : 0 ≤ k) (hk2 : k + D.cnts (t.args.map Tm.d) ≤ 9223372036854775807) :
  SpecH Tryz.prog 24 [v, .int .i64 k] μ h fun r μ' h' => r = .int .i64 (t.d.mt k).2 ∧ μ' = μ ∧ OwnV (t.d.mt k).1 h' v := by
 have ho2 : ∃ cs, v = .agg (List.toArray cs) ∧ Own t.d h cs := by rw [Tm.d_eq] at ho ⊢; exact ho
 obtain ⟨cs, rfl, ho2⟩ := ho2
 have hv_ := Tm.own ho2
 obtain ⟨v, rfl, hv⟩ := hv_
 have hv_ := OwnV.slice hv
 obtain ⟨b2, cap2, rfl⟩ := hv_
 refine SpecH.mk [] Tryz.func24 (by kernel_rfl) ?_
 intro r
 refine call_own (markTermS_spec hv hk hk2) fun v μ' h' hle hap hR => ?_
 obtain ⟨rfl, rfl, ho⟩ := hR
 rw [Tm.mt_eq]
 exact ret_plain ⟨rfl, rfl, _, rfl, OwnS.int (OwnS.int (OwnS.str (OwnS.last ho)))⟩
theorem Bd.mk_eq (b : Bd) (k : Int) : b.d.mk k = (.st [.i k, .st [.i (k + 1), .i (k + 1 + 1), .s (mtext (k + 1 + 1 + 1)), .sl 4 (D.mks (b.to.args.map Tm.d) (k + 1 + 1 + 1 + 1)).1]], (D.mks (b.to.args.map Tm.d) (k + 1 + 1 + 1 + 1)).2) := by
 simp only [Bd.d, D.mk, D.mks, Tm.mk_eq]
theorem Bd.cnt_eq (b : Bd) : b.d.cnt = 4 + D.cnts (b.to.args.map Tm.d) := by
 simp only [Bd.d, D.cnt, D.cnts, Tm.cnt_eq]; omega
end
end Go.Vx
namespace Go.Vx
open Go.Proofs Classical
theorem sub_none : ∀ {bs : List B} {n : Int}, (∀ b ∈ bs, b.var ≠ n) → sub bs n = none
 | [], _, _ => rfl
 | c :: bs, n, h => by
  rw [sub, if_neg (h c (by simp))]
  exact sub_none fun b hb => h b (by simp [hb])
section
variable {μ : Mem}
end
end Go.Vx
namespace Go.Vx
open Go.Proofs Classical
theorem tm_cnt : ∀ t : Tm, t.d.cnt = 3 * t.cnt :=
 Tm.ind fun k n s l ih => by
  have : D.cnts (l.map Tm.d) = 3 * Tm.cnts l := by
   induction l with
   | nil => rfl
   | cons t l ih2 =>
    have h1 := ih t (by simp)
    have h2 := ih2 fun t ht => ih t (by simp [ht])
    simp only [List.map_cons, D.cnts, Tm.cnts, h1, h2]; omega
  rw [Tm.cnt_eq, Tm.cnt]
  show 3 + D.cnts (l.map Tm.d) = _
  omega
theorem tm_cnt_sz : ∀ t : Tm, t.d.cnt ≤ 3 + 3 * t.d.sz :=
 Tm.ind fun k n s l ih => by
  have : D.cnts (l.map Tm.d) ≤ 3 * l.length + 3 * D.szs (l.map Tm.d) := by
   induction l with
   | nil => simp [D.cnts, D.szs]
   | cons t l ih2 =>
    have h1 := ih t (by simp)
    have h2 := ih2 fun t ht => ih t (by simp [ht])
    simp only [List.map_cons, D.cnts, D.szs, List.length_cons]; omega
  rw [Tm.cnt_eq, Tm.d_mk]
  show 3 + D.cnts (l.map Tm.d) ≤ _
  simp only [D.sz, D.szs, List.length_map]
  omega
theorem tm_mt (t : Tm) (k : Int) : (t.d.mt k).2 = k + D.cnts (t.args.map Tm.d) := by rw [Tm.mt_eq]; exact D.mks_cnt _ _
end Go.Vx
namespace Go.Vx
open Go.Proofs Classical
section
variable {μ : Mem}
def boolOn (H : Mem) (r : Nat) (b : Bool) : Mem := H.set r (.cells #[.bool b] 4 (0, 0))
end
end Go.Vx
namespace Go.Vx
open Go.Proofs Classical
theorem tms_cnt : ∀ l : List Tm, D.cnts (l.map Tm.d) ≤ 3 * l.length + 3 * D.szs (l.map Tm.d)
 | [] => by simp [D.cnts, D.szs]
 | t :: l => by
  have h1 := tms_cnt l
  have h2 := tm_cnt_sz t
  simp only [List.map_cons, D.cnts, D.szs, List.length_cons]; omega
theorem tms_cnt2 : ∀ l : List Tm, (∀ t ∈ l, t.cnt ≤ 5000) → D.cnts (l.map Tm.d) ≤ 15000 * l.length
 | [], _ => by simp [D.cnts]
 | t :: l, h => by
  have h1 := tms_cnt2 l fun t ht => h t (by simp [ht])
  have h2 := tm_cnt t
  have h3 := h t (by simp)
  simp only [List.map_cons, D.cnts, List.length_cons]; omega
section
variable {μ : Mem}
end
end Go.Vx
namespace Go.Vx
open Go.Proofs Classical
section
variable {μ : Mem}
theorem Tm.ownR {t : Tm} {h : Mem} {cs : List Value} (k : Own t.d h cs) : ∃ p : Tm.P, cs = t.cs p ∧ OwnV (.sl 4 (t.args.map Tm.d)) h (.slice p.1 t.args.length p.2) := by
 have hv_ := Tm.own k
 obtain ⟨v, rfl, hv⟩ := hv_
 have hv_ := OwnV.slice hv
 obtain ⟨b, c, rfl⟩ := hv_
 rw [List.length_map] at hv ⊢
 exact ⟨(b, c), rfl, hv⟩
theorem Bd.ownR {t : Bd} {h : Mem} {cs : List Value} (k : Own t.d h cs) : ∃ p : Bd.P, cs = t.cs p ∧ OwnV (.sl 4 (t.to.args.map Tm.d)) h (.slice p.1 t.to.args.length p.2) := by
 have hv_ := Bd.own k
 obtain ⟨v, rfl, hv⟩ := hv_
 have hv_ := OwnV.slice hv
 obtain ⟨b, c, rfl⟩ := hv_
 rw [List.length_map] at hv ⊢
 exact ⟨(b, c), rfl, hv⟩
variable {μ1 μ' : Mem}
theorem mark_step {hh M G g G' : Mem} {r : Nat} (hr : hh r = none) (p : Parts hh M G) (q : Parts G g G') :
  ∃ mm : Mem, ∀ o, Parts (hh.set r o) g (mm.set r o) ∧ ∀ h' H', Parts H' h' (mm.set r o) → ∃ M' hh' : Mem, H' = hh'.set r o ∧ hh' r = none ∧ h' r = none ∧ Apart h' M ∧ Parts M' h' M ∧ Parts hh' M' G' := by
 have hv_ := p.assoc q.symm
 obtain ⟨mm, p1, p2⟩ := hv_
 have hm : mm r = none := by
  cases h : mm r with
  | none => rfl
  | some x => have := p2.left r x h; rw [hr] at this; cases this
 refine ⟨mm, fun o => ⟨(p2.symm.set hr), fun h' H' pH => ?_⟩⟩
 have hv_ := back_of hm pH
 obtain ⟨a1, a2, rfl⟩ := hv_
 have hv_ := (Parts.join a1).assoc p1
 obtain ⟨M', m1, m2⟩ := hv_
 refine ⟨M', h'.join mm, rfl, by rw [Mem.join_get, a2]; exact hm, a2, ?_, m1, m2⟩
 intro b hb
 cases h : M b with
 | none => rfl
 | some x => have := a1 b hb; rw [p1.left b x h] at this; cases this
theorem Parts.none_of {h g k : Mem} {r : Nat} (p : Parts h g k) (h1 : g r = none) (h2 : k r = none) : h r = none := by
 rcases p r with ⟨e, _⟩ | ⟨e, _⟩
 ·rw [e]; exact h1
 ·rw [e]; exact h2
end
end Go.Vx
namespace Go.Vx
open Go.Proofs Classical
section
variable {μ : Mem}
theorem Gl.ownR {x : Gl} {h : Mem} {cs : List Value} (k : Own x.d h cs) : ∃ p : Gl.P, cs = x.cs p ∧ ∃ g1 g2, Parts h g1 g2 ∧ OwnV (.sl 4 (x.terms.map Tm.d)) g1 (.slice p.1.1 x.terms.length p.1.2) ∧ OwnV (.sl 4 (x.goals.map Gl.d)) g2 (.slice p.2.1 x.goals.length p.2.2) := by
 rw [Gl.d_eq] at k
 obtain ⟨a0, t0, h0, r0, rfl, q0, o0, k⟩ := k
 obtain ⟨rfl, rfl⟩ := o0
 have hv_ := q0.eq (Parts.nil_left _)
 obtain rfl := hv_
 obtain ⟨a1, t1, h1, r1, rfl, q1, o1, k⟩ := k
 obtain ⟨rfl, rfl⟩ := o1
 have hv_ := q1.eq (Parts.nil_left _)
 obtain rfl := hv_
 obtain ⟨a2, t2, h2, r2, rfl, q2, o2, k⟩ := k
 have hv_ := one_of (Own.len o2)
 obtain ⟨v2, rfl⟩ := hv_
 have hv_ := Own.sl o2
 obtain ⟨b2, c2, rfl⟩ := hv_
 rw [List.length_map] at o2
 obtain ⟨a3, t3, h3, r3, rfl, q3, o3, k⟩ := k
 have hv_ := one_of (Own.len o3)
 obtain ⟨v3, rfl⟩ := hv_
 have hv_ := Own.sl o3
 obtain ⟨b3, c3, rfl⟩ := hv_
 rw [List.length_map] at o3
 obtain ⟨rfl, rfl⟩ := k
 have hv_ := q3.eq (Parts.nil_right _)
 obtain rfl := hv_
 exact ⟨((b2, c2), (b3, c3)), by simp [Gl.cs], ⟨_, _, q2, o2, o3⟩⟩
theorem Gl.mk_eq (x : Gl) (k : Int) : x.d.mk k = (.st [.i (k), .s (mtext (k + 1)), .sl 4 (D.mks (x.terms.map Tm.d) (k + 1 + 1)).1, .sl 4 (D.mks (x.goals.map Gl.d) ((D.mks (x.terms.map Tm.d) (k + 1 + 1)).2)).1], (D.mks (x.goals.map Gl.d) ((D.mks (x.terms.map Tm.d) (k + 1 + 1)).2)).2) := by
 rw [Gl.d_eq]
 simp only [D.mk, D.mks]
theorem Gl.cnt_eq (x : Gl) : x.d.cnt = 2 + D.cnts (x.terms.map Tm.d) + D.cnts (x.goals.map Gl.d) := by
 rw [Gl.d_eq]
 simp only [D.cnt, D.cnts]
 omega
set_option maxHeartbeats 1000000 in
theorem markGoalS_of {l : List Gl} (he : ∀ t ∈ l, ∀ {h : Mem} {v : Value} {k : Int}, OwnV (.sl 4 (t.goals.map Gl.d)) h v → 0 ≤ k → k + D.cnts (t.goals.map Gl.d) ≤ 9223372036854775807 →
   SpecH Tryz.prog 148 [v, .int .i64 k] μ h fun r μ' h' => r = .int .i64 (D.mks (t.goals.map Gl.d) k).2 ∧ μ' = μ ∧ OwnV (.sl 4 (D.mks (t.goals.map Gl.d) k).1) h' v)
  {h : Mem} {v : Value} {k : Int} (ho : OwnV (.sl 4 (l.map Gl.d)) h v) (hk : 0 ≤ k) (hk2 : k + D.cnts (l.map Gl.d) ≤ 9223372036854775807) :
  SpecH Tryz.prog 148 [v, .int .i64 k] μ h fun r μ' h' => r = .int .i64 (D.mks (l.map Gl.d) k).2 ∧ μ' = μ ∧ OwnV (.sl 4 (D.mks (l.map Gl.d) k).1) h' v := by
 obtain ⟨base, cap, e, hm, hn, ho⟩ := ho
 simp only [List.cons.injEq, and_true] at e
 subst e
 have hm' : (l.map Gl.d).length ≤ 9223372036854775807 := Nat.le_trans hm.max (by decide)
 refine SpecH.mk [] Tryz.func148 (by kernel_rfl) ?_
 rcases ho with ⟨hnil, rfl⟩ | ⟨r, flat, rest, ty, h2, rfl, hr, rfl, ho⟩
 ·rw [hnil]
  refine loop_intro (fun i : Nat => i = 0) (fun i => ⟨[(0, .val (.slice base 0 cap)), (1, .val (.int .i64 k)), (5, .val (.int .i64 i))], [], 0, μ, Mem.nil⟩) (fun i => 0 - i)
   0 rfl (fun i => ⟨rfl, rfl⟩) ⟨⟨rfl, rfl, rfl, trivial⟩, trivial, rfl, rfl⟩ ?_
  rintro i rfl
  refine ifd (fun h => by omega) (fun h => ret_plain ⟨rfl, rfl, base, cap, rfl, ⟨Nat.zero_le _, Nat.zero_le _⟩, by simp [D.mks], .inl ⟨rfl, rfl⟩⟩)
 ·generalize hxs : l.map Gl.d = xs at *
  refine loop_intro (fun p : Nat × List Value × List Value × Mem => Marking xs k rest r p.1 p.2.1 p.2.2.1 p.2.2.2)
   (fun (i, pre, tail, hh) => ⟨[(0, .val (.slice (some ⟨r, 0, none⟩) xs.length cap)), (1, .val (.int .i64 (D.mks (xs.take i) k).2)), (5, .val (.int .i64 i))], [], 0, μ, hh.set r (.cells (List.toArray (pre ++ tail)) ty (0, 0))⟩) (fun p => xs.length - p.1)
   (0, [], flat ++ rest, h2) (Marking.start hr ho) (fun (_, _, _, _) => ⟨rfl, rfl⟩) ⟨⟨rfl, rfl, rfl, trivial⟩, trivial, rfl, rfl⟩ ?_
  rintro ⟨i, pre, tail, hh⟩ M
  dsimp only at M
  have hi := M.le
  have hge := D.mks_cnt (xs.take i) k
  refine ifd (fun h => ?_) (fun h => ?_)
  ·obtain ⟨x, ht⟩ := at_some (l := l) (i := i) (by rw [← hxs] at h; simp at h; omega)
   have hx : xs[i]? = some x.d := by rw [← hxs]; simp [ht]
   have hv_ := M.next hx
   obtain ⟨c, g, m, c2, rfl, hown, hp, hmr, back⟩ := hv_
   have hv_ := Gl.ownR hown
   obtain ⟨p, rfl, ch⟩ := hv_
   have hlen := M.len hn
   have hcnt := Marking.cnt (k := k) hx
   rw [Gl.cnt_eq] at hcnt
   generalize hk0 : (D.mks (xs.take i) k).2 = k0 at *
   have hs0 := D.mks_cnt (x.terms.map Tm.d) (k0 + 1 + 1)
   have hs1 := D.mks_cnt (x.goals.map Gl.d) ((D.mks (x.terms.map Tm.d) (k0 + 1 + 1)).2)
   obtain ⟨g1, g2, q0, ch0, ch1⟩ := ch
   have q1 := Parts.nil_right g2
   have P0 := hp.symm
   have R0 := M.out
   refine ptr_intro ⟨r, 0, none⟩ rfl (by omega) (by omega) ?_
   refine sto_at (j := 0) (by simp [Addr.add_lit', hlen]) (by simp [Gl.cs]) ?_
   refine num64 (by omega) (by omega) ?_
   refine call_gives (markText_spec _ (by omega)) ?_
   refine ptr_intro ⟨r, 0, none⟩ rfl (by omega) (by omega) ?_
   refine sto_at (j := 1) (by simp [Addr.add_lit', hlen]) (by simp [Gl.cs]) ?_
   refine num64 (by omega) (by omega) ?_
   refine ptr_intro ⟨r, 0, none⟩ rfl (by omega) (by omega) ?_
   refine own_at (j := 2) (by simp [Addr.add_lit', hlen]) rfl ?_
   have hv_ := mark_step R0 P0 q0
   obtain ⟨mm0, st0⟩ := hv_
   refine call_own (SpecH.frame (st0 _).1 (markTermS_spec ch0 (by omega) (by omega))) fun v0 μ0 H0 hle0 hap0 hR0 => ?_
   obtain ⟨y0, ⟨rfl, eμ0, oo0⟩, pp0⟩ := hR0
   subst eμ0
   have hv_ := (st0 _).2 _ _ pp0
   obtain ⟨M1, hh1, rfl, R1, n0, ap0, mj0, P1⟩ := hv_
   refine ptr_intro ⟨r, 0, none⟩ rfl (by omega) (by omega) ?_
   refine own_at (j := 3) (by simp [Addr.add_lit', hlen]) rfl ?_
   have hv_ := mark_step R1 P1 q1
   obtain ⟨mm1, st1⟩ := hv_
   refine call_own (SpecH.frame (st1 _).1 (he x (mem_at ht) ch1 (by omega) (by omega))) fun v1 μ1 H1 hle1 hap1 hR1 => ?_
   obtain ⟨y1, ⟨rfl, eμ1, oo1⟩, pp1⟩ := hR1
   subst eμ1
   have hv_ := (st1 _).2 _ _ pp1
   obtain ⟨M2, hh2, rfl, R2, n1, ap1, mj1, P2⟩ := hv_
   have e1 := P2.eq (Parts.nil_right _)
   subst e1
   have hv_ := mj1.assoc mj0
   obtain ⟨gg, u1, u2⟩ := hv_
   have e2 := u2.is_join
   subst e2
   have PP := u1.symm
   have hmk := D.mks_take hx k
   have hmk2 := Gl.mk_eq x k0
   rw [hk0] at hmk
   refine num64 (by omega) (by omega) ⟨(i + 1, pre ++ [.int .i64 (k0), .string (mtext (k0 + 1)), .slice p.1.1 x.terms.length p.1.2, .slice p.2.1 x.goals.length p.2.2], c2 ++ rest, Mem.join gg m), back _ _ u2.apart (u1.none_of n1 n0) ?_, by dsimp only; omega, ⟨⟨rfl, ?_, rfl, trivial⟩, trivial, rfl, ?_⟩⟩
   ·rw [hmk2]
    exact OwnS.int (OwnS.str (OwnS.cons (c1 := [_]) PP oo0 (OwnS.last oo1)))
   ·rw [hmk, hmk2]
    rfl
   ·simp [Gl.cs]
  ·have hi' : i = xs.length := by omega
   subst hi'
   obtain ⟨rfl, o1⟩ := M.last
   refine ret_plain ⟨by rw [List.take_length], rfl, some ⟨r, 0, none⟩, cap, by rw [D.mks_length], by rw [D.mks_length]; exact hm, D.mks_size k hn, .inr ⟨r, pre, tail, ty, hh, rfl, M.out, rfl, o1⟩⟩
theorem markGoalS_spec {l : List Gl} {h : Mem} {v : Value} {k : Int} (ho : OwnV (.sl 4 (l.map Gl.d)) h v) (hk : 0 ≤ k) (hk2 : k + D.cnts (l.map Gl.d) ≤ 9223372036854775807) :
  SpecH Tryz.prog 148 [v, .int .i64 k] μ h fun r μ' h' => r = .int .i64 (D.mks (l.map Gl.d) k).2 ∧ μ' = μ ∧ OwnV (.sl 4 (D.mks (l.map Gl.d) k).1) h' v :=
 Gl.ind (q := fun t => ∀ {h : Mem} {v : Value} {k : Int}, OwnV (.sl 4 (t.goals.map Gl.d)) h v → 0 ≤ k → k + D.cnts (t.goals.map Gl.d) ≤ 9223372036854775807 →
   SpecH Tryz.prog 148 [v, .int .i64 k] μ h fun r μ' h' => r = .int .i64 (D.mks (t.goals.map Gl.d) k).2 ∧ μ' = μ ∧ OwnV (.sl 4 (D.mks (t.goals.map Gl.d) k).1) h' v)
  (fun _ ih _ _ _ => markGoalS_of fun t ht _ _ _ => ih t ht) (.mk 0 ⟨#[]⟩ [] l) ho hk hk2
theorem Gl.mt_eq (x : Gl) (k : Int) : x.d.mt k = (.st [.i x.kind, .s x.name, .sl 4 (D.mks (x.terms.map Tm.d) (k)).1, .sl 4 (D.mks (x.goals.map Gl.d) ((D.mks (x.terms.map Tm.d) (k)).2)).1], (D.mks (x.goals.map Gl.d) ((D.mks (x.terms.map Tm.d) (k)).2)).2) := by
 rw [Gl.d_eq]
 simp only [D.mt, D.mts]
end
end Go.Vx
namespace Go.Vx
open Go.Proofs Classical
section
variable {μ : Mem}
theorem Rl.ownR {x : Rl} {h : Mem} {cs : List Value} (k : Own x.d h cs) : ∃ p : Rl.P, cs = x.cs p ∧ ∃ g1 g2, Parts h g1 g2 ∧ OwnV (.sl 4 (x.body.terms.map Tm.d)) g1 (.slice p.1.1 x.body.terms.length p.1.2) ∧ OwnV (.sl 4 (x.body.goals.map Gl.d)) g2 (.slice p.2.1 x.body.goals.length p.2.2) := by
 rw [Rl.d_eq] at k
 obtain ⟨a0, t0, h0, r0, rfl, q0, o0, k⟩ := k
 obtain ⟨rfl, rfl⟩ := o0
 have hv_ := q0.eq (Parts.nil_left _)
 obtain rfl := hv_
 obtain ⟨a1, t1, h1, r1, rfl, q1, o1, k⟩ := k
 obtain ⟨rfl, rfl⟩ := o1
 have hv_ := q1.eq (Parts.nil_left _)
 obtain rfl := hv_
 obtain ⟨a2, t2, h2, r2, rfl, q2, o2, k⟩ := k
 obtain ⟨rfl, rfl⟩ := o2
 have hv_ := q2.eq (Parts.nil_left _)
 obtain rfl := hv_
 obtain ⟨a3, t3, h3, r3, rfl, q3, o3, k⟩ := k
 have hv_ := Gl.ownR o3
 obtain ⟨p3, rfl, ch3⟩ := hv_
 obtain ⟨rfl, rfl⟩ := k
 have hv_ := q3.eq (Parts.nil_right _)
 obtain rfl := hv_
 exact ⟨p3, by simp [Rl.cs, Gl.cs], ch3⟩
theorem Rl.mk_eq (x : Rl) (k : Int) : x.d.mk k = (.st [.s (mtext (k)), .i (k + 1), .i (k + 1 + 1), .st [.i (k + 1 + 1 + 1), .s (mtext (k + 1 + 1 + 1 + 1)), .sl 4 (D.mks (x.body.terms.map Tm.d) (k + 1 + 1 + 1 + 1 + 1)).1, .sl 4 (D.mks (x.body.goals.map Gl.d) ((D.mks (x.body.terms.map Tm.d) (k + 1 + 1 + 1 + 1 + 1)).2)).1]], (D.mks (x.body.goals.map Gl.d) ((D.mks (x.body.terms.map Tm.d) (k + 1 + 1 + 1 + 1 + 1)).2)).2) := by
 rw [Rl.d_eq]
 simp only [D.mk, D.mks, Gl.mk_eq]
theorem Rl.cnt_eq (x : Rl) : x.d.cnt = 5 + D.cnts (x.body.terms.map Tm.d) + D.cnts (x.body.goals.map Gl.d) := by
 rw [Rl.d_eq]
 simp only [D.cnt, D.cnts, Gl.cnt_eq]
 omega
set_option maxHeartbeats 1000000 in
theorem markRelS_spec {l : List Rl} {h : Mem} {v : Value} {k : Int} (ho : OwnV (.sl 7 (l.map Rl.d)) h v) (hk : 0 ≤ k) (hk2 : k + D.cnts (l.map Rl.d) ≤ 9223372036854775807) :
  SpecH Tryz.prog 83 [v, .int .i64 k] μ h fun r μ' h' => r = .int .i64 (D.mks (l.map Rl.d) k).2 ∧ μ' = μ ∧ OwnV (.sl 7 (D.mks (l.map Rl.d) k).1) h' v := by
 obtain ⟨base, cap, e, hm, hn, ho⟩ := ho
 simp only [List.cons.injEq, and_true] at e
 subst e
 have hm' : (l.map Rl.d).length ≤ 9223372036854775807 := Nat.le_trans hm.max (by decide)
 refine SpecH.mk [] Tryz.func83 (by kernel_rfl) ?_
 rcases ho with ⟨hnil, rfl⟩ | ⟨r, flat, rest, ty, h2, rfl, hr, rfl, ho⟩
 ·rw [hnil]
  refine loop_intro (fun i : Nat => i = 0) (fun i => ⟨[(0, .val (.slice base 0 cap)), (1, .val (.int .i64 k)), (5, .val (.int .i64 i))], [], 0, μ, Mem.nil⟩) (fun i => 0 - i)
   0 rfl (fun i => ⟨rfl, rfl⟩) ⟨⟨rfl, rfl, rfl, trivial⟩, trivial, rfl, rfl⟩ ?_
  rintro i rfl
  refine ifd (fun h => by omega) (fun h => ret_plain ⟨rfl, rfl, base, cap, rfl, ⟨Nat.zero_le _, Nat.zero_le _⟩, by simp [D.mks], .inl ⟨rfl, rfl⟩⟩)
 ·generalize hxs : l.map Rl.d = xs at *
  refine loop_intro (fun p : Nat × List Value × List Value × Mem => Marking xs k rest r p.1 p.2.1 p.2.2.1 p.2.2.2)
   (fun (i, pre, tail, hh) => ⟨[(0, .val (.slice (some ⟨r, 0, none⟩) xs.length cap)), (1, .val (.int .i64 (D.mks (xs.take i) k).2)), (5, .val (.int .i64 i))], [], 0, μ, hh.set r (.cells (List.toArray (pre ++ tail)) ty (0, 0))⟩) (fun p => xs.length - p.1)
   (0, [], flat ++ rest, h2) (Marking.start hr ho) (fun (_, _, _, _) => ⟨rfl, rfl⟩) ⟨⟨rfl, rfl, rfl, trivial⟩, trivial, rfl, rfl⟩ ?_
  rintro ⟨i, pre, tail, hh⟩ M
  dsimp only at M
  have hi := M.le
  have hge := D.mks_cnt (xs.take i) k
  refine ifd (fun h => ?_) (fun h => ?_)
  ·obtain ⟨x, ht⟩ := at_some (l := l) (i := i) (by rw [← hxs] at h; simp at h; omega)
   have hx : xs[i]? = some x.d := by rw [← hxs]; simp [ht]
   have hv_ := M.next hx
   obtain ⟨c, g, m, c2, rfl, hown, hp, hmr, back⟩ := hv_
   have hv_ := Rl.ownR hown
   obtain ⟨p, rfl, ch⟩ := hv_
   have hlen := M.len hn
   have hcnt := Marking.cnt (k := k) hx
   rw [Rl.cnt_eq] at hcnt
   generalize hk0 : (D.mks (xs.take i) k).2 = k0 at *
   have hs0 := D.mks_cnt (x.body.terms.map Tm.d) (k0 + 1 + 1 + 1 + 1 + 1)
   have hs1 := D.mks_cnt (x.body.goals.map Gl.d) ((D.mks (x.body.terms.map Tm.d) (k0 + 1 + 1 + 1 + 1 + 1)).2)
   obtain ⟨g1, g2, q0, ch0, ch1⟩ := ch
   have q1 := Parts.nil_right g2
   have P0 := hp.symm
   have R0 := M.out
   refine call_gives (markText_spec _ (by omega)) ?_
   refine ptr_intro ⟨r, 0, none⟩ rfl (by omega) (by omega) ?_
   refine sto_at (j := 0) (by simp [Addr.add_lit', hlen]) (by simp [Rl.cs]) ?_
   refine num64 (by omega) (by omega) ?_
   refine ptr_intro ⟨r, 0, none⟩ rfl (by omega) (by omega) ?_
   refine sto_at (j := 1) (by simp [Addr.add_lit', hlen]) (by simp [Rl.cs]) ?_
   refine num64 (by omega) (by omega) ?_
   refine ptr_intro ⟨r, 0, none⟩ rfl (by omega) (by omega) ?_
   refine sto_at (j := 2) (by simp [Addr.add_lit', hlen]) (by simp [Rl.cs]) ?_
   refine num64 (by omega) (by omega) ?_
   refine ptr_intro ⟨r, 0, none⟩ rfl (by omega) (by omega) ?_
   refine sto_at (j := 3) (by simp [Addr.add_lit', hlen]) (by simp [Rl.cs]) ?_
   refine num64 (by omega) (by omega) ?_
   refine call_gives (markText_spec _ (by omega)) ?_
   refine ptr_intro ⟨r, 0, none⟩ rfl (by omega) (by omega) ?_
   refine sto_at (j := 4) (by simp [Addr.add_lit', hlen]) (by simp [Rl.cs]) ?_
   refine num64 (by omega) (by omega) ?_
   refine ptr_intro ⟨r, 0, none⟩ rfl (by omega) (by omega) ?_
   refine own_at (j := 5) (by simp [Addr.add_lit', hlen]) rfl ?_
   have hv_ := mark_step R0 P0 q0
   obtain ⟨mm0, st0⟩ := hv_
   refine call_own (SpecH.frame (st0 _).1 (markTermS_spec ch0 (by omega) (by omega))) fun v0 μ0 H0 hle0 hap0 hR0 => ?_
   obtain ⟨y0, ⟨rfl, eμ0, oo0⟩, pp0⟩ := hR0
   subst eμ0
   have hv_ := (st0 _).2 _ _ pp0
   obtain ⟨M1, hh1, rfl, R1, n0, ap0, mj0, P1⟩ := hv_
   refine ptr_intro ⟨r, 0, none⟩ rfl (by omega) (by omega) ?_
   refine own_at (j := 6) (by simp [Addr.add_lit', hlen]) rfl ?_
   have hv_ := mark_step R1 P1 q1
   obtain ⟨mm1, st1⟩ := hv_
   refine call_own (SpecH.frame (st1 _).1 (markGoalS_spec ch1 (by omega) (by omega))) fun v1 μ1 H1 hle1 hap1 hR1 => ?_
   obtain ⟨y1, ⟨rfl, eμ1, oo1⟩, pp1⟩ := hR1
   subst eμ1
   have hv_ := (st1 _).2 _ _ pp1
   obtain ⟨M2, hh2, rfl, R2, n1, ap1, mj1, P2⟩ := hv_
   have e1 := P2.eq (Parts.nil_right _)
   subst e1
   have hv_ := mj1.assoc mj0
   obtain ⟨gg, u1, u2⟩ := hv_
   have e2 := u2.is_join
   subst e2
   have PP := u1.symm
   have hmk := D.mks_take hx k
   have hmk2 := Rl.mk_eq x k0
   rw [hk0] at hmk
   refine num64 (by omega) (by omega) ⟨(i + 1, pre ++ [.string (mtext (k0)), .int .i64 (k0 + 1), .int .i64 (k0 + 1 + 1), .int .i64 (k0 + 1 + 1 + 1), .string (mtext (k0 + 1 + 1 + 1 + 1)), .slice p.1.1 x.body.terms.length p.1.2, .slice p.2.1 x.body.goals.length p.2.2], c2 ++ rest, Mem.join gg m), back _ _ u2.apart (u1.none_of n1 n0) ?_, by dsimp only; omega, ⟨⟨rfl, ?_, rfl, trivial⟩, trivial, rfl, ?_⟩⟩
   ·rw [hmk2]
    exact OwnS.str (OwnS.int (OwnS.int (OwnS.last (OwnS.int (OwnS.str (OwnS.cons (c1 := [_]) PP oo0 (OwnS.last oo1)))))))
   ·rw [hmk, hmk2]
    rfl
   ·simp [Rl.cs]
  ·have hi' : i = xs.length := by omega
   subst hi'
   obtain ⟨rfl, o1⟩ := M.last
   refine ret_plain ⟨by rw [List.take_length], rfl, some ⟨r, 0, none⟩, cap, by rw [D.mks_length], by rw [D.mks_length]; exact hm, D.mks_size k hn, .inr ⟨r, pre, tail, ty, hh, rfl, M.out, rfl, o1⟩⟩
end
end Go.Vx
namespace Go.Vx
open Go.Proofs Classical
section
variable {μ : Mem}
theorem Pg.ownR {x : Pg} {h : Mem} {cs : List Value} (k : Own x.d h cs) : ∃ p : Pg.P, cs = x.cs p ∧ OwnV (.sl 7 (x.rels.map Rl.d)) h (.slice p.1 x.rels.length p.2) := by
 rw [Pg.d_eq] at k
 obtain ⟨a0, t0, h0, r0, rfl, q0, o0, k⟩ := k
 have hv_ := one_of (Own.len o0)
 obtain ⟨v0, rfl⟩ := hv_
 have hv_ := Own.sl o0
 obtain ⟨b0, c0, rfl⟩ := hv_
 rw [List.length_map] at o0
 obtain ⟨rfl, rfl⟩ := k
 have hv_ := q0.eq (Parts.nil_right _)
 obtain rfl := hv_
 exact ⟨(b0, c0), by simp [Pg.cs], o0⟩
theorem Pg.mk_eq (x : Pg) (k : Int) : x.d.mk k = (.st [.sl 7 (D.mks (x.rels.map Rl.d) (k)).1], (D.mks (x.rels.map Rl.d) (k)).2) := by
 rw [Pg.d_eq]
 simp only [D.mk, D.mks]
theorem Pg.cnt_eq (x : Pg) : x.d.cnt = 0 + D.cnts (x.rels.map Rl.d) := by
 rw [Pg.d_eq]
 simp only [D.cnt, D.cnts]
 omega
theorem Pg.mt_eq (x : Pg) (k : Int) : x.d.mt k = (.st [.sl 7 (D.mks (x.rels.map Rl.d) (k)).1], (D.mks (x.rels.map Rl.d) (k)).2) := by
 rw [Pg.d_eq]
 simp only [D.mt, D.mts]
theorem markProgram_spec (x : Pg) {h : Mem} {v : Value} {k : Int} (ho : OwnV x.d h v) (hk : 0 ≤ k) (hk2 : k + (D.cnts (x.rels.map Rl.d)) ≤ 9223372036854775807) :
  SpecH Tryz.prog 23 [v, .int .i64 k] μ h fun r μ' h' => r = .int .i64 (x.d.mt k).2 ∧ μ' = μ ∧ OwnV (x.d.mt k).1 h' v := by
 have ho2 : ∃ cs, v = .agg (List.toArray cs) ∧ Own x.d h cs := by rw [Pg.d_eq] at ho ⊢; exact ho
 obtain ⟨cs, rfl, ho2⟩ := ho2
 have hv_ := Pg.ownR ho2
 obtain ⟨p, rfl, ch⟩ := hv_
 rw [Pg.mt_eq]
 have hs0 := D.mks_cnt (x.rels.map Rl.d) (k)
 refine SpecH.mk [] Tryz.func23 (by kernel_rfl) ?_
 intro r
 refine call_own (markRelS_spec ch (by omega) (by omega)) fun v μ' h' hle hap hR => ?_
 obtain ⟨rfl, e, oo0⟩ := hR
 subst e
 exact ret_plain ⟨rfl, rfl, _, rfl, OwnS.last oo0⟩
end
end Go.Vx
namespace Go.Vx
open Go.Proofs Classical
section
variable {μ : Mem}
theorem Fc.ownR {x : Fc} {h : Mem} {cs : List Value} (k : Own x.d h cs) : ∃ p : Fc.P, cs = x.cs p ∧ OwnV (.sl 4 (x.args.map Tm.d)) h (.slice p.1 x.args.length p.2) := by
 rw [Fc.d_eq] at k
 obtain ⟨a0, t0, h0, r0, rfl, q0, o0, k⟩ := k
 obtain ⟨rfl, rfl⟩ := o0
 have hv_ := q0.eq (Parts.nil_left _)
 obtain rfl := hv_
 obtain ⟨a1, t1, h1, r1, rfl, q1, o1, k⟩ := k
 have hv_ := one_of (Own.len o1)
 obtain ⟨v1, rfl⟩ := hv_
 have hv_ := Own.sl o1
 obtain ⟨b1, c1, rfl⟩ := hv_
 rw [List.length_map] at o1
 obtain ⟨rfl, rfl⟩ := k
 have hv_ := q1.eq (Parts.nil_right _)
 obtain rfl := hv_
 exact ⟨(b1, c1), by simp [Fc.cs], o1⟩
theorem Fc.mk_eq (x : Fc) (k : Int) : x.d.mk k = (.st [.s (mtext (k)), .sl 4 (D.mks (x.args.map Tm.d) (k + 1)).1], (D.mks (x.args.map Tm.d) (k + 1)).2) := by
 rw [Fc.d_eq]
 simp only [D.mk, D.mks]
theorem Fc.cnt_eq (x : Fc) : x.d.cnt = 1 + D.cnts (x.args.map Tm.d) := by
 rw [Fc.d_eq]
 simp only [D.cnt, D.cnts]
 omega
set_option maxHeartbeats 1000000 in
theorem markFactS_spec {l : List Fc} {h : Mem} {v : Value} {k : Int} (ho : OwnV (.sl 2 (l.map Fc.d)) h v) (hk : 0 ≤ k) (hk2 : k + D.cnts (l.map Fc.d) ≤ 9223372036854775807) :
  SpecH Tryz.prog 39 [v, .int .i64 k] μ h fun r μ' h' => r = .int .i64 (D.mks (l.map Fc.d) k).2 ∧ μ' = μ ∧ OwnV (.sl 2 (D.mks (l.map Fc.d) k).1) h' v := by
 obtain ⟨base, cap, e, hm, hn, ho⟩ := ho
 simp only [List.cons.injEq, and_true] at e
 subst e
 have hm' : (l.map Fc.d).length ≤ 9223372036854775807 := Nat.le_trans hm.max (by decide)
 refine SpecH.mk [] Tryz.func39 (by kernel_rfl) ?_
 rcases ho with ⟨hnil, rfl⟩ | ⟨r, flat, rest, ty, h2, rfl, hr, rfl, ho⟩
 ·rw [hnil]
  refine loop_intro (fun i : Nat => i = 0) (fun i => ⟨[(0, .val (.slice base 0 cap)), (1, .val (.int .i64 k)), (5, .val (.int .i64 i))], [], 0, μ, Mem.nil⟩) (fun i => 0 - i)
   0 rfl (fun i => ⟨rfl, rfl⟩) ⟨⟨rfl, rfl, rfl, trivial⟩, trivial, rfl, rfl⟩ ?_
  rintro i rfl
  refine ifd (fun h => by omega) (fun h => ret_plain ⟨rfl, rfl, base, cap, rfl, ⟨Nat.zero_le _, Nat.zero_le _⟩, by simp [D.mks], .inl ⟨rfl, rfl⟩⟩)
 ·generalize hxs : l.map Fc.d = xs at *
  refine loop_intro (fun p : Nat × List Value × List Value × Mem => Marking xs k rest r p.1 p.2.1 p.2.2.1 p.2.2.2)
   (fun (i, pre, tail, hh) => ⟨[(0, .val (.slice (some ⟨r, 0, none⟩) xs.length cap)), (1, .val (.int .i64 (D.mks (xs.take i) k).2)), (5, .val (.int .i64 i))], [], 0, μ, hh.set r (.cells (List.toArray (pre ++ tail)) ty (0, 0))⟩) (fun p => xs.length - p.1)
   (0, [], flat ++ rest, h2) (Marking.start hr ho) (fun (_, _, _, _) => ⟨rfl, rfl⟩) ⟨⟨rfl, rfl, rfl, trivial⟩, trivial, rfl, rfl⟩ ?_
  rintro ⟨i, pre, tail, hh⟩ M
  dsimp only at M
  have hi := M.le
  have hge := D.mks_cnt (xs.take i) k
  refine ifd (fun h => ?_) (fun h => ?_)
  ·obtain ⟨x, ht⟩ := at_some (l := l) (i := i) (by rw [← hxs] at h; simp at h; omega)
   have hx : xs[i]? = some x.d := by rw [← hxs]; simp [ht]
   have hv_ := M.next hx
   obtain ⟨c, g, m, c2, rfl, hown, hp, hmr, back⟩ := hv_
   have hv_ := Fc.ownR hown
   obtain ⟨p, rfl, ch⟩ := hv_
   have hlen := M.len hn
   have hcnt := Marking.cnt (k := k) hx
   rw [Fc.cnt_eq] at hcnt
   generalize hk0 : (D.mks (xs.take i) k).2 = k0 at *
   have hs0 := D.mks_cnt (x.args.map Tm.d) (k0 + 1)
   have ch0 := ch
   have q0 := Parts.nil_right g
   have P0 := hp.symm
   have R0 := M.out
   refine call_gives (markText_spec _ (by omega)) ?_
   refine ptr_intro ⟨r, 0, none⟩ rfl (by omega) (by omega) ?_
   refine sto_at (j := 0) (by simp [Addr.add_lit', hlen]) (by simp [Fc.cs]) ?_
   refine num64 (by omega) (by omega) ?_
   refine ptr_intro ⟨r, 0, none⟩ rfl (by omega) (by omega) ?_
   refine own_at (j := 1) (by simp [Addr.add_lit', hlen]) rfl ?_
   have hv_ := mark_step R0 P0 q0
   obtain ⟨mm0, st0⟩ := hv_
   refine call_own (SpecH.frame (st0 _).1 (markTermS_spec ch0 (by omega) (by omega))) fun v0 μ0 H0 hle0 hap0 hR0 => ?_
   obtain ⟨y0, ⟨rfl, eμ0, oo0⟩, pp0⟩ := hR0
   subst eμ0
   have hv_ := (st0 _).2 _ _ pp0
   obtain ⟨M1, hh1, rfl, R1, n0, ap0, mj0, P1⟩ := hv_
   have e1 := P1.eq (Parts.nil_right _)
   subst e1
   have e2 := mj0.is_join
   subst e2
   have hmk := D.mks_take hx k
   have hmk2 := Fc.mk_eq x k0
   rw [hk0] at hmk
   refine num64 (by omega) (by omega) ⟨(i + 1, pre ++ [.string (mtext (k0)), .slice p.1 x.args.length p.2], c2 ++ rest, Mem.join y0 m), back _ _ ap0 n0 ?_, by dsimp only; omega, ⟨⟨rfl, ?_, rfl, trivial⟩, trivial, rfl, ?_⟩⟩
   ·rw [hmk2]
    exact OwnS.str (OwnS.last oo0)
   ·rw [hmk, hmk2]
    rfl
   ·simp [Fc.cs]
  ·have hi' : i = xs.length := by omega
   subst hi'
   obtain ⟨rfl, o1⟩ := M.last
   refine ret_plain ⟨by rw [List.take_length], rfl, some ⟨r, 0, none⟩, cap, by rw [D.mks_length], by rw [D.mks_length]; exact hm, D.mks_size k hn, .inr ⟨r, pre, tail, ty, hh, rfl, M.out, rfl, o1⟩⟩
set_option maxHeartbeats 1000000 in
theorem heldFactS_spec {l : List Fc} {v : Value} {k : Int} (ho : RepV μ (.sl 2 (D.mks (l.map Fc.d) k).1) v) (hk : 0 ≤ k) (hk2 : k + D.cnts (l.map Fc.d) ≤ 9223372036854775807) :
  Gives Tryz.prog 40 [v, .int .i64 k] μ (.int .i64 (D.mks (l.map Fc.d) k).2) := by
 have hv_ := Rep.sl ho
 obtain ⟨base, cap, rfl, hsl⟩ := hv_
 have hm' := Nat.le_trans hsl.max (show maxLen ≤ 9223372036854775807 by decide)
 rw [D.mks_length] at hm' hsl ⊢
 refine Spec.mk Tryz.func40 (by kernel_rfl) ?_
 generalize hxs : l.map Fc.d = xs at *
 refine loop_intro (fun i : Nat => i ≤ xs.length) (fun i => ⟨[(0, .val (.slice base xs.length cap)), (1, .val (.int .i64 (D.mks (xs.take i) k).2)), (5, .val (.int .i64 i))], [], 0, μ, Mem.nil⟩) (fun i => xs.length - i)
  0 (by simp) (fun i => ⟨rfl, rfl⟩) ⟨⟨rfl, rfl, rfl, trivial⟩, trivial, rfl, rfl⟩ ?_
 intro i hi
 have hge := D.mks_cnt (xs.take i) k
 refine ifd (fun h => ?_) (fun h => ?_)
 ·obtain ⟨x, ht⟩ := at_some (l := l) (i := i) (by rw [← hxs] at h; simp at h; omega)
  have hx : xs[i]? = some x.d := by rw [← hxs]; simp [ht]
  have hcnt := Marking.cnt (k := k) hx
  rw [Fc.cnt_eq] at hcnt
  have hv_ := hsl.get i _ (D.mks_get hx k)
  obtain ⟨ad, cs, hel, hcs⟩ := hv_
  have hmk := D.mks_take hx k
  generalize hk0 : (D.mks (xs.take i) k).2 = k0 at *
  have hmk2 := Fc.mk_eq x k0
  rw [hmk2] at hcs
  obtain ⟨_, _, rfl, rfl, cc0, _, rfl, hh0, rfl⟩ := hcs
  have hv_ := one_of (Rep.len _ _ hh0)
  obtain ⟨vv0, rfl⟩ := hv_
  have hv0 := hh0
  have hv_ := Rep.sl hv0
  obtain ⟨bb0, kk0, rfl, _⟩ := hv_
  have hs0 := D.mks_cnt (x.args.map Tm.d) (k0 + 1)
  refine elem_intro hel ?_
  refine call_gives (markText_spec _ (by omega)) ?_
  refine ifnd (fun h => absurd rfl h) fun _ => ?_
  refine num64 (by omega) (by omega) ?_
  refine elem_intro hel ?_
  refine call_gives (heldTermS_spec hh0 (by omega) (by omega)) ?_
  refine ifd (fun h => absurd h (by omega)) (fun _ => ?_)
  exact num64 (by omega) (by omega) ⟨i + 1, by omega, by omega, ⟨⟨rfl, by rw [hmk, hmk2]; rfl, rfl, trivial⟩, trivial, rfl, rfl⟩⟩
 ·have hi' : i = xs.length := by omega
  subst hi'
  rw [List.take_length]
  exact ret_gives rfl rfl
theorem Fc.mt_eq (x : Fc) (k : Int) : x.d.mt k = (.st [.s x.rel, .sl 4 (D.mks (x.args.map Tm.d) (k)).1], (D.mks (x.args.map Tm.d) (k)).2) := by
 rw [Fc.d_eq]
 simp only [D.mt, D.mts]
end
end Go.Vx
namespace Go.Vx
open Go.Proofs Classical
open Go.Sort
structure Prs {X : Type} (es : Nat) (f : X → D) (ps : List (X × Value)) (g : Mem) : Prop where
 own : OwnRows es (ps.map fun p => f p.1) (ps.map Prod.snd) g
 size : ∀ p ∈ ps, (vcells p.2).length = es ∧ ∀ u ∈ vcells p.2, u.oneCell' = true
section
variable {X : Type} {es : Nat} {f : X → D} {g : Mem}
theorem Prs.uncons {p : X × Value} {ps : List (X × Value)} (h : Prs es f (p :: ps) g) : ∃ g1 g2, Parts g g1 g2 ∧ Own (f p.1) g1 (vcells p.2) ∧ (f p.1).n = es ∧ Prs es f ps g2 := by
 obtain ⟨⟨ho, hs, hl⟩, hz⟩ := h
 simp only [List.map_cons, List.flatMap_cons] at ho
 obtain ⟨c1, c2, g1, g2, e, hp, h1, h2⟩ := ho
 have hn : (f p.1).n = es := hs _ (by simp)
 have hz0 := (hz p (by simp)).1
 have := List.append_inj e (by rw [h1.len, hn, hz0])
 obtain ⟨rfl, rfl⟩ := this
 exact ⟨g1, g2, hp, h1, hn, ⟨h2, fun x hx => hs x (by simp only [List.map_cons]; exact List.mem_cons_of_mem _ hx), by simp⟩, fun q hq => hz q (List.mem_cons_of_mem _ hq)⟩
theorem Prs.cons {p : X × Value} {ps : List (X × Value)} {g1 g2 : Mem} (hp : Parts g g1 g2) (h1 : Own (f p.1) g1 (vcells p.2)) (hn : (f p.1).n = es) (hz : (vcells p.2).length = es ∧ ∀ u ∈ vcells p.2, u.oneCell' = true) (h : Prs es f ps g2) : Prs es f (p :: ps) g := by
 refine ⟨⟨?_, ?_, by simp⟩, ?_⟩
 ·simp only [List.map_cons, List.flatMap_cons]
  exact OwnS.cons hp h1 h.own.own
 ·intro x hx
  simp only [List.map_cons, List.mem_cons] at hx
  rcases hx with rfl | hx
  ·exact hn
  ·exact h.own.size x hx
 ·intro q hq
  rcases List.mem_cons.1 hq with rfl | hq
  ·exact hz
  ·exact h.size q hq
theorem Prs.perm {ps ps' : List (X × Value)} (h : ps.Perm ps') : ∀ {g : Mem}, Prs es f ps g → Prs es f ps' g := by
 induction h with
 | nil => exact fun h => h
 | cons p _ ih =>
  intro g h
  obtain ⟨g1, g2, hp, h1, hn, h2⟩ := h.uncons
  exact Prs.cons hp h1 hn (h.size _ (by simp)) (ih h2)
 | swap p q l =>
  intro g h
  obtain ⟨g1, k, hp, h1, hn, h2⟩ := h.uncons
  obtain ⟨g2, g3, hq, h3, hn2, h4⟩ := h2.uncons
  have hv_ := Parts.assoc hp hq.symm
  obtain ⟨m, hm1, hm2⟩ := hv_
  exact Prs.cons hm2.symm h3 hn2 (h.size _ (by simp)) (Prs.cons hm1 h1 hn (h.size _ (by simp)) h4)
 | trans _ _ ih1 ih2 => exact fun h => ih2 (ih1 h)
theorem Prs.at : ∀ {ps : List (X × Value)} {g : Mem}, Prs es f ps g → ∀ p ∈ ps, ∃ g' : Mem, g'.Le g ∧ Own (f p.1) g' (vcells p.2)
 | [], _, _, p, hp => by simp at hp
 | q :: ps, g, h, p, hp => by
  obtain ⟨g1, g2, hpp, h1, _, h2⟩ := h.uncons
  rcases List.mem_cons.1 hp with rfl | hp
  ·exact ⟨g1, hpp.left, h1⟩
  ·have hv_ := Prs.at h2 p hp
   obtain ⟨g', h3, h4⟩ := hv_
   exact ⟨g', h3.trans hpp.right, h4⟩
theorem Prs.els {d : Array (X × Value)} (h : Prs es f d.toList g) : Els es (d.map Prod.snd) := fun x hx => by
 simp only [Array.toList_map, List.mem_map] at hx
 obtain ⟨p, hp, rfl⟩ := hx
 exact h.size p hp
theorem Prs.zip : ∀ {xs : List X} {ys : List Value} {g : Mem}, OwnRows es (xs.map f) ys g → (∀ y ∈ ys, (vcells y).length = es ∧ ∀ u ∈ vcells y, u.oneCell' = true) → Prs es f (xs.zip ys) g ∧ (xs.zip ys).map Prod.fst = xs ∧ (xs.zip ys).map Prod.snd = ys := fun {xs ys g} h hz => by
 have hl : xs.length = ys.length := by simpa using h.len
 have e1 : (xs.zip ys).map Prod.fst = xs := by rw [List.map_fst_zip (by omega)]
 have e2 : (xs.zip ys).map Prod.snd = ys := by rw [List.map_snd_zip (by omega)]
 refine ⟨⟨?_, fun p hp => hz p.2 ?_⟩, e1, e2⟩
 ·have e3 : (xs.zip ys).map (fun p => f p.1) = xs.map f := by
   conv => rhs; rw [← e1, List.map_map]
   rfl
  rw [e2, e3]; exact h
 ·rw [← e2]; exact List.mem_map.2 ⟨p, hp, rfl⟩
end
section
variable {X : Type} {es : Nat} {f : X → D}
theorem Prs.nil : Prs es f [] Mem.nil := ⟨OwnRows.nil es, fun p hp => by simp at hp⟩
theorem Prs.sub {ps ps' : List (X × Value)} (h : ps'.Sublist ps) : ∀ {g : Mem}, Prs es f ps g → ∃ g' : Mem, g'.Le g ∧ Prs es f ps' g' := by
 induction h with
 | slnil => exact fun {g} h => ⟨g, Mem.Le.refl _, h⟩
 | cons p _ ih =>
  intro g h
  obtain ⟨g1, g2, hp, h1, hn, h2⟩ := h.uncons
  obtain ⟨g', h3, h4⟩ := ih h2
  exact ⟨g', h3.trans hp.right, h4⟩
 | cons_cons p _ ih =>
  intro g h
  obtain ⟨g1, g2, hp, h1, hn, h2⟩ := h.uncons
  obtain ⟨g', h3, h4⟩ := ih h2
  have ha : Apart g1 g' := fun b hb => by
   have := hp.apart b hb
   cases e : g' b with
   | none => rfl
   | some o => rw [h3 b o e] at this; cases this
  exact ⟨g1.join g', join_le hp.left (h3.trans hp.right), Prs.cons (Parts.join ha) h1 hn (h.size _ (by simp)) h4⟩
end
end Go.Vx
namespace Go.Vx
open Go.Proofs Classical
theorem Gl.pos_eq (g : Gl) : g.Pos ↔ g.kind ≠ 10 ∧ ∀ x ∈ g.goals, x.Pos := by
 unfold Gl.Pos
 rw [Gl.all_eq]
 constructor
 ·exact fun h => ⟨h g (by simp), fun x hx y hy => h y (List.mem_cons_of_mem _ (List.mem_flatMap.2 ⟨x, hx, hy⟩))⟩
 ·rintro ⟨h1, h2⟩ x hx
  rcases List.mem_cons.1 hx with rfl | hx
  ·exact h1
  ·have hv_ := List.mem_flatMap.1 hx
   obtain ⟨y, hy, hx⟩ := hv_
   exact h2 y hy x hx
section
variable {μ : Mem}
theorem l14Only_spec : ∀ (g : Gl) {v : Value}, RepV μ g.d v → Gives Tryz.prog 249 [v, .bool false] μ (.bool (decide g.Pos)) :=
 Gl.ind fun g ih v hv => by
  have hv_ := Gl.inv hv
  obtain ⟨p, rfl, hts, hgs⟩ := hv_
  have hn := maxLen_le hgs.max
  refine Spec.mk Tryz.func249 (by kernel_rfl) ?_
  intro r
  refine loop_intro (fun i : Nat => i ≤ g.goals.length ∧ ∀ (j : Nat) x, j < i → g.goals[j]? = some x → x.Pos)
   (fun i => ⟨[(1, .val (.bool false)), (2, .loc 0 r 0), (8, .val (.slice p.2.1 g.goals.length p.2.2)), (9, .val (.int .i64 g.goals.length)), (10, .val (.int .i64 i))], [(0, some (.cells r [.val (.int .i64 g.kind), .val (.string g.name), .val (.slice p.1.1 g.terms.length p.1.2), .val (.slice p.2.1 g.goals.length p.2.2)] 87))], 1, μ, Mem.nil⟩) (fun i => g.goals.length - i)
   0 ⟨Nat.zero_le _, fun j x h => by omega⟩ (fun _ => ⟨rfl, rfl⟩) ⟨⟨rfl, rfl, rfl, rfl, rfl, trivial⟩, ⟨rfl, trivial⟩, rfl, rfl⟩ ?_
  rintro i ⟨hi, hall⟩
  refine ifd (fun hlt => ?_) (fun hlt => ?_)
  ·have hv_ := at_some (l := g.goals) (i := i) (by omega)
   obtain ⟨t, ht⟩ := hv_
   have hv_ := Gl.elem hgs ht
   obtain ⟨ad, p3, hel, hr⟩ := hv_
   refine elem_intro hel ?_
   intro r2
   refine call_gives (ih t (mem_at ht) hr) ?_
   refine ifnd (fun h => ret_gives ?_ rfl) (fun h => ?_)
   ·rw [decide_eq_false fun k => h (((Gl.pos_eq g).1 k).2 t (mem_at ht))]
   ·refine num64 (by omega) (by omega) ⟨i + 1, ⟨by omega, fun j y hj hy => ?_⟩, by omega, ⟨⟨rfl, rfl, rfl, rfl, rfl, trivial⟩, ⟨rfl, trivial⟩, rfl, rfl⟩⟩
    rcases Nat.lt_or_ge j i with h6 | h6
    ·exact hall j y h6 hy
    ·obtain rfl : j = i := by omega
     rw [ht] at hy; cases hy; exact h
  ·obtain rfl : i = g.goals.length := by omega
   have hsub : ∀ x ∈ g.goals, x.Pos := fun x hx => by
    have hv_ := List.mem_iff_getElem?.1 hx
    obtain ⟨j, hj⟩ := hv_
    exact hall j x (List.getElem?_eq_some_iff.1 hj).1 hj
   refine ifnd (fun h => ?_) (fun h => ?_)
   ·refine if_intro (fun h => nomatch h) (fun _ => ?_)
    exact ret_gives (by rw [decide_eq_true ((Gl.pos_eq g).2 ⟨h, hsub⟩)]; rfl) rfl
   ·exact ret_gives (by rw [decide_eq_false fun k => ((Gl.pos_eq g).1 k).1 h]) rfl
theorem l14All_spec {p : Pg} {v : Value} (hp : RepV μ p.d v) (hw : p.d.wd) : Spec Tryz.prog 223 [v, .bool false] μ fun r _ => r = .bool (decide p.Pos) := by
 have hv_ := Pg.inv hp
 obtain ⟨q, rfl, hrl⟩ := hv_
 refine Spec.mk Tryz.func223 (by kernel_rfl) ?_
 intro r1
 refine call_plain (spec_ProgramOk_spec hp hw) fun v1 μ1 hle1 hR => ?_
 obtain rfl := hR
 refine ifnd (fun h => ret_plain (isF fun k => h k.1)) (fun hok => ?_)
 have hn := hok.1
 refine loop_intro (fun i : Nat => i ≤ p.rels.length ∧ ∀ (j : Nat) x, j < i → p.rels[j]? = some x → x.body.Pos)
  (fun i => ⟨[(1, .val (.bool false)), (11, .val (.slice q.1 p.rels.length q.2)), (12, .val (.int .i64 p.rels.length)), (13, .val (.int .i64 i))], [], 1, μ1, Mem.nil⟩) (fun i => p.rels.length - i)
  0 ⟨Nat.zero_le _, fun j x h => by omega⟩ (fun _ => ⟨rfl, rfl⟩) ⟨⟨rfl, rfl, rfl, rfl, trivial⟩, trivial, rfl, rfl⟩ ?_
 rintro i ⟨hi, hall⟩
 refine ifd (fun hlt => ?_) (fun hlt => ?_)
 ·have hv_ := at_some (l := p.rels) (i := i) (by omega)
  obtain ⟨x, hx⟩ := hv_
  have hv_ := Rl.elemA (hrl.mono hle1) hx
  obtain ⟨ad, q2, hel, hr, hb⟩ := hv_
  have hb : RepV μ1 x.body.d (.agg (x.body.cs q2).toArray) := hb
  refine elem_intro hel ?_
  intro r2
  refine call_gives (l14Only_spec x.body hb) ?_
  refine ifnd (fun h => ret_plain (isF fun k => h (k.2 x (mem_at hx)))) (fun h => ?_)
  refine num64 (by omega) (by omega) ⟨i + 1, ⟨by omega, fun j y hj hy => ?_⟩, by omega, ⟨⟨rfl, rfl, rfl, rfl, trivial⟩, trivial, rfl, rfl⟩⟩
  rcases Nat.lt_or_ge j i with h6 | h6
  ·exact hall j y h6 hy
  ·obtain rfl : j = i := by omega
   rw [hx] at hy; cases hy; exact h
 ·obtain rfl : i = p.rels.length := by omega
  exact ret_plain (isT ⟨hok, fun x hx => by
   have hv_ := List.mem_iff_getElem?.1 hx
   obtain ⟨j, hj⟩ := hv_
   exact hall j x (List.getElem?_eq_some_iff.1 hj).1 hj⟩)
theorem spec_IsPositive_spec {p : Pg} {v : Value} (hp : RepV μ p.d v) (hw : p.d.wd) : Spec Tryz.prog 174 [v] μ fun r _ => r = .bool (decide p.Pos) := by
 have hv_ := Pg.inv hp
 obtain ⟨q, rfl, hrl⟩ := hv_
 refine Spec.mk Tryz.func174 (by kernel_rfl) ?_
 intro r1
 refine call_plain (l14All_spec hp hw) fun v1 μ1 hle1 hR => ?_
 obtain rfl := hR
 exact ret_plain rfl
theorem negative1_spec (n : Int) : Gives Tryz.prog 255 [.int .i64 n] μ (.bool (decide (n = 10))) := by
 refine Spec.mk Tryz.func255 (by kernel_rfl) ?_
 exact ret_gives rfl rfl
theorem hasKind1_spec {H : Mem} {r3 : Nat} (r : Nat) (b : Bool) {g : Gl} {v : Value} (hv : RepV μ g.d v) (hne : r3 ≠ r) (h3 : H r3 = some (.cells #[.func (.func 255) #[] #[]] 175 (0, 0))) :
  SpecH Tryz.prog 258 [v, .pointer (some ⟨r, 0, none⟩), .pointer (some ⟨r3, 0, none⟩)] μ (boolOn H r b) fun r' μ' h' => r' = .tuple #[] ∧ μ' = μ ∧ h' = boolOn H r (b || decide (g.kind = 10)) := by
 have hv_ := Gl.inv hv
 obtain ⟨p, rfl, -, -⟩ := hv_
 refine SpecH.mk [] Tryz.func258 (by kernel_rfl) ?_
 intro r0
 refine own_intro [.bool b] rfl (box_at (set_self _ _ _)) ?_
 refine if_intro (fun hb => ?_) (fun hb => ?_)
 ·refine sto_intro (h := boolOn H r b) (a := ⟨r, 0, none⟩) [.bool b] 4 (set_self _ _ _) rfl (Nat.le_refl _) ?_
  exact ret_plain ⟨rfl, rfl, by rw [hb]; exact Mem.set_set _ _ _ _⟩
 ·refine own_intro [.func (.func 255) #[] #[]] rfl (box_at ((Mem.set_ne hne).trans h3)) ?_
  refine call_gives (negative1_spec _) ?_
  refine sto_intro (h := boolOn H r b) (a := ⟨r, 0, none⟩) [.bool b] 4 (set_self _ _ _) rfl (Nat.le_refl _) ?_
  exact ret_plain ⟨rfl, rfl, by rw [hb]; exact Mem.set_set _ _ _ _⟩
theorem or_fold : ∀ (l : List Gl) (b : Bool), l.foldl (fun b g => b || decide (g.kind = 10)) b = (b || !decide (∀ x ∈ l, x.kind ≠ 10))
 | [], b => by simp
 | a :: l, b => by
  rw [List.foldl_cons, or_fold l]
  by_cases h : a.kind = 10 <;> cases b <;> simp [h]
theorem hasKind_spec {g : Gl} {v : Value} (hv : RepV μ g.d v) : Spec Tryz.prog 254 [v, .func (.func 255) #[] #[]] μ fun r μ' => r = .bool (!decide g.Pos) ∧ μ' = μ := by
 have hv_ := Gl.inv hv
 obtain ⟨p, rfl, -, -⟩ := hv_
 refine Spec.mkO [3, 5] Tryz.func254 (by kernel_rfl) ?_
 intro r1 r3 hm3 ho3 r5 hm5 ho5
 have hne : r3 ≠ r5 := fun e => by
  subst e
  have h : Mem.set Mem.nil r3 _ r3 = none := ho5
  rw [Mem.set_at] at h; cases h
 refine sto_intro [.bool false] 4 (Mem.set_at _ _ _) rfl (Nat.le_refl _) ?_
 refine call_own (R := fun r μ' h' => r = .tuple #[] ∧ μ' = μ ∧ h' = boolOn (Mem.nil.set r3 (.cells #[.func (.func 255) #[] #[]] 175 (0, 0))) r5 (g.all.foldl (fun b g => b || decide (g.kind = 10)) false)) ?_ fun v μ' h' hle hap hR => ?_
 ·have := eachGoal_rel (μ := μ) (fun b h => h = boolOn (Mem.nil.set r3 (.cells #[.func (.func 255) #[] #[]] 175 (0, 0))) r5 b) (fun b g => b || decide (g.kind = 10)) (fun _ => True) (k := 258) (caps := [.pointer (some ⟨r5, 0, none⟩), .pointer (some ⟨r3, 0, none⟩)])
   (fun s h x v _ hx hj => by subst hj; exact hasKind1_spec r5 s hx hne (Mem.set_at _ _ _)) g false _ hv (fun _ _ => trivial) rfl
  have e : ∀ X : Mem, ((X.set r5 (.cells #[.bool false] 4 (0, 0))).set r5 (.cells #[.bool false] 4 (0, 0))) = boolOn X r5 false := fun X => Mem.set_set _ _ _ _
  rw [← e] at this
  exact this
 obtain ⟨rfl, e4, rfl⟩ := hR
 obtain rfl := e4.symm
 rw [or_fold, Bool.false_or]
 refine own_intro [.bool (!decide (∀ x ∈ g.all, x.kind ≠ 10))] rfl (box_at (set_self _ _ _)) ?_
 exact ret_plain ⟨congrArg (fun b => Value.bool (!b)) (decide_eq_decide.2 Iff.rfl), rfl⟩
theorem negative_spec {g : Gl} {v : Value} (hv : RepV μ g.d v) : Spec Tryz.prog 250 [v] μ fun r μ' => r = .bool (!decide g.Pos) ∧ μ' = μ := by
 have hv0 := hv
 have hv_ := Gl.inv hv
 obtain ⟨p, rfl, -, -⟩ := hv_
 refine Spec.mk Tryz.func250 (by kernel_rfl) ?_
 intro r1
 refine call_plain (hasKind_spec hv0) fun v1 μ1 hle1 hR => ?_
 obtain ⟨rfl, e⟩ := hR
 obtain rfl := e.symm
 exact ret_plain ⟨rfl, rfl⟩
theorem positive_spec {p : Pg} {v : Value} (hp : RepV μ p.d v) : Spec Tryz.prog 224 [v] μ fun r μ' => r = .bool (decide (∀ r ∈ p.rels, r.body.Pos)) ∧ μ' = μ := by
 have hv_ := Pg.inv hp
 obtain ⟨q, rfl, hrl⟩ := hv_
 have hn := maxLen_le hrl.max
 refine Spec.mk Tryz.func224 (by kernel_rfl) ?_
 intro r1
 refine loop_intro (fun i : Nat => i ≤ p.rels.length ∧ ∀ (j : Nat) x, j < i → p.rels[j]? = some x → x.body.Pos)
  (fun i => ⟨[(6, .val (.slice q.1 p.rels.length q.2)), (7, .val (.int .i64 p.rels.length)), (8, .val (.int .i64 i))], [], 1, μ, Mem.nil⟩) (fun i => p.rels.length - i)
  0 ⟨Nat.zero_le _, fun j x h => by omega⟩ (fun _ => ⟨rfl, rfl⟩) ⟨⟨rfl, rfl, rfl, trivial⟩, trivial, rfl, rfl⟩ ?_
 rintro i ⟨hi, hall⟩
 refine ifd (fun hlt => ?_) (fun hlt => ?_)
 ·have hv_ := at_some (l := p.rels) (i := i) (by omega)
  obtain ⟨x, hx⟩ := hv_
  have hv_ := Rl.elemA hrl hx
  obtain ⟨ad, q2, hel, hr, hb⟩ := hv_
  have hb : RepV μ x.body.d (.agg (x.body.cs q2).toArray) := hb
  refine elem_intro hel ?_
  intro r2
  refine call_plain (negative_spec hb) fun v1 μ1 hle1 hR => ?_
  obtain ⟨rfl, e⟩ := hR
  obtain rfl := e.symm
  refine if_intro (fun h => ret_plain ⟨isF fun k => ?_, rfl⟩) (fun h => ?_)
  ·have := k x (mem_at hx); simp [this] at h
  ·have hpos : x.body.Pos := by simpa using h
   refine num64 (by omega) (by omega) ⟨i + 1, ⟨by omega, fun j y hj hy => ?_⟩, by omega, ⟨⟨rfl, rfl, rfl, trivial⟩, trivial, rfl, rfl⟩⟩
   rcases Nat.lt_or_ge j i with h6 | h6
   ·exact hall j y h6 hy
   ·obtain rfl : j = i := by omega
    rw [hx] at hy; cases hy; exact hpos
 ·obtain rfl : i = p.rels.length := by omega
  exact ret_plain ⟨isT fun x hx => by
   have hv_ := List.mem_iff_getElem?.1 hx
   obtain ⟨j, hj⟩ := hv_
   exact hall j x (List.getElem?_eq_some_iff.1 hj).1 hj, rfl⟩
theorem impl_IsPositive_spec {p : Pg} {v : Value} (hp : RepV μ p.d v) : Spec Tryz.prog 175 [v] μ fun r _ => r = .bool (decide p.Pos) := by
 have hv_ := Pg.inv hp
 obtain ⟨q, rfl, hrl⟩ := hv_
 refine Spec.mk Tryz.func175 (by kernel_rfl) ?_
 intro r1
 refine call_plain (impl_ProgramOk_spec hp) fun v1 μ1 hle1 hR => ?_
 obtain rfl := hR
 refine ifd (fun hok => ?_) (fun hok => ret_plain (isF fun k => hok k.1))
 refine call_plain (positive_spec (hp.mono hle1)) fun v2 μ2 hle2 hR => ?_
 obtain ⟨rfl, e⟩ := hR
 refine ret_plain ?_
 by_cases h : ∀ r ∈ p.rels, r.body.Pos
 ·rw [decide_eq_true h, decide_eq_true (show p.Pos from ⟨hok, h⟩)]
 ·rw [decide_eq_false h, decide_eq_false fun k : p.Pos => h k.2]
end
end Go.Vx
namespace Go.Vx
open Go.Proofs Classical
theorem F.fc_f (f : F) : f.fc.f = f := by
 show F.mk f.rel ((f.args.map T.tm).map Tm.toT) = f
 rw [toTs_tm]
section
variable {μ : Mem}
theorem impl_FindRel_spec {p : Pg} {s : ByteArray} {v : Value} (hp : RepV μ p.d v) : Spec Tryz.prog 71 [v, .string s] μ fun r _ => r = .int .i64 (findR p s) := by
 have hp0 := hp
 have hv_ := Pg.inv hp
 obtain ⟨q, rfl, _⟩ := hv_
 refine Spec.mk Tryz.func71 (by kernel_rfl) ?_
 intro r2
 refine call_plain (impl_ProgramOk_spec hp0) fun v1 μ1 hle1 hR => ?_
 obtain rfl := hR
 refine ifnd (fun h => ret_plain (by rw [findR, if_neg h])) (fun h => ?_)
 refine call_gives (relation_spec (hp0.mono hle1)) ?_
 exact ret_plain (by rw [findR, if_pos h])
end
end Go.Vx
namespace Go.Vx
open Go.Proofs Classical
theorem gl_cnt_sz3 : ∀ g : Gl, g.d.cnt ≤ 3 + 3 * g.d.sz :=
 Gl.ind fun g ih => by
  have h1 := tms_cnt g.terms
  have h2 : D.cnts (g.goals.map Gl.d) ≤ 3 * g.goals.length + 3 * D.szs (g.goals.map Gl.d) := by
   generalize g.goals = l at ih
   induction l with
   | nil => simp [D.cnts, D.szs]
   | cons t l ih2 =>
    have h1 := ih t (by simp)
    have h2 := ih2 fun t ht => ih t (by simp [ht])
    simp only [List.map_cons, D.cnts, D.szs, List.length_cons]; omega
  rw [Gl.cnt_eq, Gl.sz_eq]; omega
theorem rls_cnt : ∀ l : List Rl, D.cnts (l.map Rl.d) ≤ 10 * l.length + 3 * D.szs (l.map Rl.d)
 | [] => by simp [D.cnts, D.szs]
 | x :: l => by
  have h1 := rls_cnt l
  have h2 := gl_cnt_sz3 x.body
  have h3 := Rl.sz_eq x
  rw [Gl.cnt_eq] at h2
  simp only [List.map_cons, D.cnts, D.szs, List.length_cons]
  rw [Rl.cnt_eq, Rl.sz_eq]; omega
theorem pg_cnt_sz (p : Pg) : p.d.cnt ≤ 10 * p.d.sz := by
 have h1 := rls_cnt p.rels
 rw [Pg.cnt_eq, Pg.sz_eq]; omega
theorem pg_mt (p : Pg) (k : Int) : (p.d.mt k).2 = k + D.cnts (p.rels.map Rl.d) := by
 rw [Pg.mt_eq]
 exact D.mks_cnt (p.rels.map Rl.d) k
end Go.Vx
namespace Go.Vx
open Go.Proofs Classical
noncomputable def posRules (p : Pg) (u : List Tm) : Option (List Ru) := if p.Pos then groundO p u else none
section
variable {μ : Mem}
theorem positiveRules_spec {p : Pg} {u : List Tm} {v : Value} {ub : Option Addr} {uc : Nat} (hp : RepV μ p.d v) (hu : Sl μ 4 ub u.length (u.map Tm.d)) :
  Spec Tryz.prog 106 [v, .slice ub u.length uc] μ fun v μ' => optRu (fun y tv => RepV μ' (.sl 6 ((y.map Ru.rd).map RuD.d)) tv) (posRules p u) v := by
 have hp0 := hp
 have hv_ := Pg.inv hp
 obtain ⟨q, rfl, hrl⟩ := hv_
 refine Spec.mk Tryz.func106 (by kernel_rfl) ?_
 intro r2
 refine call_plain (impl_IsPositive_spec hp0) fun v1 μ1 hle1 hR => ?_
 obtain rfl := hR
 refine ifnd (fun h => ret_plain (by rw [posRules, if_neg h]; rfl)) (fun hpos => ?_)
 refine call_gives (impl_UniverseOk_spec (hu.mono hle1)) ?_
 refine ifnd (fun h => ret_plain (by rw [posRules, if_pos hpos, groundO, if_neg fun k => h k.2]; rfl)) (fun huok => ?_)
 have hv_ := huok.lift
 obtain ⟨U, rfl, hUg, hUl⟩ := hv_
 have hgo : posRules p (U.map T.tm) = groundR p U := by rw [posRules, if_pos hpos, groundO, if_pos ⟨hpos.1, huok⟩, toTs_tm]
 rw [hgo]
 have h1 := huok.pos
 have h8 := huok.max
 rw [List.length_map] at h1 h8 hu ⊢
 refine call_plain (groundRules_spec (hp0.mono hle1) hpos.1 (hu.mono hle1) h1 h8) fun v2 μ2 hle2 hR => ?_
 cases hL : groundR p U with
 | none =>
  rw [hL] at hR
  obtain rfl := hR
  exact ret_plain rfl
 | some y =>
  rw [hL] at hR
  obtain ⟨tv, rfl, hR⟩ := hR
  exact ret_plain ⟨tv, rfl, hR⟩
end
end Go.Vx
namespace Go.Vx
open Go.Proofs Classical
theorem erase_take {α : Type} {xs : List α} {i k : Nat} {x : α} (hx : xs[i]? = some x) : (xs.take (i + 1)).eraseIdx k = (xs.take i).eraseIdx k ++ (if i = k then [] else [x]) := by
 have hi := (List.getElem?_eq_some_iff.1 hx).1
 have hl : (xs.take i).length = i := by rw [List.length_take]; omega
 rw [List.take_add_one, hx, Option.toList_some]
 rcases Nat.lt_or_ge k i with h | h
 ·rw [List.eraseIdx_append_of_lt_length (by omega), if_neg (by omega)]
 ·have e1 : (xs.take i).eraseIdx k = xs.take i := List.eraseIdx_of_length_le (by omega)
  rw [List.eraseIdx_append_of_length_le (by omega), hl, e1]
  by_cases e : i = k
  ·rw [if_pos e, e, Nat.sub_self]; rfl
  ·rw [if_neg e, List.eraseIdx_of_length_le (by simp; omega)]
section
variable {μ : Mem}
theorem without_spec {xs : List T} {base : Option Addr} {cap k : Nat} (hsl : Sl μ 4 base xs.length ((xs.map T.tm).map Tm.d)) (hn : xs.length ≤ 1000000) :
  Spec Tryz.prog 123 [.slice base xs.length cap, .int .i64 k] μ fun v μ' => Fresh μ μ' (.sl 4 (((xs.eraseIdx k).map T.tm).map Tm.d)) v := by
 refine Spec.mk Tryz.func123 (by kernel_rfl) ?_
 intro r8
 refine loop_intro (fun p : Nat × Option Nat × Nat × List Value × Mem => p.1 ≤ xs.length ∧ μ.Le p.2.2.2.2 ∧ Grown 4 μ p.2.2.2.2 ((((xs.take p.1).eraseIdx k).map T.tm).map Tm.d) p.2.2.2.1)
  (fun (i, b, c, ys, μ') => ⟨[(1, .val (.int .i64 k)), (5, .row 0 b ys.length c), (9, .val (.slice base xs.length cap)), (10, .val (.int .i64 xs.length)), (11, .val (.int .i64 i))], [(0, some (.row b c 38 4 ys))], 1, μ', Mem.nil⟩) (fun p => xs.length - p.1)
  (0, some r8, 0, [], μ) ⟨Nat.zero_le _, Mem.Le.refl _, Grown.nil _ _ _⟩ (fun (_, _, _, _, _) => ⟨rfl, rfl⟩) ⟨⟨rfl, rfl, rfl, rfl, rfl, trivial⟩, ⟨rfl, trivial⟩, rfl, rfl⟩ ?_
 rintro ⟨i, b, c, ys, μ'⟩ ⟨hi, hle, hrows⟩
 dsimp only at hi hle hrows
 have hlen : ys.length ≤ xs.length := by
  have h1 := hrows.len
  have h2 := List.length_eraseIdx_le (xs.take i) k
  simp only [List.length_map, List.length_take] at h1 h2
  omega
 refine ifd (fun hlt => ?_) (fun hlt => ?_)
 ·have hv_ := at_some (l := xs) (i := i) (by omega)
  obtain ⟨x, hx⟩ := hv_
  have hv_ := T.elemL (hsl.mono hle) hx
  obtain ⟨ad, p, hel, hr⟩ := hv_
  have hnext := erase_take (k := k) hx
  refine elem_intro hel ?_
  intro r7
  refine ifnd (fun hne => ?_) (fun he => ?_)
  ·refine call_plain (copyTerm_spec x hr) fun v1 μ1 hle1 hR => ?_
   have hv_ := Tm.invV hR.rep
   obtain ⟨q, rfl⟩ := hv_
   intro r22
   refine grow_intro ?_ ?_ fun b' c' _ => ?_
   ·show (ys.length + 1) * 56 ≤ _; omega
   ·exact Nat.le_trans (m := 100000000) (show ys.length + 1 ≤ _ by omega) (by decide)
   refine num64 (by omega) (by omega) ⟨(i + 1, b', c', _, μ1), ⟨by dsimp only; omega, hle.trans hle1, ?_⟩, by dsimp only; omega, ⟨⟨rfl, rfl, rfl, rfl, rfl, trivial⟩, ⟨rfl, trivial⟩, rfl, rfl⟩⟩
   dsimp only
   rw [hnext, if_neg (by omega)]
   simp only [List.map_append, List.map_cons, List.map_nil]
   exact hrows.snoc hle hR hle1 (Tm.d_n _)
  ·refine num64 (by omega) (by omega) ⟨(i + 1, b, c, ys, μ'), ⟨by dsimp only; omega, hle, ?_⟩, by dsimp only; omega, ⟨⟨rfl, rfl, rfl, rfl, rfl, trivial⟩, ⟨rfl, trivial⟩, rfl, rfl⟩⟩
   dsimp only
   rw [hnext, if_pos (by omega), List.append_nil]
   exact hrows
 ·obtain rfl : i = xs.length := by omega
  rw [List.take_length] at hrows
  refine ret_frz [0] fun μ2 hle2 hno hrow => .inl ?_
  exact hrows.fresh hle hle2 hno hrow (Nat.le_trans (m := 1000000) (by omega) (by decide))
set_option maxHeartbeats 1000000 in
theorem l34Without_spec {xs : List T} {v : Value} {k : Nat} (h : RepV μ (.sl 4 ((xs.map T.tm).map Tm.d)) v) (hk : k < xs.length) (hn : xs.length ≤ 1000000) :
  Spec Tryz.prog 119 [v, .int .i64 k] μ fun v μ' => RepV μ' (.sl 4 (((xs.eraseIdx k).map T.tm).map Tm.d)) v := by
 have hv_ := Rep.sl h
 obtain ⟨b, c, rfl, hs⟩ := hv_
 rw [List.length_map, List.length_map] at hs h ⊢
 have hv_ := Rep.src h
 obtain ⟨vs, hrows, hvs, hcap, hsrc⟩ := hv_
 refine Spec.mk Tryz.func119 (by kernel_rfl) ?_
 refine cut_intro 0 k rfl rfl (by omega) (by omega) ?_
 refine num64 (by omega) (by omega) ?_
 refine cut_intro (k + 1) xs.length rfl rfl (by omega) (by omega) ?_
 intro r5
 refine src_intro _ (hsrc 0 k (by omega) (by omega)) ?_
 refine grow_intro ?_ ?_ fun b1 c1 _ => ?_
 ·show (0 + _) * 56 ≤ _; simp; omega
 ·exact Nat.le_trans (m := 2000000000) (by simp; omega) (by decide)
 refine src_intro _ (hsrc (k + 1) xs.length (by omega) (Nat.le_refl _)) ?_
 refine grow_intro ?_ ?_ fun b2 c2 _ => ?_
 ·show (_ + _) * 56 ≤ _; simp; omega
 ·exact Nat.le_trans (m := 3000000000) (by simp; omega) (by decide)
 have hr2 := (hrows.take k).append (hrows.drop (k + 1))
 have ev : (([] : List Value) ++ (vs.drop 0).take (k - 0) ++ (vs.drop (k + 1)).take (xs.length - (k + 1))) = vs.take k ++ vs.drop (k + 1) := by
  simp
  rw [List.take_of_length_le (by simp; omega)]
 have e2 : (((xs.eraseIdx k).map T.tm).map Tm.d) = ((xs.map T.tm).map Tm.d).take k ++ ((xs.map T.tm).map Tm.d).drop (k + 1) := by rw [List.eraseIdx_eq_take_drop_succ]; simp
 refine ret_frz [0] fun μ2 hle2 hno2 hrow2 => .inl ?_
 rw [ev] at hrow2
 have := Rows.sl hrow2 (hr2.mono hle2) (Nat.le_trans (m := 3000000000) (by simp; omega) (by decide))
 rw [← e2] at this
 rw [ev]
 exact this
end
end Go.Vx
namespace Go.Vx
open Go.Proofs Classical
theorem ascF_id {L : List F} (h : Asc3 cmpF L) : ascF L = L := (ascOf_eq cmpF_ord h fun _ => Iff.rfl).symm
theorem headsF_succ {rs : List Ru} {pos neg : List F} {i : Nat} {r : Ru} (h : rs[i]? = some r) : headsF rs pos neg (i + 1) = headsF rs pos neg i ++ (if fires pos neg r then [r.head] else []) := by
 rw [headsF, List.take_add_one, h, Option.toList_some, List.filter_append, List.map_append, ← headsF]
 congr 1
 by_cases k : fires pos neg r <;> simp [k]
theorem lfp_len (rs : List Ru) (base : List F) : (lfp rs base).length ≤ base.length + rs.length := by
 rw [lfp]
 refine Nat.le_trans (ascOf_len _ _) (Nat.le_trans (List.length_filter_le _ _) ?_)
 rw [List.length_append, List.length_map]
 exact Nat.le_refl _
section
variable {rs : List Ru} {S out : List F}
end
section
variable {rs : List Ru} {base out : List F}
end
theorem stF_lt {rs : List Ru} : ∀ {n : Nat}, (∀ m, m < n → nextF rs (stF rs m) [] ≠ stF rs m) → n ≤ (stF rs n).length
 | 0, _ => Nat.zero_le _
 | n + 1, h => by
  have ih := stF_lt (n := n) fun m hm => h m (by omega)
  have h1 := (stF_red rs n).more fun e => h n (by omega) (asc_same cmpF_ord (stF_red rs n).asc (nextF_asc rs _ _) (stF_red rs n).sub e).symm
  have h2 : (stF rs (n + 1)).length = (nextF rs (stF rs n) []).length := rfl
  omega
section
variable {rs : List Ru} {model B out : List F}
end
end Go.Vx
namespace Go.Vx
open Go.Proofs Classical
section
variable {μ : Mem}
theorem l19Fires_spec {r : Ru} {pos neg : List F} {v : Value} {b b2 : Option Addr} {c c2 : Nat} (hr : RepV μ r.rd.d v) (hs : Sl μ 2 b pos.length ((pos.map F.fc).map Fc.d)) (hs2 : Sl μ 2 b2 neg.length ((neg.map F.fc).map Fc.d)) :
  Gives Tryz.prog 111 [v, .slice b pos.length c, .slice b2 neg.length c2] μ (.bool (decide (fires pos neg r))) := by
 have hv_ := Ru.inv hr
 obtain ⟨p, rfl, -, -, h3, h4⟩ := hv_
 have hm1 := maxLen_le h3.max
 have hm2 := maxLen_le h4.max
 refine Spec.mk Tryz.func111 (by kernel_rfl) ?_
 intro r3
 refine loop_intro (fun k : Nat => k ≤ r.pos.length ∧ ∀ f ∈ r.pos.take k, f ∈ pos)
  (fun k => ⟨[(1, .val (.slice b pos.length c)), (2, .val (.slice b2 neg.length c2)), (3, .loc 0 r3 0), (12, .val (.slice p.2.2.1.1 r.pos.length p.2.2.1.2)), (13, .val (.int .i64 r.pos.length)), (14, .val (.int .i64 k))], [(0, some (.cells r3 (vals (r.cs p)) 126))], 1, μ, Mem.nil⟩) (fun k => r.pos.length - k)
  0 ⟨Nat.zero_le _, by simp⟩ (fun _ => ⟨rfl, rfl⟩) ⟨⟨rfl, rfl, rfl, rfl, rfl, rfl, trivial⟩, ⟨rfl, trivial⟩, rfl, rfl⟩ ?_
 rintro k ⟨hk, hall⟩
 refine ifd (fun hlt => ?_) (fun hlt => ?_)
 ·have hv_ := at_some (l := r.pos) (i := k) (by omega)
  obtain ⟨y, hy⟩ := hv_
  have hv_ := F.elem h3 hy
  obtain ⟨ad3, p3, hel3, hry, hsy⟩ := hv_
  refine elem_intro hel3 ?_
  intro r8
  refine call_gives (l18Has_spec hs hry) ?_
  refine ifnd (fun h => ret_gives (isF fun k => h (k.1 y (mem_at hy))) rfl) (fun h => ?_)
  ·exact num64 (by omega) (by omega) ⟨k + 1, ⟨by omega, take_all_at hall hy h⟩, by omega, ⟨⟨rfl, rfl, rfl, rfl, rfl, rfl, trivial⟩, ⟨rfl, trivial⟩, rfl, rfl⟩⟩
 obtain rfl : k = r.pos.length := by omega
 rw [List.take_length] at hall
 refine loop_intro (fun k : Nat => k ≤ r.neg.length ∧ ∀ f ∈ r.neg.take k, f ∉ neg)
  (fun k => ⟨[(2, .val (.slice b2 neg.length c2)), (24, .val (.slice p.2.2.2.1 r.neg.length p.2.2.2.2)), (25, .val (.int .i64 r.neg.length)), (26, .val (.int .i64 k))], [], 1, μ, Mem.nil⟩) (fun k => r.neg.length - k)
  0 ⟨Nat.zero_le _, by simp⟩ (fun _ => ⟨rfl, rfl⟩) ⟨⟨rfl, rfl, rfl, rfl, trivial⟩, trivial, rfl, rfl⟩ ?_
 rintro k ⟨hk, hall2⟩
 refine ifd (fun hlt => ?_) (fun hlt => ?_)
 ·have hv_ := at_some (l := r.neg) (i := k) (by omega)
  obtain ⟨y, hy⟩ := hv_
  have hv_ := F.elem h4 hy
  obtain ⟨ad3, p3, hel3, hry, hsy⟩ := hv_
  refine elem_intro hel3 ?_
  intro r8
  refine call_gives (l18Has_spec hs2 hry) ?_
  refine ifd (fun h => ret_gives (isF fun k => (k.2 y (mem_at hy)) h) rfl) (fun h => ?_)
  ·exact num64 (by omega) (by omega) ⟨k + 1, ⟨by omega, take_all_at hall2 hy h⟩, by omega, ⟨⟨rfl, rfl, rfl, rfl, trivial⟩, trivial, rfl, rfl⟩⟩
 obtain rfl : k = r.neg.length := by omega
 rw [List.take_length] at hall2
 exact ret_gives (isT ⟨hall, hall2⟩) rfl
theorem l19Next_spec {rs : List Ru} {pos neg : List F} {b b2 b3 : Option Addr} {c c2 c3 : Nat} (hr : Sl μ 6 b3 rs.length ((rs.map Ru.rd).map RuD.d)) (hn : rs.length ≤ 10000000) (hs : Sl μ 2 b pos.length ((pos.map F.fc).map Fc.d)) (hs2 : Sl μ 2 b2 neg.length ((neg.map F.fc).map Fc.d)) :
  Spec Tryz.prog 168 [.slice b3 rs.length c3, .slice b pos.length c, .slice b2 neg.length c2] μ fun r μ' => FsV μ' (nextF rs pos neg) r := by
 refine Spec.mk Tryz.func168 (by kernel_rfl) ?_
 intro r10
 refine loop_frz (fun z : Nat × Option Addr × Nat × Mem => z.1 ≤ rs.length ∧ μ.Le z.2.2.2 ∧ FsV z.2.2.2 (ascF (headsF rs pos neg z.1)) (.slice z.2.1 (ascF (headsF rs pos neg z.1)).length z.2.2.1))
  (fun (i, b4, c4, μ') => ⟨[(1, .val (.slice b pos.length c)), (2, .val (.slice b2 neg.length c2)), (7, .val (.slice b4 (ascF (headsF rs pos neg i)).length c4)), (11, .val (.slice b3 rs.length c3)), (12, .val (.int .i64 rs.length)), (13, .val (.int .i64 i))], [], 0, μ', Mem.nil⟩) (fun z => rs.length - z.1) [0]
  (fun (_, _, _, _) => ⟨rfl, rfl⟩) (fun μ1 hle1 hno1 hat1 => ?_) ?_
 ·have e0 : ascF (headsF rs pos neg 0) = [] := by simp [headsF, ascF_id (L := []) List.Pairwise.nil]
  refine ⟨(0, some ⟨r10, 0, none⟩, 0, μ1), ⟨Nat.zero_le _, hle1, ?_⟩, ⟨rfl, rfl, ?_, rfl, rfl, rfl, trivial⟩, trivial, rfl, rfl⟩
  ·dsimp only; rw [e0]; exact FsV.nil _ _
  ·dsimp only; rw [e0]; rfl
 rintro ⟨i, b4, c4, μ'⟩ ⟨hi, hle, hout⟩
 dsimp only at hi hle hout
 refine ifd (fun hlt => ?_) (fun hlt => ?_)
 rotate_left
 ·obtain rfl : i = rs.length := by omega
  rw [headsF_all] at hout ⊢
  exact ret_plain hout
 have hv_ := at_some (l := rs) (i := i) (by omega)
 obtain ⟨r, hri⟩ := hv_
 have hv_ := Ru.elem (hr.mono hle) hri
 obtain ⟨ad, p, hel, hrv, hat⟩ := hv_
 have hlen : (ascF (headsF rs pos neg i)).length ≤ i := Nat.le_trans (ascF_len _) (headsF_len _ _ _ _)
 have hsucc := headsF_succ (pos := pos) (neg := neg) hri
 refine elem_intro hel ?_
 intro r9
 refine call_gives (l19Fires_spec hrv (hs.mono hle) (hs2.mono hle)) ?_
 refine ifd (fun hf => ?_) (fun hf => ?_)
 ·rw [if_pos hf] at hsucc
  refine call_plain (l18Insert_spec (ascF_asc _) hout hat.head (by omega)) fun v4 μ4 hle4 hR4 => ?_
  have e : insF (ascF (headsF rs pos neg i)) r.head = ascF (headsF rs pos neg (i + 1)) := ascF_congr fun x => by
   rw [List.mem_cons, mem_ascF, hsucc, List.mem_append, List.mem_singleton]; exact Or.comm
  rw [e] at hR4
  have hv_ := FsV.sl hR4
  obtain ⟨b5, c5, rfl, -, -⟩ := hv_
  exact num64 (by omega) (by omega) ⟨[], (i + 1, b5, c5, μ4), ⟨by dsimp only; omega, hle.trans hle4, hR4⟩, by dsimp only; omega, ⟨⟨rfl, rfl, rfl, rfl, rfl, rfl, trivial⟩, trivial, rfl, rfl⟩⟩
 ·rw [if_neg hf, List.append_nil] at hsucc
  refine num64 (by omega) (by omega) ⟨[], (i + 1, b4, c4, μ'), ⟨by dsimp only; omega, hle, ?_⟩, by dsimp only; omega, ⟨⟨rfl, rfl, ?_, rfl, rfl, rfl, trivial⟩, trivial, rfl, rfl⟩⟩
  ·dsimp only; rw [hsucc]; exact hout
  ·dsimp only; rw [hsucc]; rfl
end
end Go.Vx
namespace Go.Vx
open Go.Proofs Classical
section
variable {μ : Mem}
theorem slF_nil : Sl μ 2 none 0 ((([] : List F).map F.fc).map Fc.d) := ⟨rfl, Nat.zero_le _, fun i x h => by simp at h⟩
end
end Go.Vx
namespace Go.Vx
open Go.Proofs Classical
open Go.Sort
section
variable {μ h0 : Mem} {r : Nat} {ty : TypeId} {rest : List Value}
end
section
variable {μ : Mem}
theorem sortFacts_spec {L : List F} {v : Value} (h : FsV μ L v) (hn : L.length ≤ 100000000) :
  Spec Tryz.prog 94 [v] μ fun v μ' => FsV μ' (ascF L) v := by
 have hv_ := FsV.sl h
 obtain ⟨b, c, rfl, hlc, hs⟩ := hv_
 have hv_ := Rep.srcAll h
 obtain ⟨vs, hrows, hvl, hsrc⟩ := hv_
 have hE := FElts.zip hrows
 have hl : (L.zip vs).length = L.length := by rw [List.length_zip]; omega
 have := sortFacts_core (l := L.zip vs) (base := b) (cap := c) (by rw [hl, zip_snd (by omega)]; exact hsrc) hE (by omega)
 rw [hl] at this
 refine this.weaken fun v μ' hle hR => ?_
 obtain ⟨l', h1, h2, bb, cc, g, rfl, hro, hg, _⟩ := hR
 replace h1 := core_mem h1
 have hE' : FElts μ' l' := fun p hp => RepV.mono hle (hE p (h1 p hp))
 rw [zip_fst (by omega)] at h2
 have := hro.rep hg hE'.rows
 rw [h2] at this
 exact this
end
end Go.Vx
namespace Go.Vx
open Go.Proofs Classical
section
variable {μ : Mem}
theorem sameFacts_spec {L M : List F} {b b2 : Option Addr} {c c2 : Nat} (hs : Sl μ 2 b L.length ((L.map F.fc).map Fc.d)) (hs2 : Sl μ 2 b2 M.length ((M.map F.fc).map Fc.d)) :
  Gives Tryz.prog 93 [.slice b L.length c, .slice b2 M.length c2] μ (.bool (decide (L = M))) := by
 have hm1 := maxLen_le hs.max
 refine Spec.mk Tryz.func93 (by kernel_rfl) ?_
 refine ifnd (fun h => ret_gives (isF fun k => h (by rw [k])) rfl) (fun he => ?_)
 refine loop_intro (fun k : Nat => k ≤ L.length ∧ ∀ j, j < k → L[j]? = M[j]?)
  (fun k => ⟨[(0, .val (.slice b L.length c)), (1, .val (.slice b2 M.length c2)), (12, .val (.int .i64 L.length)), (13, .val (.int .i64 k))], [], 0, μ, Mem.nil⟩) (fun k => L.length - k)
  0 ⟨Nat.zero_le _, fun j h => by omega⟩ (fun _ => ⟨rfl, rfl⟩) ⟨⟨rfl, rfl, rfl, rfl, trivial⟩, trivial, rfl, rfl⟩ ?_
 rintro k ⟨hk, hall⟩
 refine ifd (fun hlt => ?_) (fun hlt => ?_)
 ·have hv_ := at_some (l := L) (i := k) (by omega)
  obtain ⟨x, hx⟩ := hv_
  have hv_ := at_some (l := M) (i := k) (by omega)
  obtain ⟨y, hy⟩ := hv_
  have hv_ := F.elem hs hx
  obtain ⟨ad, q, hel, hrx, _⟩ := hv_
  have hv_ := F.elem hs2 hy
  obtain ⟨ad2, q2, hel2, hry, _⟩ := hv_
  refine elem_intro hel (elem_intro hel2 ?_)
  refine call_gives (orderFacts_spec hrx hry) ?_
  refine ifnd (fun h => ret_gives (isF fun e => h ?_) rfl) (fun h => ?_)
  ·subst e
   rw [hx] at hy; cases hy
   exact (cmpF_ord.zero _ _).2 rfl
  ·refine num64 (by omega) (by omega) ⟨k + 1, ⟨by omega, fun j hj => ?_⟩, by omega, ⟨⟨rfl, rfl, rfl, rfl, trivial⟩, trivial, rfl, rfl⟩⟩
   rcases Nat.lt_or_ge j k with h6 | h6
   ·exact hall j h6
   ·obtain rfl : j = k := by omega
    rw [hx, hy, (cmpF_ord.zero _ _).1 h]
 ·obtain rfl : k = L.length := by omega
  refine ret_gives (isT (List.ext_getElem? fun j => ?_)) rfl
  rcases Nat.lt_or_ge j L.length with h6 | h6
  ·exact hall j h6
  ·rw [List.getElem?_eq_none h6, List.getElem?_eq_none (by omega)]
end
theorem all_take {α : Type} {l : List α} {j : Nat} {x : α} {P : α → Prop} (h : l[j]? = some x) : (∀ y ∈ l.take (j + 1), P y) ↔ (∀ y ∈ l.take j, P y) ∧ P x := by
 rw [List.take_add_one, h, Option.toList_some]
 constructor
 ·exact fun k => ⟨fun y hy => k y (List.mem_append_left _ hy), k x (by simp)⟩
 ·rintro ⟨h1, h2⟩ y hy
  rcases List.mem_append.1 hy with k | k
  ·exact h1 y k
  ·rw [List.mem_singleton.1 k]; exact h2
section
variable {μ : Mem}
set_option maxHeartbeats 1000000 in
theorem consequences_spec {rs : List Ru} {S : List F} {b b3 : Option Addr} {c c3 : Nat} (hr : Sl μ 6 b3 rs.length ((rs.map Ru.rd).map RuD.d)) (hn : rs.length ≤ 10000000) (hS : Asc3 cmpF S) (hSn : S.length ≤ 1000000000) (hs : Sl μ 2 b S.length ((S.map F.fc).map Fc.d)) :
  Spec Tryz.prog 226 [.slice b3 rs.length c3, .slice b S.length c] μ fun r μ' => FsV μ' (nextF rs S S) r := by
 refine Spec.mk Tryz.func226 (by kernel_rfl) ?_
 intro r13
 refine loop_intro (fun z : Nat × Option Nat × Nat × List Value => z.1 ≤ rs.length ∧ Rows μ 2 (((headsF rs S S z.1).map F.fc).map Fc.d) z.2.2.2)
  (fun (i, bo, co, ys) => ⟨[(1, .val (.slice b S.length c)), (5, .row 0 bo ys.length co), (14, .val (.slice b3 rs.length c3)), (15, .val (.int .i64 rs.length)), (16, .val (.int .i64 i))], [(0, some (.row bo co 67 2 ys))], 1, μ, Mem.nil⟩) (fun z => rs.length - z.1)
  (0, some r13, 0, []) ⟨Nat.zero_le _, by simpa [headsF] using .nil⟩ (fun (_, _, _, _) => ⟨rfl, rfl⟩) ⟨⟨rfl, rfl, rfl, rfl, rfl, trivial⟩, ⟨rfl, trivial⟩, rfl, rfl⟩ ?_
 rintro ⟨i, bo, co, ys⟩ ⟨hi, hrows⟩
 dsimp only at hi hrows
 have hyl := hrows.len
 simp only [List.length_map] at hyl
 have hhl := headsF_len rs S S i
 refine ifd (fun hlt => ?_) (fun hlt => ?_)
 rotate_left
 ·obtain rfl : i = rs.length := by omega
  refine call_frz [0] ?_
  intro μ1 hle1 hno1 hat1
  have hrep := Rows.sl hat1 (hrows.mono hle1) (Nat.le_trans (m := 100000000) (by omega) (by decide))
  refine call_go (sortFacts_spec hrep (by omega)) fun v μ2 hle2 hR => ?_
  rw [headsF_all] at hR
  exact ret_plain hR
 have hv_ := at_some (l := rs) (i := i) (by omega)
 obtain ⟨r, hri⟩ := hv_
 have hv_ := Ru.elem hr hri
 obtain ⟨ad, p, hel, hrv, hat⟩ := hv_
 have hsucc := headsF_succ (pos := S) (neg := S) hri
 refine elem_intro hel ?_
 intro r7
 have hmp := maxLen_le hat.pos.max
 have hmn := maxLen_le hat.neg.max
 refine loop_intro (fun z : Nat × Bool => z.1 ≤ r.pos.length ∧ (z.2 = true ↔ ∀ f ∈ r.pos.take z.1, f ∈ S))
  (fun (j, fine) => ⟨[(1, .val (.slice b S.length c)), (5, .row 0 bo ys.length co), (7, .loc 1 r7 0), (8, .val (.bool fine)), (14, .val (.slice b3 rs.length c3)), (15, .val (.int .i64 rs.length)), (16, .val (.int .i64 i)), (21, .val (.slice p.2.2.1.1 r.pos.length p.2.2.1.2)), (22, .val (.int .i64 r.pos.length)), (23, .val (.int .i64 j))],
   [(0, some (.row bo co 67 2 ys)), (1, some (.cells r7 (vals (r.cs p)) 126))], 2, μ, Mem.nil⟩) (fun z => r.pos.length - z.1)
  (0, true) ⟨Nat.zero_le _, by simp⟩ (fun (_, _) => ⟨rfl, rfl⟩) ⟨⟨rfl, rfl, rfl, rfl, rfl, rfl, rfl, rfl, rfl, rfl, trivial⟩, ⟨rfl, rfl, trivial⟩, rfl, rfl⟩ ?_
 rintro ⟨j, fine⟩ ⟨hj, hfine⟩
 dsimp only at hj hfine
 refine ifd (fun hlt2 => ?_) (fun hlt2 => ?_)
 ·have hv_ := at_some (l := r.pos) (i := j) (by omega)
  obtain ⟨f, hf⟩ := hv_
  have hv_ := F.elem hat.pos hf
  obtain ⟨ad2, p2, hel2, hrf, _⟩ := hv_
  have hstep := all_take (P := fun f => f ∈ S) hf
  refine elem_intro hel2 ?_
  intro r10
  refine if_intro (fun hk => ?_) (fun hk => ?_)
  ·refine call_gives (hasFact_spec hS hSn hs hrf) ?_
   refine num64 (by omega) (by omega) ⟨(j + 1, decide (f ∈ S)), ⟨by dsimp only; omega, ?_⟩, by dsimp only; omega, ⟨⟨rfl, rfl, rfl, rfl, rfl, rfl, rfl, rfl, rfl, rfl, trivial⟩, ⟨rfl, rfl, trivial⟩, rfl, rfl⟩⟩
   dsimp only
   rw [hstep, ← hfine, decide_eq_true_eq]
   exact ⟨fun h => ⟨hk, h⟩, fun h => h.2⟩
  ·refine num64 (by omega) (by omega) ⟨(j + 1, false), ⟨by dsimp only; omega, ?_⟩, by dsimp only; omega, ⟨⟨rfl, rfl, rfl, rfl, rfl, rfl, rfl, rfl, rfl, rfl, trivial⟩, ⟨rfl, rfl, trivial⟩, rfl, rfl⟩⟩
   dsimp only
   rw [hstep, ← hfine, hk]
   simp
 obtain rfl : j = r.pos.length := by omega
 rw [List.take_length] at hfine
 refine loop_intro (fun z : Nat × Bool => z.1 ≤ r.neg.length ∧ (z.2 = true ↔ (∀ f ∈ r.pos, f ∈ S) ∧ ∀ f ∈ r.neg.take z.1, f ∉ S))
  (fun (j, fine) => ⟨[(1, .val (.slice b S.length c)), (5, .row 0 bo ys.length co), (7, .loc 1 r7 0), (8, .val (.bool fine)), (14, .val (.slice b3 rs.length c3)), (15, .val (.int .i64 rs.length)), (16, .val (.int .i64 i)), (35, .val (.slice p.2.2.2.1 r.neg.length p.2.2.2.2)), (36, .val (.int .i64 r.neg.length)), (37, .val (.int .i64 j))],
   [(0, some (.row bo co 67 2 ys)), (1, some (.cells r7 (vals (r.cs p)) 126))], 2, μ, Mem.nil⟩) (fun z => r.neg.length - z.1)
  (0, fine) ⟨Nat.zero_le _, by simpa using hfine⟩ (fun (_, _) => ⟨rfl, rfl⟩) ⟨⟨rfl, rfl, rfl, rfl, rfl, rfl, rfl, rfl, rfl, rfl, trivial⟩, ⟨rfl, rfl, trivial⟩, rfl, rfl⟩ ?_
 clear hfine hlt2 hj
 rintro ⟨j, fine⟩ ⟨hj, hfine⟩
 dsimp only at hj hfine
 refine ifd (fun hlt2 => ?_) (fun hlt2 => ?_)
 ·have hv_ := at_some (l := r.neg) (i := j) (by omega)
  obtain ⟨f, hf⟩ := hv_
  have hv_ := F.elem hat.neg hf
  obtain ⟨ad2, p2, hel2, hrf, _⟩ := hv_
  have hstep := all_take (P := fun f => f ∉ S) hf
  refine elem_intro hel2 ?_
  intro r10
  refine if_intro (fun hk => ?_) (fun hk => ?_)
  ·refine call_gives (hasFact_spec hS hSn hs hrf) ?_
   refine num64 (by omega) (by omega) ⟨(j + 1, !decide (f ∈ S)), ⟨by dsimp only; omega, ?_⟩, by dsimp only; omega, ⟨⟨rfl, rfl, rfl, rfl, rfl, rfl, rfl, rfl, rfl, rfl, trivial⟩, ⟨rfl, rfl, trivial⟩, rfl, rfl⟩⟩
   dsimp only
   rw [hstep, ← and_assoc, ← hfine, Bool.not_eq_true', decide_eq_false_iff_not]
   exact ⟨fun h => ⟨hk, h⟩, fun h => h.2⟩
  ·refine num64 (by omega) (by omega) ⟨(j + 1, false), ⟨by dsimp only; omega, ?_⟩, by dsimp only; omega, ⟨⟨rfl, rfl, rfl, rfl, rfl, rfl, rfl, rfl, rfl, rfl, trivial⟩, ⟨rfl, rfl, trivial⟩, rfl, rfl⟩⟩
   dsimp only
   rw [hstep, ← and_assoc, ← hfine, hk]
   simp
 obtain rfl : j = r.neg.length := by omega
 rw [List.take_length] at hfine
 replace hfine : fine = true ↔ fires S S r := hfine
 refine if_intro (fun hk => ?_) (fun hk => ?_)
 ·rw [if_pos (hfine.1 hk)] at hsucc
  intro r53
  refine grow_intro ?_ ?_ fun b' c' _ => ?_
  ·show (ys.length + 1) * 40 ≤ _; omega
  ·exact Nat.le_trans (m := 100000000) (show ys.length + 1 ≤ _ by omega) (by decide)
  refine num64 (by omega) (by omega) ⟨(i + 1, b', c', _), ⟨by dsimp only; omega, ?_⟩, by dsimp only; omega, ⟨⟨rfl, rfl, rfl, rfl, rfl, trivial⟩, ⟨rfl, trivial⟩, rfl, rfl⟩⟩
  dsimp only
  rw [hsucc]
  simp only [List.map_append, List.map_cons, List.map_nil]
  exact hrows.append (Rows.one hat.head (Fc.d_n _))
 ·rw [if_neg (fun k => by rw [hfine.2 k] at hk; cases hk), List.append_nil] at hsucc
  refine num64 (by omega) (by omega) ⟨(i + 1, bo, co, ys), ⟨by dsimp only; omega, ?_⟩, by dsimp only; omega, ⟨⟨rfl, rfl, rfl, rfl, rfl, trivial⟩, ⟨rfl, trivial⟩, rfl, rfl⟩⟩
  dsimp only
  rw [hsucc]; exact hrows
end
end Go.Vx
namespace Go.Vx
open Go.Proofs Classical
theorem lfp_ok {p : Pg} {rs : List Ru} {base : List F} (hr : ∀ r ∈ rs, RuOk p r) (hb : FsOk p base) : FsOk p (lfp rs base) := fun f hf => by
 cases mem_lfp.1 hf with
 | base h => exact hb _ h
 | rule h _ => exact (hr _ h).head
def optFs (P : List F → Value → Prop) (o : Option (List F)) (v : Value) : Prop := match o with
 | some y => ∃ tv, v = .tuple #[tv, .bool true] ∧ P y tv
 | none => v = .tuple #[.slice none 0 0, .bool false]
section
variable {μ : Mem}
end
end Go.Vx
namespace Go.Vx
open Go.Proofs Classical
def FsB (L : List F) : Prop := ∀ f ∈ L, f.args.length ≤ 4 ∧ ∀ a ∈ f.args, a.ok
theorem fcs_cnt3 : ∀ L : List F, FsB L → D.cnts ((L.map F.fc).map Fc.d) ≤ 60001 * L.length
 | [], _ => by simp [D.cnts]
 | f :: L, h => by
  have ih := fcs_cnt3 L fun x hx => h x (List.mem_cons_of_mem _ hx)
  have h0 := h f (by simp)
  have h2 := tms_cnt2 f.fc.args fun t ht => by
   have hv_ := List.mem_map.1 ht
   obtain ⟨a, ha, rfl⟩ := hv_
   rw [T.cnt_tm]; exact (h0.2 a ha).2
  have h3 := Fc.cnt_eq f.fc
  have h4 : f.fc.args.length = f.args.length := List.length_map ..
  have := Nat.mul_le_mul_left 15000 h0.1
  simp only [List.map_cons, D.cnts, List.length_cons]
  omega
def resF (o : Option (List F)) : List Fc := (o.getD []).map F.fc
theorem optFs_rep {μ : Mem} {o : Option (List F)} {v : Value} (h : optFs (fun y tv => FsV μ y tv) o v) : ∃ tv, v = .tuple #[tv, .bool o.isSome] ∧ RepV μ (.sl 2 ((resF o).map Fc.d)) tv := by
 cases o with
 | some y => obtain ⟨tv, rfl, h⟩ := h; exact ⟨tv, rfl, h⟩
 | none => exact ⟨_, h, OwnV.rep (h := Mem.nil) (Own.nilSl 2) (fun _ _ h => nomatch h)⟩
theorem optFs_fresh {μ μ' : Mem} {o : Option (List F)} {v : Value} (h : optFs (fun y tv => Fresh μ μ' (.sl 2 ((y.map F.fc).map Fc.d)) tv) o v) : ∃ tv, v = .tuple #[tv, .bool o.isSome] ∧ Fresh μ μ' (.sl 2 ((resF o).map Fc.d)) tv := by
 cases o with
 | some y => obtain ⟨tv, rfl, h⟩ := h; exact ⟨tv, rfl, h⟩
 | none => exact ⟨_, h, Mem.nil, Own.nilSl 2, (fun _ _ h => nomatch h), fun _ h => absurd rfl h⟩
end Go.Vx
namespace Go.Vx
open Go.Proofs Classical
theorem resF_B {o : Option (List F)} {n : Nat} (h : ∀ y, o = some y → FsB y ∧ y.length ≤ n) : D.cnts ((resF o).map Fc.d) ≤ 60001 * n := by
 cases o with
 | none => simp [resF, D.cnts]
 | some y =>
  have hv_ := h y rfl
  obtain ⟨h2, h3⟩ := hv_
  have := fcs_cnt3 y h2
  have := Nat.mul_le_mul_left 60001 h3
  rw [resF, Option.getD_some]; omega
structure RvS (rs : List Ru) (f : F) (L0 L : List F) (b : Bool) (C : Prop) : Prop where
 inv : RvI rs f L
 more : b = true → L0.length < L.length
 same : b = false → L = L0 ∧ C
structure OvS (rs : List Ru) (m B : List F) (L0 L : List F) (b : Bool) (C : Prop) : Prop where
 inv : OvI rs m B L
 more : b = true → L0.length < L.length
 same : b = false → L = L0 ∧ C
theorem RvS.len {rs : List Ru} {f : F} {L0 L : List F} {b : Bool} {C : Prop} (h : RvS rs f L0 L b C) : L0.length ≤ L.length := by
 cases b with
 | false => rw [(h.same rfl).1]; exact Nat.le_refl _
 | true => exact Nat.le_of_lt (h.more rfl)
theorem OvS.len {rs : List Ru} {m B : List F} {L0 L : List F} {b : Bool} {C : Prop} (h : OvS rs m B L0 L b C) : L0.length ≤ L.length := by
 cases b with
 | false => rw [(h.same rfl).1]; exact Nat.le_refl _
 | true => exact Nat.le_of_lt (h.more rfl)
section
variable {μ : Mem}
end
end Go.Vx
namespace Go.Vx
open Go.ChangeShapes Go.RowKit
section
variable {H : Type} {enc : TypeId × Value → H} {P : Program} {w : World} {base : Nat} {spare : Nat → Bool} {held : Bool}
theorem trodAll_five {t0 t1 t2 t3 t4 : TypeId} {args : Array Value} {ds : List (DataW H)} {ps : List MemPlace} (h : DataW.TrodAll enc P w base spare held [t0, t1, t2, t3, t4] args.toList ds ps) :
  ∃ v0 v1 v2 v3 v4 d0 d1 d2 d3 d4 p0 p1 p2 p3 p4, args = #[v0, v1, v2, v3, v4] ∧ ds = [d0, d1, d2, d3, d4] ∧ ps = p0 ++ p1 ++ p2 ++ p3 ++ p4 ∧ DataW.Trod enc P w base spare held t0 v0 d0 p0 ∧ DataW.Trod enc P w base spare held t1 v1 d1 p1 ∧ DataW.Trod enc P w base spare held t2 v2 d2 p2 ∧ DataW.Trod enc P w base spare held t3 v3 d3 p3 ∧ DataW.Trod enc P w base spare held t4 v4 d4 p4 := by
 obtain ⟨v0, r0, d0, e0, p0, q0, ha, rfl, rfl, h0, h⟩ := trodAll_cons h
 obtain ⟨v1, r1, d1, e1, p1, q1, rfl, rfl, rfl, h1, h⟩ := trodAll_cons h
 obtain ⟨v2, r2, d2, e2, p2, q2, rfl, rfl, rfl, h2, h⟩ := trodAll_cons h
 obtain ⟨v3, r3, d3, e3, p3, q3, rfl, rfl, rfl, h3, h⟩ := trodAll_cons h
 obtain ⟨v4, r4, d4, e4, p4, q4, rfl, rfl, rfl, h4, h⟩ := trodAll_cons h
 obtain ⟨rfl, rfl, rfl⟩ := trodAll_nil h
 exact ⟨v0, v1, v2, v3, v4, d0, d1, d2, d3, d4, p0, p1, p2, p3, p4, by cases args; simp_all, rfl, by simp, h0, h1, h2, h3, h4⟩
end
end Go.Vx
namespace Go.Vx
open Go.Proofs Classical
theorem pos_neg {p : Pg} {u : List Tm} {rs : List Ru} (hpos : p.Pos) (h : groundO p u = some rs) : ∀ r ∈ rs, r.neg = [] := by
 have hok := groundO_some h
 rw [groundO, if_pos hok, groundR] at h
 split at h
 ·cases h
  intro r hr
  have hv_ := List.mem_flatMap.1 hr
  obtain ⟨rel, hrel, hr⟩ := hv_
  rw [rulesR] at hr
  split at hr
  ·simp at hr
  ·rename_i L hL
   rw [rulesC, List.mem_flatMap] at hr
   obtain ⟨i, hi, hr⟩ := hr
   rw [List.mem_range] at hi
   have hv_ := at_some (l := L) (i := i) hi
   obtain ⟨c, hc⟩ := hv_
   have ec : L.getD i [] = c := by rw [List.getD_eq_getElem?_getD, hc]; rfl
   rw [ec, rulesW, List.mem_filterMap] at hr
   obtain ⟨w, -, hr⟩ := hr
   rw [ruleAt] at hr
   split at hr
   ·cases hr
    show negF _ c = []
    rw [negF, List.map_eq_nil_iff, List.filter_eq_nil_iff]
    intro g hg
    rw [decide_eq_true_eq]
    exact hpos.2 rel hrel g (Gl.cl_all _ hL c (mem_at hc) g hg).1
   ·cases hr
 ·cases h
theorem next_pos {rs : List Ru} (h : ∀ r ∈ rs, r.neg = []) (S neg : List F) : nextF rs S neg = nextF rs S [] := by
 rw [nextF, nextF]
 refine congrArg (fun l => ascF (l.map Ru.head)) (List.filter_congr fun r hr => decide_eq_decide.2 ?_)
 rw [fires, fires, h r hr]
 exact ⟨fun k => ⟨k.1, fun _ hx => nomatch hx⟩, fun k => ⟨k.1, fun _ hx => nomatch hx⟩⟩
def fsD (L : List F) : D := .sl 2 ((L.map F.fc).map Fc.d)
noncomputable def stD (rs : List Ru) (n : Nat) : List D := (List.range (n + 1)).map fun i => fsD (stF rs i)
theorem stD_succ (rs : List Ru) (n : Nat) : stD rs (n + 1) = stD rs n ++ [fsD (stF rs (n + 1))] := by
 rw [stD, List.range_succ, List.map_append]; rfl
theorem stD_len (rs : List Ru) (n : Nat) : (stD rs n).length = n + 1 := by rw [stD, List.length_map, List.length_range]
theorem stD_last (rs : List Ru) (n : Nat) : (stD rs n)[n]? = some (fsD (stF rs n)) := by
 rw [stD, List.getElem?_map, List.getElem?_range (by omega)]; rfl
theorem Rows.val {μ : Mem} {es : Nat} {ds : List D} {ys : List Value} (h : Rows μ es ds ys) {i : Nat} {d : D} (hd : ds[i]? = some d) : ∃ v, ys[i]? = some v ∧ RepV μ d v := by
 have hl := (List.getElem?_eq_some_iff.1 hd).1
 have hv_ := at_some (l := ys) (i := i) (by have := h.len; omega)
 obtain ⟨v, hv⟩ := hv_
 exact ⟨v, hv, h.atI hd hv⟩
noncomputable def leastM (p : Pg) (u : List Tm) : Option (List F) := (posRules p u).map fun rs => lfp rs []
noncomputable def optSt (P : List F → Value → Prop) (o : Option (List F)) (v : Value) : Prop := match o with
 | none => v = .tuple #[.slice none 0 0, .int .i64 0, .bool false]
 | some y => ∃ tv, ∃ n : Nat, v = .tuple #[tv, .int .i64 n, .bool true] ∧ P y tv
theorem leastM_ok {p : Pg} {u : List Tm} {y : List F} (h : leastM p u = some y) : p.Ok ∧ FsOk p y ∧ y.length ≤ 2000 ∧ Asc3 cmpF y := by
 cases hP : posRules p u with
 | none => rw [leastM, hP] at h; cases h
 | some rs =>
  rw [leastM, hP] at h
  cases h
  rw [posRules] at hP
  split at hP
  ·rename_i hpos
   have hv_ := groundO_ok hP
   obtain ⟨h1, h2⟩ := hv_
   refine ⟨hpos.1, lfp_ok h2 (fun _ h => nomatch h), ?_, lfp_asc _ _⟩
   have := lfp_len rs []
   simp only [List.length_nil] at this
   show (lfp rs []).length ≤ 2000
   omega
  ·cases hP
section
variable {μ : Mem}
set_option maxHeartbeats 1000000 in
theorem l19Stages_spec {rs : List Ru} {b3 : Option Addr} {c3 : Nat} (hr : Sl μ 6 b3 rs.length ((rs.map Ru.rd).map RuD.d)) (hn : rs.length ≤ 2000) :
  Spec Tryz.prog 225 [.slice b3 rs.length c3] μ fun v μ' => ∃ n, LastSt rs n ∧ RepV μ' (.sl 1 (stD rs n)) v := by
 refine Spec.mk Tryz.func225 (by kernel_rfl) ?_
 intro r6 μ1 hle1 hno1 hat1 r7
 refine loop_intro (fun z : Nat × Option Nat × Nat × List Value × Mem => (∀ m, m < z.1 → nextF rs (stF rs m) [] ≠ stF rs m) ∧ μ.Le z.2.2.2.2 ∧ Rows z.2.2.2.2 1 (stD rs z.1) z.2.2.2.1)
  (fun (_, bo, co, ys, μ') => ⟨[(0, .val (.slice b3 rs.length c3)), (3, .row 1 bo ys.length co)], [(1, some (.row bo co 52 1 ys))], 2, μ', Mem.nil⟩) (fun z => rs.length + 1 - z.1)
  (0, some r7, 1, _, μ1) ⟨(fun m h => by omega), hle1, Rows.one (d := fsD []) (Rows.sl (μ := μ1) (ds := []) hat1 .nil (Nat.zero_le _)) rfl⟩ (fun (_, _, _, _, _) => ⟨rfl, rfl⟩) ⟨⟨rfl, rfl, trivial⟩, ⟨rfl, trivial⟩, rfl, rfl⟩ ?_
 rintro ⟨n, bo, co, ys, μ'⟩ ⟨hne, hle, hrows⟩
 dsimp only at hne hle hrows
 have hyl := hrows.len
 rw [stD_len] at hyl
 have hsl := stF_lt hne
 have hrl := (stF_red rs n).len
 have hv_ := hrows.val (stD_last rs n)
 obtain ⟨w, hw, hwr⟩ := hv_
 have hwr : FsV μ' (stF rs n) w := hwr
 have hv_ := FsV.sl hwr
 obtain ⟨b5, c5, rfl, -, hso⟩ := hv_
 refine num64 (by omega) (by omega) ?_
 refine rel_intro n (by omega) (by omega) (get_intro _ hw ?_)
 refine call_plain (l19Next_spec (neg := []) (b2 := none) (c2 := 0) (hr.mono hle) (by omega) hso slF_nil) fun v4 μ4 hle4 hR4 => ?_
 have hv_ := FsV.sl hR4
 obtain ⟨b6, c6, rfl, -, -⟩ := hv_
 refine ifd (fun he => ?_) (fun he => ?_)
 ·refine ret_frz [1] fun μ5 hle5 hno5 hat5 => .inl ⟨n, ⟨(asc_same cmpF_ord (stF_red rs n).asc (nextF_asc rs _ _) (stF_red rs n).sub (by omega)).symm, hne⟩, ?_⟩
  exact Rows.sl hat5 (hrows.mono (hle4.trans hle5)) (Nat.le_trans (m := 100000) (by omega) (by decide))
 ·intro r25
  refine grow_intro ?_ ?_ fun b' c' _ => ?_
  ·show (ys.length + 1) * 24 ≤ _; omega
  ·exact Nat.le_trans (m := 100000) (show ys.length + 1 ≤ _ by omega) (by decide)
  have hne' : ∀ m, m < n + 1 → nextF rs (stF rs m) [] ≠ stF rs m := fun m hm => by
   rcases Nat.lt_or_ge m n with k | k
   ·exact hne m k
   ·obtain rfl : m = n := by omega
    intro e
    rw [e] at he
    exact he rfl
  have hs2 := stF_lt hne'
  have hr2 := (stF_red rs (n + 1)).len
  refine ⟨(n + 1, b', c', _, μ4), ⟨hne', hle.trans hle4, ?_⟩, by dsimp only; omega, ⟨⟨rfl, rfl, trivial⟩, ⟨rfl, trivial⟩, rfl, rfl⟩⟩
  dsimp only
  rw [stD_succ]
  exact (hrows.mono hle4).append (Rows.one (d := fsD (stF rs (n + 1))) hR4 rfl)
set_option maxHeartbeats 1000000 in
theorem stages_spec {rs : List Ru} {b3 : Option Addr} {c3 : Nat} (hr : Sl μ 6 b3 rs.length ((rs.map Ru.rd).map RuD.d)) (hn : rs.length ≤ 2000) (hneg : ∀ r ∈ rs, r.neg = []) :
  Spec Tryz.prog 185 [.slice b3 rs.length c3] μ fun v μ' => ∃ n, LastSt rs n ∧ RepV μ' (.sl 1 (stD rs n)) v := by
 refine Spec.mk Tryz.func185 (by kernel_rfl) ?_
 intro r6 μ1 hle1 hno1 hat1 r7
 refine loop_intro (fun z : Nat × Option Nat × Nat × List Value × Mem => (∀ m, m < z.1 → nextF rs (stF rs m) [] ≠ stF rs m) ∧ μ.Le z.2.2.2.2 ∧ Rows z.2.2.2.2 1 (stD rs z.1) z.2.2.2.1)
  (fun (_, bo, co, ys, μ') => ⟨[(0, .val (.slice b3 rs.length c3)), (3, .row 1 bo ys.length co)], [(1, some (.row bo co 52 1 ys))], 2, μ', Mem.nil⟩) (fun z => rs.length + 1 - z.1)
  (0, some r7, 1, _, μ1) ⟨(fun m h => by omega), hle1, Rows.one (d := fsD []) (Rows.sl (μ := μ1) (ds := []) hat1 .nil (Nat.zero_le _)) rfl⟩ (fun (_, _, _, _, _) => ⟨rfl, rfl⟩) ⟨⟨rfl, rfl, trivial⟩, ⟨rfl, trivial⟩, rfl, rfl⟩ ?_
 rintro ⟨n, bo, co, ys, μ'⟩ ⟨hne, hle, hrows⟩
 dsimp only at hne hle hrows
 have hyl := hrows.len
 rw [stD_len] at hyl
 have hsl := stF_lt hne
 have hrl := (stF_red rs n).len
 have hv_ := hrows.val (stD_last rs n)
 obtain ⟨w, hw, hwr⟩ := hv_
 have hwr : FsV μ' (stF rs n) w := hwr
 have hv_ := FsV.sl hwr
 obtain ⟨b5, c5, rfl, -, hso⟩ := hv_
 refine num64 (by omega) (by omega) ?_
 refine rel_intro n (by omega) (by omega) (get_intro _ hw ?_)
 refine call_plain (consequences_spec (hr.mono hle) (by omega) (stF_red rs n).asc (by omega) hso) fun v4 μ4 hle4 hR4 => ?_
 rw [next_pos hneg] at hR4
 have hv_ := FsV.sl hR4
 obtain ⟨b6, c6, rfl, -, hs6⟩ := hv_
 refine num64 (by omega) (by omega) ?_
 refine rel_intro n (by omega) (by omega) (get_intro _ hw ?_)
 refine call_gives (sameFacts_spec hs6 (hso.mono hle4)) ?_
 refine ifd (fun he => ?_) (fun he => ?_)
 ·refine ret_frz [1] fun μ5 hle5 hno5 hat5 => .inl ⟨n, ⟨he, hne⟩, ?_⟩
  exact Rows.sl hat5 (hrows.mono (hle4.trans hle5)) (Nat.le_trans (m := 100000) (by omega) (by decide))
 ·intro r25
  refine grow_intro ?_ ?_ fun b' c' _ => ?_
  ·show (ys.length + 1) * 24 ≤ _; omega
  ·exact Nat.le_trans (m := 100000) (show ys.length + 1 ≤ _ by omega) (by decide)
  have hne' : ∀ m, m < n + 1 → nextF rs (stF rs m) [] ≠ stF rs m := fun m hm => by
   rcases Nat.lt_or_ge m n with k | k
   ·exact hne m k
   ·obtain rfl : m = n := by omega
    exact he
  have hs2 := stF_lt hne'
  have hr2 := (stF_red rs (n + 1)).len
  refine ⟨(n + 1, b', c', _, μ4), ⟨hne', hle.trans hle4, ?_⟩, by dsimp only; omega, ⟨⟨rfl, rfl, trivial⟩, ⟨rfl, trivial⟩, rfl, rfl⟩⟩
  dsimp only
  rw [stD_succ]
  exact (hrows.mono hle4).append (Rows.one (d := fsD (stF rs (n + 1))) hR4 rfl)
theorem stD_elem {rs : List Ru} {n : Nat} {b : Option Addr} (h : Sl μ 1 b (n + 1) (stD rs n)) : ∃ ad, ∃ q : Option Addr × Nat, ElemAt μ b (n + 1) 1 n ad [.slice q.1 (stF rs n).length q.2] ∧ FsV μ (stF rs n) (.slice q.1 (stF rs n).length q.2) := by
 have hv_ := h.get n (fsD (stF rs n)) (stD_last rs n)
 obtain ⟨ad, cs, h1, h2⟩ := hv_
 have h3 : Rep μ (fsD (stF rs n)) cs := h2
 have hl := Rep.len _ _ h3
 match cs, hl with
 | [v], _ =>
  have h4 : FsV μ (stF rs n) v := h3
  have hv_ := FsV.sl h4
  obtain ⟨b5, c5, rfl, -, _⟩ := hv_
  exact ⟨ad, (b5, c5), h1, h4⟩
theorem stD_inv {rs : List Ru} {n : Nat} {v : Value} (h : RepV μ (.sl 1 (stD rs n)) v) : ∃ b c, v = .slice b (n + 1) c ∧ Sl μ 1 b (n + 1) (stD rs n) := by
 have hv_ := Rep.sl h
 obtain ⟨b, c, rfl, hs⟩ := hv_
 have hs2 := hs.1
 rw [stD_len] at hs hs2
 exact ⟨b, c, by rw [stD_len], hs⟩
theorem l19All_spec {p : Pg} {u : List Tm} {v : Value} {ub : Option Addr} {uc : Nat} (hp : RepV μ p.d v) (hw : p.d.wd) (hu : Sl μ 4 ub u.length (u.map Tm.d)) (hwu : D.wds (u.map Tm.d)) :
  Spec Tryz.prog 181 [v, .slice ub u.length uc] μ fun v μ' => match posRules p u with
   | none => v = .tuple #[.slice none 0 0, .slice none 0 0, .bool false]
   | some rs => ∃ t1 t2, v = .tuple #[t1, t2, .bool true] ∧ RsV μ' rs t1 ∧ ∃ n, LastSt rs n ∧ RepV μ' (.sl 1 (stD rs n)) t2 := by
 have hp0 := hp
 have hv_ := Pg.inv hp
 obtain ⟨q, rfl, hrl⟩ := hv_
 refine Spec.mk Tryz.func181 (by kernel_rfl) ?_
 intro r2
 refine call_plain (spec_IsPositive_spec hp0 hw) fun v1 μ1 hle1 hR => ?_
 obtain rfl := hR
 refine ifnd (fun h => ret_plain (by rw [posRules, if_neg h])) (fun hpos => ?_)
 refine call_plain (spec_GroundRules_spec (hp0.mono hle1) hw (hu.mono hle1) hwu) fun v2 μ2 hle2 hR => ?_
 rw [posRules, if_pos hpos]
 cases hL : groundO p u with
 | none =>
  rw [hL] at hR
  obtain rfl := hR
  exact if_intro (fun _ => ret_plain rfl) (fun h => nomatch h)
 | some rs =>
 rw [hL] at hR
 obtain ⟨tv, rfl, hR⟩ := hR
 have hR : RsV μ2 rs tv := hR
 have hv_ := RsV.sl hR
 obtain ⟨b1, c1, rfl, hrs⟩ := hv_
 refine if_intro (fun h => nomatch h) (fun _ => ?_)
 refine call_plain (l19Stages_spec hrs (groundO_ok hL).1) fun v3 μ3 hle3 hR3 => ?_
 exact ret_plain ⟨_, _, rfl, RepV.mono hle3 hR, hR3⟩
theorem spec_LeastModel_spec {p : Pg} {u : List Tm} {v : Value} {ub : Option Addr} {uc : Nat} (hp : RepV μ p.d v) (hw : p.d.wd) (hu : Sl μ 4 ub u.length (u.map Tm.d)) (hwu : D.wds (u.map Tm.d)) :
  Spec Tryz.prog 116 [v, .slice ub u.length uc] μ fun v μ' => optSt (fun y tv => FsV μ' y tv) (leastM p u) v := by
 have hp0 := hp
 have hv_ := Pg.inv hp
 obtain ⟨q, rfl, hrl⟩ := hv_
 refine Spec.mk Tryz.func116 (by kernel_rfl) ?_
 intro r2
 refine call_plain (l19All_spec hp0 hw hu hwu) fun v1 μ1 hle1 hR => ?_
 cases hP : posRules p u with
 | none =>
  rw [hP] at hR
  obtain rfl := hR
  refine if_intro (fun _ => ret_plain (by rw [leastM, hP]; rfl)) (fun h => nomatch h)
 | some rs =>
 rw [hP] at hR
 obtain ⟨t1, t2, rfl, hR1, n, hlast, hR2⟩ := hR
 have hL : leastM p u = some (lfp rs []) := by rw [leastM, hP]; rfl
 have hk := leastM_ok hL
 have hv_ := stD_inv hR2
 obtain ⟨b2, c2, rfl, hs2⟩ := hv_
 have hsl := stF_lt hlast.2
 rw [← hlast.eq] at hL hk
 refine if_intro (fun h => nomatch h) (fun _ => ?_)
 refine num64 (by omega) (by omega) ?_
 have hv_ := stD_elem hs2
 obtain ⟨ad, q2, hel, hfs⟩ := hv_
 rw [show (((n + 1 : Nat) : Int) - 1) = (n : Int) by omega]
 refine elem_intro hel ?_
 have hv_ := FsV.sl hfs
 obtain ⟨b4, c4, e, -, hs4⟩ := hv_
 have hv_ := Value.slice.inj e
 obtain ⟨e1, _, e3⟩ := hv_
 rw [← e1] at hs4
 refine call_plain (l18Copy_spec hs4 (by omega) fun f hf => Nat.le_trans (hk.2.1.len hk.1 f hf) (by decide)) fun v4 μ4 hle4 hR4 => ?_
 refine num64 (by omega) (by omega) ?_
 refine ret_plain ?_
 rw [hL]
 exact ⟨_, n, by rw [show (((n + 1 : Nat) : Int) - 1) = (n : Int) by omega], hR4⟩
theorem impl_LeastModel_spec {p : Pg} {u : List Tm} {v : Value} {ub : Option Addr} {uc : Nat} (hp : RepV μ p.d v) (hu : Sl μ 4 ub u.length (u.map Tm.d)) :
  Spec Tryz.prog 120 [v, .slice ub u.length uc] μ fun v μ' => optSt (fun y tv => Fresh μ μ' (fsD y) tv) (leastM p u) v := by
 have hp0 := hp
 have hv_ := Pg.inv hp
 obtain ⟨q, rfl, hrl⟩ := hv_
 refine Spec.mk Tryz.func120 (by kernel_rfl) ?_
 intro r2
 refine call_plain (positiveRules_spec hp0 hu) fun v1 μ1 hle1 hR => ?_
 cases hP : posRules p u with
 | none =>
  rw [hP] at hR
  obtain rfl := hR
  refine if_intro (fun _ => ret_plain (by rw [leastM, hP]; rfl)) (fun h => nomatch h)
 | some rs =>
 rw [hP] at hR
 obtain ⟨tv, rfl, hR⟩ := hR
 have hR : RsV μ1 rs tv := hR
 have hv_ := RsV.sl hR
 obtain ⟨b1, c1, rfl, hrs⟩ := hv_
 have hL : leastM p u = some (lfp rs []) := by rw [leastM, hP]; rfl
 have hk := leastM_ok hL
 have hpg : p.Pos ∧ groundO p u = some rs := by
  rw [posRules] at hP
  split at hP
  ·rename_i k; exact ⟨k, hP⟩
  ·cases hP
 refine if_intro (fun h => nomatch h) (fun _ => ?_)
 refine call_plain (stages_spec hrs (groundO_ok hpg.2).1 (pos_neg hpg.1 hpg.2)) fun v2 μ2 hle2 hR2 => ?_
 obtain ⟨n, hlast, hR2⟩ := hR2
 have hv_ := stD_inv hR2
 obtain ⟨b2, c2, rfl, hs2⟩ := hv_
 have hsl := stF_lt hlast.2
 rw [← hlast.eq] at hL hk
 refine num64 (by omega) (by omega) ?_
 have hv_ := stD_elem hs2
 obtain ⟨ad, q2, hel, hfs⟩ := hv_
 rw [show (((n + 1 : Nat) : Int) - 1) = (n : Int) by omega]
 refine elem_intro hel ?_
 refine call_plain (copyFacts_spec hfs (by omega) fun f hf => Nat.le_trans (hk.2.1.len hk.1 f hf) (by decide)) fun v4 μ4 hle4 hR4 => ?_
 refine num64 (by omega) (by omega) ?_
 refine ret_plain ?_
 rw [hL]
 exact ⟨_, n, by rw [show (((n + 1 : Nat) : Int) - 1) = (n : Int) by omega], hR4.mono (hle1.trans hle2) (Mem.Le.refl _)⟩
end
end Go.Vx
namespace Go.Vx
open Go.Proofs Classical
noncomputable def specL (L : List F) (name : ByteArray) (k : Nat) (t : T) (i : Nat) : List F := ((L.take i).filter fun f => decide (f.rel = name ∧ f.args[k]? = some t)).map fun f => ⟨name, f.args.eraseIdx k⟩
theorem specL_succ {L : List F} {name : ByteArray} {k : Nat} {t : T} {i : Nat} {f : F} (h : L[i]? = some f) : specL L name k t (i + 1) = specL L name k t i ++ (if f.rel = name ∧ f.args[k]? = some t then [⟨name, f.args.eraseIdx k⟩] else []) := by
 rw [specL, List.take_add_one, h, Option.toList_some, List.filter_append, List.map_append, ← specL]
 congr 1
 by_cases e : f.rel = name ∧ f.args[k]? = some t
 ·rw [if_pos e, List.filter_cons_of_pos (by simpa using e)]; rfl
 ·rw [if_neg e, List.filter_cons_of_neg (by simpa using e)]; rfl
theorem specL_len (L : List F) (name : ByteArray) (k : Nat) (t : T) (i : Nat) : (specL L name k t i).length ≤ i := by
 rw [specL, List.length_map]
 exact Nat.le_trans (List.length_filter_le _ _) (List.length_take_le _ _)
theorem specL_mem {L : List F} {name : ByteArray} {k : Nat} {t : T} {i : Nat} {f : F} (h : f ∈ specL L name k t i) : ∃ g ∈ L, f.args = g.args.eraseIdx k := by
 have hv_ := List.mem_map.1 h
 obtain ⟨g, hg, rfl⟩ := hv_
 exact ⟨g, List.mem_of_mem_take (List.mem_filter.1 hg).1, rfl⟩
def SpecP (p : Pg) (name : ByteArray) (arg : Int) (t : Tm) : Prop := (∃ (k : Nat) (r : Rl), findR p name = (k : Int) ∧ p.rels[k]? = some r ∧ 0 ≤ arg ∧ arg < r.arity) ∧ t.Ok
noncomputable def specialM (p : Pg) (u : List Tm) (name : ByteArray) (arg : Int) (t : Tm) : Option (List F) := if SpecP p name arg t then (leastM p u).map fun L => ascF (specL L name arg.toNat t.toT L.length) else none
theorem specialM_B {p : Pg} {u : List Tm} {name : ByteArray} {arg : Int} {t : Tm} {y : List F} (h : specialM p u name arg t = some y) : FsB y ∧ y.length ≤ 2000 := by
 rw [specialM] at h
 split at h
 ·cases hL : leastM p u with
  | none => rw [hL] at h; cases h
  | some L =>
   rw [hL] at h
   cases h
   have hk := leastM_ok hL
   refine ⟨fun f hf => ?_, ?_⟩
   ·rw [mem_ascF] at hf
    have hv_ := specL_mem hf
    obtain ⟨g, hg, e⟩ := hv_
    have h1 := hk.2.1 g hg
    have h2 := h1.len hk.1
    have h3 : g.fc.f.args.length ≤ 4 ∧ ∀ a ∈ g.fc.f.args, a.ok := ⟨by rw [F.fc_f]; exact hk.2.1.len hk.1 g hg, fun a ha => (h1.lift.2 a ha).1⟩
    rw [F.fc_f] at h3
    rw [e]
    exact ⟨Nat.le_trans (List.length_eraseIdx_le _ _) h3.1, fun a ha => h3.2 a (List.mem_of_mem_eraseIdx ha)⟩
   ·show (ascF _).length ≤ 2000
    have := ascF_len (specL L name arg.toNat t.toT L.length)
    have := specL_len L name arg.toNat t.toT L.length
    omega
 ·cases h
theorem fits_arity {p : Pg} (hp : p.Ok) {name : ByteArray} {k : Nat} {r : Rl} (h : findR p name = (k : Int)) (hr : p.rels[k]? = some r) {f : F} (hf : FactFits p f.fc) (e : f.rel = name) : r.arity = (f.args.length : Int) := by
 obtain ⟨⟨j, r2, h1, h2, h3⟩, _⟩ := hf
 have h1 : relAt p f.rel = (j : Int) := h1
 rw [findR, if_pos hp, ← e, h1] at h
 obtain rfl : j = k := by omega
 rw [hr] at h2; cases h2
 rw [h3]
 show (((f.args.map T.tm).length : Nat) : Int) = _
 rw [List.length_map]
section
variable {μ : Mem}
theorem F.argsV {f : F} {s : Value} {b : Option Addr} {n c : Nat} (h : RepV μ f.fc.d (.agg #[s, .slice b n c])) : RepV μ (.sl 4 ((f.args.map T.tm).map Tm.d)) (.slice b n c) := by
 have h2 : ∃ cs, Value.agg #[s, .slice b n c] = .agg (List.toArray cs) ∧ Rep μ f.fc.d cs := by rw [Fc.d_eq] at h ⊢; exact h
 obtain ⟨cs, e, h3⟩ := h2
 rw [Fc.d_eq] at h3
 obtain ⟨a0, t0, rfl, h0, h3⟩ := h3
 have h0 : a0 = [.string f.fc.rel] := h0
 subst h0
 obtain ⟨a1, t1, rfl, h1, h3⟩ := h3
 obtain rfl : t1 = [] := h3
 have hv_ := one_of (Rep.len _ _ h1)
 obtain ⟨v1, rfl⟩ := hv_
 have e2 : v1 = .slice b n c := by
  injection e with e
  have := congrArg Array.toList e
  simp at this
  exact this.2.symm
 rw [← e2]
 exact h1
theorem RowAt.src {b : Option Nat} {cap es : Nat} {ys : List Value} (h : RowAt μ b cap es ys) : SrcAt μ (b.map fun r => ⟨r, 0, none⟩) ys.length es ys := by
 cases b with
 | none =>
  obtain rfl : ys = [] := h
  exact ⟨rfl, (fun _ h => nomatch h), .inl rfl⟩
 | some r =>
  obtain ⟨h1, h2, arr, ty, h3, h4, h5⟩ := h
  refine ⟨rfl, h2, .inr ⟨_, rfl, fun j v hj => ?_⟩⟩
  have hlt := (List.getElem?_eq_some_iff.1 hj).1
  have hf : (ys.flatMap vcells).length = ys.length * es := flat_len ys fun y hy => (h2 y hy).1
  rw [← h5, List.getElem?_take, if_pos (by omega)] at hj
  rw [Addr.add_lit', Nat.zero_add]
  simp only [Mem.cell, h3]
  simpa using hj
theorem Grown.sorted {μ μ1 μ2 μ3 : Mem} {L : List F} {ys : List Value} {v : Value} {l' : List FE} (hgr : Grown 2 μ μ1 ((L.map F.fc).map Fc.d) ys) (hz : ∀ y ∈ ys, (vcells y).length = 2 ∧ ∀ u ∈ vcells y, u.oneCell' = true) (h0 : μ.Le μ1) (hle1 : μ1.Le μ2) (hle2 : μ2.Le μ3) (h1 : ∃ dl : List FE, dl.Perm (L.zip ys) ∧ l'.Sublist dl) (h2 : l'.map Prod.fst = ascF L) (h3 : NewRow μ2 μ3 (l'.map Prod.snd) v) : Fresh μ μ3 (.sl 2 (((ascF L).map F.fc).map Fc.d)) v := by
 obtain ⟨g, ho, hg, hnew⟩ := hgr
 obtain ⟨dl, p1, p2⟩ := h1
 obtain ⟨b, c, gr, rfl, hro, hgr, hn⟩ := h3
 have e : ∀ l : List F, (l.map F.fc).map Fc.d = l.map fun f => f.fc.d := fun l => by rw [List.map_map]; rfl
 rw [e] at ho
 have hv_ := Prs.zip ho hz
 obtain ⟨hP, -, -⟩ := hv_
 have hv_ := Prs.sub p2 (Prs.perm p1.symm hP)
 obtain ⟨g', hg', hP'⟩ := hv_
 have ho' := hP'.own
 have e2 : (l'.map fun p : FE => p.1.fc.d) = ((ascF L).map F.fc).map Fc.d := by rw [e, ← h2, List.map_map]; rfl
 rw [e2] at ho'
 exact Fresh.ofRow (b := some b) (cap := c) ho' (hg'.trans (hg.trans hle1)) (fun x hx => hnew x fun k => by
  cases hx' : g' x with
  | none => exact hx hx'
  | some o => have := hg' x o hx'; rw [k] at this; cases this) (h0.trans hle1) hle2 (fun r hr => by
   cases hr
   obtain ⟨cs, hc, -⟩ := hro
   exact hn b (by rw [hc]; simp)) (hro.rowAt hgr) hro.len
set_option maxHeartbeats 1000000 in
theorem spec_SpecialFacts_spec {p : Pg} {u : List Tm} {name : ByteArray} {arg : Int} {t : Tm} {v w : Value} {ub : Option Addr} {uc : Nat} (hp : RepV μ p.d v) (hw : p.d.wd) (hu : Sl μ 4 ub u.length (u.map Tm.d)) (hwu : D.wds (u.map Tm.d)) (ht : RepV μ t.d w) (hwt : t.d.wd) :
  Spec Tryz.prog 51 [v, .slice ub u.length uc, .string name, .int .i64 arg, w] μ fun v μ' => optFs (fun y tv => FsV μ' y tv) (specialM p u name arg t) v := by
 have hp0 := hp
 have hv_ := Pg.inv hp
 obtain ⟨q, rfl, hrl⟩ := hv_
 have ht0 := ht
 have hv_ := Tm.invV ht
 obtain ⟨qt, rfl⟩ := hv_
 refine Spec.mk Tryz.func51 (by kernel_rfl) ?_
 intro r5 r9
 refine call_plain (spec_LeastModel_spec hp0 hw hu hwu) fun v1 μ1 hle1 hR => ?_
 cases hL : leastM p u with
 | none =>
  rw [hL] at hR
  obtain rfl := hR
  have e : specialM p u name arg t = none := by rw [specialM, hL]; split <;> rfl
  refine call_plain (spec_FindRel_spec (hp0.mono hle1) hw) fun v2 μ2 hle2 hR2 => ?_
  obtain rfl := hR2
  exact if_intro (fun _ => ret_plain (by rw [e]; rfl)) (fun h => nomatch h)
 | some L =>
 rw [hL] at hR
 obtain ⟨tv, n, rfl, hR⟩ := hR
 refine call_plain (spec_FindRel_spec (hp0.mono hle1) hw) fun v2 μ2 hle2 hR2 => ?_
 obtain rfl := hR2
 refine if_intro (fun h => nomatch h) (fun _ => ?_)
 refine ifd (fun h => ?_) (fun h => ?_)
 ·refine ret_plain ?_
  rw [specialM, if_neg]
  ·rfl
  ·rintro ⟨⟨k, r, h1, -⟩, -⟩
   omega
 have hv_ := Int.eq_ofNat_of_zero_le (show 0 ≤ findR p name by omega)
 obtain ⟨k, hk⟩ := hv_
 have hk0 := leastM_ok hL
 have hfind : findR p name = relAt p name := by rw [findR, if_pos hk0.1]
 have hv_ := relAt_get (p := p) (s := name) (by omega)
 obtain ⟨k', r, hk', hr, -⟩ := hv_
 obtain rfl : k = k' := by omega
 have hro := hk0.1.2 _ r hr
 have har0 := hro.ar0
 have har4 := hro.ar4
 have hv_ := Rl.elemA (hrl.mono (hle1.trans hle2)) hr
 obtain ⟨adr, qr, helr, hrr, -⟩ := hv_
 rw [hk]
 refine elem_intro helr ?_
 refine num64 (by omega) (by omega) ?_
 refine call_gives (l01In_spec _ _ _ _) ?_
 refine ifnd (fun h => ?_) (fun hin => ?_)
 ·refine ret_plain ?_
  rw [specialM, if_neg]
  ·rfl
  ·rintro ⟨⟨k2, r2, h1, h2, h3, h4⟩, -⟩
   obtain rfl : k2 = k := by omega
   rw [hr] at h2; cases h2
   exact h ⟨h3, by omega⟩
 have htr := RepV.mono (hle1.trans hle2) ht0
 refine call_gives (spec_TermOk_spec t htr hwt) ?_
 refine ifnd (fun h => ?_) (fun hok => ?_)
 ·refine ret_plain ?_
  rw [specialM, if_neg fun k => h k.2]
  rfl
 have hSP : SpecP p name arg t := ⟨⟨k, r, hk, hr, hin.1, by omega⟩, hok⟩
 have hres : specialM p u name arg t = some (ascF (specL L name arg.toNat t.toT L.length)) := by rw [specialM, if_pos hSP, hL]; rfl
 rw [hres]
 have hv_ := hok.lift
 obtain ⟨x, hx, rfl⟩ := hv_
 rw [T.toT_tm] at hres ⊢
 have hv_ := Int.eq_ofNat_of_zero_le hin.1
 obtain ⟨a, rfl⟩ := hv_
 rw [Int.toNat_natCast] at hres ⊢
 have hv_ := FsV.sl hR
 obtain ⟨bL, cL, rfl, -, hsL⟩ := hv_
 intro r52
 refine loop_frz (fun z : Nat × Option Addr × Nat × Mem => z.1 ≤ L.length ∧ μ2.Le z.2.2.2 ∧ FsV z.2.2.2 (ascF (specL L name a x z.1)) (.slice z.2.1 (ascF (specL L name a x z.1)).length z.2.2.1))
  (fun (i, b4, c4, μ') => ⟨[(2, .val (.string name)), (3, .val (.int .i64 a)), (9, .loc 1 r9 0), (16, .val (.slice b4 (ascF (specL L name a x i)).length c4)), (53, .val (.slice bL L.length cL)), (54, .val (.int .i64 L.length)), (55, .val (.int .i64 i))], [(1, some (.cells r9 [.val (.int .i64 x.tm.kind), .val (.int .i64 x.tm.num), .val (.string x.tm.name), .val (.slice qt.1 x.tm.args.length qt.2)] 38))], 2, μ', Mem.nil⟩) (fun z => L.length - z.1) [2]
  (fun (_, _, _, _) => ⟨rfl, rfl⟩) (fun μ3 hle3 hno3 hat3 => ?_) ?_
 ·have e0 : ascF (specL L name a x 0) = [] := by simp [specL, ascF_id (L := []) List.Pairwise.nil]
  refine ⟨(0, some ⟨r52, 0, none⟩, 0, μ3), ⟨Nat.zero_le _, hle3, ?_⟩, ⟨rfl, rfl, rfl, ?_, rfl, rfl, rfl, trivial⟩, ⟨rfl, trivial⟩, rfl, rfl⟩
  ·dsimp only; rw [e0]; exact FsV.nil _ _
  ·dsimp only; rw [e0]; rfl
 rintro ⟨i, b4, c4, μ3⟩ ⟨hi, hle3, hout⟩
 dsimp only at hi hle3 hout
 have hlen : (ascF (specL L name a x i)).length ≤ i := Nat.le_trans (ascF_len _) (specL_len _ _ _ _ _)
 refine ifd (fun hlt => ?_) (fun hlt => ?_)
 rotate_left
 ·obtain rfl : i = L.length := by omega
  have hv_ := FsV.sl hout
  obtain ⟨b5, c5, e, -, hs5⟩ := hv_
  have hv_ := Value.slice.inj e
  obtain ⟨rfl, _, rfl⟩ := hv_
  refine call_plain (l18Copy_spec hs5 (by omega) fun f hf => Nat.le_trans ((specialM_B hres).1 f hf).1 (by decide)) fun v4 μ4 hle4 hR4 => ?_
  exact ret_plain ⟨_, rfl, hR4⟩
 have hv_ := at_some (l := L) (i := i) (by omega)
 obtain ⟨f, hf⟩ := hv_
 have hv_ := F.elem (hsL.mono (hle2.trans hle3)) hf
 obtain ⟨ad, p3, hel, hrf, hsf⟩ := hv_
 have hsucc := specL_succ (name := name) (k := a) (t := x) hf
 refine elem_intro hel ?_
 intro r18
 refine ifd (fun hn => ?_) (fun hn => ?_)
 ·have har := fits_arity hk0.1 hk hr (hk0.2.1 f (mem_at hf)) hn
  have hv_ := at_some (l := f.args) (i := a) (by omega)
  obtain ⟨y, hy⟩ := hv_
  have hv_ := T.elemL hsf hy
  obtain ⟨ad2, p2, hel2, hry⟩ := hv_
  refine elem_intro hel2 ?_
  refine call_gives (l02Same_spec y x hry (RepV.mono hle3 htr)) ?_
  refine ifd (fun he => ?_) (fun he => ?_)
  ·rw [if_pos ⟨hn, by rw [hy, he]⟩] at hsucc
   have hl4 := (specialM_B hres).1
   have hal := hk0.2.1.len hk0.1 f (mem_at hf)
   refine call_plain (l34Without_spec (F.argsV hrf) (by omega) (by omega)) fun v5 μ5 hle5 hR5 => ?_
   have hv_ := Rep.sl hR5
   obtain ⟨b5, c5, rfl, -⟩ := hv_
   rw [List.length_map, List.length_map] at hR5 ⊢
   have hnew : RepV μ5 (F.mk name (f.args.eraseIdx a)).fc.d (.agg #[.string name, .slice b5 (f.args.eraseIdx a).length c5]) := F.mkV (f := ⟨name, f.args.eraseIdx a⟩) hR5
   refine call_plain (l18Insert_spec (ascF_asc _) (RepV.mono hle5 hout) hnew (by omega)) fun v6 μ6 hle6 hR6 => ?_
   have e : insF (ascF (specL L name a x i)) ⟨name, f.args.eraseIdx a⟩ = ascF (specL L name a x (i + 1)) := ascF_congr fun z => by
    rw [List.mem_cons, mem_ascF, hsucc, List.mem_append, List.mem_singleton]; exact Or.comm
   rw [e] at hR6
   have hv_ := FsV.sl hR6
   obtain ⟨b7, c7, rfl, -, -⟩ := hv_
   exact num64 (by omega) (by omega) ⟨[], (i + 1, b7, c7, μ6), ⟨by dsimp only; omega, (hle3.trans hle5).trans hle6, hR6⟩, by dsimp only; omega, ⟨⟨rfl, rfl, rfl, rfl, rfl, rfl, rfl, trivial⟩, ⟨rfl, trivial⟩, rfl, rfl⟩⟩
  ·rw [if_neg (fun k => he (by have := k.2; rw [hy] at this; exact Option.some.inj this)), List.append_nil] at hsucc
   refine num64 (by omega) (by omega) ⟨[], (i + 1, b4, c4, μ3), ⟨by dsimp only; omega, hle3, ?_⟩, by dsimp only; omega, ⟨⟨rfl, rfl, rfl, ?_, rfl, rfl, rfl, trivial⟩, ⟨rfl, trivial⟩, rfl, rfl⟩⟩
   ·dsimp only; rw [hsucc]; exact hout
   ·dsimp only; rw [hsucc]; rfl
 ·rw [if_neg (fun k => hn k.1), List.append_nil] at hsucc
  refine num64 (by omega) (by omega) ⟨[], (i + 1, b4, c4, μ3), ⟨by dsimp only; omega, hle3, ?_⟩, by dsimp only; omega, ⟨⟨rfl, rfl, rfl, ?_, rfl, rfl, rfl, trivial⟩, ⟨rfl, trivial⟩, rfl, rfl⟩⟩
  ·dsimp only; rw [hsucc]; exact hout
  ·dsimp only; rw [hsucc]; rfl
set_option maxHeartbeats 1000000 in
theorem impl_SpecialFacts_spec {p : Pg} {u : List Tm} {name : ByteArray} {arg : Int} {t : Tm} {v w : Value} {ub : Option Addr} {uc : Nat} (hp : RepV μ p.d v) (hu : Sl μ 4 ub u.length (u.map Tm.d)) (ht : RepV μ t.d w) :
  Spec Tryz.prog 52 [v, .slice ub u.length uc, .string name, .int .i64 arg, w] μ fun v μ' => optFs (fun y tv => Fresh μ μ' (.sl 2 ((y.map F.fc).map Fc.d)) tv) (specialM p u name arg t) v := by
 have hp0 := hp
 have hv_ := Pg.inv hp
 obtain ⟨q, rfl, hrl⟩ := hv_
 have ht0 := ht
 have hv_ := Tm.invV ht
 obtain ⟨qt, rfl⟩ := hv_
 refine Spec.mk Tryz.func52 (by kernel_rfl) ?_
 intro r5 r9
 refine call_plain (impl_FindRel_spec hp0) fun v2 μ1 hle1 hR2 => ?_
 obtain rfl := hR2
 refine call_plain (impl_LeastModel_spec (hp0.mono hle1) (hu.mono hle1)) fun v1 μ2 hle2 hR => ?_
 cases hL : leastM p u with
 | none =>
  rw [hL] at hR
  obtain rfl := hR
  have e : specialM p u name arg t = none := by rw [specialM, hL]; split <;> rfl
  refine ifd (fun _ => ret_plain (by rw [e]; rfl)) (fun _ => ?_)
  exact if_intro (fun _ => ret_plain (by rw [e]; rfl)) (fun h => nomatch h)
 | some L =>
 rw [hL] at hR
 obtain ⟨tv, n, rfl, hR⟩ := hR
 have hRf : FsV μ2 L tv := hR.rep
 refine ifd (fun h => ?_) (fun h => ?_)
 ·refine ret_plain ?_
  rw [specialM, if_neg]
  ·rfl
  ·rintro ⟨⟨k, r, h1, -⟩, -⟩
   omega
 refine if_intro (fun h => nomatch h) (fun _ => ?_)
 have hv_ := Int.eq_ofNat_of_zero_le (show 0 ≤ findR p name by omega)
 obtain ⟨k, hk⟩ := hv_
 have hk0 := leastM_ok hL
 have hfind : findR p name = relAt p name := by rw [findR, if_pos hk0.1]
 have hv_ := relAt_get (p := p) (s := name) (by omega)
 obtain ⟨k', r, hk', hr, -⟩ := hv_
 obtain rfl : k = k' := by omega
 have hro := hk0.1.2 _ r hr
 have har0 := hro.ar0
 have har4 := hro.ar4
 have hv_ := Rl.elemA (hrl.mono (hle1.trans hle2)) hr
 obtain ⟨adr, qr, helr, hrr, -⟩ := hv_
 have htr := RepV.mono (hle1.trans hle2) ht0
 refine call_gives (impl_TermOk_spec t htr) ?_
 refine ifnd (fun h => ?_) (fun hok => ?_)
 ·refine ret_plain ?_
  rw [specialM, if_neg fun k => h k.2]
  rfl
 have hno : ¬ (0 ≤ arg ∧ arg < r.arity) → specialM p u name arg t = none := fun h => by
  rw [specialM, if_neg]
  rintro ⟨⟨k2, r2, h1, h2, h3, h4⟩, -⟩
  obtain rfl : k2 = k := by omega
  rw [hr] at h2; cases h2
  exact h ⟨h3, h4⟩
 refine ifd (fun h0 => ?_) (fun h0 => ?_)
 ·exact ret_plain (by rw [hno fun k => absurd k.1 (by omega)]; rfl)
 rw [hk]
 refine elem_intro helr ?_
 refine ifd (fun h1 => ?_) (fun h1 => ?_)
 ·exact ret_plain (by rw [hno fun k => absurd k.2 (by omega)]; rfl)
 have hSP : SpecP p name arg t := ⟨⟨k, r, hk, hr, by omega, by omega⟩, hok⟩
 have hres : specialM p u name arg t = some (ascF (specL L name arg.toNat t.toT L.length)) := by rw [specialM, if_pos hSP, hL]; rfl
 rw [hres]
 have hv_ := hok.lift
 obtain ⟨x, hx, rfl⟩ := hv_
 rw [T.toT_tm] at hres ⊢
 have hv_ := Int.eq_ofNat_of_zero_le (show 0 ≤ arg by omega)
 obtain ⟨a, rfl⟩ := hv_
 rw [Int.toNat_natCast] at hres ⊢
 have hv_ := FsV.sl hRf
 obtain ⟨bL, cL, rfl, -, hsL⟩ := hv_
 intro r54
 refine loop_intro (fun z : Nat × Option Nat × Nat × List Value × Mem => z.1 ≤ L.length ∧ μ2.Le z.2.2.2.2 ∧ Grown 2 μ2 z.2.2.2.2 (((specL L name a x z.1).map F.fc).map Fc.d) z.2.2.2.1 ∧ Rows z.2.2.2.2 2 (((specL L name a x z.1).map F.fc).map Fc.d) z.2.2.2.1)
  (fun (i, bo, co, ys, μ') => ⟨[(2, .val (.string name)), (3, .val (.int .i64 a)), (9, .loc 1 r9 0), (16, .row 2 bo ys.length co), (55, .val (.slice bL L.length cL)), (56, .val (.int .i64 L.length)), (57, .val (.int .i64 i))],
   [(1, some (.cells r9 [.val (.int .i64 x.tm.kind), .val (.int .i64 x.tm.num), .val (.string x.tm.name), .val (.slice qt.1 x.tm.args.length qt.2)] 38)), (2, some (.row bo co 67 2 ys))], 3, μ', Mem.nil⟩) (fun z => L.length - z.1)
  (0, some r54, 0, [], μ2) ⟨Nat.zero_le _, Mem.Le.refl _, by simpa [specL] using Grown.nil _ _ _, by simpa [specL] using .nil⟩ (fun (_, _, _, _, _) => ⟨rfl, rfl⟩) ⟨⟨rfl, rfl, rfl, rfl, rfl, rfl, rfl, trivial⟩, ⟨rfl, rfl, trivial⟩, rfl, rfl⟩ ?_
 rintro ⟨i, bo, co, ys, μ3⟩ ⟨hi, hle3, hgr, hrw⟩
 dsimp only at hi hle3 hgr hrw
 have hyl := hgr.len
 rw [List.length_map, List.length_map] at hyl
 have hlen : (specL L name a x i).length ≤ i := specL_len _ _ _ _ _
 refine ifd (fun hlt => ?_) (fun hlt => ?_)
 rotate_left
 ·obtain rfl : i = L.length := by omega
  refine call_frz [2] ?_
  intro μ4 hle4 hno4 hat4
  have hsrc := RowAt.src hat4
  have hel := hsrc.2.1
  generalize hS : specL L name a x L.length = S at *
  have hzl : (S.zip ys).length = ys.length := by rw [List.length_zip]; omega
  have hzs : (S.zip ys).map Prod.snd = ys := zip_snd hyl
  have hE : FElts μ4 (S.zip ys) := FElts.zip (hrw.mono hle4)
  have hcore := sortFacts_core (l := S.zip ys) (base := bo.map fun r => ⟨r, 0, none⟩) (cap := co) (by rw [hzl, hzs]; exact hsrc) hE (by omega)
  rw [hzl] at hcore
  refine call_go hcore fun v5 μ5 hle5 hR5 => ?_
  obtain ⟨l', h1, h2, h3⟩ := hR5
  rw [zip_fst hyl] at h2
  have := Grown.sorted hgr hel hle3 hle4 hle5 h1 h2 h3
  exact ret_plain ⟨_, rfl, this.mono (hle1.trans hle2) (Mem.Le.refl _)⟩
 have hv_ := at_some (l := L) (i := i) (by omega)
 obtain ⟨f, hf⟩ := hv_
 have hv_ := F.elem (hsL.mono hle3) hf
 obtain ⟨ad, p3, hel, hrf, hsf⟩ := hv_
 have hsucc := specL_succ (name := name) (k := a) (t := x) hf
 refine elem_intro hel ?_
 intro r18
 refine ifd (fun hn => ?_) (fun hn => ?_)
 ·have har := fits_arity hk0.1 hk hr (hk0.2.1 f (mem_at hf)) hn
  have hv_ := at_some (l := f.args) (i := a) (by omega)
  obtain ⟨y, hy⟩ := hv_
  have hv_ := T.elemL hsf hy
  obtain ⟨ad2, p2, hel2, hry⟩ := hv_
  refine elem_intro hel2 ?_
  refine call_gives (equalTerms_spec y x hry (RepV.mono hle3 htr)) ?_
  refine ifd (fun he => ?_) (fun he => ?_)
  ·rw [if_pos ⟨hn, by rw [hy, he]⟩] at hsucc
   have hal := hk0.2.1.len hk0.1 f (mem_at hf)
   refine call_plain (without_spec hsf (by omega)) fun v5 μ5 hle5 hR5 => ?_
   have hv_ := Rep.sl hR5.rep
   obtain ⟨b5, c5, rfl, -⟩ := hv_
   have hnew := (FreshS.str (n := name) (FreshS.cons hR5 hle5 (Mem.Le.refl _) FreshS.nil)).st
   intro r81
   refine grow_intro ?_ ?_ fun b' c' _ => ?_
   ·show (ys.length + 1) * 40 ≤ _; omega
   ·exact Nat.le_trans (m := 100000000) (show ys.length + 1 ≤ _ by omega) (by decide)
   refine num64 (by omega) (by omega) ⟨(i + 1, b', c', _, μ5), ⟨by dsimp only; omega, hle3.trans hle5, ?_, ?_⟩, by dsimp only; omega, ⟨⟨rfl, rfl, rfl, rfl, rfl, rfl, rfl, trivial⟩, ⟨rfl, rfl, trivial⟩, rfl, rfl⟩⟩
   all_goals dsimp only
   all_goals rw [hsucc]
   all_goals simp only [List.map_append, List.map_cons, List.map_nil]
   ·exact hgr.snoc hle3 (d := (F.fc ⟨name, f.args.eraseIdx a⟩).d) hnew hle5 (Fc.d_n _)
   ·exact (hrw.mono hle5).append (Rows.one (d := (F.fc ⟨name, f.args.eraseIdx a⟩).d) hnew.rep (Fc.d_n _))
  ·rw [if_neg (fun k => he (by have := k.2; rw [hy] at this; exact Option.some.inj this)), List.append_nil] at hsucc
   refine num64 (by omega) (by omega) ⟨(i + 1, bo, co, ys, μ3), ⟨by dsimp only; omega, hle3, ?_, ?_⟩, by dsimp only; omega, ⟨⟨rfl, rfl, rfl, rfl, rfl, rfl, rfl, trivial⟩, ⟨rfl, rfl, trivial⟩, rfl, rfl⟩⟩
   all_goals dsimp only
   all_goals rw [hsucc]
   ·exact hgr
   ·exact hrw
 ·rw [if_neg (fun k => hn k.1), List.append_nil] at hsucc
  refine num64 (by omega) (by omega) ⟨(i + 1, bo, co, ys, μ3), ⟨by dsimp only; omega, hle3, ?_, ?_⟩, by dsimp only; omega, ⟨⟨rfl, rfl, rfl, rfl, rfl, rfl, rfl, trivial⟩, ⟨rfl, rfl, trivial⟩, rfl, rfl⟩⟩
  all_goals dsimp only
  all_goals rw [hsucc]
  ·exact hgr
  ·exact hrw
end
end Go.Vx
namespace Go.Vx
open Go.Proofs Classical
section
variable {μ : Mem}
set_option maxHeartbeats 4000000 in
theorem FnExactSpecialFacts_spec {t0 : Pg} {v0 : Value} {t1 : List Tm} {v1 : Value} {t2 : Tm} {v2 : Value} {nm : ByteArray} {ar : Int} (h0 : RepV μ t0.d v0) (h1 : RepV μ (.sl 4 (t1.map Tm.d)) v1) (h2 : RepV μ t2.d v2) (w0 : t0.d.wd) (w1 : D.wds (t1.map Tm.d)) (w2 : t2.d.wd) :
  Spec Tryz.prog 10 [v0, v1, .string nm, .int .i64 ar, v2] μ fun r _ => r = .bool true := by
 obtain ⟨p0, rfl⟩ := Pg.invV h0
 obtain ⟨b1, c1, rfl, s1⟩ := Rep.sl h1
 rw [List.length_map] at s1 ⊢
 obtain ⟨p2, rfl⟩ := Tm.invV h2
 refine Spec.mk Tryz.func10 (by kernel_rfl) ?_
 intro r0 r1
 refine ifd (fun h => ret_plain rfl) (fun h => ?_)
 refine call_gives (szProgram_spec t0 h0 (by omega) (by omega) w0) ?_
 refine ifd (fun h => ret_plain rfl) (fun h => ?_)
 have q0 := szR_ge h
 rw [szR_pos q0] at h ⊢
 refine call_gives (szTermS_spec s1 (by omega) (by omega) w1) ?_
 refine ifd (fun h => ret_plain rfl) (fun h => ?_)
 have q1 := szR_ge h
 rw [szR_pos q1] at h ⊢
 refine call_gives (szTerm_spec t2 h2 (by omega) (by omega) w2) ?_
 refine ifd (fun h => ret_plain rfl) (fun h => ?_)
 have q2 := szR_ge h
 rw [szR_pos q2] at h
 have hb0 : t0.d.sz ≤ 1048576 := by omega
 have hb1 : t1.length + D.szs (t1.map Tm.d) ≤ 1048576 := by omega
 have hb2 : t2.d.sz ≤ 1048576 := by omega
 refine call_plain (toProgram_spec t0 h0 hb0) fun u1 μ1 hle1 hf1 => ?_
 replace h0 := h0.mono hle1
 replace s1 := s1.mono hle1
 replace h2 := h2.mono hle1
 obtain ⟨qq2, rfl⟩ := Pg.invV hf1.rep
 have a0 := hf1.rep
 refine call_plain (toTermS_spec s1 hb1) fun u3 μ3 hle3 hf3 => ?_
 replace h0 := h0.mono hle3
 replace s1 := s1.mono hle3
 replace h2 := h2.mono hle3
 replace a0 := a0.mono hle3
 obtain ⟨bb4, cc4, rfl, a1⟩ := Rep.sl hf3.rep
 rw [List.length_map] at a1 ⊢
 refine call_plain (toTerm_spec t2 h2 hb2) fun u5 μ5 hle5 hf5 => ?_
 replace h0 := h0.mono hle5
 replace s1 := s1.mono hle5
 replace h2 := h2.mono hle5
 replace a0 := a0.mono hle5
 replace a1 := a1.mono hle5
 obtain ⟨qq6, rfl⟩ := Tm.invV hf5.rep
 have a2 := hf5.rep
 refine call_plain (spec_SpecialFacts_spec (name := nm) (arg := ar) a0 w0 a1 w1 a2 w2) fun u7 μ7 hle7 hR => ?_
 replace h0 := h0.mono hle7
 replace s1 := s1.mono hle7
 replace h2 := h2.mono hle7
 replace a0 := a0.mono hle7
 replace a1 := a1.mono hle7
 replace a2 := a2.mono hle7
 obtain ⟨w0, rfl, hw0⟩ := optFs_rep hR
 obtain ⟨bb8, cc8, rfl, hw⟩ := Rep.sl hw0
 rw [List.length_map] at hw ⊢
 refine call_new id (apart_nil _) Owns.none ((toProgram_spec t0 (h0.mono (Mem.le_join _ _)) hb0).weaken fun v μ' _ h => ⟨v, rfl, h⟩) fun x0 μ9 H9 hle9 hap9 ho9 => ?_
 replace h0 := h0.mono hle9
 replace s1 := s1.mono hle9
 replace h2 := h2.mono hle9
 replace hw := hw.mono hle9
 obtain ⟨qq10, rfl⟩ := Pg.invV (Owns.rep (l1 := []) hap9 ho9)
 have xx0 := (Owns.rep (l1 := []) hap9 ho9)
 intro rx0
 refine call_new id hap9 ho9 ((toTermS_spec (s1.mono (Mem.le_join _ _)) hb1).weaken fun v μ' _ h => ⟨v, rfl, h⟩) fun x1 μ11 H11 hle11 hap11 ho11 => ?_
 replace h0 := h0.mono hle11
 replace s1 := s1.mono hle11
 replace h2 := h2.mono hle11
 replace hw := hw.mono hle11
 obtain ⟨bb12, cc12, rfl, xx1⟩ := Rep.sl (Owns.rep (l1 := [_]) hap11 ho11)
 rw [List.length_map] at xx1 ho11 ⊢
 refine call_new id hap11 ho11 ((toTerm_spec t2 (h2.mono (Mem.le_join _ _)) hb2).weaken fun v μ' _ h => ⟨v, rfl, h⟩) fun x2 μ13 H13 hle13 hap13 ho13 => ?_
 replace h0 := h0.mono hle13
 replace s1 := s1.mono hle13
 replace h2 := h2.mono hle13
 replace hw := hw.mono hle13
 obtain ⟨qq14, rfl⟩ := Tm.invV (Owns.rep (l1 := [_, _]) hap13 ho13)
 have xx2 := (Owns.rep (l1 := [_, _]) hap13 ho13)
 intro rx2
 obtain ⟨bn17, cn17, en17, ya16⟩ := Rep.sl (Owns.rep (l1 := [_]) hap13 ho13)
 rw [List.length_map] at ya16 en17
 obtain ⟨rfl, _, rfl⟩ := Value.slice.inj en17
 refine call_new (fun gv => .tuple #[gv, .bool (specialM t0 t1 nm ar t2).isSome]) hap13 ho13 ((impl_SpecialFacts_spec (name := nm) (arg := ar) (Owns.rep (l1 := []) hap13 ho13) ya16 (Owns.rep (l1 := [_, _]) hap13 ho13)).weaken fun v μ' _ h => optFs_fresh h) fun g0 μ15 H15 hle15 hap15 ho15 => ?_
 replace h0 := h0.mono hle15
 replace s1 := s1.mono hle15
 replace h2 := h2.mono hle15
 replace hw := hw.mono hle15
 obtain ⟨bb18, cc18, rfl, gg⟩ := Rep.sl (Owns.rep (l1 := [_, _, _]) hap15 ho15)
 rw [List.length_map] at gg ho15 ⊢
 obtain ⟨bn20, cn20, en20, yg19⟩ := Rep.sl (Owns.rep (l1 := [_, _, _]) hap15 ho15)
 rw [List.length_map] at yg19 en20
 obtain ⟨rfl, _, rfl⟩ := Value.slice.inj en20
 refine call_read hap15 (eqFactS_spec yg19 (hw.mono (Mem.le_join _ _))) ?_
 refine if_intro (fun h => nomatch h) (fun _ => ?_)
 refine if_intro (fun h => absurd h (by simp)) (fun _ => ?_)
 refine call_data hap15 (toProgram_spec t0 h0 hb0) fun u21 μ21 hle21 hap21 hf21 => ?_
 replace h0 := h0.mono hle21
 replace s1 := s1.mono hle21
 replace h2 := h2.mono hle21
 replace hw := hw.mono hle21
 refine call_read hap21 (eqProgram_spec t0 (Owns.rep (l1 := []) hap21 ho15) (hf21.rep.mono (Mem.le_join _ _))) ?_
 refine if_intro (fun h => nomatch h) (fun _ => ?_)
 refine call_data hap21 (toTermS_spec s1 hb1) fun u22 μ22 hle22 hap22 hf22 => ?_
 replace h0 := h0.mono hle22
 replace s1 := s1.mono hle22
 replace h2 := h2.mono hle22
 replace hw := hw.mono hle22
 obtain ⟨bb23, cc23, rfl, z1⟩ := Rep.sl hf22.rep
 rw [List.length_map] at z1 ⊢
 obtain ⟨bn25, cn25, en25, yb24⟩ := Rep.sl (Owns.rep (l1 := [_]) hap22 ho15)
 rw [List.length_map] at yb24 en25
 obtain ⟨rfl, _, rfl⟩ := Value.slice.inj en25
 refine call_read hap22 (eqTermS_spec yb24 (z1.mono (Mem.le_join _ _))) ?_
 refine if_intro (fun h => nomatch h) (fun _ => ?_)
 refine call_data hap22 (toTerm_spec t2 h2 hb2) fun u26 μ26 hle26 hap26 hf26 => ?_
 replace h0 := h0.mono hle26
 replace s1 := s1.mono hle26
 replace h2 := h2.mono hle26
 replace hw := hw.mono hle26
 refine call_read hap26 (eqTerm_spec t2 (Owns.rep (l1 := [_, _]) hap26 ho15) (hf26.rep.mono (Mem.le_join _ _))) ?_
 refine if_intro (fun h => nomatch h) (fun _ => ?_)
 have ca0 := pg_cnt_sz t0
 rw [Pg.cnt_eq] at ca0
 have ma0 := pg_mt t0 (1)
 have ca1 := tms_cnt t1
 have ma1 := D.mks_cnt (t1.map Tm.d) ((t0.d.mt (1)).2)
 have ca2 := tm_cnt_sz t2
 rw [Tm.cnt_eq] at ca2
 have ma2 := tm_mt t2 ((D.mks (t1.map Tm.d) ((t0.d.mt (1)).2)).2)
 have rz := resF_B (o := specialM t0 t1 nm ar t2) (n := 2000) fun y h => specialM_B h
 have mg := D.mks_cnt ((resF (specialM t0 t1 nm ar t2)).map Fc.d) 1
 refine call_mark (l1 := []) hap26 ho15 (fun hx o => markProgram_spec t0 o (by omega) (by omega)) fun H27 hap27 ho27 => ?_
 refine call_mark (l1 := [_]) hap27 ho27 (fun hx o => markTermS_spec o (by omega) (by omega)) fun H28 hap28 ho28 => ?_
 refine call_mark (l1 := [_, _]) hap28 ho28 (fun hx o => markTerm_spec t2 o (by omega) (by omega)) fun H29 hap29 ho29 => ?_
 refine ifd (fun h => by omega) (fun _ => ?_)
 obtain ⟨bn31, cn31, en31, yg30⟩ := Rep.sl (Owns.rep (l1 := [_, _, _]) hap29 ho29)
 rw [List.length_map] at yg30 en31
 obtain ⟨rfl, _, rfl⟩ := Value.slice.inj en31
 refine call_read hap29 (eqFactS_spec yg30 (hw.mono (Mem.le_join _ _))) ?_
 refine if_intro (fun h => nomatch h) (fun _ => ?_)
 refine if_intro (fun h => absurd h (by simp)) (fun _ => ?_)
 refine call_mark (l1 := [_, _, _]) hap29 ho29 (fun hx o => markFactS_spec o (by omega) (by omega)) fun H32 hap32 ho32 => ?_
 refine call_read hap32 (heldFactS_spec (Owns.rep (l1 := [_, _, _]) hap32 ho32) (by omega) (by omega)) ?_
 refine ifd (fun h => by omega) (fun _ => ?_)
 refine ifnd (fun h => absurd rfl h) (fun _ => ?_)
 refine call_data hap32 (toProgram_spec t0 h0 hb0) fun u33 μ33 hle33 hap33 hf33 => ?_
 replace h0 := h0.mono hle33
 replace s1 := s1.mono hle33
 replace h2 := h2.mono hle33
 replace hw := hw.mono hle33
 obtain ⟨qq34, rfl⟩ := Pg.invV hf33.rep
 have o0 := hf33.rep
 refine call_data hap33 (toTermS_spec s1 hb1) fun u35 μ35 hle35 hap35 hf35 => ?_
 replace h0 := h0.mono hle35
 replace s1 := s1.mono hle35
 replace h2 := h2.mono hle35
 replace hw := hw.mono hle35
 replace o0 := o0.mono hle35
 obtain ⟨bb36, cc36, rfl, o1⟩ := Rep.sl hf35.rep
 rw [List.length_map] at o1 ⊢
 refine call_data hap35 (toTerm_spec t2 h2 hb2) fun u37 μ37 hle37 hap37 hf37 => ?_
 replace h0 := h0.mono hle37
 replace s1 := s1.mono hle37
 replace h2 := h2.mono hle37
 replace hw := hw.mono hle37
 replace o0 := o0.mono hle37
 replace o1 := o1.mono hle37
 obtain ⟨qq38, rfl⟩ := Tm.invV hf37.rep
 have o2 := hf37.rep
 refine call_data hap37 ((impl_SpecialFacts_spec (name := nm) (arg := ar) o0 o1 o2).weaken fun v μ' _ h => optFs_fresh h) fun u39 μ39 hle39 hap39 hR => ?_
 replace h0 := h0.mono hle39
 replace s1 := s1.mono hle39
 replace h2 := h2.mono hle39
 replace hw := hw.mono hle39
 replace o0 := o0.mono hle39
 replace o1 := o1.mono hle39
 replace o2 := o2.mono hle39
 obtain ⟨h0, rfl, hh0⟩ := hR
 obtain ⟨bb40, cc40, rfl, hh⟩ := Rep.sl hh0.rep
 rw [List.length_map] at hh ⊢
 refine call_read hap39 (eqFactS_spec (hh.mono (Mem.le_join _ _)) (hw.mono (Mem.le_join _ _))) ?_
 refine if_intro (fun h => nomatch h) (fun _ => ?_)
 refine if_intro (fun h => absurd h (by simp)) (fun _ => ?_)
 refine call_read hap39 (heldFactS_spec (Owns.rep (l1 := [_, _, _]) hap39 ho32) (by omega) (by omega)) ?_
 refine ifd (fun h => by omega) (fun _ => ?_)
 refine ifnd (fun h => absurd rfl h) (fun _ => ?_)
 exact ret_plain rfl
end
end Go.Vx
