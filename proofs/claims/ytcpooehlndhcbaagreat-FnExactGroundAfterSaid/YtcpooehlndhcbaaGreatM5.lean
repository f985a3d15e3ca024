/- Texts of the proof, part 5. -/
import Derived.Orders
import Derived.Below
import Derived.WalkKit
import Derived.MapKept
import Derived.WideKeyMaps
import Derived.Maps.RangeRun
import Derived.Laws.Cover3
import Derived.Laws.IdiomStrings
import Derived.Laws.BytesString
import Derived.Deep.RegionHeld3
import Derived.Carry
import Derived.ChangeArms
import Derived.RowKit3
import Derived.Test.YtcpooehlndhcbaaGreatChecked
import Derived.KernelRfl
import Derived.ProofKit
import Derived.OpenShut
import Derived.ChangeOld
import Derived.Handed
import Derived.JoinedOf
import Derived.Sort.AssemblyPlain
import Derived.Test.YtcpooehlndhcbaaGreatM4
/- Contracts: which parameters are ground after a call, both sides. -/
namespace Go.Vx
open Go.Proofs Classical
def wantN (l : List Int) : Nat := l.foldl (fun w a => w ||| 2 ^ a.toNat) 0
def commN (row want a n : Nat) : Nat := (List.range n).foldl (fun c k => if row.testBit k = true ∧ k &&& want = want then c &&& k else c) (2 ^ a - 1)
def outN (c n : Nat) : List Nat := (List.range n).filter fun i => c.testBit i
def InAr (r : Rl) (x : Int) : Prop := 0 ≤ x ∧ x < r.arity
noncomputable def gAfter (p : Pg) (name : ByteArray) (args : List Int) : List Int :=
  if RowsFit p (rI (stepsN p 0)) then match p.rels[(relAt p name).toNat]?, (endN p)[(relAt p name).toNat]? with
    | some r, some row => if 0 ≤ relAt p name ∧ ∀ x ∈ args, InAr r x then rI (outN (commN row (wantN args) r.arity.toNat (2 ^ r.arity.toNat)) r.arity.toNat) else []
    | _, _ => []
  else []
theorem relAt_lt {p : Pg} {s : ByteArray} {k : Nat} (h : relAt p s = (k : Int)) : k < p.rels.length := by
  have h4 : relFrom p.rels 0 s = (k : Int) := h
  obtain ⟨j, r, h1, h2, _⟩ := relFrom_some (l := p.rels) (i := 0) (s := s) (by omega)
  have h3 := (List.getElem?_eq_some_iff.1 h2).1
  omega
theorem gAfter_no {p : Pg} {name : ByteArray} {args : List Int} (h : ¬ RowsFit p (rI (stepsN p 0))) : gAfter p name args = [] := by rw [gAfter, if_neg h]
theorem gAfter_neg {p : Pg} {name : ByteArray} {args : List Int} (h : relAt p name < 0) : gAfter p name args = [] := by
  unfold gAfter
  split
  · split
    · rw [if_neg (fun k => by omega)]
    · rfl
  · rfl
theorem gAfter_at {p : Pg} {name : ByteArray} {args : List Int} {k row : Nat} {r : Rl} (h : RowsFit p (rI (stepsN p 0))) (e : relAt p name = (k : Int)) (hr : p.rels[k]? = some r) (hw : (endN p)[k]? = some row) :
    gAfter p name args = if ∀ x ∈ args, InAr r x then rI (outN (commN row (wantN args) r.arity.toNat (2 ^ r.arity.toNat)) r.arity.toNat) else [] := by
  rw [gAfter, if_pos h, e, Int.toNat_natCast, hr, hw]
  dsimp only
  by_cases g : ∀ x ∈ args, InAr r x
  · rw [if_pos ⟨by omega, g⟩, if_pos g]
  · rw [if_neg (fun k => g k.2), if_neg g]
theorem wantN_lt : ∀ {l : List Int}, (∀ x ∈ l, x.toNat < 4) → ∀ w, w < 16 → l.foldl (fun w a => w ||| 2 ^ a.toNat) w < 16
  | [], _, w, hw => hw
  | x :: l, h, w, hw => by
    rw [List.foldl_cons]
    refine wantN_lt (fun y hy => h y (by simp [hy])) _ ?_
    have h1 : (2 : Nat) ^ x.toNat < 2 ^ 4 := Nat.pow_lt_pow_right (by omega) (h x (by simp))
    exact Nat.or_lt_two_pow (n := 4) hw h1
theorem commN_le (row want a : Nat) : ∀ n, commN row want a n ≤ 2 ^ a - 1
  | 0 => Nat.le_refl _
  | n + 1 => by
    have ih := commN_le row want a n
    unfold commN at ih ⊢
    rw [List.range_succ, List.foldl_append, List.foldl_cons, List.foldl_nil]
    split
    · exact Nat.le_trans Nat.and_le_left ih
    · exact ih
theorem commN_succ (row want a n : Nat) : commN row want a (n + 1) = if row.testBit n = true ∧ n &&& want = want then commN row want a n &&& n else commN row want a n := by
  rw [commN, List.range_succ, List.foldl_append, List.foldl_cons, List.foldl_nil]
  rfl
theorem outN_succ (c n : Nat) : outN c (n + 1) = outN c n ++ if c.testBit n = true then [n] else [] := by
  rw [outN, List.range_succ, List.filter_append]
  congr 1
  cases h : c.testBit n <;> simp [h]
theorem exists_end {p : Pg} (h : RowsFit p (rI (stepsN p 0))) : ∃ n, stepsN p (n + 1) = stepsN p n := Classical.byContradiction fun k => by
  have h1 : ∀ n, n ≤ (stepsN p n).sum := fun n => by
    induction n with
    | zero => omega
    | succ n ih =>
      have := stepsN_sum p n fun e => k ⟨n, e⟩
      omega
  have h2 := sum_bnd (N := 65536) (l := stepsN p (65536 * p.rels.length + 1)) fun x hx => Nat.le_of_lt ((steps_in h _).lt x hx)
  rw [stepsN_len] at h2
  have := h1 (65536 * p.rels.length + 1)
  omega
theorem endN_in {p : Pg} (h : RowsFit p (rI (stepsN p 0))) : RowsIn p (endN p) := by
  obtain ⟨n, hn⟩ := exists_end h
  rw [endN_eq hn]
  exact steps_in h n
theorem testBit_int {s k : Nat} : ((s / 2 ^ ((k : Nat) : Int).toNat % 2 : Nat) : Int) = 1 ↔ s.testBit k = true := by
  have := bit_one s (n := (k : Int))
  rw [Int.toNat_natCast] at this ⊢
  rw [← this, decide_eq_true_eq]
theorem ints_snoc (l : List Nat) (i : Nat) : ints (rI (l ++ [i])) = ints (rI l) ++ [.int .i64 (i : Int)] := by simp [ints, rI]
section
variable {μ : Mem}
set_option maxHeartbeats 4000000 in
theorem impl_GroundAfter_spec {p : Pg} {v : Value} {name : ByteArray} {args : List Int} {base : Option Addr} {cap : Nat} (hp : RepV μ p.d v) (hsz : p.rels.length ≤ 1048576) (hs : Sl μ 1 base args.length (args.map D.i)) :
    Spec Tryz.prog 61 [v, .string name, .slice base args.length cap] μ fun v μ' => Fresh μ μ' (.sl 1 ((gAfter p name args).map D.i)) v := by
  have hp0 := hp
  obtain ⟨q, rfl, hrl⟩ := Pg.inv hp
  have hn := maxLen_le hs.max
  have bad : ∀ {μ' : Mem}, gAfter p name args = [] → Fresh μ μ' (.sl 1 ((gAfter p name args).map D.i)) (.slice none 0 0) := fun e => by
    rw [e]; exact ⟨Mem.nil, Own.nilSl 1, (fun _ _ h => nomatch h), fun _ h => absurd rfl h⟩
  refine Spec.mk Tryz.func61 (by kernel_rfl) ?_
  intro r3
  refine call_plain (impl_GroundRows_spec hp0 hsz) fun v1 μ1 hle1 hR => ?_
  by_cases hfit : RowsFit p (rI (stepsN p 0))
  rotate_left
  · rw [gRows, if_neg hfit] at hR
    obtain rfl := hR
    refine call_plain (impl_FindRel_spec (hp0.mono hle1)) fun v2 μ2 hle2 hR2 => ?_
    obtain rfl := hR2
    refine if_intro (fun _ => ret_plain (bad (gAfter_no hfit))) (fun h => nomatch h)
  rw [gRows, if_pos hfit] at hR
  obtain ⟨tv, rfl, hfr⟩ := hR
  obtain ⟨rb, rc, rfl, hrs⟩ := Rep.sl hfr.rep
  rw [List.length_map, rI_length] at hrs ⊢
  refine call_plain (impl_FindRel_spec (hp0.mono hle1)) fun v2 μ2 hle2 hR2 => ?_
  obtain rfl := hR2
  have hfind : findR p name = relAt p name := by rw [findR, if_pos hfit.pos.1]
  rw [hfind]
  refine if_intro (fun h => nomatch h) (fun _ => ?_)
  refine ifd (fun h => ret_plain (bad (gAfter_neg h))) (fun hge => ?_)
  obtain ⟨k, hk⟩ := Int.eq_ofNat_of_zero_le (show 0 ≤ relAt p name by omega)
  have hkl := relAt_lt hk
  rw [hk]
  have hle := hle1.trans hle2
  replace hrs := hrs.mono hle2
  generalize μ2 = μ1 at *
  obtain ⟨r, hrx⟩ := at_some (l := p.rels) (i := k) (by omega)
  have hrok := hfit.pos.1.2 k r hrx
  obtain ⟨a, ha⟩ := Int.eq_ofNat_of_zero_le hrok.ar0
  have har4 := hrok.ar4
  have hEN := endN_in hfit
  obtain ⟨row, hrow⟩ := at_some (l := endN p) (i := k) (by have := hEN.len; omega)
  have hrow6 := hEN.lt row (mem_at hrow)
  have hA := gAfter_at (args := args) hfit hk hrx hrow
  have ea : r.arity.toNat = a := by omega
  rw [ea] at hA
  have hsh : IntKind.i64.wrap (1 * 2 ^ (min r.arity.toNat IntKind.i64.bits)) = ((2 ^ a : Nat) : Int) := by rw [ha]; exact shl_one (by omega)
  have h2a : 2 ^ a ≤ 2 ^ 4 := Nat.pow_le_pow_right (by omega) (by omega)
  have e24 : (2 : Nat) ^ 4 = 16 := by decide
  have h1a : 0 < 2 ^ a := Nat.two_pow_pos _
  obtain ⟨ad, q2, helR, _, _⟩ := Rl.elemA (hrl.mono hle) hrx
  obtain ⟨adW, helW⟩ := Ints.elem hrs (rI_at hrow)
  refine loop_intro (fun i : Nat => i ≤ args.length ∧ ∀ x ∈ args.take i, InAr r x)
    (fun i => ⟨[(3, .loc 0 r3 0), (7, .val (.slice rb (endN p).length rc)), (9, .val (.int .i64 k)), (10, .val (.int .i64 ((wantN (args.take i) : Nat) : Int))), (31, .val (.slice base args.length cap)), (32, .val (.int .i64 args.length)), (33, .val (.int .i64 i))], [(0, some (.cells r3 [.val (.slice q.1 p.rels.length q.2)] 67))], 1, μ1, Mem.nil⟩) (fun i => args.length - i)
    0 ⟨Nat.zero_le _, by simp⟩ (fun _ => ⟨rfl, rfl⟩) ⟨⟨rfl, rfl, rfl, rfl, rfl, rfl, rfl, trivial⟩, ⟨rfl, trivial⟩, rfl, rfl⟩ ?_
  rintro i ⟨hi, hall⟩
  refine ifd (fun hlt => ?_) (fun hlt => ?_)
  · obtain ⟨x, hx⟩ := at_some (l := args) (i := i) (by omega)
    obtain ⟨adx, helx⟩ := Ints.elem (hs.mono hle) hx
    have nope : ¬ InAr r x → gAfter p name args = [] := fun h => by rw [hA, if_neg fun k => h (k x (mem_at hx))]
    refine elem_intro helx ?_
    refine ifd (fun h => ret_plain (bad (nope fun k => by have := k.1; omega))) (fun h0 => ?_)
    refine elem_intro helR ?_
    refine ifd (fun h => ret_plain (bad (nope fun k => by have := k.2; omega))) (fun h1 => ?_)
    have hxin : InAr r x := ⟨by omega, by omega⟩
    have hxs : ∀ y ∈ args.take (i + 1), InAr r y := fun y hy => by
      rw [List.take_add_one, hx, Option.toList_some] at hy
      rcases List.mem_append.1 hy with hy | hy
      · exact hall y hy
      · rw [List.mem_singleton.1 hy]; exact hxin
    obtain ⟨xn, hxn⟩ := Int.eq_ofNat_of_zero_le hxin.1
    have hw16 : wantN (args.take i) < 16 := wantN_lt (fun y hy => by have := hall y hy; unfold InAr at this; omega) 0 (by omega)
    have hx4 : xn < 4 := by have := hxin.2; omega
    have hpx : 2 ^ xn < 2 ^ 4 := Nat.pow_lt_pow_right (by omega) hx4
    refine need_intro hxin.1 ?_
    refine num_eq (x := ((2 ^ xn : Nat) : Int)) (by rw [hxn]; exact shl_one (by omega)) ?_
    refine num_eq (bits_or_i64 _ _ (by omega) (by omega)) ?_
    refine num64 (by omega) (by omega) ⟨i + 1, ⟨by omega, hxs⟩, by omega, ⟨⟨rfl, rfl, rfl, ?_, rfl, rfl, rfl, trivial⟩, ⟨rfl, trivial⟩, rfl, rfl⟩⟩
    have e : wantN (args.take (i + 1)) = wantN (args.take i) ||| 2 ^ xn := by
      rw [wantN, List.take_add_one, hx, Option.toList_some, List.foldl_append, List.foldl_cons, List.foldl_nil, hxn]
      rfl
    rw [e]; rfl
  obtain rfl : i = args.length := by omega
  rw [List.take_length] at hall ⊢
  have hin := hall
  rw [if_pos hin] at hA
  have hw16 := wantN_lt (l := args) (fun x hx => by have := hin x hx; unfold InAr at this; omega) 0 (by omega)
  have hw16 : wantN args < 16 := hw16
  refine elem_intro helR ?_
  refine need_intro hrok.ar0 ?_
  refine num_eq hsh ?_
  refine num_eq (x := ((2 ^ a - 1 : Nat) : Int)) (by rw [wrap64 (by omega) (by omega)]; omega) ?_
  refine loop_intro (fun s : Nat => s ≤ 2 ^ a)
    (fun s => ⟨[(3, .loc 0 r3 0), (7, .val (.slice rb (endN p).length rc)), (9, .val (.int .i64 k)), (10, .val (.int .i64 ((wantN args : Nat) : Int))), (13, .val (.int .i64 ((commN row (wantN args) a s : Nat) : Int))), (14, .val (.int .i64 (s : Nat)))], [(0, some (.cells r3 [.val (.slice q.1 p.rels.length q.2)] 67))], 1, μ1, Mem.nil⟩) (fun s => 2 ^ a - s)
    0 (Nat.zero_le _) (fun _ => ⟨rfl, rfl⟩) ⟨⟨rfl, rfl, rfl, rfl, rfl, rfl, trivial⟩, ⟨rfl, trivial⟩, rfl, rfl⟩ ?_
  intro s hs
  have hc16 := commN_le row (wantN args) a s
  refine elem_intro helR ?_
  refine need_intro hrok.ar0 ?_
  refine num_eq hsh ?_
  refine ifd (fun hlt => ?_) (fun hlt => ?_)
  · refine elem_intro helW ?_
    refine need_intro (Int.natCast_nonneg _) ?_
    refine num_eq (shr_i64 row (Int.natCast_nonneg s) (by omega)) ?_
    have hd : row / 2 ^ ((s : Nat) : Int).toNat ≤ row := Nat.div_le_self _ _
    refine num_eq (and_one_i64 _ (by omega)) ?_
    refine ifd (fun hb => ?_) (fun hb => ?_)
    · rw [testBit_int] at hb
      refine num_eq (bits_and_i64 _ _ (by omega) (by omega)) ?_
      refine ifd (fun hb2 => ?_) (fun hb2 => ?_)
      · refine num_eq (bits_and_i64 _ _ (by omega) (by omega)) ?_
        refine num64 (by omega) (by omega) ⟨s + 1, by omega, by omega, ⟨⟨rfl, rfl, rfl, rfl, ?_, rfl, trivial⟩, ⟨rfl, trivial⟩, rfl, rfl⟩⟩
        rw [commN_succ, if_pos ⟨hb, by omega⟩]; rfl
      · refine num64 (by omega) (by omega) ⟨s + 1, by omega, by omega, ⟨⟨rfl, rfl, rfl, rfl, ?_, rfl, trivial⟩, ⟨rfl, trivial⟩, rfl, rfl⟩⟩
        rw [commN_succ, if_neg fun h => by omega]; rfl
    · rw [testBit_int] at hb
      refine num64 (by omega) (by omega) ⟨s + 1, by omega, by omega, ⟨⟨rfl, rfl, rfl, rfl, ?_, rfl, trivial⟩, ⟨rfl, trivial⟩, rfl, rfl⟩⟩
      rw [commN_succ, if_neg fun h => hb h.1]; rfl
  obtain rfl : s = 2 ^ a := by omega
  generalize hC : commN row (wantN args) a (2 ^ a) = C at *
  intro r91
  refine loop_intro (fun z : Nat × Option Nat × Nat => z.1 ≤ a)
    (fun (i, b, c) => ⟨[(3, .loc 0 r3 0), (9, .val (.int .i64 k)), (13, .val (.int .i64 ((C : Nat) : Int))), (15, .row 1 b (ints (rI (outN C i))).length c), (16, .val (.int .i64 (i : Nat)))], [(0, some (.cells r3 [.val (.slice q.1 p.rels.length q.2)] 67)), (1, some (.row b c 3 1 (ints (rI (outN C i)))))], 2, μ1, Mem.nil⟩) (fun z => a - z.1)
    (0, some r91, 0) (Nat.zero_le _) (fun (_, _, _) => ⟨rfl, rfl⟩) ⟨⟨rfl, rfl, rfl, rfl, rfl, trivial⟩, ⟨rfl, rfl, trivial⟩, rfl, rfl⟩ ?_
  rintro ⟨i, b, c⟩ hi
  dsimp only at hi
  have hol : (outN C i).length ≤ i := Nat.le_trans (List.length_filter_le _ _) (by simp)
  have hil : (ints (rI (outN C i))).length = (outN C i).length := by rw [ints, List.length_map, rI_length]
  refine elem_intro helR ?_
  refine ifd (fun hlt => ?_) (fun hlt => ?_)
  · refine need_intro (Int.natCast_nonneg _) ?_
    refine num_eq (shr_i64 C (Int.natCast_nonneg i) (by omega)) ?_
    have hd : C / 2 ^ ((i : Nat) : Int).toNat ≤ C := Nat.div_le_self _ _
    refine num_eq (and_one_i64 _ (by omega)) ?_
    refine ifd (fun hb => ?_) (fun hb => ?_)
    · rw [testBit_int] at hb
      intro r109
      refine grow_intro ?_ ?_ fun b' c' _ => ?_
      · show (_ + 1) * 8 ≤ _; omega
      · exact Nat.le_trans (m := 1000) (show _ + 1 ≤ _ by omega) (by decide)
      have ez : ints (rI (outN C (i + 1))) = ints (rI (outN C i)) ++ [.int .i64 (i : Nat)] := by rw [outN_succ, if_pos hb]; exact ints_snoc _ _
      refine num64 (by omega) (by omega) ⟨(i + 1, b', c'), by dsimp only; omega, by dsimp only; omega, ?_⟩
      dsimp only
      rw [ez]
      exact ⟨⟨rfl, rfl, rfl, by rw [List.length_append]; rfl, rfl, trivial⟩, ⟨rfl, rfl, trivial⟩, rfl, rfl⟩
    · rw [testBit_int] at hb
      have ez : outN C (i + 1) = outN C i := by rw [outN_succ, if_neg hb, List.append_nil]
      refine num64 (by omega) (by omega) ⟨(i + 1, b, c), by dsimp only; omega, by dsimp only; omega, ?_⟩
      dsimp only
      rw [ez]
      exact ⟨⟨rfl, rfl, rfl, rfl, rfl, trivial⟩, ⟨rfl, rfl, trivial⟩, rfl, rfl⟩
  obtain rfl : i = a := by omega
  refine ret_frz [1] fun μ3 hle3 hno3 hat3 => .inl ?_
  rw [hA]
  have := Fresh.ofRow (ints_own (rI (outN C i))) (fun _ _ h => nomatch h) (fun _ h => absurd rfl h) hle hle3 hno3 hat3 (Nat.le_trans (m := 1000) (by omega) (by decide))
  exact this
set_option maxHeartbeats 4000000 in
theorem spec_GroundAfter_spec {p : Pg} {v : Value} {name : ByteArray} {args : List Int} {base : Option Addr} {cap : Nat} (hp : RepV μ p.d v) (hw : p.d.wd) (hsz : p.rels.length ≤ 1048576) (hs : Sl μ 1 base args.length (args.map D.i)) :
    Spec Tryz.prog 60 [v, .string name, .slice base args.length cap] μ fun v μ' => RepV μ' (.sl 1 ((gAfter p name args).map D.i)) v := by
  have hp0 := hp
  obtain ⟨q, rfl, hrl⟩ := Pg.inv hp
  have hn := maxLen_le hs.max
  have bad : ∀ {μ' : Mem}, gAfter p name args = [] → RepV μ' (.sl 1 ((gAfter p name args).map D.i)) (.slice none 0 0) := fun e => by
    rw [e]; exact Rep.nilSl 1
  refine Spec.mk Tryz.func60 (by kernel_rfl) ?_
  intro r3
  refine call_plain (spec_GroundRows_spec hp0 hw hsz) fun v1 μ1 hle1 hR => ?_
  by_cases hfit : RowsFit p (rI (stepsN p 0))
  rotate_left
  · rw [gRows, if_neg hfit] at hR
    obtain rfl := hR
    refine if_intro (fun _ => ret_plain (bad (gAfter_no hfit))) (fun h => nomatch h)
  rw [gRows, if_pos hfit] at hR
  obtain ⟨tv, rfl, hfr⟩ := hR
  obtain ⟨rb, rc, rfl, hrs⟩ := Rep.sl hfr
  rw [List.length_map, rI_length] at hrs ⊢
  refine if_intro (fun h => nomatch h) (fun _ => ?_)
  refine call_plain (spec_FindRel_spec (hp0.mono hle1) hw) fun v2 μ2 hle2 hR2 => ?_
  obtain rfl := hR2
  have hfind : findR p name = relAt p name := by rw [findR, if_pos hfit.pos.1]
  rw [hfind]
  refine ifd (fun h => ret_plain (bad (gAfter_neg h))) (fun hge => ?_)
  have hle := hle1.trans hle2
  replace hrs := hrs.mono hle2
  generalize μ2 = μ1 at *
  refine call_gives (l14Find_spec (hp0.mono hle)) ?_
  obtain ⟨k, hk⟩ := Int.eq_ofNat_of_zero_le (show 0 ≤ relAt p name by omega)
  have hkl := relAt_lt hk
  rw [hk]
  obtain ⟨r, hrx⟩ := at_some (l := p.rels) (i := k) (by omega)
  have hrok := hfit.pos.1.2 k r hrx
  obtain ⟨a, ha⟩ := Int.eq_ofNat_of_zero_le hrok.ar0
  have har4 := hrok.ar4
  have hEN := endN_in hfit
  obtain ⟨row, hrow⟩ := at_some (l := endN p) (i := k) (by have := hEN.len; omega)
  have hrow6 := hEN.lt row (mem_at hrow)
  have hA := gAfter_at (args := args) hfit hk hrx hrow
  have ea : r.arity.toNat = a := by omega
  rw [ea] at hA
  have hsh : IntKind.i64.wrap (1 * 2 ^ (min r.arity.toNat IntKind.i64.bits)) = ((2 ^ a : Nat) : Int) := by rw [ha]; exact shl_one (by omega)
  have h2a : 2 ^ a ≤ 2 ^ 4 := Nat.pow_le_pow_right (by omega) (by omega)
  have e24 : (2 : Nat) ^ 4 = 16 := by decide
  have h1a : 0 < 2 ^ a := Nat.two_pow_pos _
  obtain ⟨ad, q2, helR, _, _⟩ := Rl.elemA (hrl.mono hle) hrx
  obtain ⟨adW, helW⟩ := Ints.elem hrs (rI_at hrow)
  refine loop_intro (fun i : Nat => i ≤ args.length ∧ ∀ x ∈ args.take i, InAr r x)
    (fun i => ⟨[(3, .loc 0 r3 0), (7, .val (.slice rb (endN p).length rc)), (9, .val (.int .i64 k)), (10, .val (.int .i64 ((wantN (args.take i) : Nat) : Int))), (33, .val (.slice base args.length cap)), (34, .val (.int .i64 args.length)), (35, .val (.int .i64 i))], [(0, some (.cells r3 [.val (.slice q.1 p.rels.length q.2)] 67))], 1, μ1, Mem.nil⟩) (fun i => args.length - i)
    0 ⟨Nat.zero_le _, by simp⟩ (fun _ => ⟨rfl, rfl⟩) ⟨⟨rfl, rfl, rfl, rfl, rfl, rfl, rfl, trivial⟩, ⟨rfl, trivial⟩, rfl, rfl⟩ ?_
  rintro i ⟨hi, hall⟩
  refine ifd (fun hlt => ?_) (fun hlt => ?_)
  · obtain ⟨x, hx⟩ := at_some (l := args) (i := i) (by omega)
    obtain ⟨adx, helx⟩ := Ints.elem (hs.mono hle) hx
    have nope : ¬ InAr r x → gAfter p name args = [] := fun h => by rw [hA, if_neg fun k => h (k x (mem_at hx))]
    refine elem_intro helx ?_
    refine elem_intro helR ?_
    refine num64 (by omega) (by omega) ?_
    refine call_gives (l01In_spec _ _ _ _) ?_
    refine ifnd (fun h => ret_plain (bad (nope fun k => h ⟨k.1, by have := k.2; omega⟩))) (fun h1 => ?_)
    have hxin : InAr r x := ⟨h1.1, by have := h1.2; omega⟩
    have hxs : ∀ y ∈ args.take (i + 1), InAr r y := fun y hy => by
      rw [List.take_add_one, hx, Option.toList_some] at hy
      rcases List.mem_append.1 hy with hy | hy
      · exact hall y hy
      · rw [List.mem_singleton.1 hy]; exact hxin
    obtain ⟨xn, hxn⟩ := Int.eq_ofNat_of_zero_le hxin.1
    have hw16 : wantN (args.take i) < 16 := wantN_lt (fun y hy => by have := hall y hy; unfold InAr at this; omega) 0 (by omega)
    have hx4 : xn < 4 := by have := hxin.2; omega
    have hpx : 2 ^ xn < 2 ^ 4 := Nat.pow_lt_pow_right (by omega) hx4
    refine need_intro hxin.1 ?_
    refine num_eq (x := ((2 ^ xn : Nat) : Int)) (by rw [hxn]; exact shl_one (by omega)) ?_
    refine num_eq (bits_or_i64 _ _ (by omega) (by omega)) ?_
    refine num64 (by omega) (by omega) ⟨i + 1, ⟨by omega, hxs⟩, by omega, ⟨⟨rfl, rfl, rfl, ?_, rfl, rfl, rfl, trivial⟩, ⟨rfl, trivial⟩, rfl, rfl⟩⟩
    have e : wantN (args.take (i + 1)) = wantN (args.take i) ||| 2 ^ xn := by
      rw [wantN, List.take_add_one, hx, Option.toList_some, List.foldl_append, List.foldl_cons, List.foldl_nil, hxn]
      rfl
    rw [e]; rfl
  obtain rfl : i = args.length := by omega
  rw [List.take_length] at hall ⊢
  have hin := hall
  rw [if_pos hin] at hA
  have hw16 := wantN_lt (l := args) (fun x hx => by have := hin x hx; unfold InAr at this; omega) 0 (by omega)
  have hw16 : wantN args < 16 := hw16
  refine elem_intro helR ?_
  refine need_intro hrok.ar0 ?_
  refine num_eq hsh ?_
  refine num_eq (x := ((2 ^ a - 1 : Nat) : Int)) (by rw [wrap64 (by omega) (by omega)]; omega) ?_
  refine loop_intro (fun s : Nat => s ≤ 2 ^ a)
    (fun s => ⟨[(3, .loc 0 r3 0), (7, .val (.slice rb (endN p).length rc)), (9, .val (.int .i64 k)), (10, .val (.int .i64 ((wantN args : Nat) : Int))), (13, .val (.int .i64 ((commN row (wantN args) a s : Nat) : Int))), (14, .val (.int .i64 (s : Nat)))], [(0, some (.cells r3 [.val (.slice q.1 p.rels.length q.2)] 67))], 1, μ1, Mem.nil⟩) (fun s => 2 ^ a - s)
    0 (Nat.zero_le _) (fun _ => ⟨rfl, rfl⟩) ⟨⟨rfl, rfl, rfl, rfl, rfl, rfl, trivial⟩, ⟨rfl, trivial⟩, rfl, rfl⟩ ?_
  intro s hs
  have hc16 := commN_le row (wantN args) a s
  refine elem_intro helR ?_
  refine need_intro hrok.ar0 ?_
  refine num_eq hsh ?_
  refine ifd (fun hlt => ?_) (fun hlt => ?_)
  · refine elem_intro helW ?_
    refine need_intro (Int.natCast_nonneg _) ?_
    refine num_eq (shr_i64 row (Int.natCast_nonneg s) (by omega)) ?_
    have hd : row / 2 ^ ((s : Nat) : Int).toNat ≤ row := Nat.div_le_self _ _
    refine num_eq (and_one_i64 _ (by omega)) ?_
    refine ifd (fun hb => ?_) (fun hb => ?_)
    · rw [testBit_int] at hb
      refine num_eq (bits_and_i64 _ _ (by omega) (by omega)) ?_
      refine ifd (fun hb2 => ?_) (fun hb2 => ?_)
      · refine num_eq (bits_and_i64 _ _ (by omega) (by omega)) ?_
        refine num64 (by omega) (by omega) ⟨s + 1, by omega, by omega, ⟨⟨rfl, rfl, rfl, rfl, ?_, rfl, trivial⟩, ⟨rfl, trivial⟩, rfl, rfl⟩⟩
        rw [commN_succ, if_pos ⟨hb, by omega⟩]; rfl
      · refine num64 (by omega) (by omega) ⟨s + 1, by omega, by omega, ⟨⟨rfl, rfl, rfl, rfl, ?_, rfl, trivial⟩, ⟨rfl, trivial⟩, rfl, rfl⟩⟩
        rw [commN_succ, if_neg fun h => by omega]; rfl
    · rw [testBit_int] at hb
      refine num64 (by omega) (by omega) ⟨s + 1, by omega, by omega, ⟨⟨rfl, rfl, rfl, rfl, ?_, rfl, trivial⟩, ⟨rfl, trivial⟩, rfl, rfl⟩⟩
      rw [commN_succ, if_neg fun h => hb h.1]; rfl
  obtain rfl : s = 2 ^ a := by omega
  generalize hC : commN row (wantN args) a (2 ^ a) = C at *
  intro r91
  refine loop_intro (fun z : Nat × Option Nat × Nat => z.1 ≤ a)
    (fun (i, b, c) => ⟨[(3, .loc 0 r3 0), (9, .val (.int .i64 k)), (13, .val (.int .i64 ((C : Nat) : Int))), (15, .row 1 b (ints (rI (outN C i))).length c), (16, .val (.int .i64 (i : Nat)))], [(0, some (.cells r3 [.val (.slice q.1 p.rels.length q.2)] 67)), (1, some (.row b c 3 1 (ints (rI (outN C i)))))], 2, μ1, Mem.nil⟩) (fun z => a - z.1)
    (0, some r91, 0) (Nat.zero_le _) (fun (_, _, _) => ⟨rfl, rfl⟩) ⟨⟨rfl, rfl, rfl, rfl, rfl, trivial⟩, ⟨rfl, rfl, trivial⟩, rfl, rfl⟩ ?_
  rintro ⟨i, b, c⟩ hi
  dsimp only at hi
  have hol : (outN C i).length ≤ i := Nat.le_trans (List.length_filter_le _ _) (by simp)
  have hil : (ints (rI (outN C i))).length = (outN C i).length := by rw [ints, List.length_map, rI_length]
  refine elem_intro helR ?_
  refine ifd (fun hlt => ?_) (fun hlt => ?_)
  · refine need_intro (Int.natCast_nonneg _) ?_
    refine num_eq (shr_i64 C (Int.natCast_nonneg i) (by omega)) ?_
    have hd : C / 2 ^ ((i : Nat) : Int).toNat ≤ C := Nat.div_le_self _ _
    refine num_eq (and_one_i64 _ (by omega)) ?_
    refine ifd (fun hb => ?_) (fun hb => ?_)
    · rw [testBit_int] at hb
      intro r109
      refine grow_intro ?_ ?_ fun b' c' _ => ?_
      · show (_ + 1) * 8 ≤ _; omega
      · exact Nat.le_trans (m := 1000) (show _ + 1 ≤ _ by omega) (by decide)
      have ez : ints (rI (outN C (i + 1))) = ints (rI (outN C i)) ++ [.int .i64 (i : Nat)] := by rw [outN_succ, if_pos hb]; exact ints_snoc _ _
      refine num64 (by omega) (by omega) ⟨(i + 1, b', c'), by dsimp only; omega, by dsimp only; omega, ?_⟩
      dsimp only
      rw [ez]
      exact ⟨⟨rfl, rfl, rfl, by rw [List.length_append]; rfl, rfl, trivial⟩, ⟨rfl, rfl, trivial⟩, rfl, rfl⟩
    · rw [testBit_int] at hb
      have ez : outN C (i + 1) = outN C i := by rw [outN_succ, if_neg hb, List.append_nil]
      refine num64 (by omega) (by omega) ⟨(i + 1, b, c), by dsimp only; omega, by dsimp only; omega, ?_⟩
      dsimp only
      rw [ez]
      exact ⟨⟨rfl, rfl, rfl, rfl, rfl, trivial⟩, ⟨rfl, rfl, trivial⟩, rfl, rfl⟩
  obtain rfl : i = a := by omega
  refine ret_frz [1] fun μ3 hle3 hno3 hat3 => .inl ?_
  rw [hA]
  exact Ints.sl hat3 (Nat.le_trans (m := 1000) (by rw [rI_length]; omega) (by decide))
end
end Go.Vx

/- The law on rows of a program. -/
namespace Go.Vx
open Go.Proofs Classical
section
variable {μ : Mem}
theorem read_IntS : Reads Tryz.prog 74 fun d => ∃ l : List Int, d = .sl 1 (l.map D.i) := fun n =>
  (reads_sl ti74.kind (cellsOf_tt ti3) (fun d h => by obtain ⟨a, rfl, _⟩ := h; rfl) (reads_int und_int) n).weaken fun d h => by
    obtain ⟨xs, rfl, hx⟩ := h
    obtain ⟨l, rfl⟩ := lift_list (f := D.i) fun x h => by obtain ⟨k, h, _⟩ := hx x h; exact ⟨k, h⟩
    exact ⟨l, rfl⟩
end
end Go.Vx

/- The laws on groundness. -/
namespace Go.Vx
open Go.Proofs Classical
section
variable {μ : Mem}
theorem gAfter_len (p : Pg) (s : ByteArray) (l : List Int) : (gAfter p s l).length ≤ 4 := by
  unfold gAfter
  split
  · rename_i h
    split
    · rename_i r row hr hw
      split
      · rw [rI_length]
        have h1 : (outN (commN row (wantN l) r.arity.toNat (2 ^ r.arity.toNat)) r.arity.toNat).length ≤ r.arity.toNat := Nat.le_trans (List.length_filter_le _ _) (by simp)
        have h2 := (h.pos.1.2 _ r hr).ar4
        omega
      · simp
    · simp
  · simp
theorem after_rep {μ : Mem} {l : List Int} {v : Value} (h : RepV μ (.sl 1 (l.map D.i)) v) : ∃ tv, v = tv ∧ RepV μ (.sl 1 (l.map D.i)) tv := ⟨v, rfl, h⟩
theorem after_fresh {μ μ' : Mem} {l : List Int} {v : Value} (h : Fresh μ μ' (.sl 1 (l.map D.i)) v) : ∃ tv, v = id tv ∧ Fresh μ μ' (.sl 1 (l.map D.i)) tv := ⟨v, rfl, h⟩
set_option maxHeartbeats 4000000 in
theorem FnExactGroundAfter_spec {t0 : Pg} {v0 : Value} {t1 : List Int} {v1 : Value} {nm : ByteArray} (h0 : RepV μ t0.d v0) (h1 : RepV μ (.sl 1 (t1.map D.i)) v1) (w0 : t0.d.wd)  :
    Spec Tryz.prog 11 [v0, .string nm, v1] μ fun r _ => r = .bool true := by
  obtain ⟨p0, rfl⟩ := Pg.invV h0
  obtain ⟨b1, c1, rfl, s1⟩ := Rep.sl h1
  rw [List.length_map] at s1 ⊢
  refine Spec.mk Tryz.func11 (by kernel_rfl) ?_
  intro r0
  refine ifd (fun h => ret_plain rfl) (fun h => ?_)
  refine ifd (fun h => ret_plain rfl) (fun hn1 => ?_)
  refine call_gives (szProgram_spec t0 h0 (by omega) (by omega) w0) ?_
  refine ifd (fun h => ret_plain rfl) (fun h => ?_)
  have q0 := szR_ge h
  rw [szR_pos q0] at h
  have hb0 : t0.d.sz ≤ 1048576 := by omega
  have hb1 : t1.length ≤ 1048576 := by omega
  refine call_plain (toProgram_spec t0 h0 hb0) fun u1 μ1 hle1 hf1 => ?_
  replace h0 := h0.mono hle1
  replace s1 := s1.mono hle1
  obtain ⟨qq2, rfl⟩ := Pg.invV hf1.rep
  have a0 := hf1.rep
  refine call_plain (toIntS_spec s1 hb1) fun u3 μ3 hle3 hf3 => ?_
  replace h0 := h0.mono hle3
  replace s1 := s1.mono hle3
  replace a0 := a0.mono hle3
  obtain ⟨bb4, cc4, rfl, a1⟩ := Rep.sl hf3.rep
  rw [List.length_map] at a1 ⊢
  refine call_plain (spec_GroundAfter_spec (name := nm) a0 w0 (by have := Pg.sz_eq t0; omega) a1) fun u5 μ5 hle5 hR => ?_
  replace h0 := h0.mono hle5
  replace s1 := s1.mono hle5
  replace a0 := a0.mono hle5
  replace a1 := a1.mono hle5
  obtain ⟨w0, rfl, hw0⟩ := after_rep hR
  obtain ⟨bb6, cc6, rfl, hw⟩ := Rep.sl hw0
  rw [List.length_map] at hw ⊢
  refine call_new id (apart_nil _) Owns.none ((toProgram_spec t0 (h0.mono (Mem.le_join _ _)) hb0).weaken fun v μ' _ h => ⟨v, rfl, h⟩) fun x0 μ7 H7 hle7 hap7 ho7 => ?_
  replace h0 := h0.mono hle7
  replace s1 := s1.mono hle7
  replace hw := hw.mono hle7
  obtain ⟨qq8, rfl⟩ := Pg.invV (Owns.rep (l1 := []) hap7 ho7)
  have xx0 := (Owns.rep (l1 := []) hap7 ho7)
  intro rx0
  refine call_new id hap7 ho7 ((toIntS_spec (s1.mono (Mem.le_join _ _)) hb1).weaken fun v μ' _ h => ⟨v, rfl, h⟩) fun x1 μ9 H9 hle9 hap9 ho9 => ?_
  replace h0 := h0.mono hle9
  replace s1 := s1.mono hle9
  replace hw := hw.mono hle9
  obtain ⟨bb10, cc10, rfl, xx1⟩ := Rep.sl (Owns.rep (l1 := [_]) hap9 ho9)
  rw [List.length_map] at xx1 ho9 ⊢
  obtain ⟨bn13, cn13, en13, ya12⟩ := Rep.sl (Owns.rep (l1 := [_]) hap9 ho9)
  rw [List.length_map] at ya12 en13
  obtain ⟨rfl, _, rfl⟩ := Value.slice.inj en13
  refine call_new (id) hap9 ho9 ((impl_GroundAfter_spec (name := nm) (Owns.rep (l1 := []) hap9 ho9) (by have := Pg.sz_eq t0; omega) ya12).weaken fun v μ' _ h => after_fresh h) fun g0 μ11 H11 hle11 hap11 ho11 => ?_
  replace h0 := h0.mono hle11
  replace s1 := s1.mono hle11
  replace hw := hw.mono hle11
  obtain ⟨bb14, cc14, rfl, gg⟩ := Rep.sl (Owns.rep (l1 := [_, _]) hap11 ho11)
  rw [List.length_map] at gg ho11 ⊢
  obtain ⟨bn16, cn16, en16, yg15⟩ := Rep.sl (Owns.rep (l1 := [_, _]) hap11 ho11)
  rw [List.length_map] at yg15 en16
  obtain ⟨rfl, _, rfl⟩ := Value.slice.inj en16
  refine call_read hap11 (eqIntS_spec yg15 (hw.mono (Mem.le_join _ _))) ?_
  refine if_intro (fun h => nomatch h) (fun _ => ?_)
  refine call_data hap11 (toProgram_spec t0 h0 hb0) fun u17 μ17 hle17 hap17 hf17 => ?_
  replace h0 := h0.mono hle17
  replace s1 := s1.mono hle17
  replace hw := hw.mono hle17
  refine call_read hap17 (eqProgram_spec t0 (Owns.rep (l1 := []) hap17 ho11) (hf17.rep.mono (Mem.le_join _ _))) ?_
  refine if_intro (fun h => nomatch h) (fun _ => ?_)
  refine call_data hap17 (toIntS_spec s1 hb1) fun u18 μ18 hle18 hap18 hf18 => ?_
  replace h0 := h0.mono hle18
  replace s1 := s1.mono hle18
  replace hw := hw.mono hle18
  obtain ⟨bb19, cc19, rfl, z1⟩ := Rep.sl hf18.rep
  rw [List.length_map] at z1 ⊢
  obtain ⟨bn21, cn21, en21, yb20⟩ := Rep.sl (Owns.rep (l1 := [_]) hap18 ho11)
  rw [List.length_map] at yb20 en21
  obtain ⟨rfl, _, rfl⟩ := Value.slice.inj en21
  refine call_read hap18 (eqIntS_spec yb20 (z1.mono (Mem.le_join _ _))) ?_
  refine if_intro (fun h => nomatch h) (fun _ => ?_)
  have ca0 := pg_cnt_sz t0
  rw [Pg.cnt_eq] at ca0
  have ma0 := pg_mt t0 (1)
  have ca1 := ints_cnt t1
  have ma1 := D.mks_cnt (t1.map D.i) ((t0.d.mt (1)).2)
  have rz := gAfter_len t0 nm t1
  have rz2 := ints_cnt (gAfter t0 nm t1)
  have mg := D.mks_cnt ((gAfter t0 nm t1).map D.i) 1
  refine call_mark (l1 := []) hap18 ho11 (fun hx o => markProgram_spec t0 o (by omega) (by omega)) fun H22 hap22 ho22 => ?_
  refine call_mark (l1 := [_]) hap22 ho22 (fun hx o => markIntS_spec o (by omega) (by omega)) fun H23 hap23 ho23 => ?_
  refine ifd (fun h => by omega) (fun _ => ?_)
  obtain ⟨bn25, cn25, en25, yg24⟩ := Rep.sl (Owns.rep (l1 := [_, _]) hap23 ho23)
  rw [List.length_map] at yg24 en25
  obtain ⟨rfl, _, rfl⟩ := Value.slice.inj en25
  refine call_read hap23 (eqIntS_spec yg24 (hw.mono (Mem.le_join _ _))) ?_
  refine if_intro (fun h => nomatch h) (fun _ => ?_)
  refine call_mark (l1 := [_, _]) hap23 ho23 (fun hx o => markIntS_spec o (by omega) (by omega)) fun H26 hap26 ho26 => ?_
  refine call_read hap26 (heldIntS_spec (Owns.rep (l1 := [_, _]) hap26 ho26) (by omega) (by omega)) ?_
  refine ifd (fun h => by omega) (fun _ => ?_)
  refine ifnd (fun h => absurd rfl h) (fun _ => ?_)
  refine call_data hap26 (toProgram_spec t0 h0 hb0) fun u27 μ27 hle27 hap27 hf27 => ?_
  replace h0 := h0.mono hle27
  replace s1 := s1.mono hle27
  replace hw := hw.mono hle27
  obtain ⟨qq28, rfl⟩ := Pg.invV hf27.rep
  have o0 := hf27.rep
  refine call_data hap27 (toIntS_spec s1 hb1) fun u29 μ29 hle29 hap29 hf29 => ?_
  replace h0 := h0.mono hle29
  replace s1 := s1.mono hle29
  replace hw := hw.mono hle29
  replace o0 := o0.mono hle29
  obtain ⟨bb30, cc30, rfl, o1⟩ := Rep.sl hf29.rep
  rw [List.length_map] at o1 ⊢
  refine call_data hap29 ((impl_GroundAfter_spec (name := nm) o0 (by have := Pg.sz_eq t0; omega) o1).weaken fun v μ' _ h => after_fresh h) fun u31 μ31 hle31 hap31 hR => ?_
  replace h0 := h0.mono hle31
  replace s1 := s1.mono hle31
  replace hw := hw.mono hle31
  replace o0 := o0.mono hle31
  replace o1 := o1.mono hle31
  obtain ⟨h0, rfl, hh0⟩ := hR
  obtain ⟨bb32, cc32, rfl, hh⟩ := Rep.sl hh0.rep
  rw [List.length_map] at hh ⊢
  refine call_read hap31 (eqIntS_spec (hh.mono (Mem.le_join _ _)) (hw.mono (Mem.le_join _ _))) ?_
  refine if_intro (fun h => nomatch h) (fun _ => ?_)
  refine call_read hap31 (heldIntS_spec (Owns.rep (l1 := [_, _]) hap31 ho26) (by omega) (by omega)) ?_
  refine ifd (fun h => by omega) (fun _ => ?_)
  refine ifnd (fun h => absurd rfl h) (fun _ => ?_)
  exact ret_plain rfl
end
end Go.Vx

