/- Texts of the proof, part E2. -/
import Derived.Test.YteomklpfifepdaaE1
namespace Go.Vx
open Go.Proofs Classical
theorem foldl_one : ∀ (l acc : List Int), l.foldl (fun s n => s ++ [n]) acc = acc ++ l
 | [], acc => by simp
 | a :: l, acc => by rw [List.foldl_cons, foldl_one l]; simp
def bndS (m n : Int) : Int := if n + 1 > m then n + 1 else m
structure BndOf (l : List Int) (m : Int) : Prop where
 pos : 0 ≤ m
 hi : ∀ n ∈ l, n < m
 top : m = 0 ∨ m - 1 ∈ l
theorem BndOf.nil : BndOf [] 0 := ⟨Int.le_refl 0, fun n h => by simp at h, .inl rfl⟩
theorem BndOf.one {l : List Int} {m n : Int} (h : BndOf l m) (hn : 0 ≤ n) : BndOf (l ++ [n]) (bndS m n) := by
 unfold bndS
 split
 ·rename_i k
  refine ⟨by omega, fun a ha => ?_, .inr (by simp)⟩
  rcases List.mem_append.1 ha with ha | ha
  ·have := h.hi a ha; omega
  ·rw [List.mem_singleton.1 ha]; omega
 ·rename_i k
  refine ⟨h.pos, fun a ha => ?_, h.top.imp id fun q => List.mem_append_left _ q⟩
  rcases List.mem_append.1 ha with ha | ha
  ·exact h.hi a ha
  ·rw [List.mem_singleton.1 ha]; omega
theorem BndOf.all : ∀ (r : List Int) {l : List Int} {m : Int}, BndOf l m → (∀ n ∈ r, 0 ≤ n) → BndOf (l ++ r) (r.foldl bndS m)
 | [], l, m, h, _ => by rw [List.append_nil]; exact h
 | a :: r, l, m, h, k => by
  have := BndOf.all r (h.one (k a (by simp))) fun n hn => k n (by simp [hn])
  rw [List.append_assoc] at this
  exact this
theorem BndOf.max {l : List Int} {m : Int} (h : BndOf l m) (k : ∀ n ∈ l, n ≤ 100000) : m ≤ 100001 := by
 rcases h.top with e | e
 ·omega
 ·have := k _ e; omega
section
variable {μ : Mem}
theorem TermVars1_spec {rm : Nat} {s : List Int} {h : Mem} {n : Int} (H : KeysInv rm s h) : SpecH Try.prog 87 [.int .i64 n, .pointer (some ⟨rm, 0, none⟩)] μ h fun r μ' h' => r = .tuple #[] ∧ μ' = μ ∧ KeysInv rm (s ++ [n]) h' := by
 obtain ⟨r, l, h1, h2, hk, hg⟩ := H
 have e1 : rm ≠ r := ne_of_obj h1 h2 (by simp [mapO])
 refine SpecH.mk [] Try.func87 (by kernel_rfl) ?_
 refine oIn [.map (some r)] rfl (box_at h1) ?_
 refine upd_intro l h2 (hk.weaken (by rintro _ ⟨n, rfl⟩; rfl)) rfl ?_
 refine rPl ⟨rfl, rfl, r, _, ?_, Mem.set_at _ _ _, hk.int _, fun m => ?_⟩
 ·dsimp only; rw [Mem.set_ne e1]; exact h1
 ·rw [mget_int, List.mem_append, List.mem_singleton]
  by_cases e : m = n
  ·simp [e]
  ·rw [if_neg e, hg]; simp [e]
theorem TermVars_spec {x : T} {v : Value} (hx : x.ok) (hv : RepV μ x.tm.d v) :
  Spec Try.prog 40 [v] μ fun r _ => ∃ xs : List Int, (∀ n, n ∈ xs ↔ n ∈ x.vars) ∧ xs.Nodup ∧ ∃ b c, r = .slice b xs.length c := by
 have w_ := Tm.invV hv
 obtain ⟨p, rfl⟩ := w_
 refine Spec.mkO [7, 3] Try.func40 (by kernel_rfl) ?_
 intro r
 refine cGv (impl_TermOk_spec x.tm hv) ?_
 refine ifnd (fun h => absurd hx.tm h) (fun _ => ?_)
 intro rM hmM hoM r3 hm3 ho3
 refine sIn [.map none] 109 (Mem.set_at _ _ _) rfl (Nat.le_refl _) ?_
 dsimp only at hmM hoM hm3 ho3
 have n1 : rM ≠ r3 := fun e => by subst e; simp [Mem.set_get] at ho3
 generalize hh : Mem.set (Mem.set _ r3 _) r3 _ = h0
 have H0 : KeysInv r3 [] h0 := by
  subst hh
  refine ⟨rM, [], ?_, ?_, MapOk.nil, fun n => by simp [mget]⟩
  ·rw [Mem.set_at]; rfl
  ·dsimp only; rw [Mem.set_ne n1, Mem.set_ne n1, Mem.set_at]
 refine cOw (eachVar_rel (KeysInv r3) (fun s n => s ++ [n]) (fun _ _ => True) (fun s h n _ hj => TermVars1_spec hj) x [] h0 hv (fun _ _ _ _ => trivial) H0) fun v μ' h' hle hap hR => ?_
 obtain ⟨rfl, e2, hj⟩ := hR
 obtain rfl := e2.symm
 rw [foldl_one, List.nil_append] at hj
 obtain ⟨r, l, h1, h2, hk, hg⟩ := hj
 have hlen : l.length ≤ 1000000 := by
  have w_ := keys_ints hk
  obtain ⟨ks, hks, hnd⟩ := w_
  have := nodup_range (N := 100001) hnd fun n hn => by
   have h3 := (hg n).1 ((mget_keys hks n).2 hn)
   have := T.good_vars hx.1 n h3
   omega
  have h4 := congrArg List.length hks
  simp only [ints, List.length_map] at h4
  omega
 refine oIn [.map (some r)] rfl (box_at h1) ?_
 refine cOw (sortedInts_spec h2 hk hlen) fun v μ2 h2' hle2 hap2 hR2 => ?_
 obtain ⟨rfl, xs, g1, g2, g3⟩ := hR2
 have w_ := Rep.sl g3.rep
 obtain ⟨b, c, rfl, _⟩ := w_
 rw [List.length_map]
 exact rPl ⟨xs, fun n => (g1 n).trans (hg n), g2.imp fun h e => by omega, b, c, rfl⟩
theorem VarBound1_spec {r3 : Nat} {m n : Int} {h : Mem} (hn : 0 ≤ n ∧ n ≤ 100000) (H : h r3 = some (.cells #[.int .i64 m] 3 (0, 0))) :
  SpecH Try.prog 86 [.int .i64 n, .pointer (some ⟨r3, 0, none⟩)] μ h fun r μ' h' => r = .tuple #[] ∧ μ' = μ ∧ h' r3 = some (.cells #[.int .i64 (bndS m n)] 3 (0, 0)) := by
 refine SpecH.mk [] Try.func86 (by kernel_rfl) ?_
 refine oIn [.int .i64 m] rfl (box_at H) ?_
 refine num64 (by omega) (by omega) ?_
 refine sIn [.int .i64 m] 3 H rfl (Nat.le_refl _) ?_
 refine rPl ⟨rfl, rfl, ?_⟩
 dsimp only
 rw [Mem.set_at]
 rfl
theorem VarBound_spec {xs : List T} {base : Option Addr} {cap : Nat} (hx : ∀ x ∈ xs, x.ok) (hsl : Sl μ 4 base xs.length ((xs.map T.tm).map Tm.d)) :
  Spec Try.prog 39 [.slice base xs.length cap] μ fun r _ => ∃ m : Int, r = .int .i64 m ∧ BndOf (xs.flatMap T.vars) m := by
 have hn := maxLen_le hsl.max
 have hall := termsOk_spec (l := xs.map T.tm) (cap := cap) (by rw [List.length_map]; exact hsl)
 rw [List.length_map] at hall
 refine Spec.mkO [3] Try.func39 (by kernel_rfl) ?_
 refine cGv hall ?_
 refine ifnd (fun h => absurd (fun t ht => ?_) h) (fun _ => ?_)
 ·have w_ := List.mem_map.1 ht
  obtain ⟨y, hy, rfl⟩ := w_
  exact (hx y hy).tm
 intro r3 hm3 ho3
 refine sIn [.int .i64 0] 3 (Mem.set_at _ _ _) rfl (Nat.le_refl _) ?_
 generalize hh : Mem.set (Mem.set _ r3 _) r3 _ = h0
 have H0 : h0 r3 = some (.cells #[.int .i64 0] 3 (0, 0)) := by subst hh; rw [Mem.set_at]; rfl
 refine lIn (fun p : Nat × Int × Mem => p.1 ≤ xs.length ∧ p.2.2 r3 = some (.cells #[.int .i64 p.2.1] 3 (0, 0)) ∧ BndOf ((xs.take p.1).flatMap T.vars) p.2.1)
  (fun (i, _, h') => ⟨[(3, .val (.pointer (some ⟨r3, 0, none⟩))), (9, .val (.slice base xs.length cap)), (10, .val (.int .i64 xs.length)), (11, .val (.int .i64 i))], [], 0, μ, h'⟩) (fun p => xs.length - p.1)
  (0, 0, h0) ⟨Nat.zero_le _, H0, BndOf.nil⟩ (fun (_, _, _) => ⟨rfl, rfl⟩) ⟨⟨rfl, rfl, rfl, rfl, trivial⟩, trivial, rfl, rfl⟩ ?_
 clear H0 hh hm3 ho3
 rintro ⟨i, m, h1⟩ ⟨hi, H1, hbo⟩
 dsimp only at hi H1 hbo
 have hrange : ∀ n ∈ (xs.take i).flatMap T.vars, n ≤ 100000 := fun n hn => by
  have w_ := List.mem_flatMap.1 hn
  obtain ⟨y, hy, hn⟩ := w_
  exact (T.good_vars (hx y (List.mem_of_mem_take hy)).1 n hn).2
 refine ifd (fun hlt => ?_) (fun hlt => ?_)
 ·have w_ := aSo (l := xs) (i := i) (by omega)
  obtain ⟨y, hy⟩ := w_
  have w_ := Tm.elem (i := i) (t := y.tm) hsl (by simp [hy])
  obtain ⟨ad, p, hel, hto⟩ := w_
  have hyo := hx y (mAt hy)
  refine eIn hel ?_
  intro r5
  refine cOw (eachVar_rel (fun (s : Int) h => h r3 = some (.cells #[.int .i64 s] 3 (0, 0))) bndS (fun s n => (0 ≤ s ∧ s ≤ 100001) ∧ 0 ≤ n ∧ n ≤ 100000) (fun s h n hq hj => VarBound1_spec hq.2 hj) y m h1 hto (fun pre n post e => ?_) H1) fun v μ' h' hle hap hR => ?_
  ·have hg := T.good_vars hyo.1
   have hpre : ∀ a ∈ pre, 0 ≤ a ∧ a ≤ 100000 := fun a ha => hg a (by rw [e]; simp [ha])
   have hb := hbo.all pre fun a ha => (hpre a ha).1
   refine ⟨⟨hb.pos, hb.max fun a ha => ?_⟩, hg n (by rw [e]; simp)⟩
   rcases List.mem_append.1 ha with ha | ha
   ·exact hrange a ha
   ·exact (hpre a ha).2
  ·obtain ⟨rfl, e2, hj⟩ := hR
   obtain rfl := e2.symm
   have hb := hbo.all y.vars fun a ha => (T.good_vars hyo.1 a ha).1
   refine num64 (by omega) (by omega) ⟨(i + 1, _, h'), ⟨by dsimp only; omega, hj, ?_⟩, by dsimp only; omega, ⟨⟨rfl, rfl, rfl, rfl, trivial⟩, trivial, rfl, rfl⟩⟩
   rw [flat_take hy]
   exact hb
 ·obtain rfl : i = xs.length := by omega
  rw [List.take_length] at hbo
  refine oIn [.int .i64 m] rfl (box_at H1) ?_
  exact rPl ⟨m, rfl, hbo⟩
theorem ShiftTerm_spec {x : T} {v : Value} {k : Int} (hx : x.ok) (hk : 0 ≤ k ∧ k ≤ 1000) (hl : ∀ n ∈ x.vars, n + k ≤ 100000) (hv : RepV μ x.tm.d v) :
  Spec Try.prog 33 [v, .int .i64 k] μ fun r μ' => ∃ tv, r = .tuple #[tv, .bool true] ∧ RepV μ' (x.subst (shF k)).tm.d tv := by
 have w_ := Tm.invV hv
 obtain ⟨p, rfl⟩ := w_
 refine Spec.mk Try.func33 (by kernel_rfl) ?_
 intro r1 r2
 refine cGv (impl_TermOk_spec x.tm hv) ?_
 refine ifnd (fun h => absurd hx.tm h) (fun _ => ?_)
 refine ifd (fun h => by omega) (fun _ => ?_)
 intro r3
 refine call_frz [2] ?_
 intro μ1 hle1 hno1 hat1
 have hx1 : RepV μ1 (.sl 4 (([x].map T.tm).map Tm.d)) (.slice (some ⟨r3, 0, none⟩) 1 1) := Rows.sl hat1 (Rows.one (hv.mono hle1) (Tm.d_n _)) (show 1 ≤ maxLen by decide)
 have w_ := Rep.sl hx1
 obtain ⟨_, _, e1, hx1⟩ := w_
 simp only [Value.slice.injEq] at e1
 obtain ⟨rfl, _, rfl⟩ := e1
 refine call_go (VarBound_spec (xs := [x]) (cap := 1) (fun y hy => by rw [List.mem_singleton.1 hy]; exact hx) hx1) fun r μ2 hle2 hR => ?_
 obtain ⟨m, rfl, hm⟩ := hR
 rw [List.flatMap_singleton] at hm
 have hg := T.good_vars hx.1
 have hmx := hm.max fun n hn => (hg n hn).2
 have hmp := hm.pos
 refine num64 (by omega) (by omega) ?_
 have hbig : m - 1 ≥ 0 → ¬ k > 100000 - (m - 1) := fun h => by
  rcases hm.top with e | e
  ·omega
  ·have := hl _ e; omega
 have fin : ∀ {μ2 : Mem}, RepV μ2 x.tm.d (.agg #[.int .i64 x.tm.kind, .int .i64 x.tm.num, .string x.tm.name, .slice p.1 x.tm.args.length p.2]) → Spec Try.prog 84 [.agg #[.int .i64 x.tm.kind, .int .i64 x.tm.num, .string x.tm.name, .slice p.1 x.tm.args.length p.2], .int .i64 k] μ2 fun v μ' => Fresh μ2 μ' (x.subst (shF k)).tm.d v := fun h => shifted_spec hk x hx.1 h
 refine ifd (fun h1 => ?_) (fun h1 => ?_)
 ·refine num64 (by omega) (by omega) ?_
  refine ifd (fun h2 => absurd h2 (hbig h1)) (fun _ => ?_)
  refine cPl (fin ((hv.mono hle1).mono hle2)) fun v3 μ3 hle3 hR3 => ?_
  have w_ := Tm.invV hR3.rep
  obtain ⟨q, rfl⟩ := w_
  exact rPl ⟨_, rfl, hR3.rep⟩
 ·refine cPl (fin ((hv.mono hle1).mono hle2)) fun v3 μ3 hle3 hR3 => ?_
  have w_ := Tm.invV hR3.rep
  obtain ⟨q, rfl⟩ := w_
  exact rPl ⟨_, rfl, hR3.rep⟩
theorem impl_OrderedVars_spec {xs : List T} {base : Option Addr} {cap : Nat} (hsl : Sl μ 4 base xs.length ((xs.map T.tm).map Tm.d)) (hx : ∀ x ∈ xs, x.ok) (hn : xs.length ≤ 10000000) :
  Spec Try.prog 38 [.slice base xs.length cap] μ fun v μ' => RepV μ' (.sl 1 ((ordAll [] (xs.flatMap T.vars)).map D.i)) v := by
 have hall := termsOk_spec (l := xs.map T.tm) (cap := cap) (by rw [List.length_map]; exact hsl)
 rw [List.length_map] at hall
 refine Spec.mk Try.func38 (by kernel_rfl) ?_
 refine cGv hall ?_
 refine ifnd (fun h => absurd (fun t ht => ?_) h) (fun _ => ?_)
 ·have w_ := List.mem_map.1 ht
  obtain ⟨y, hy, rfl⟩ := w_
  exact (hx y hy).tm
 refine cPl (impl_orderedVars_spec hsl (fun x h => (hx x h).2) hn) fun v μ1 hle1 hR => ?_
 exact rPl hR
end
theorem ordV_le (x : T) : (ordV x).length ≤ x.lvs := by
 have h1 := nodup_le3 (a := ordV x) (b := x.vars) (ordAll_nodup x.vars (by simp)) fun n h => by simpa [ordV, ordAll_mem] using h
 exact Nat.le_trans h1 x.vars_lvs
theorem idx_lt {x : T} {n : Int} (h : x.occ n) : 0 ≤ idxW x n ∧ idxW x n < (ordV x).length := by
 have hm : n ∈ ordV x := (ordAll_mem _ _ _).2 (.inl (T.occ_vars.1 h))
 have := List.idxOf_lt_length_iff.2 hm
 unfold idxW
 omega
theorem T.lvs_ren (r : Int → Int) : ∀ x : T, (x.ap (ren r)).lvs = x.lvs
 | .pair a b => by
  show (a.ap (ren r)).lvs + (b.ap (ren r)).lvs = a.lvs + b.lvs
  rw [a.lvs_ren r, b.lvs_ren r]
 | .var _ => rfl
 | .nil => rfl
 | .sym _ => rfl
 | .num _ => rfl
theorem canon1_drawn {k : Nat} {vars : Int} {x : T} (h : Drawn k vars x) (hk : k ≤ 2500) : Drawn k (k : Int) (canon1 x) := by
 rw [canon1_ren]
 have hl : (ordV x).length ≤ k := Nat.le_trans (ordV_le x) h.lvs
 have h1 := x.lvs_ren (idxW x)
 refine ⟨T.good_ap (fun n hn => ?_) h.good, fun n hn => ?_, by rw [h1]; exact h.lvs⟩
 ·have := idx_lt hn
  show 0 ≤ idxW x n ∧ idxW x n ≤ 100000
  omega
 ·have w_ := T.occ_ap hn
  obtain ⟨m, hm, hn⟩ := w_
  have hn : idxW x m = n := hn
  have := idx_lt hm
  omega
theorem DSub.asF_out {s : List B} (h : DSub 4 8 4 4 s) {m : Int} (hm : m < 4 ∨ 8 ≤ m) : asF s m = .var m := by
 cases e : sub s m with
 | none => rw [asF, e]; rfl
 | some t =>
  have := h.rng _ (sub_in e)
  simp only at this
  omega
theorem DSub.fits_out {s : List B} (h : DSub 4 8 4 4 s) {x : T} (hx : ∀ n, x.occ n → n < 4 ∨ 8 ≤ n) (hs : x.size ≤ 5000) : fits s x = some x := by
 have e : x.subst (sub s) = x := by
  rw [subst_asF]
  conv => rhs; rw [← T.ap_var x]
  exact T.ap_congr fun n hn => h.asF_out (hx n hn)
 rw [fits, e]
 exact fit_some.2 ⟨hs, rfl⟩
theorem row1 {μ : Mem} {x : T} {v : Value} {r : Nat} (hat : RowAt μ (some r) 1 4 [v]) (hv : RepV μ x.tm.d v) : Sl μ 4 (some ⟨r, 0, none⟩) [x].length (([x].map T.tm).map Tm.d) := by
 have := Rows.sl hat (ds := ([x].map T.tm).map Tm.d) (Rows.one hv (Tm.d_n _)) (show 1 ≤ maxLen by decide)
 have w_ := Rep.sl this
 obtain ⟨_, _, e, h⟩ := w_
 cases e
 exact h
section
variable {μ : Mem}
set_option maxHeartbeats 1000000 in
theorem FnCanonical_spec {base : Option Addr} {n cap : Nat} (hb : Bytes μ base n) :
  Spec Try.prog 6 [.slice base n cap] μ fun r _ => r = .bool true := by
 refine Spec.mk Try.func6 (by kernel_rfl) ?_
 refine ifd (fun h => rPl rfl) (fun h => ?_)
 refine cPl (MakeTerm_spec hb 0 (by decide) 6 3 (by decide) (by decide)) fun v2 μ2 hle2 hR => ?_
 obtain ⟨a, ha, hda⟩ := hR
 rw [lvB_6] at hda
 have w_ := Tm.invV ha
 obtain ⟨pa, rfl⟩ := w_
 intro r1
 refine cPl (MakeAlike_spec (hb.mono hle2) 20 (by decide) 3 (by decide) ha hda) fun v3 μ3 hle3 hR => ?_
 obtain ⟨b0, hb0, hdb0⟩ := hR
 have w_ := Tm.invV hb0
 obtain ⟨pb, rfl⟩ := w_
 intro r2
 replace hb := hb.mono (hle2.trans hle3)
 replace ha := ha.mono hle3
 refine cPl (MakeNum_spec hb 40 (by decide)) fun v4 μ4 hle4 hR => ?_
 obtain ⟨e, k, rfl, hk⟩ := hR
 obtain rfl := e.symm
 refine need_intro (by decide) ?_
 refine num_intro fun x _ => ?_
 refine ifd (fun hx => ?_) (fun hx => ?_)
 ·refine cPl (MakeSize_spec hb 42 0 3 (by decide) (by decide) (by decide) (by decide)) fun v5 μ5 hle5 hR => ?_
  obtain ⟨e, z, rfl, hz0, hz3⟩ := hR
  obtain rfl := e.symm
  refine fun r3 => ?_
  refine call_frz [2] ?_
  intro μ6 hle6 hno6 hat6
  generalize hbs : [B.mk 0 (T.var z), B.mk 1 (T.var 0)] = bs
  have hbr : RepV μ6 (.sl 5 ((bs.map B.bd).map Bd.d)) (.slice (some ⟨r3, 0, none⟩) 2 2) := by
   subst hbs
   exact Rows.sl hat6 (.cons (RepV.bd (x := T.var z) (q := (none, 0)) (varV_rep z)) (Bd.d_n _) (.cons (RepV.bd (x := T.var 0) (q := (none, 0)) (varV_rep 0)) (Bd.d_n _) .nil)) (show 2 ≤ maxLen by decide)
  have hbl : bs.length = 2 := by subst hbs; rfl
  have w_ := Rep.sl hbr
  obtain ⟨_, _, e6, hbr⟩ := w_
  simp only [Value.slice.injEq] at e6
  obtain ⟨rfl, _, rfl⟩ := e6
  rw [List.length_map, List.length_map] at hbr
  have hMV := MakeValue_spec (cap := 2) hbr (ha.mono hle6)
  rw [hbl] at hMV
  refine call_go hMV fun v6 μ7 hle7 hR => ?_
  have hbv := hR
  generalize eb : a.ap (asF bs) = b at hbv
  have hdb : Drawn 8 4 b := by
   rw [← eb]
   refine (hda.ap (l := 1) (w := 4) (by decide) fun m h0 h3 => ?_).mono (by decide)
   have key : ∃ j : Int, asF bs m = .var j ∧ 0 ≤ j ∧ j < 4 := by
    subst hbs
    have hm : m = 0 ∨ m = 1 ∨ m = 2 := by omega
    rcases hm with rfl | rfl | rfl
    ·exact ⟨z, by simp [asF, sub], hz0, by omega⟩
    ·exact ⟨0, by simp [asF, sub], by decide, by decide⟩
    ·exact ⟨2, by simp [asF, sub], by decide, by decide⟩
   obtain ⟨j, ej, hj0, hj4⟩ := key
   rw [ej]
   exact ⟨⟨hj0, by omega⟩, fun n hn => by have hn : j = n := hn; omega, by show 1 ≤ 1; decide⟩
  have w_ := Tm.invV hR
  obtain ⟨pb2, rfl⟩ := w_
  rw [eb] at hbv ⊢
  replace ha := (ha.mono hle6).mono hle7
  replace hb := (hb.mono hle6).mono hle7
  have hao : a.ok := hda.ok (by decide)
  have hbo : b.ok := hdb.ok (by decide)
  have hca := canon1_drawn hda (by decide)
  have hcb := canon1_drawn hdb (by decide)
  intro r4
  refine call_frz [3] ?_
  intro μa hlea hnoa hata
  replace ha := ha.mono hlea
  replace hbv := hbv.mono hlea
  replace hb := hb.mono hlea
  refine call_go (impl_Canonical_spec (xs := [a]) (cap := 1) (row1 hata ha) (fun y hy => by rw [List.mem_singleton.1 hy]; exact hao) (show 1 ≤ 10000000 by decide)) fun xv μc hlec hRx => ?_
  have hxr := hRx.rep
  rw [canon_one] at hxr
  have w_ := Rep.sl hxr
  obtain ⟨bx, cx, rfl, hsx⟩ := w_
  rw [List.length_map, List.length_map] at hsx ⊢
  replace ha := ha.mono hlec
  replace hbv := hbv.mono hlec
  replace hb := hb.mono hlec
  intro r5
  refine call_frz [4] ?_
  intro μd hled hnod hatd
  replace ha := ha.mono hled
  replace hbv := hbv.mono hled
  replace hb := hb.mono hled
  replace hsx := hsx.mono hled
  refine call_go (impl_Canonical_spec (xs := [b]) (cap := 1) (row1 hatd hbv) (fun y hy => by rw [List.mem_singleton.1 hy]; exact hbo) (show 1 ≤ 10000000 by decide)) fun yv μe hlee hRy => ?_
  have hyr := hRy.rep
  rw [canon_one] at hyr
  have w_ := Rep.sl hyr
  obtain ⟨by_, cy, rfl, hsy⟩ := w_
  rw [List.length_map, List.length_map] at hsy ⊢
  replace ha := ha.mono hlee
  replace hbv := hbv.mono hlee
  replace hb := hb.mono hlee
  replace hsx := hsx.mono hlee
  refine cPl (ShiftTerm_spec (k := 77) hao (by decide) (fun n hn => by have := hda.low n (T.occ_vars.2 hn); omega) ha) fun sv μf hlef hRs => ?_
  obtain ⟨tv, rfl, hsv⟩ := hRs
  have esh : a.subst (shF 77) = a.ap (ren fun v => v + 77) := shift_ren 77 a
  rw [esh] at hsv
  generalize hse : a.ap (ren fun v => v + 77) = s at *
  have hds : Drawn 4 100 s := by
   rw [← hse]
   refine (hda.ap (l := 1) (w := 100) (by decide) fun m h0 h3 => ?_).mono (by decide)
   exact ⟨by show 0 ≤ m + 77 ∧ m + 77 ≤ 100000; omega, fun n hn => by have hn : m + 77 = n := hn; omega, by show 1 ≤ 1; decide⟩
  have hsc : canon1 s = canon1 a := by rw [← hse]; exact shift_canon 77 a
  have w_ := Tm.invV hsv
  obtain ⟨ps, rfl⟩ := w_
  intro r6
  replace ha := ha.mono hlef
  replace hbv := hbv.mono hlef
  replace hb := hb.mono hlef
  replace hsx := hsx.mono hlef
  replace hsy := hsy.mono hlef
  refine ifnd (fun h => absurd rfl h) (fun _ => ?_)
  refine cPl (impl_Canonical_spec (xs := [canon1 a]) (cap := cx) hsx (fun y hy => by rw [List.mem_singleton.1 hy]; exact hca.ok (by decide)) (show 1 ≤ 10000000 by decide)) fun wv μg hleg hRw => ?_
  have hwr := hRw.rep
  rw [canon_one, canon1_again] at hwr
  have w_ := Rep.sl hwr
  obtain ⟨bw, cw, rfl, hsw⟩ := w_
  rw [List.length_map, List.length_map] at hsw ⊢
  replace ha := ha.mono hleg
  replace hbv := hbv.mono hleg
  replace hb := hb.mono hleg
  replace hsx := hsx.mono hleg
  replace hsy := hsy.mono hleg
  replace hsv := hsv.mono hleg
  refine cGv (list_spec (μ := μg) (x := [canon1 a]) (y := [canon1 a]) (cap := cw) (cap2 := cx) hsw hsx) ?_
  refine ifnd (fun h => absurd rfl h) (fun _ => ?_)
  refine cPl (IsVariant_spec hao hbo (Nat.le_trans hda.lvs (by decide)) (Nat.le_trans hdb.lvs (by decide)) ha hbv) fun v10 μh hleh hRv => ?_
  obtain rfl := hRv
  replace ha := ha.mono hleh
  replace hbv := hbv.mono hleh
  replace hb := hb.mono hleh
  replace hsx := hsx.mono hleh
  replace hsy := hsy.mono hleh
  replace hsv := hsv.mono hleh
  refine cGv (list_spec (μ := μh) (x := [canon1 a]) (y := [canon1 b]) (cap := cx) (cap2 := cy) hsx hsy) ?_
  have eb1 : (!(decide (canon1 a = canon1 b) == decide ([canon1 a] = [canon1 b])) : Bool) = false := by
   have : [canon1 a] = [canon1 b] ↔ canon1 a = canon1 b := ⟨fun h => (List.cons.inj h).1, fun h => by rw [h]⟩
   simp only [this, beq_self_eq_true, Bool.not_true]
  refine iIn (fun q => absurd (eb1.symm.trans q) (by decide)) (fun _ => ?_)
  refine iIn (fun q => nomatch q) (fun _ => ?_)
  refine cPl (IsVariant_spec (hds.ok (by decide)) hao (Nat.le_trans hds.lvs (by decide)) (Nat.le_trans hda.lvs (by decide)) hsv ha) fun v11 μi hlei hRv => ?_
  obtain rfl := hRv
  replace ha := ha.mono hlei
  replace hb := hb.mono hlei
  replace hsx := hsx.mono hlei
  replace hsv := hsv.mono hlei
  refine ifnd (fun q => absurd hsc q) (fun _ => ?_)
  refine And.intro ?_ (And.intro ?_ trivial)
  ·refine cPl (MakeSubst_spec hb 60 (by decide)) fun zv μj hlej hRz => ?_
   obtain ⟨s2, hs2, hrs2⟩ := hRz
   have w_ := Rep.sl hrs2
   obtain ⟨bz, cz, rfl, hsz⟩ := w_
   refine fun r7 => ?_
   rw [List.length_map, List.length_map] at hsz ⊢
   replace ha := ha.mono hlej
   replace hsx := hsx.mono hlej
   replace hsv := hsv.mono hlej
   refine call_frz [6] ?_
   intro μk hlek hnok hatk
   replace ha := ha.mono hlek
   replace hsx := hsx.mono hlek
   replace hsv := hsv.mono hlek
   replace hsz := hsz.mono hlek
   have htwo : Sl μk 4 (some ⟨r7, 0, none⟩) 2 (([a, s].map T.tm).map Tm.d) := by
    have := Rows.sl hatk (ds := ([a, s].map T.tm).map Tm.d) (.cons ha (Tm.d_n _) (.cons hsv (Tm.d_n _) .nil)) (show 2 ≤ maxLen by decide)
    have w_ := Rep.sl this
    obtain ⟨_, _, e, h⟩ := w_
    cases e
    exact h
   have hre := impl_Reify_spec (l := s2.map B.bd) (ts := [a, s].map T.tm) (c1 := cz) (c2 := 2) (by rw [List.length_map]; exact hsz) htwo (show 2 ≤ 10000000 by decide)
   rw [List.length_map] at hre
   have ere : reif (s2.map B.bd) ([a, s].map T.tm) = some (canon [a, s]) := by
    have hS2 := hs2.subst (by decide) (by decide) (by decide) (by decide)
    rw [reif_eq ((substOk_iff s2).2 hS2) fun y hy => by
     simp only [List.mem_cons, List.not_mem_nil, or_false] at hy
     rcases hy with rfl | rfl
     ·exact hao
     ·exact hds.ok (by decide)]
    have f1 : fits s2 a = some a := hs2.fits_out (fun n hn => by have := hda.low n hn; omega) (hda.ok (by decide)).2
    have f2 : fits s2 s = some s := hs2.fits_out (fun n hn => by
     rw [← hse] at hn
     have w_ := T.occ_ap hn
     obtain ⟨j, hj, hn⟩ := w_
     have hn : j + 77 = n := hn
     have := hda.low j hj
     omega) (hds.ok (by decide)).2
    simp [f1, f2]
   rw [ere] at hre
   refine call_go hre fun rv μl hlel hRr => ?_
   obtain ⟨tv, rfl, htv⟩ := hRr
   have w_ := canon_first a [s]
   obtain ⟨zs, hzs⟩ := w_
   have hzl : zs.length = 1 := by
    have := congrArg List.length hzs
    simp only [canon, List.length_map, List.length_cons, List.length_nil] at this
    omega
   rw [hzs] at htv
   have w_ := Rep.slC htv.rep
   obtain ⟨bt, ct, rfl, hst, hct⟩ := w_
   have hz2 : (((canon1 a :: zs).map T.tm).map Tm.d).length = 2 := by simp [hzl]
   rw [hz2] at hst hct ⊢
   replace ha := ha.mono hlel
   replace hsx := hsx.mono hlel
   intro r8
   refine call_frz [7] ?_
   intro μm hlem hnom hatm
   replace ha := ha.mono hlem
   replace hsx := hsx.mono hlem
   replace hst := hst.mono hlem
   refine call_go (impl_OrderedVars_spec (xs := [a]) (cap := 1) (row1 hatm ha) (fun y hy => by rw [List.mem_singleton.1 hy]; exact hao) (show 1 ≤ 10000000 by decide)) fun ov μn hlen hRo => ?_
   rw [List.flatMap_singleton] at hRo
   have hRo : RepV μn (.sl 1 ((ordV a).map D.i)) ov := hRo
   have w_ := Rep.sl hRo
   obtain ⟨bo, co, rfl, _⟩ := w_
   rw [List.length_map]
   replace ha := ha.mono hlen
   replace hsx := hsx.mono hlen
   replace hst := hst.mono hlen
   have hol := ordV_le a
   have hda4 := hda.lvs
   refine iIn (fun _ => ?_) (fun q => nomatch q)
   refine ifd (fun _ => ?_) (fun q => absurd rfl q)
   refine cut_intro 0 1 rfl rfl (by decide) (by omega) ?_
   have hcut := Sl.headL (c := ct) (i := 1) hst (by decide)
   have hcut : Sl μn 4 (if ct = 0 then bt else bt.map (·.add (0 * 4))) 1 (([canon1 a].map T.tm).map Tm.d) := hcut
   refine cGv (list_spec (μ := μn) (x := [canon1 a]) (y := [canon1 a]) (cap := ct - 0) (cap2 := cx) hcut hsx) ?_
   refine ifd (fun _ => ?_) (fun q => absurd rfl q)
   refine cPl (VarBound_spec (xs := [canon1 a]) (cap := cx) (fun y hy => by rw [List.mem_singleton.1 hy]; exact hca.ok (by decide)) hsx) fun mv μo hleo hRm => ?_
   obtain ⟨m, rfl, hm⟩ := hRm
   rw [List.flatMap_singleton] at hm
   have em := canon1_bound a m hm.pos hm.hi hm.top
   refine ifd (fun _ => ?_) (fun q => absurd em q)
   refine cPl (TermVars_spec hao (ha.mono hleo)) fun uv μp hlep hRu => ?_
   obtain ⟨us, hus, hun, bu, cu, rfl⟩ := hRu
   have eu := ordV_len hun hus
   refine rPl ?_
   rw [eu, decide_eq_true rfl]
  ·refine fun r7 => ?_
   refine cPl (MakeSubst_spec hb 60 (by decide)) fun zv μj hlej hRz => ?_
   obtain ⟨s2, hs2, hrs2⟩ := hRz
   have w_ := Rep.sl hrs2
   obtain ⟨bz, cz, rfl, hsz⟩ := w_
   rw [List.length_map, List.length_map] at hsz ⊢
   replace ha := ha.mono hlej
   replace hsx := hsx.mono hlej
   replace hsv := hsv.mono hlej
   refine call_frz [6] ?_
   intro μk hlek hnok hatk
   replace ha := ha.mono hlek
   replace hsx := hsx.mono hlek
   replace hsv := hsv.mono hlek
   replace hsz := hsz.mono hlek
   have htwo : Sl μk 4 (some ⟨r7, 0, none⟩) 2 (([a, s].map T.tm).map Tm.d) := by
    have := Rows.sl hatk (ds := ([a, s].map T.tm).map Tm.d) (.cons ha (Tm.d_n _) (.cons hsv (Tm.d_n _) .nil)) (show 2 ≤ maxLen by decide)
    have w_ := Rep.sl this
    obtain ⟨_, _, e, h⟩ := w_
    cases e
    exact h
   have hre := impl_Reify_spec (l := s2.map B.bd) (ts := [a, s].map T.tm) (c1 := cz) (c2 := 2) (by rw [List.length_map]; exact hsz) htwo (show 2 ≤ 10000000 by decide)
   rw [List.length_map] at hre
   have ere : reif (s2.map B.bd) ([a, s].map T.tm) = some (canon [a, s]) := by
    have hS2 := hs2.subst (by decide) (by decide) (by decide) (by decide)
    rw [reif_eq ((substOk_iff s2).2 hS2) fun y hy => by
     simp only [List.mem_cons, List.not_mem_nil, or_false] at hy
     rcases hy with rfl | rfl
     ·exact hao
     ·exact hds.ok (by decide)]
    have f1 : fits s2 a = some a := hs2.fits_out (fun n hn => by have := hda.low n hn; omega) (hda.ok (by decide)).2
    have f2 : fits s2 s = some s := hs2.fits_out (fun n hn => by
     rw [← hse] at hn
     have w_ := T.occ_ap hn
     obtain ⟨j, hj, hn⟩ := w_
     have hn : j + 77 = n := hn
     have := hda.low j hj
     omega) (hds.ok (by decide)).2
    simp [f1, f2]
   rw [ere] at hre
   refine call_go hre fun rv μl hlel hRr => ?_
   obtain ⟨tv, rfl, htv⟩ := hRr
   have w_ := canon_first a [s]
   obtain ⟨zs, hzs⟩ := w_
   have hzl : zs.length = 1 := by
    have := congrArg List.length hzs
    simp only [canon, List.length_map, List.length_cons, List.length_nil] at this
    omega
   rw [hzs] at htv
   have w_ := Rep.slC htv.rep
   obtain ⟨bt, ct, rfl, hst, hct⟩ := w_
   have hz2 : (((canon1 a :: zs).map T.tm).map Tm.d).length = 2 := by simp [hzl]
   rw [hz2] at hst hct ⊢
   replace ha := ha.mono hlel
   replace hsx := hsx.mono hlel
   intro r8
   refine call_frz [7] ?_
   intro μm hlem hnom hatm
   replace ha := ha.mono hlem
   replace hsx := hsx.mono hlem
   replace hst := hst.mono hlem
   refine call_go (impl_OrderedVars_spec (xs := [a]) (cap := 1) (row1 hatm ha) (fun y hy => by rw [List.mem_singleton.1 hy]; exact hao) (show 1 ≤ 10000000 by decide)) fun ov μn hlen hRo => ?_
   rw [List.flatMap_singleton] at hRo
   have hRo : RepV μn (.sl 1 ((ordV a).map D.i)) ov := hRo
   have w_ := Rep.sl hRo
   obtain ⟨bo, co, rfl, _⟩ := w_
   rw [List.length_map]
   replace ha := ha.mono hlen
   replace hsx := hsx.mono hlen
   replace hst := hst.mono hlen
   have hol := ordV_le a
   have hda4 := hda.lvs
   refine iIn (fun _ => ?_) (fun q => nomatch q)
   refine ifd (fun _ => ?_) (fun q => absurd rfl q)
   refine cut_intro 0 1 rfl rfl (by decide) (by omega) ?_
   have hcut := Sl.headL (c := ct) (i := 1) hst (by decide)
   have hcut : Sl μn 4 (if ct = 0 then bt else bt.map (·.add (0 * 4))) 1 (([canon1 a].map T.tm).map Tm.d) := hcut
   refine cGv (list_spec (μ := μn) (x := [canon1 a]) (y := [canon1 a]) (cap := ct - 0) (cap2 := cx) hcut hsx) ?_
   refine ifd (fun _ => ?_) (fun q => absurd rfl q)
   refine cPl (VarBound_spec (xs := [canon1 a]) (cap := cx) (fun y hy => by rw [List.mem_singleton.1 hy]; exact hca.ok (by decide)) hsx) fun mv μo hleo hRm => ?_
   obtain ⟨m, rfl, hm⟩ := hRm
   rw [List.flatMap_singleton] at hm
   have em := canon1_bound a m hm.pos hm.hi hm.top
   refine ifd (fun _ => ?_) (fun q => absurd em q)
   refine cPl (TermVars_spec hao (ha.mono hleo)) fun uv μp hlep hRu => ?_
   obtain ⟨us, hus, hun, bu, cu, rfl⟩ := hRu
   have eu := ordV_len hun hus
   refine rPl ?_
   rw [eu, decide_eq_true rfl]
 ·have hbv := hb0
  have hdb : Drawn 8 4 b0 := (hdb0.mono (by decide)).wide (by decide)
  have hao : a.ok := hda.ok (by decide)
  have hbo : b0.ok := hdb.ok (by decide)
  have hca := canon1_drawn hda (by decide)
  have hcb := canon1_drawn hdb (by decide)
  intro r4
  refine call_frz [2] ?_
  intro μa hlea hnoa hata
  replace ha := ha.mono hlea
  replace hbv := hbv.mono hlea
  replace hb := hb.mono hlea
  refine call_go (impl_Canonical_spec (xs := [a]) (cap := 1) (row1 hata ha) (fun y hy => by rw [List.mem_singleton.1 hy]; exact hao) (show 1 ≤ 10000000 by decide)) fun xv μc hlec hRx => ?_
  have hxr := hRx.rep
  rw [canon_one] at hxr
  have w_ := Rep.sl hxr
  obtain ⟨bx, cx, rfl, hsx⟩ := w_
  rw [List.length_map, List.length_map] at hsx ⊢
  replace ha := ha.mono hlec
  replace hbv := hbv.mono hlec
  replace hb := hb.mono hlec
  intro r5
  refine call_frz [3] ?_
  intro μd hled hnod hatd
  replace ha := ha.mono hled
  replace hbv := hbv.mono hled
  replace hb := hb.mono hled
  replace hsx := hsx.mono hled
  refine call_go (impl_Canonical_spec (xs := [b0]) (cap := 1) (row1 hatd hbv) (fun y hy => by rw [List.mem_singleton.1 hy]; exact hbo) (show 1 ≤ 10000000 by decide)) fun yv μe hlee hRy => ?_
  have hyr := hRy.rep
  rw [canon_one] at hyr
  have w_ := Rep.sl hyr
  obtain ⟨by_, cy, rfl, hsy⟩ := w_
  rw [List.length_map, List.length_map] at hsy ⊢
  replace ha := ha.mono hlee
  replace hbv := hbv.mono hlee
  replace hb := hb.mono hlee
  replace hsx := hsx.mono hlee
  refine cPl (ShiftTerm_spec (k := 77) hao (by decide) (fun n hn => by have := hda.low n (T.occ_vars.2 hn); omega) ha) fun sv μf hlef hRs => ?_
  obtain ⟨tv, rfl, hsv⟩ := hRs
  have esh : a.subst (shF 77) = a.ap (ren fun v => v + 77) := shift_ren 77 a
  rw [esh] at hsv
  generalize hse : a.ap (ren fun v => v + 77) = s at *
  have hds : Drawn 4 100 s := by
   rw [← hse]
   refine (hda.ap (l := 1) (w := 100) (by decide) fun m h0 h3 => ?_).mono (by decide)
   exact ⟨by show 0 ≤ m + 77 ∧ m + 77 ≤ 100000; omega, fun n hn => by have hn : m + 77 = n := hn; omega, by show 1 ≤ 1; decide⟩
  have hsc : canon1 s = canon1 a := by rw [← hse]; exact shift_canon 77 a
  have w_ := Tm.invV hsv
  obtain ⟨ps, rfl⟩ := w_
  intro r6
  replace ha := ha.mono hlef
  replace hbv := hbv.mono hlef
  replace hb := hb.mono hlef
  replace hsx := hsx.mono hlef
  replace hsy := hsy.mono hlef
  refine ifnd (fun h => absurd rfl h) (fun _ => ?_)
  refine cPl (impl_Canonical_spec (xs := [canon1 a]) (cap := cx) hsx (fun y hy => by rw [List.mem_singleton.1 hy]; exact hca.ok (by decide)) (show 1 ≤ 10000000 by decide)) fun wv μg hleg hRw => ?_
  have hwr := hRw.rep
  rw [canon_one, canon1_again] at hwr
  have w_ := Rep.sl hwr
  obtain ⟨bw, cw, rfl, hsw⟩ := w_
  rw [List.length_map, List.length_map] at hsw ⊢
  replace ha := ha.mono hleg
  replace hbv := hbv.mono hleg
  replace hb := hb.mono hleg
  replace hsx := hsx.mono hleg
  replace hsy := hsy.mono hleg
  replace hsv := hsv.mono hleg
  refine cGv (list_spec (μ := μg) (x := [canon1 a]) (y := [canon1 a]) (cap := cw) (cap2 := cx) hsw hsx) ?_
  refine ifnd (fun h => absurd rfl h) (fun _ => ?_)
  refine cPl (IsVariant_spec hao hbo (Nat.le_trans hda.lvs (by decide)) (Nat.le_trans hdb.lvs (by decide)) ha hbv) fun v10 μh hleh hRv => ?_
  obtain rfl := hRv
  replace ha := ha.mono hleh
  replace hbv := hbv.mono hleh
  replace hb := hb.mono hleh
  replace hsx := hsx.mono hleh
  replace hsy := hsy.mono hleh
  replace hsv := hsv.mono hleh
  refine cGv (list_spec (μ := μh) (x := [canon1 a]) (y := [canon1 b0]) (cap := cx) (cap2 := cy) hsx hsy) ?_
  have eb1 : (!(decide (canon1 a = canon1 b0) == decide ([canon1 a] = [canon1 b0])) : Bool) = false := by
   have : [canon1 a] = [canon1 b0] ↔ canon1 a = canon1 b0 := ⟨fun h => (List.cons.inj h).1, fun h => by rw [h]⟩
   simp only [this, beq_self_eq_true, Bool.not_true]
  refine iIn (fun q => absurd (eb1.symm.trans q) (by decide)) (fun _ => ?_)
  refine iIn (fun q => nomatch q) (fun _ => ?_)
  refine cPl (IsVariant_spec (hds.ok (by decide)) hao (Nat.le_trans hds.lvs (by decide)) (Nat.le_trans hda.lvs (by decide)) hsv ha) fun v11 μi hlei hRv => ?_
  obtain rfl := hRv
  replace ha := ha.mono hlei
  replace hb := hb.mono hlei
  replace hsx := hsx.mono hlei
  replace hsv := hsv.mono hlei
  refine ifnd (fun q => absurd hsc q) (fun _ => ?_)
  refine And.intro ?_ (And.intro ?_ trivial)
  ·refine cPl (MakeSubst_spec hb 60 (by decide)) fun zv μj hlej hRz => ?_
   obtain ⟨s2, hs2, hrs2⟩ := hRz
   have w_ := Rep.sl hrs2
   obtain ⟨bz, cz, rfl, hsz⟩ := w_
   refine fun r7 => ?_
   rw [List.length_map, List.length_map] at hsz ⊢
   replace ha := ha.mono hlej
   replace hsx := hsx.mono hlej
   replace hsv := hsv.mono hlej
   refine call_frz [5] ?_
   intro μk hlek hnok hatk
   replace ha := ha.mono hlek
   replace hsx := hsx.mono hlek
   replace hsv := hsv.mono hlek
   replace hsz := hsz.mono hlek
   have htwo : Sl μk 4 (some ⟨r7, 0, none⟩) 2 (([a, s].map T.tm).map Tm.d) := by
    have := Rows.sl hatk (ds := ([a, s].map T.tm).map Tm.d) (.cons ha (Tm.d_n _) (.cons hsv (Tm.d_n _) .nil)) (show 2 ≤ maxLen by decide)
    have w_ := Rep.sl this
    obtain ⟨_, _, e, h⟩ := w_
    cases e
    exact h
   have hre := impl_Reify_spec (l := s2.map B.bd) (ts := [a, s].map T.tm) (c1 := cz) (c2 := 2) (by rw [List.length_map]; exact hsz) htwo (show 2 ≤ 10000000 by decide)
   rw [List.length_map] at hre
   have ere : reif (s2.map B.bd) ([a, s].map T.tm) = some (canon [a, s]) := by
    have hS2 := hs2.subst (by decide) (by decide) (by decide) (by decide)
    rw [reif_eq ((substOk_iff s2).2 hS2) fun y hy => by
     simp only [List.mem_cons, List.not_mem_nil, or_false] at hy
     rcases hy with rfl | rfl
     ·exact hao
     ·exact hds.ok (by decide)]
    have f1 : fits s2 a = some a := hs2.fits_out (fun n hn => by have := hda.low n hn; omega) (hda.ok (by decide)).2
    have f2 : fits s2 s = some s := hs2.fits_out (fun n hn => by
     rw [← hse] at hn
     have w_ := T.occ_ap hn
     obtain ⟨j, hj, hn⟩ := w_
     have hn : j + 77 = n := hn
     have := hda.low j hj
     omega) (hds.ok (by decide)).2
    simp [f1, f2]
   rw [ere] at hre
   refine call_go hre fun rv μl hlel hRr => ?_
   obtain ⟨tv, rfl, htv⟩ := hRr
   have w_ := canon_first a [s]
   obtain ⟨zs, hzs⟩ := w_
   have hzl : zs.length = 1 := by
    have := congrArg List.length hzs
    simp only [canon, List.length_map, List.length_cons, List.length_nil] at this
    omega
   rw [hzs] at htv
   have w_ := Rep.slC htv.rep
   obtain ⟨bt, ct, rfl, hst, hct⟩ := w_
   have hz2 : (((canon1 a :: zs).map T.tm).map Tm.d).length = 2 := by simp [hzl]
   rw [hz2] at hst hct ⊢
   replace ha := ha.mono hlel
   replace hsx := hsx.mono hlel
   intro r8
   refine call_frz [6] ?_
   intro μm hlem hnom hatm
   replace ha := ha.mono hlem
   replace hsx := hsx.mono hlem
   replace hst := hst.mono hlem
   refine call_go (impl_OrderedVars_spec (xs := [a]) (cap := 1) (row1 hatm ha) (fun y hy => by rw [List.mem_singleton.1 hy]; exact hao) (show 1 ≤ 10000000 by decide)) fun ov μn hlen hRo => ?_
   rw [List.flatMap_singleton] at hRo
   have hRo : RepV μn (.sl 1 ((ordV a).map D.i)) ov := hRo
   have w_ := Rep.sl hRo
   obtain ⟨bo, co, rfl, _⟩ := w_
   rw [List.length_map]
   replace ha := ha.mono hlen
   replace hsx := hsx.mono hlen
   replace hst := hst.mono hlen
   have hol := ordV_le a
   have hda4 := hda.lvs
   refine iIn (fun _ => ?_) (fun q => nomatch q)
   refine ifd (fun _ => ?_) (fun q => absurd rfl q)
   refine cut_intro 0 1 rfl rfl (by decide) (by omega) ?_
   have hcut := Sl.headL (c := ct) (i := 1) hst (by decide)
   have hcut : Sl μn 4 (if ct = 0 then bt else bt.map (·.add (0 * 4))) 1 (([canon1 a].map T.tm).map Tm.d) := hcut
   refine cGv (list_spec (μ := μn) (x := [canon1 a]) (y := [canon1 a]) (cap := ct - 0) (cap2 := cx) hcut hsx) ?_
   refine ifd (fun _ => ?_) (fun q => absurd rfl q)
   refine cPl (VarBound_spec (xs := [canon1 a]) (cap := cx) (fun y hy => by rw [List.mem_singleton.1 hy]; exact hca.ok (by decide)) hsx) fun mv μo hleo hRm => ?_
   obtain ⟨m, rfl, hm⟩ := hRm
   rw [List.flatMap_singleton] at hm
   have em := canon1_bound a m hm.pos hm.hi hm.top
   refine ifd (fun _ => ?_) (fun q => absurd em q)
   refine cPl (TermVars_spec hao (ha.mono hleo)) fun uv μp hlep hRu => ?_
   obtain ⟨us, hus, hun, bu, cu, rfl⟩ := hRu
   have eu := ordV_len hun hus
   refine rPl ?_
   rw [eu, decide_eq_true rfl]
  ·refine fun r7 => ?_
   refine cPl (MakeSubst_spec hb 60 (by decide)) fun zv μj hlej hRz => ?_
   obtain ⟨s2, hs2, hrs2⟩ := hRz
   have w_ := Rep.sl hrs2
   obtain ⟨bz, cz, rfl, hsz⟩ := w_
   rw [List.length_map, List.length_map] at hsz ⊢
   replace ha := ha.mono hlej
   replace hsx := hsx.mono hlej
   replace hsv := hsv.mono hlej
   refine call_frz [5] ?_
   intro μk hlek hnok hatk
   replace ha := ha.mono hlek
   replace hsx := hsx.mono hlek
   replace hsv := hsv.mono hlek
   replace hsz := hsz.mono hlek
   have htwo : Sl μk 4 (some ⟨r7, 0, none⟩) 2 (([a, s].map T.tm).map Tm.d) := by
    have := Rows.sl hatk (ds := ([a, s].map T.tm).map Tm.d) (.cons ha (Tm.d_n _) (.cons hsv (Tm.d_n _) .nil)) (show 2 ≤ maxLen by decide)
    have w_ := Rep.sl this
    obtain ⟨_, _, e, h⟩ := w_
    cases e
    exact h
   have hre := impl_Reify_spec (l := s2.map B.bd) (ts := [a, s].map T.tm) (c1 := cz) (c2 := 2) (by rw [List.length_map]; exact hsz) htwo (show 2 ≤ 10000000 by decide)
   rw [List.length_map] at hre
   have ere : reif (s2.map B.bd) ([a, s].map T.tm) = some (canon [a, s]) := by
    have hS2 := hs2.subst (by decide) (by decide) (by decide) (by decide)
    rw [reif_eq ((substOk_iff s2).2 hS2) fun y hy => by
     simp only [List.mem_cons, List.not_mem_nil, or_false] at hy
     rcases hy with rfl | rfl
     ·exact hao
     ·exact hds.ok (by decide)]
    have f1 : fits s2 a = some a := hs2.fits_out (fun n hn => by have := hda.low n hn; omega) (hda.ok (by decide)).2
    have f2 : fits s2 s = some s := hs2.fits_out (fun n hn => by
     rw [← hse] at hn
     have w_ := T.occ_ap hn
     obtain ⟨j, hj, hn⟩ := w_
     have hn : j + 77 = n := hn
     have := hda.low j hj
     omega) (hds.ok (by decide)).2
    simp [f1, f2]
   rw [ere] at hre
   refine call_go hre fun rv μl hlel hRr => ?_
   obtain ⟨tv, rfl, htv⟩ := hRr
   have w_ := canon_first a [s]
   obtain ⟨zs, hzs⟩ := w_
   have hzl : zs.length = 1 := by
    have := congrArg List.length hzs
    simp only [canon, List.length_map, List.length_cons, List.length_nil] at this
    omega
   rw [hzs] at htv
   have w_ := Rep.slC htv.rep
   obtain ⟨bt, ct, rfl, hst, hct⟩ := w_
   have hz2 : (((canon1 a :: zs).map T.tm).map Tm.d).length = 2 := by simp [hzl]
   rw [hz2] at hst hct ⊢
   replace ha := ha.mono hlel
   replace hsx := hsx.mono hlel
   intro r8
   refine call_frz [6] ?_
   intro μm hlem hnom hatm
   replace ha := ha.mono hlem
   replace hsx := hsx.mono hlem
   replace hst := hst.mono hlem
   refine call_go (impl_OrderedVars_spec (xs := [a]) (cap := 1) (row1 hatm ha) (fun y hy => by rw [List.mem_singleton.1 hy]; exact hao) (show 1 ≤ 10000000 by decide)) fun ov μn hlen hRo => ?_
   rw [List.flatMap_singleton] at hRo
   have hRo : RepV μn (.sl 1 ((ordV a).map D.i)) ov := hRo
   have w_ := Rep.sl hRo
   obtain ⟨bo, co, rfl, _⟩ := w_
   rw [List.length_map]
   replace ha := ha.mono hlen
   replace hsx := hsx.mono hlen
   replace hst := hst.mono hlen
   have hol := ordV_le a
   have hda4 := hda.lvs
   refine iIn (fun _ => ?_) (fun q => nomatch q)
   refine ifd (fun _ => ?_) (fun q => absurd rfl q)
   refine cut_intro 0 1 rfl rfl (by decide) (by omega) ?_
   have hcut := Sl.headL (c := ct) (i := 1) hst (by decide)
   have hcut : Sl μn 4 (if ct = 0 then bt else bt.map (·.add (0 * 4))) 1 (([canon1 a].map T.tm).map Tm.d) := hcut
   refine cGv (list_spec (μ := μn) (x := [canon1 a]) (y := [canon1 a]) (cap := ct - 0) (cap2 := cx) hcut hsx) ?_
   refine ifd (fun _ => ?_) (fun q => absurd rfl q)
   refine cPl (VarBound_spec (xs := [canon1 a]) (cap := cx) (fun y hy => by rw [List.mem_singleton.1 hy]; exact hca.ok (by decide)) hsx) fun mv μo hleo hRm => ?_
   obtain ⟨m, rfl, hm⟩ := hRm
   rw [List.flatMap_singleton] at hm
   have em := canon1_bound a m hm.pos hm.hi hm.top
   refine ifd (fun _ => ?_) (fun q => absurd em q)
   refine cPl (TermVars_spec hao (ha.mono hleo)) fun uv μp hlep hRu => ?_
   obtain ⟨us, hus, hun, bu, cu, rfl⟩ := hRu
   have eu := ordV_len hun hus
   refine rPl ?_
   rw [eu, decide_eq_true rfl]
end
end Go.Vx
