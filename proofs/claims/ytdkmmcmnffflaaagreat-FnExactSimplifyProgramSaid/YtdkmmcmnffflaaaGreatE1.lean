/- Texts of the proof, part E1. -/
import Derived.Lib.ReflectliteSwap
import Derived.Test.YtdkmmcmnffflaaaGreatM5
namespace Go.Vx
open Go.Proofs Classical
section
variable {P : Program} {f : FuncId} {args : List Value} {μ h H : Mem}
theorem ne_of_obj {a b : Nat} {x y : Obj} (h1 : h a = some x) (h2 : h b = some y) (hne : x ≠ y) : a ≠ b := fun e => by
 subst e; rw [h1] at h2; cases h2; exact hne rfl
variable {dr : Bool} {s : St} {K : Value → St → Prop}
end
section
variable {μ : Mem}
theorem eachVar_rel {S : Type} (J : S → Mem → Prop) (step : S → Int → S) (Q : S → Int → Prop) {k : FuncId} {caps : List Value}
  (hc : ∀ s h n, Q s n → J s h → SpecH Tryz.prog k (.int .i64 n :: caps) μ h fun r μ' h' => r = .tuple #[] ∧ μ' = μ ∧ J (step s n) h') :
  ∀ (x : T) {v : Value} (s : S) (h : Mem), RepV μ x.tm.d v → (∀ pre n post, x.vars = pre ++ n :: post → Q (pre.foldl step s) n) → J s h → SpecH Tryz.prog 173 [v, .func (.func k) #[] caps.toArray] μ h fun r μ' h' => r = .tuple #[] ∧ μ' = μ ∧ J (x.vars.foldl step s) h'
 | .var n, v, s, h, hv, hq, hj => by
  have w_ := Tm.inv hv
  obtain ⟨base, cap, rfl, hsl⟩ := w_
  refine SpecH.mk [] Tryz.func173 (by kernel_rfl) ?_
  intro r
  refine ifd (fun _ => ?_) (fun h => absurd rfl h)
  refine cOw (hc s h n (hq [] n [] rfl) hj) fun v μ' h' hle hap hR => ?_
  obtain ⟨rfl, e2, hj'⟩ := hR
  obtain rfl := e2.symm
  refine ifd (fun h => absurd h (by decide)) (fun _ => ?_)
  exact rPl ⟨rfl, rfl, hj'⟩
 | .nil, v, s, h, hv, hq, hj => by
  have w_ := Tm.inv hv
  obtain ⟨base, cap, rfl, hsl⟩ := w_
  refine SpecH.mk [] Tryz.func173 (by kernel_rfl) ?_
  intro r
  refine ifd (fun h => absurd h (by decide)) (fun _ => ?_)
  refine ifd (fun h => absurd h (by decide)) (fun _ => ?_)
  exact rPl ⟨rfl, rfl, hj⟩
 | .sym _, v, s, h, hv, hq, hj => by
  have w_ := Tm.inv hv
  obtain ⟨base, cap, rfl, hsl⟩ := w_
  refine SpecH.mk [] Tryz.func173 (by kernel_rfl) ?_
  intro r
  refine ifd (fun h => absurd h (by decide)) (fun _ => ?_)
  refine ifd (fun h => absurd h (by decide)) (fun _ => ?_)
  exact rPl ⟨rfl, rfl, hj⟩
 | .num _, v, s, h, hv, hq, hj => by
  have w_ := Tm.inv hv
  obtain ⟨base, cap, rfl, hsl⟩ := w_
  refine SpecH.mk [] Tryz.func173 (by kernel_rfl) ?_
  intro r
  refine ifd (fun h => absurd h (by decide)) (fun _ => ?_)
  refine ifd (fun h => absurd h (by decide)) (fun _ => ?_)
  exact rPl ⟨rfl, rfl, hj⟩
 | .pair a b, v, s, h, hv, hq, hj => by
  have w_ := Tm.inv hv
  obtain ⟨base, cap, rfl, hsl⟩ := w_
  have w_ := T.parts hsl
  obtain ⟨ad, ad', p, p', h1, h2, hra, hrb⟩ := w_
  refine SpecH.mk [] Tryz.func173 (by kernel_rfl) ?_
  intro r
  refine ifd (fun h => absurd h (by decide)) (fun _ => ?_)
  refine ifd (fun _ => ?_) (fun h => absurd rfl h)
  refine eIn h1 (cOw (eachVar_rel J step Q hc a s h hra (fun pre n post e => hq pre n (post ++ b.vars) (by simp [T.vars, e])) hj) fun v μ' h' hle hap hR => ?_)
  obtain ⟨rfl, e2, hj'⟩ := hR
  obtain rfl := e2.symm
  refine eIn h2 (cOw (eachVar_rel J step Q hc b _ h' hrb (fun pre n post e => by
   have := hq (a.vars ++ pre) n post (by simp [T.vars, e])
   rwa [List.foldl_append] at this) hj') fun v μ' h' hle hap hR => ?_)
  obtain ⟨rfl, e2, hj'⟩ := hR
  obtain rfl := e2.symm
  exact rPl ⟨rfl, rfl, by simpa [T.vars, List.foldl_append] using hj'⟩
end
end Go.Vx
namespace Go.Vx
open Go.Proofs Classical
section
variable {μ : Mem}
theorem szRel_spec (x : Rl) {v : Value} {left : Int} (hv : RepV μ x.d v) (hl : 0 ≤ left) (hl2 : left ≤ 1048576) (hw : x.d.wd) : Gives Tryz.prog 122 [v, .int .i64 left] μ (.int .i64 (szR left x.d.sz)) := by
 have w_ := Rl.inv hv
 obtain ⟨p, rfl, hA⟩ := w_
 have hsz := Rl.sz_eq x
 rw [Rl.d_eq] at hw
 have m0 := maxLen_le hw.1
 refine Spec.mk Tryz.func122 (by kernel_rfl) ?_
 intro r
 refine num64 (by omega) (by omega) (ifd (fun h => rGv (by rw [szR_neg (by omega)]) rfl) (fun h => ?_))
 refine cGv (szGoal_spec x.body hA (by omega) (by omega) hw.2.2.2.1) ?_
 refine ifd (fun h => rGv (by have := szR_lt h; rw [szR_neg (by omega)]) rfl) (fun h => ?_)
 have q3 := szR_ge h
 rw [szR_pos q3] at h ⊢
 refine rGv ?_ rfl
 rw [szR_pos (by omega)]
 first | rfl | (congr 1; omega)
theorem szRelS_of {l : List Rl} (he : ∀ t ∈ l, ∀ {v : Value} {left : Int}, RepV μ t.d v → 0 ≤ left → left ≤ 1048576 → t.d.wd → Gives Tryz.prog 122 [v, .int .i64 left] μ (.int .i64 (szR left t.d.sz)))
  {base : Option Addr} {cap : Nat} {left : Int} (hsl : Sl μ 7 base l.length (l.map Rl.d)) (hl : 0 ≤ left) (hl2 : left ≤ 1048576) (hw : D.wds (l.map Rl.d)) :
  Gives Tryz.prog 59 [.slice base l.length cap, .int .i64 left] μ (.int .i64 (szR left (l.length + D.szs (l.map Rl.d)))) := by
 have hn := maxLen_le hsl.max
 refine Spec.mk Tryz.func59 (by kernel_rfl) ?_
 refine num64 (by omega) (by omega) (ifd (fun h => rGv ?_ rfl) (fun h => ?_))
 ·rw [szR_neg (by omega)]
 refine lIn (fun i : Nat => i ≤ l.length ∧ (D.szs ((l.map Rl.d).take i) : Int) ≤ left - l.length) (fun i => ⟨[(0, .val (.slice base l.length cap)), (1, .val (.int .i64 (left - l.length - D.szs ((l.map Rl.d).take i)))), (5, .val (.int .i64 i))], [], 0, μ, Mem.nil⟩) (fun i => l.length - i)
  0 ⟨by omega, by simp [D.szs]; omega⟩ (fun i => ⟨rfl, rfl⟩) ⟨⟨rfl, by show some (SV.val (.int .i64 _)) = some (SV.val (.int .i64 _)); congr 3; simp [D.szs], rfl, trivial⟩, trivial, rfl, rfl⟩ ?_
 rintro i ⟨hi, hz⟩
 refine ifd (fun h => ?_) (fun h => ?_)
 ·obtain ⟨t, ht⟩ := aSo (l := l) (i := i) (by omega)
  have hx := at_map (f := Rl.d) ht
  have hs := D.szs_take hx
  have hs' := D.szs_le (l.map Rl.d) (i + 1)
  obtain ⟨ad, p, hel, hr⟩ := Rl.elem hsl ht
  refine eIn hel (cGv (he t (mAt ht) hr (by omega) (by omega) (D.wds_mem hw _ (mAt hx))) ?_)
  refine ifd (fun h => rGv ?_ rfl) (fun h => ?_)
  ·have := szR_lt h
   rw [szR_neg (by omega)]
  ·have := szR_ge h
   refine num64 (by omega) (by omega) ⟨i + 1, ⟨by omega, by omega⟩, by omega, ⟨⟨rfl, ?_, rfl, trivial⟩, trivial, rfl, rfl⟩⟩
   rw [szR_pos this, hs]
   show some (SV.val (.int .i64 _)) = some (SV.val (.int .i64 _))
   congr 3; omega
 ·obtain rfl : i = l.length := by omega
  rw [List.take_of_length_le (by simp)] at hz ⊢
  refine rGv ?_ rfl
  rw [szR_pos (by omega)]; congr 1; omega
theorem szRelS_spec {l : List Rl} {base : Option Addr} {cap : Nat} {left : Int} (hsl : Sl μ 7 base l.length (l.map Rl.d)) (hl : 0 ≤ left) (hl2 : left ≤ 1048576) (hw : D.wds (l.map Rl.d)) :
  Gives Tryz.prog 59 [.slice base l.length cap, .int .i64 left] μ (.int .i64 (szR left (l.length + D.szs (l.map Rl.d)))) := szRelS_of (fun t _ _ _ => szRel_spec t) hsl hl hl2 hw
set_option maxRecDepth 4000 in
theorem toRel_spec (x : Rl) {μ : Mem} {v : Value} (hv : RepV μ x.d v) (hb : x.d.sz ≤ 1048576) : Spec Tryz.prog 130 [v] μ fun v μ' => Fresh μ μ' x.d v := by
 have w_ := Rl.inv hv
 obtain ⟨p, rfl, hA⟩ := w_
 have hsz := Rl.sz_eq x
 have A0 := hA
 refine Spec.mk Tryz.func130 (by kernel_rfl) ?_
 intro r1 r2 r3
 refine cPl (toGoal_spec x.body A0 (by omega)) fun u0 μ0 hle0 hf0 => ?_
 have w_ := Gl.invV hf0.rep
 obtain ⟨pp0, rfl⟩ := w_
 rw [Rl.d_eq]
 exact rPl (FreshS.st (FreshS.str (FreshS.int (FreshS.int (FreshS.cons hf0 hle0 (Mem.Le.refl _) (FreshS.nil))))))
theorem toRelS_of {l : List Rl} (he : ∀ t ∈ l, ∀ {μ : Mem} {v : Value}, RepV μ t.d v → t.d.sz ≤ 1048576 → Spec Tryz.prog 130 [v] μ fun v μ' => Fresh μ μ' t.d v)
  {base : Option Addr} {cap : Nat} (hsl : Sl μ 7 base l.length (l.map Rl.d)) (hb : l.length + D.szs (l.map Rl.d) ≤ 1048576) :
  Spec Tryz.prog 67 [.slice base l.length cap] μ fun v μ' => Fresh μ μ' (.sl 7 (l.map Rl.d)) v := by
 refine Spec.mk Tryz.func67 (by kernel_rfl) ?_
 refine make_intro l.length rfl rfl (by simp only; omega) (Nat.le_trans (m := 1048576) (by omega) (by decide)) ?_
 intro r
 refine lIn (fun p : Nat × List Value × Mem => μ.Le p.2.2 ∧ ∃ g, Filled 7 (.agg #[.string ⟨#[]⟩, .int .i64 0, .int .i64 0, .int .i64 0, .string ⟨#[]⟩, .slice none 0 0, .slice none 0 0]) μ p.2.2 (l.map Rl.d) p.1 p.2.1 g)
  (fun (i, xs, μ') => ⟨[(0, .val (.slice base l.length cap)), (3, .row 0 (some r) l.length l.length), (4, .val (.int .i64 i))], [(0, some (.row (some r) l.length 94 7 xs))], 1, μ', Mem.nil⟩) (fun p => l.length - p.1)
  (0, List.replicate l.length (.agg #[.string ⟨#[]⟩, .int .i64 0, .int .i64 0, .int .i64 0, .string ⟨#[]⟩, .slice none 0 0, .slice none 0 0]), μ) ⟨Mem.Le.refl μ, _, Filled.start (by simp)⟩ (fun (_, _, _) => ⟨rfl, rfl⟩) ⟨⟨rfl, rfl, rfl, trivial⟩, ⟨rfl, trivial⟩, rfl, rfl⟩ ?_
 rintro ⟨i, xs, μ'⟩ ⟨hle, g, hf⟩
 dsimp only at hle hf
 have hi := hf.le
 have hlen := hf.len
 rw [List.length_map] at hi hlen
 refine ifd (fun h => ?_) (fun h => ?_)
 ·obtain ⟨t, ht⟩ := aSo (l := l) (i := i) (by omega)
  have hx := at_map (f := Rl.d) ht
  have hs := D.szs_mem hx
  obtain ⟨ad, p, hel, hr⟩ := Rl.elem (hsl.mono hle) ht
  refine eIn hel (cPl (he t (mAt ht) hr (by omega)) fun v μ'' hle2 hfr => ?_)
  obtain ⟨g', hf'⟩ := hf.step hx (Rl.d_n t) hfr hle2
  obtain ⟨p2, rfl⟩ := Rl.invV hfr.rep
  refine rel_intro i rfl (by omega) ?_
  refine get_intro _ (hf.rest i (by omega) (by simpa using h)) ?_
  refine num64 (by omega) (by omega) ⟨(i + 1, _, μ''), ⟨hle.trans hle2, g', hf'⟩, by dsimp only; omega, ⟨⟨rfl, rfl, rfl, trivial⟩, ⟨rfl, trivial⟩, rfl, rfl⟩⟩
 ·obtain rfl : i = l.length := by omega
  refine rFz [0] fun μ2 hle2 hno hrow => .inl ?_
  have := Fresh.ofRow (hf.all (by simp)) hf.sub hf.new hle hle2 hno hrow (Nat.le_trans (m := 1048576) (by omega) (by decide))
  rw [hlen] at this
  exact this
theorem toRelS_spec {l : List Rl} {base : Option Addr} {cap : Nat} (hsl : Sl μ 7 base l.length (l.map Rl.d)) (hb : l.length + D.szs (l.map Rl.d) ≤ 1048576) :
  Spec Tryz.prog 67 [.slice base l.length cap] μ fun v μ' => Fresh μ μ' (.sl 7 (l.map Rl.d)) v := toRelS_of (fun t _ _ _ => toRel_spec t) hsl hb
theorem eqRel_spec (x : Rl) {v v' : Value} (hv : RepV μ x.d v) (hv' : RepV μ x.d v') : Gives Tryz.prog 140 [v, v'] μ (.bool true) := by
 have w_ := Rl.inv hv
 obtain ⟨p, rfl, hA⟩ := w_
 have w_ := Rl.inv hv'
 obtain ⟨p', rfl, hB⟩ := w_
 have A0 := hA
 have B0 := hB
 refine Spec.mk Tryz.func140 (by kernel_rfl) ?_
 intro r1 r2
 refine ifnd (fun h => absurd rfl h) (fun _ => ?_)
 refine ifnd (fun h => absurd rfl h) (fun _ => ?_)
 refine ifnd (fun h => absurd rfl h) (fun _ => ?_)
 refine cGv (eqGoal_spec x.body A0 B0) ?_
 refine iIn (fun h => nomatch h) (fun _ => ?_)
 exact rGv rfl rfl
theorem eqRelS_of {l : List Rl} (he : ∀ t ∈ l, ∀ {v v' : Value}, RepV μ t.d v → RepV μ t.d v' → Gives Tryz.prog 140 [v, v'] μ (.bool true))
  {base base' : Option Addr} {cap cap' : Nat} (hl : Sl μ 7 base l.length (l.map Rl.d)) (hl' : Sl μ 7 base' l.length (l.map Rl.d)) :
  Gives Tryz.prog 78 [.slice base l.length cap, .slice base' l.length cap'] μ (.bool true) := by
 have hn := maxLen_le hl.max
 refine Spec.mk Tryz.func78 (by kernel_rfl) ?_
 refine ifnd (fun h => absurd rfl h) (fun _ => ?_)
 refine lIn (fun i : Nat => i ≤ l.length) (fun i => ⟨[(0, .val (.slice base l.length cap)), (1, .val (.slice base' l.length cap')), (5, .val (.int .i64 i))], [], 0, μ, Mem.nil⟩) (fun i => l.length - i)
  0 (by omega) (fun i => ⟨rfl, rfl⟩) ⟨⟨rfl, rfl, rfl, trivial⟩, trivial, rfl, rfl⟩ ?_
 intro i hi
 refine ifd (fun h => ?_) (fun h => ?_)
 ·obtain ⟨t, ht⟩ := aSo (l := l) (i := i) (by omega)
  obtain ⟨ad, p, hel, hr⟩ := Rl.elem hl ht
  obtain ⟨ad', p', hel', hr'⟩ := Rl.elem hl' ht
  refine eIn hel (eIn hel' (cGv (he t (mAt ht) hr hr') ?_))
  refine iIn (fun h => nomatch h) (fun _ => ?_)
  exact num64 (by omega) (by omega) ⟨i + 1, by omega, by omega, ⟨⟨rfl, rfl, rfl, trivial⟩, trivial, rfl, rfl⟩⟩
 ·exact rGv rfl rfl
theorem eqRelS_spec {l : List Rl} {base base' : Option Addr} {cap cap' : Nat} (hl : Sl μ 7 base l.length (l.map Rl.d)) (hl' : Sl μ 7 base' l.length (l.map Rl.d)) :
  Gives Tryz.prog 78 [.slice base l.length cap, .slice base' l.length cap'] μ (.bool true) := eqRelS_of (fun t _ _ _ => eqRel_spec t) hl hl'
set_option maxHeartbeats 1000000 in
theorem markRelS_spec {l : List Rl} {h : Mem} {v : Value} {k : Int} (ho : OwnV (.sl 7 (l.map Rl.d)) h v) (hk : 0 ≤ k) (hk2 : k + D.cnts (l.map Rl.d) ≤ 9223372036854775807) :
  SpecH Tryz.prog 79 [v, .int .i64 k] μ h fun r μ' h' => r = .int .i64 (D.mks (l.map Rl.d) k).2 ∧ μ' = μ ∧ OwnV (.sl 7 (D.mks (l.map Rl.d) k).1) h' v := by
 obtain ⟨base, cap, e, hm, hn, ho⟩ := ho
 simp only [List.cons.injEq, and_true] at e
 subst e
 have hm' : (l.map Rl.d).length ≤ 9223372036854775807 := Nat.le_trans hm.max (by decide)
 refine SpecH.mk [] Tryz.func79 (by kernel_rfl) ?_
 rcases ho with ⟨hnil, rfl⟩ | ⟨r, flat, rest, ty, h2, rfl, hr, rfl, ho⟩
 ·rw [hnil]
  refine lIn (fun i : Nat => i = 0) (fun i => ⟨[(0, .val (.slice base 0 cap)), (1, .val (.int .i64 k)), (5, .val (.int .i64 i))], [], 0, μ, Mem.nil⟩) (fun i => 0 - i)
   0 rfl (fun i => ⟨rfl, rfl⟩) ⟨⟨rfl, rfl, rfl, trivial⟩, trivial, rfl, rfl⟩ ?_
  rintro i rfl
  refine ifd (fun h => by omega) (fun h => rPl ⟨rfl, rfl, base, cap, rfl, ⟨Nat.zero_le _, Nat.zero_le _⟩, by simp [D.mks], .inl ⟨rfl, rfl⟩⟩)
 ·generalize hxs : l.map Rl.d = xs at *
  refine lIn (fun p : Nat × List Value × List Value × Mem => Marking xs k rest r p.1 p.2.1 p.2.2.1 p.2.2.2)
   (fun (i, pre, tail, hh) => ⟨[(0, .val (.slice (some ⟨r, 0, none⟩) xs.length cap)), (1, .val (.int .i64 (D.mks (xs.take i) k).2)), (5, .val (.int .i64 i))], [], 0, μ, hh.set r (.cells (List.toArray (pre ++ tail)) ty (0, 0))⟩) (fun p => xs.length - p.1)
   (0, [], flat ++ rest, h2) (Marking.start hr ho) (fun (_, _, _, _) => ⟨rfl, rfl⟩) ⟨⟨rfl, rfl, rfl, trivial⟩, trivial, rfl, rfl⟩ ?_
  rintro ⟨i, pre, tail, hh⟩ M
  dsimp only at M
  have hi := M.le
  have hge := D.mks_cnt (xs.take i) k
  refine ifd (fun h => ?_) (fun h => ?_)
  ·obtain ⟨x, ht⟩ := aSo (l := l) (i := i) (by rw [← hxs] at h; simp at h; omega)
   have hx : xs[i]? = some x.d := by rw [← hxs]; simp [ht]
   have w_ := M.next hx
   obtain ⟨c, g, m, c2, rfl, hown, hp, hmr, back⟩ := w_
   have w_ := Rl.ownR hown
   obtain ⟨p, rfl, ch⟩ := w_
   have hlen := M.len hn
   have hcnt := Marking.cnt (k := k) hx
   rw [Rl.cnt_eq] at hcnt
   generalize hk0 : (D.mks (xs.take i) k).2 = k0 at *
   have hs0 := D.mks_cnt (x.body.terms.map Tm.d) (k0 + 1 + 1 + 1 + 1 + 1)
   have hs1 := D.mks_cnt (x.body.goals.map Gl.d) ((D.mks (x.body.terms.map Tm.d) (k0 + 1 + 1 + 1 + 1 + 1)).2)
   obtain ⟨g1, g2, q0, ch0, ch1⟩ := ch
   have q1 := Parts.nil_right g2
   have P0 := hp.symm
   have R0 := M.out
   refine cGv (markText_spec _ (by omega)) ?_
   refine ptr_intro ⟨r, 0, none⟩ rfl (by omega) (by omega) ?_
   refine sto_at (j := 0) (by simp [Addr.add_lit', hlen]) (by simp [Rl.cs]) ?_
   refine num64 (by omega) (by omega) ?_
   refine ptr_intro ⟨r, 0, none⟩ rfl (by omega) (by omega) ?_
   refine sto_at (j := 1) (by simp [Addr.add_lit', hlen]) (by simp [Rl.cs]) ?_
   refine num64 (by omega) (by omega) ?_
   refine ptr_intro ⟨r, 0, none⟩ rfl (by omega) (by omega) ?_
   refine sto_at (j := 2) (by simp [Addr.add_lit', hlen]) (by simp [Rl.cs]) ?_
   refine num64 (by omega) (by omega) ?_
   refine ptr_intro ⟨r, 0, none⟩ rfl (by omega) (by omega) ?_
   refine sto_at (j := 3) (by simp [Addr.add_lit', hlen]) (by simp [Rl.cs]) ?_
   refine num64 (by omega) (by omega) ?_
   refine cGv (markText_spec _ (by omega)) ?_
   refine ptr_intro ⟨r, 0, none⟩ rfl (by omega) (by omega) ?_
   refine sto_at (j := 4) (by simp [Addr.add_lit', hlen]) (by simp [Rl.cs]) ?_
   refine num64 (by omega) (by omega) ?_
   refine ptr_intro ⟨r, 0, none⟩ rfl (by omega) (by omega) ?_
   refine own_at (j := 5) (by simp [Addr.add_lit', hlen]) rfl ?_
   have w_ := mark_step R0 P0 q0
   obtain ⟨mm0, st0⟩ := w_
   refine cOw (SpecH.frame (st0 _).1 (markTermS_spec ch0 (by omega) (by omega))) fun v0 μ0 H0 hle0 hap0 hR0 => ?_
   obtain ⟨y0, ⟨rfl, eμ0, oo0⟩, pp0⟩ := hR0
   subst eμ0
   have w_ := (st0 _).2 _ _ pp0
   obtain ⟨M1, hh1, rfl, R1, n0, ap0, mj0, P1⟩ := w_
   refine ptr_intro ⟨r, 0, none⟩ rfl (by omega) (by omega) ?_
   refine own_at (j := 6) (by simp [Addr.add_lit', hlen]) rfl ?_
   have w_ := mark_step R1 P1 q1
   obtain ⟨mm1, st1⟩ := w_
   refine cOw (SpecH.frame (st1 _).1 (markGoalS_spec ch1 (by omega) (by omega))) fun v1 μ1 H1 hle1 hap1 hR1 => ?_
   obtain ⟨y1, ⟨rfl, eμ1, oo1⟩, pp1⟩ := hR1
   subst eμ1
   have w_ := (st1 _).2 _ _ pp1
   obtain ⟨M2, hh2, rfl, R2, n1, ap1, mj1, P2⟩ := w_
   have e1 := P2.eq (Parts.nil_right _)
   subst e1
   have w_ := mj1.assoc mj0
   obtain ⟨gg, u1, u2⟩ := w_
   have e2 := u2.is_join
   subst e2
   have PP := u1.symm
   have hmk := D.mks_take hx k
   have hmk2 := Rl.mk_eq x k0
   rw [hk0] at hmk
   refine num64 (by omega) (by omega) ⟨(i + 1, pre ++ [.string (mtext (k0)), .int .i64 (k0 + 1), .int .i64 (k0 + 1 + 1), .int .i64 (k0 + 1 + 1 + 1), .string (mtext (k0 + 1 + 1 + 1 + 1)), .slice p.1.1 x.body.terms.length p.1.2, .slice p.2.1 x.body.goals.length p.2.2], c2 ++ rest, Mem.join gg m), back _ _ u2.apart (u1.none_of n1 n0) ?_, by dsimp only; omega, ⟨⟨rfl, ?_, rfl, trivial⟩, trivial, rfl, ?_⟩⟩
   ·rw [hmk2]
    exact OwnS.str (OwnS.int (OwnS.int (OwnS.last (OwnS.int (OwnS.str (OwnS.cons (c1 := [_]) PP oo0 (OwnS.last oo1)))))))
   ·rw [hmk, hmk2]
    rfl
   ·simp [Rl.cs]
  ·have hi' : i = xs.length := by omega
   subst hi'
   obtain ⟨rfl, o1⟩ := M.last
   refine rPl ⟨by rw [List.take_length], rfl, some ⟨r, 0, none⟩, cap, by rw [D.mks_length], by rw [D.mks_length]; exact hm, D.mks_size k hn, .inr ⟨r, pre, tail, ty, hh, rfl, M.out, rfl, o1⟩⟩
set_option maxHeartbeats 1000000 in
theorem heldRelS_spec {l : List Rl} {v : Value} {k : Int} (ho : RepV μ (.sl 7 (D.mks (l.map Rl.d) k).1) v) (hk : 0 ≤ k) (hk2 : k + D.cnts (l.map Rl.d) ≤ 9223372036854775807) :
  Gives Tryz.prog 80 [v, .int .i64 k] μ (.int .i64 (D.mks (l.map Rl.d) k).2) := by
 have w_ := Rep.sl ho
 obtain ⟨base, cap, rfl, hsl⟩ := w_
 have hm' := Nat.le_trans hsl.max (show maxLen ≤ 9223372036854775807 by decide)
 rw [D.mks_length] at hm' hsl ⊢
 refine Spec.mk Tryz.func80 (by kernel_rfl) ?_
 generalize hxs : l.map Rl.d = xs at *
 refine lIn (fun i : Nat => i ≤ xs.length) (fun i => ⟨[(0, .val (.slice base xs.length cap)), (1, .val (.int .i64 (D.mks (xs.take i) k).2)), (5, .val (.int .i64 i))], [], 0, μ, Mem.nil⟩) (fun i => xs.length - i)
  0 (by simp) (fun i => ⟨rfl, rfl⟩) ⟨⟨rfl, rfl, rfl, trivial⟩, trivial, rfl, rfl⟩ ?_
 intro i hi
 have hge := D.mks_cnt (xs.take i) k
 refine ifd (fun h => ?_) (fun h => ?_)
 ·obtain ⟨x, ht⟩ := aSo (l := l) (i := i) (by rw [← hxs] at h; simp at h; omega)
  have hx : xs[i]? = some x.d := by rw [← hxs]; simp [ht]
  have hcnt := Marking.cnt (k := k) hx
  rw [Rl.cnt_eq] at hcnt
  have w_ := hsl.get i _ (D.mks_get hx k)
  obtain ⟨ad, cs, hel, hcs⟩ := w_
  have hmk := D.mks_take hx k
  generalize hk0 : (D.mks (xs.take i) k).2 = k0 at *
  have hmk2 := Rl.mk_eq x k0
  rw [hmk2] at hcs
  obtain ⟨_, _, rfl, rfl, _, _, rfl, rfl, _, _, rfl, rfl, _, _, rfl, ⟨_, _, rfl, rfl, _, _, rfl, rfl, cc0, _, rfl, hh0, cc1, _, rfl, hh1, rfl⟩, rfl⟩ := hcs
  have w_ := one_of (Rep.len _ _ hh0)
  obtain ⟨vv0, rfl⟩ := w_
  have hv0 := hh0
  have w_ := Rep.sl hv0
  obtain ⟨bb0, kk0, rfl, _⟩ := w_
  have hs0 := D.mks_cnt (x.body.terms.map Tm.d) (k0 + 1 + 1 + 1 + 1 + 1)
  have w_ := one_of (Rep.len _ _ hh1)
  obtain ⟨vv1, rfl⟩ := w_
  have hv1 := hh1
  have w_ := Rep.sl hv1
  obtain ⟨bb1, kk1, rfl, _⟩ := w_
  have hs1 := D.mks_cnt (x.body.goals.map Gl.d) ((D.mks (x.body.terms.map Tm.d) (k0 + 1 + 1 + 1 + 1 + 1)).2)
  refine eIn hel ?_
  refine cGv (markText_spec _ (by omega)) ?_
  refine ifnd (fun h => absurd rfl h) fun _ => ?_
  refine num64 (by omega) (by omega) ?_
  refine eIn hel ?_
  refine ifnd (fun h => absurd rfl h) fun _ => ?_
  refine num64 (by omega) (by omega) ?_
  refine eIn hel ?_
  refine ifnd (fun h => absurd rfl h) fun _ => ?_
  refine num64 (by omega) (by omega) ?_
  refine eIn hel ?_
  refine ifnd (fun h => absurd rfl h) fun _ => ?_
  refine num64 (by omega) (by omega) ?_
  refine eIn hel ?_
  refine cGv (markText_spec _ (by omega)) ?_
  refine ifnd (fun h => absurd rfl h) fun _ => ?_
  refine num64 (by omega) (by omega) ?_
  refine eIn hel ?_
  refine cGv (heldTermS_spec hh0 (by omega) (by omega)) ?_
  refine ifd (fun h => absurd h (by omega)) (fun _ => ?_)
  refine eIn hel ?_
  refine cGv (heldGoalS_spec hh1 (by omega) (by omega)) ?_
  refine ifd (fun h => absurd h (by omega)) (fun _ => ?_)
  exact num64 (by omega) (by omega) ⟨i + 1, by omega, by omega, ⟨⟨rfl, by rw [hmk, hmk2]; rfl, rfl, trivial⟩, trivial, rfl, rfl⟩⟩
 ·have hi' : i = xs.length := by omega
  subst hi'
  rw [List.take_length]
  exact rGv rfl rfl
theorem read_Rel : Reads Tryz.prog 148 fun d => ∃ x : Rl, d = x.d ∧ x.d.wd
 | 0 => ReadsTo.zero _
 | n + 1 => (reads_struct ti148 rfl (FieldsTo.cons ti9 (reads_str und_string n) (FieldsTo.cons ti3 (reads_int und_int n) (FieldsTo.cons ti3 (reads_int und_int n) (FieldsTo.cons ti25 (read_Goal n) FieldsTo.nil))))).weaken fun d h => by
  obtain ⟨ds, rfl, h⟩ := h
  obtain ⟨_, _, rfl, ⟨x0, rfl, w0⟩, q0⟩ := h.cons
  obtain ⟨_, _, rfl, ⟨x1, rfl, w1⟩, q1⟩ := q0.cons
  obtain ⟨_, _, rfl, ⟨x2, rfl, w2⟩, q2⟩ := q1.cons
  obtain ⟨_, _, rfl, ⟨x3, rfl, w3⟩, q3⟩ := q2.cons
  obtain rfl := q3.nil
  refine ⟨.mk x0 x1 x2 x3, (Rl.d_eq (.mk x0 x1 x2 x3)).symm, ?_⟩
  rw [Rl.d_eq]
  exact ⟨w0, w1, w2, w3, trivial⟩
theorem read_RelS : Reads Tryz.prog 36 fun d => ∃ l : List Rl, d = .sl 7 (l.map Rl.d) ∧ D.wds (l.map Rl.d) := fun n =>
 (reads_sl ti36.kind (cellsOf_tt ti148) (fun d h => by obtain ⟨a, rfl, _⟩ := h; exact Rl.d_n a) read_Rel n).weaken fun d h => by
  obtain ⟨xs, rfl, hx⟩ := h
  obtain ⟨l, rfl⟩ := lift_list (f := Rl.d) fun x h => by obtain ⟨t, h, _⟩ := hx x h; exact ⟨t, h⟩
  exact ⟨l, rfl, D.wds_of fun x hm => by obtain ⟨t, rfl, h⟩ := hx x hm; exact h⟩
end
end Go.Vx
namespace Go.Vx
open Go.Proofs Classical
section
variable {μ : Mem}
theorem szProgram_spec (x : Pg) {v : Value} {left : Int} (hv : RepV μ x.d v) (hl : 0 ≤ left) (hl2 : left ≤ 1048576) (hw : x.d.wd) : Gives Tryz.prog 16 [v, .int .i64 left] μ (.int .i64 (szR left x.d.sz)) := by
 have w_ := Pg.inv hv
 obtain ⟨p, rfl, hA⟩ := w_
 have hsz := Pg.sz_eq x
 rw [Pg.d_eq] at hw
 refine Spec.mk Tryz.func16 (by kernel_rfl) ?_
 intro r
 refine cGv (szRelS_spec hA (by omega) (by omega) hw.1) ?_
 refine ifd (fun h => rGv (by have := szR_lt h; rw [szR_neg (by omega)]) rfl) (fun h => ?_)
 have q0 := szR_ge h
 rw [szR_pos q0] at h ⊢
 refine rGv ?_ rfl
 rw [szR_pos (by omega)]
 first | rfl | (congr 1; omega)
set_option maxRecDepth 4000 in
theorem toProgram_spec (x : Pg) {μ : Mem} {v : Value} (hv : RepV μ x.d v) (hb : x.d.sz ≤ 1048576) : Spec Tryz.prog 19 [v] μ fun v μ' => Fresh μ μ' x.d v := by
 have w_ := Pg.inv hv
 obtain ⟨p, rfl, hA⟩ := w_
 have hsz := Pg.sz_eq x
 have A0 := hA
 refine Spec.mk Tryz.func19 (by kernel_rfl) ?_
 intro r1 r2 r3
 refine cPl (toRelS_spec A0 (by omega)) fun u0 μ0 hle0 hf0 => ?_
 have w_ := Rep.sl hf0.rep
 obtain ⟨bb0, cc0, rfl, _⟩ := w_
 rw [Pg.d_eq]
 exact rPl (FreshS.st (FreshS.cons hf0 hle0 (Mem.Le.refl _) (FreshS.nil)))
theorem eqProgram_spec (x : Pg) {v v' : Value} (hv : RepV μ x.d v) (hv' : RepV μ x.d v') : Gives Tryz.prog 22 [v, v'] μ (.bool true) := by
 have w_ := Pg.inv hv
 obtain ⟨p, rfl, hA⟩ := w_
 have w_ := Pg.inv hv'
 obtain ⟨p', rfl, hB⟩ := w_
 have A0 := hA
 have B0 := hB
 refine Spec.mk Tryz.func22 (by kernel_rfl) ?_
 intro r1 r2
 refine cGv (eqRelS_spec A0 B0) ?_
 refine iIn (fun h => nomatch h) (fun _ => ?_)
 exact rGv rfl rfl
theorem markProgram_spec (x : Pg) {h : Mem} {v : Value} {k : Int} (ho : OwnV x.d h v) (hk : 0 ≤ k) (hk2 : k + (D.cnts (x.rels.map Rl.d)) ≤ 9223372036854775807) :
  SpecH Tryz.prog 24 [v, .int .i64 k] μ h fun r μ' h' => r = .int .i64 (x.d.mt k).2 ∧ μ' = μ ∧ OwnV (x.d.mt k).1 h' v := by
 have ho2 : ∃ cs, v = .agg (List.toArray cs) ∧ Own x.d h cs := by rw [Pg.d_eq] at ho ⊢; exact ho
 obtain ⟨cs, rfl, ho2⟩ := ho2
 have w_ := Pg.ownR ho2
 obtain ⟨p, rfl, ch⟩ := w_
 rw [Pg.mt_eq]
 have hs0 := D.mks_cnt (x.rels.map Rl.d) (k)
 refine SpecH.mk [] Tryz.func24 (by kernel_rfl) ?_
 intro r
 refine cOw (markRelS_spec ch (by omega) (by omega)) fun v μ' h' hle hap hR => ?_
 obtain ⟨rfl, e, oo0⟩ := hR
 subst e
 exact rPl ⟨rfl, rfl, _, rfl, OwnS.last oo0⟩
theorem heldProgram_spec (x : Pg) {v : Value} {k : Int} (ho : RepV μ (x.d.mt k).1 v) (hk : 0 ≤ k) (hk2 : k + (D.cnts (x.rels.map Rl.d)) ≤ 9223372036854775807) :
  Gives Tryz.prog 26 [v, .int .i64 k] μ (.int .i64 (x.d.mt k).2) := by
 rw [Pg.mt_eq] at ho ⊢
 obtain ⟨_, rfl, cc0, _, rfl, hh0, rfl⟩ := ho
 have w_ := one_of (Rep.len _ _ hh0)
 obtain ⟨vv0, rfl⟩ := w_
 have hv0 := hh0
 have w_ := Rep.sl hv0
 obtain ⟨bb0, kk0, rfl, _⟩ := w_
 have hs0 := D.mks_cnt (x.rels.map Rl.d) (k)
 refine Spec.mk Tryz.func26 (by kernel_rfl) ?_
 intro r
 refine cGv (heldRelS_spec hh0 (by omega) (by omega)) ?_
 refine ifd (fun h => absurd h (by omega)) (fun _ => ?_)
 exact rGv rfl rfl
theorem read_Program : Reads Tryz.prog 38 fun d => ∃ x : Pg, d = x.d ∧ x.d.wd
 | 0 => ReadsTo.zero _
 | n + 1 => (reads_struct ti38 rfl (FieldsTo.cons ti36 (read_RelS n) FieldsTo.nil)).weaken fun d h => by
  obtain ⟨ds, rfl, h⟩ := h
  obtain ⟨_, _, rfl, ⟨x0, rfl, w0⟩, q0⟩ := h.cons
  obtain rfl := q0.nil
  refine ⟨.mk x0, (Pg.d_eq (.mk x0)).symm, ?_⟩
  rw [Pg.d_eq]
  exact ⟨w0, trivial⟩
end
end Go.Vx
namespace Go.Vx
open Go.Proofs Classical
theorem toTs_tm {xs : List T} : (xs.map T.tm).map Tm.toT = xs := by
 rw [List.map_map]
 exact (List.map_congr_left fun x _ => T.toT_tm x).trans (List.map_id _)
section
variable {μ : Mem}
end
end Go.Vx
namespace Go.Vx
open Go.Proofs Classical
theorem foldl_snoc {α : Type} : ∀ (l s : List α), l.foldl (fun s n => s ++ [n]) s = s ++ l
 | [], s => by simp
 | a :: l, s => by rw [List.foldl_cons, foldl_snoc l]; simp
theorem foldl_app {α β : Type} (f : α → List β) : ∀ (l : List α) (s : List β), l.foldl (fun s x => s ++ f x) s = s ++ l.flatMap f
 | [], s => by simp
 | a :: l, s => by rw [List.foldl_cons, foldl_app f l]; simp
section
variable {μ : Mem}
theorem eachGoal_rel {S : Type} (J : S → Mem → Prop) (step : S → Gl → S) (Q : Gl → Prop) {k : FuncId} {caps : List Value}
  (hc : ∀ s h g v, Q g → RepV μ g.d v → J s h → SpecH Tryz.prog k (v :: caps) μ h fun r μ' h' => r = .tuple #[] ∧ μ' = μ ∧ J (step s g) h') :
  ∀ (g : Gl) {v : Value} (s : S) (h : Mem), RepV μ g.d v → (∀ x ∈ g.all, Q x) → J s h → SpecH Tryz.prog 186 [v, .func (.func k) #[] caps.toArray] μ h fun r μ' h' => r = .tuple #[] ∧ μ' = μ ∧ J (g.all.foldl step s) h' :=
 Gl.ind fun g ih v s h hv hq hj => by
  have w_ := Gl.inv hv
  obtain ⟨p, rfl, hts, hgs⟩ := w_
  have hn := maxLen_le hgs.max
  rw [Gl.all_eq] at hq ⊢
  rw [List.foldl_cons]
  refine SpecH.mk [] Tryz.func186 (by kernel_rfl) ?_
  intro r
  refine cOw (hc s h g _ (hq g (by simp)) hv hj) fun v μ' h' hle hap hR => ?_
  obtain ⟨rfl, e2, hj'⟩ := hR
  obtain rfl := e2.symm
  refine lIn (fun p : Nat × Mem => p.1 ≤ g.goals.length ∧ J (((g.goals.take p.1).flatMap Gl.all).foldl step (step s g)) p.2)
   (fun (i, h) => ⟨[(1, .val (.func (.func k) #[] caps.toArray)), (10, .val (.slice p.2.1 g.goals.length p.2.2)), (11, .val (.int .i64 g.goals.length)), (12, .val (.int .i64 i))], [], 1, μ, h⟩) (fun p => g.goals.length - p.1)
   (0, h') ⟨by simp, by simpa using hj'⟩ (fun (_, _) => ⟨rfl, rfl⟩) ⟨⟨rfl, rfl, rfl, rfl, trivial⟩, trivial, rfl, rfl⟩ ?_
  rintro ⟨i, h1⟩ ⟨hi, hj1⟩
  dsimp only at hi hj1
  refine ifd (fun hlt => ?_) (fun hlt => ?_)
  ·have w_ := aSo (l := g.goals) (i := i) (by omega)
   obtain ⟨t, ht⟩ := w_
   have w_ := Gl.elem hgs ht
   obtain ⟨ad, p3, hel, hr⟩ := w_
   refine eIn hel ?_
   intro r4
   refine cOw (ih t (mAt ht) _ h1 hr (fun x hx => hq x (List.mem_cons_of_mem _ (List.mem_flatMap.2 ⟨t, mAt ht, hx⟩))) hj1) fun v μ' h' hle hap hR => ?_
   obtain ⟨rfl, e2, hj2⟩ := hR
   obtain rfl := e2.symm
   refine num64 (by omega) (by omega) ⟨(i + 1, h'), ⟨by dsimp only; omega, ?_⟩, by dsimp only; omega, ⟨⟨rfl, rfl, rfl, rfl, trivial⟩, trivial, rfl, rfl⟩⟩
   dsimp only
   rw [List.take_add_one, ht, Option.toList_some, List.flatMap_append, List.foldl_append]
   simpa using hj2
  ·obtain rfl : i = g.goals.length := by omega
   rw [List.take_length] at hj1
   exact rPl ⟨rfl, rfl, hj1⟩
def KeysInv (rm : Nat) (s : List Int) (h : Mem) : Prop := ∃ r l, h rm = some (.cells #[.map (some r)] 213 (0, 0)) ∧ h r = some (mapO l) ∧ MapOk IntKey l ∧ ∀ n, (mget l (.int .i64 n)).isSome ↔ n ∈ s
theorem goalVars11_spec {rm : Nat} {s : List Int} {h : Mem} {n : Int} (H : KeysInv rm s h) : SpecH Tryz.prog 221 [.int .i64 n, .pointer (some ⟨rm, 0, none⟩)] μ h fun r μ' h' => r = .tuple #[] ∧ μ' = μ ∧ KeysInv rm (s ++ [n]) h' := by
 obtain ⟨r, l, h1, h2, hk, hg⟩ := H
 have e1 : rm ≠ r := ne_of_obj h1 h2 (by simp [mapO])
 refine SpecH.mk [] Tryz.func221 (by kernel_rfl) ?_
 refine oIn [.map (some r)] rfl (box_at h1) ?_
 refine upd_intro l h2 (hk.weaken (by rintro _ ⟨n, rfl⟩; rfl)) rfl ?_
 refine rPl ⟨rfl, rfl, r, _, ?_, Mem.set_at _ _ _, hk.int _, fun m => ?_⟩
 ·dsimp only; rw [Mem.set_ne e1]; exact h1
 ·rw [mget_int, List.mem_append, List.mem_singleton]
  by_cases e : m = n
  ·simp [e]
  ·rw [if_neg e, hg]; simp [e]
theorem goalVars1_spec {rm : Nat} {s : List Int} {h : Mem} {g : Gl} {v : Value} (hok : ∀ t ∈ g.terms, t.Ok) (hv : RepV μ g.d v) (H : KeysInv rm s h) : SpecH Tryz.prog 220 [v, .pointer (some ⟨rm, 0, none⟩)] μ h fun r μ' h' => r = .tuple #[] ∧ μ' = μ ∧ KeysInv rm (s ++ g.tvars) h' := by
 have w_ := Gl.inv hv
 obtain ⟨p, rfl, hts, hgs⟩ := w_
 have w_ := lift_ok hok
 obtain ⟨xs, hxs, hxo⟩ := w_
 have htv : g.tvars = xs.flatMap T.vars := by
  rw [Gl.tvars, hxs, List.map_map]
  congr 1
  exact (List.map_congr_left fun x _ => T.toT_tm x).trans (List.map_id _)
 rw [htv]
 rw [hxs, List.length_map] at hts ⊢
 have hn := maxLen_le hts.max
 refine SpecH.mk [] Tryz.func220 (by kernel_rfl) ?_
 intro r
 refine lIn (fun p : Nat × Mem => p.1 ≤ xs.length ∧ KeysInv rm (s ++ (xs.take p.1).flatMap T.vars) p.2)
  (fun (i, h) => ⟨[(1, .val (.pointer (some ⟨rm, 0, none⟩))), (6, .val (.slice p.1.1 xs.length p.1.2)), (7, .val (.int .i64 xs.length)), (8, .val (.int .i64 i))], [], 1, μ, h⟩) (fun p => xs.length - p.1)
  (0, h) ⟨by simp, by simpa using H⟩ (fun (_, _) => ⟨rfl, rfl⟩) ⟨⟨rfl, rfl, rfl, rfl, trivial⟩, trivial, rfl, rfl⟩ ?_
 rintro ⟨i, h1⟩ ⟨hi, hj1⟩
 dsimp only at hi hj1
 refine ifd (fun hlt => ?_) (fun hlt => ?_)
 ·have w_ := aSo (l := xs) (i := i) (by omega)
  obtain ⟨x, hx'⟩ := w_
  have w_ := Tm.elem (i := i) (t := x.tm) hts (by simp [hx'])
  obtain ⟨ad, p3, hel, hto⟩ := w_
  refine eIn hel ?_
  intro r4
  refine cOw (eachVar_rel (KeysInv rm) (fun s n => s ++ [n]) (fun _ _ => True) (fun s h n _ hj => goalVars11_spec hj) x _ h1 hto (fun _ _ _ _ => trivial) hj1) fun v μ' h' hle hap hR => ?_
  obtain ⟨rfl, e2, hj2⟩ := hR
  obtain rfl := e2.symm
  rw [foldl_snoc] at hj2
  refine num64 (by omega) (by omega) ⟨(i + 1, h'), ⟨by dsimp only; omega, ?_⟩, by dsimp only; omega, ⟨⟨rfl, rfl, rfl, rfl, trivial⟩, trivial, rfl, rfl⟩⟩
  dsimp only
  rw [List.take_add_one, hx', Option.toList_some, List.flatMap_append]
  simpa using hj2
 ·obtain rfl : i = xs.length := by omega
  rw [List.take_length] at hj1
  exact rPl ⟨rfl, rfl, hj1⟩
theorem goalVars_spec {g : Gl} {v : Value} (hS : g.Sh) (hv : RepV μ g.d v) : Spec Tryz.prog 185 [v] μ fun v μ' => ∃ xs : List Int, (∀ n, n ∈ xs ↔ n ∈ g.vars) ∧ xs.Pairwise (· < ·) ∧ Fresh μ μ' (.sl 1 (xs.map D.i)) v := by
 have w_ := Gl.invV hv
 obtain ⟨p, rfl⟩ := w_
 refine Spec.mkO [3, 4] Tryz.func185 (by kernel_rfl) ?_
 intro r
 intro rM hmM hoM r3 hm3 ho3
 refine sIn [.map none] 213 (Mem.set_at _ _ _) rfl (Nat.le_refl _) ?_
 dsimp only at hmM hoM hm3 ho3
 have n1 : rM ≠ r3 := fun e => by subst e; simp [Mem.set_get] at ho3
 generalize hh : Mem.set (Mem.set _ r3 _) r3 _ = h0
 have H0 : KeysInv r3 [] h0 := by
  subst hh
  refine ⟨rM, [], ?_, ?_, MapOk.nil, fun n => by simp [mget]⟩
  ·rw [Mem.set_at]; rfl
  ·dsimp only; rw [Mem.set_ne n1, Mem.set_ne n1, Mem.set_at]
 refine cOw (eachGoal_rel (KeysInv r3) (fun s g => s ++ g.tvars) (fun g => ∀ t ∈ g.terms, t.Ok) (fun s h g v hq hv hj => goalVars1_spec hq hv hj) g [] h0 hv (fun x hx => (Gl.Sh.all g hS x hx).top.tm) H0) fun v μ' h' hle hap hR => ?_
 obtain ⟨rfl, e2, hj⟩ := hR
 obtain rfl := e2.symm
 rw [foldl_app] at hj
 obtain ⟨r, l, h1, h2, hk, hg⟩ := hj
 have hlen : l.length ≤ 1000000 := by
  have w_ := keys_ints hk
  obtain ⟨ks, hks, hnd⟩ := w_
  have := nodup_range (N := 100001) hnd fun n hn => by
   have h3 := (hg n).1 ((mget_keys hks n).2 hn)
   have := Gl.vars_range hS n (by simpa [Gl.vars] using h3)
   omega
  have h4 := congrArg List.length hks
  simp only [ints, List.length_map] at h4
  omega
 refine oIn [.map (some r)] rfl (box_at h1) ?_
 refine cOw (sortedInts_spec h2 hk hlen) fun v μ2 h2' hle2 hap2 hR2 => ?_
 obtain ⟨rfl, xs, g1, g2, g3⟩ := hR2
 exact rPl ⟨xs, fun n => (g1 n).trans ((hg n).trans (by simp [Gl.vars])), g2, g3⟩
theorem varsBelow_spec {g : Gl} {v : Value} {n : Int} (hS : g.Sh) (hv : RepV μ g.d v) : Spec Tryz.prog 138 [v, .int .i64 n] μ fun r _ => r = .bool (decide (∀ m ∈ g.vars, m < n)) := by
 have w_ := Gl.invV hv
 obtain ⟨p, rfl⟩ := w_
 refine Spec.mk Tryz.func138 (by kernel_rfl) ?_
 intro r
 refine cPl (goalVars_spec hS hv) fun v1 μ1 hle1 hR => ?_
 obtain ⟨xs, g1, g2, g3⟩ := hR
 have w_ := Rep.sl g3.rep
 obtain ⟨b, c, rfl, hsl⟩ := w_
 rw [List.length_map] at hsl ⊢
 have hn := maxLen_le hsl.max
 refine lIn (fun i : Nat => i ≤ xs.length ∧ ∀ m ∈ xs.take i, m < n) (fun i => ⟨[(1, .val (.int .i64 n)), (8, .val (.slice b xs.length c)), (9, .val (.int .i64 xs.length)), (10, .val (.int .i64 i))], [], 1, μ1, Mem.nil⟩) (fun i => xs.length - i)
  0 ⟨by simp, by simp⟩ (fun _ => ⟨rfl, rfl⟩) ⟨⟨rfl, rfl, rfl, rfl, trivial⟩, trivial, rfl, rfl⟩ ?_
 rintro i ⟨hi, hall⟩
 refine ifd (fun hlt => ?_) (fun hlt => ?_)
 ·have w_ := aSo (l := xs) (i := i) (by omega)
  obtain ⟨x, hx⟩ := w_
  have w_ := Ints.elem hsl hx
  obtain ⟨ad, hel⟩ := w_
  refine eIn hel ?_
  refine ifd (fun hge => rPl (isF fun hh => ?_)) (fun hge => ?_)
  ·have := hh x ((g1 x).1 (mAt hx)); omega
  refine num64 (by omega) (by omega) ⟨i + 1, ⟨by omega, fun y hy => ?_⟩, by omega, ⟨⟨rfl, rfl, rfl, rfl, trivial⟩, trivial, rfl, rfl⟩⟩
  rw [List.take_add_one, hx, Option.toList_some, List.mem_append, List.mem_singleton] at hy
  rcases hy with hy | rfl
  ·exact hall y hy
  ·omega
 ·obtain rfl : i = xs.length := by omega
  rw [List.take_length] at hall
  exact rPl (isT fun m hm => hall m ((g1 m).2 hm))
end
end Go.Vx
namespace Go.Vx
open Go.Proofs Classical
theorem relFrom_some {s : ByteArray} : ∀ {l : List Rl} {i : Nat}, 0 ≤ relFrom l i s → ∃ (j : Nat) (r : Rl), relFrom l i s = ((i + j : Nat) : Int) ∧ l[j]? = some r ∧ r.name = s
 | [], i, h => by simp [relFrom] at h
 | r :: l, i, h => by
  rw [relFrom] at h ⊢
  by_cases e : r.name = s
  ·rw [if_pos e]; exact ⟨0, r, by simp, rfl, e⟩
  ·rw [if_neg e] at h ⊢
   have w_ := relFrom_some h
   obtain ⟨j, r', h1, h2, h3⟩ := w_
   exact ⟨j + 1, r', by rw [h1]; congr 1; omega, h2, h3⟩
section
variable {μ : Mem}
theorem relation_spec {p : Pg} {s : ByteArray} {v : Value} (hv : RepV μ p.d v) : Gives Tryz.prog 93 [v, .string s] μ (.int .i64 (relAt p s)) := by
 have w_ := Pg.inv hv
 obtain ⟨q, rfl, hsl⟩ := w_
 have hn := maxLen_le hsl.max
 refine Spec.mk Tryz.func93 (by kernel_rfl) ?_
 intro r
 refine lIn (fun i : Nat => i ≤ p.rels.length ∧ relFrom (p.rels.drop i) i s = relAt p s) (fun i => ⟨[(1, .val (.string s)), (8, .val (.slice q.1 p.rels.length q.2)), (9, .val (.int .i64 p.rels.length)), (10, .val (.int .i64 i))], [], 1, μ, Mem.nil⟩) (fun i => p.rels.length - i)
  0 ⟨by omega, rfl⟩ (fun _ => ⟨rfl, rfl⟩) ⟨⟨rfl, rfl, rfl, rfl, trivial⟩, trivial, rfl, rfl⟩ ?_
 rintro i ⟨hi, hJ⟩
 refine ifd (fun hlt => ?_) (fun hlt => ?_)
 ·have w_ := aSo (l := p.rels) (i := i) (by omega)
  obtain ⟨x, hx⟩ := w_
  have w_ := Rl.elem hsl hx
  obtain ⟨ad, q2, hel, hr⟩ := w_
  rw [drop_at hx, relFrom] at hJ
  refine eIn hel ?_
  intro r2
  refine ifd (fun e => ?_) (fun e => ?_)
  ·rw [if_pos e] at hJ
   exact rGv (by rw [← hJ]) rfl
  ·rw [if_neg e] at hJ
   exact num64 (by omega) (by omega) ⟨i + 1, ⟨by omega, hJ⟩, by omega, ⟨⟨rfl, rfl, rfl, rfl, trivial⟩, trivial, rfl, rfl⟩⟩
 ·obtain rfl : i = p.rels.length := by omega
  rw [List.drop_length] at hJ
  exact rGv (by rw [← hJ]; rfl) rfl
theorem l14Find_spec {p : Pg} {s : ByteArray} {v : Value} (hv : RepV μ p.d v) : Gives Tryz.prog 82 [v, .string s] μ (.int .i64 (relAt p s)) := by
 have w_ := Pg.inv hv
 obtain ⟨q, rfl, hsl⟩ := w_
 have hn := maxLen_le hsl.max
 refine Spec.mk Tryz.func82 (by kernel_rfl) ?_
 intro r
 refine lIn (fun i : Nat => i ≤ p.rels.length ∧ relFrom (p.rels.drop i) i s = relAt p s) (fun i => ⟨[(1, .val (.string s)), (8, .val (.slice q.1 p.rels.length q.2)), (9, .val (.int .i64 p.rels.length)), (10, .val (.int .i64 i))], [], 1, μ, Mem.nil⟩) (fun i => p.rels.length - i)
  0 ⟨by omega, rfl⟩ (fun _ => ⟨rfl, rfl⟩) ⟨⟨rfl, rfl, rfl, rfl, trivial⟩, trivial, rfl, rfl⟩ ?_
 rintro i ⟨hi, hJ⟩
 refine ifd (fun hlt => ?_) (fun hlt => ?_)
 ·have w_ := aSo (l := p.rels) (i := i) (by omega)
  obtain ⟨x, hx⟩ := w_
  have w_ := Rl.elem hsl hx
  obtain ⟨ad, q2, hel, hr⟩ := w_
  rw [drop_at hx, relFrom] at hJ
  refine eIn hel ?_
  intro r2
  refine ifd (fun e => ?_) (fun e => ?_)
  ·rw [if_pos e] at hJ
   exact rGv (by rw [← hJ]) rfl
  ·rw [if_neg e] at hJ
   exact num64 (by omega) (by omega) ⟨i + 1, ⟨by omega, hJ⟩, by omega, ⟨⟨rfl, rfl, rfl, rfl, trivial⟩, trivial, rfl, rfl⟩⟩
 ·obtain rfl : i = p.rels.length := by omega
  rw [List.drop_length] at hJ
  exact rGv (by rw [← hJ]; rfl) rfl
theorem relAt_some {p : Pg} {s : ByteArray} (h : 0 ≤ relAt p s) : ∃ (j : Nat) (r : Rl), relAt p s = (j : Int) ∧ p.rels[j]? = some r := by
 have w_ := relFrom_some h
 obtain ⟨j, r, h1, h2, h3⟩ := w_
 exact ⟨j, r, by rw [relAt, h1]; simp, h2⟩
theorem callFits_iff {p : Pg} {g : Gl} (h9 : g.kind = 9) {j : Nat} {r : Rl} (e : relAt p g.name = (j : Int)) (hr : p.rels[j]? = some r) : CallFits p g ↔ r.arity = g.terms.length := by
 constructor
 ·intro h
  have w_ := h h9
  obtain ⟨i, r', h1, h2, h3⟩ := w_
  rw [e] at h1
  obtain rfl : j = i := by omega
  rw [hr] at h2; cases h2
  exact h3
 ·intro h _
  exact ⟨j, r, e, hr, h⟩
theorem callFits_neg {p : Pg} {g : Gl} (h9 : g.kind = 9) (h : ¬ 0 ≤ relAt p g.name) : ¬ CallFits p g := fun k => by
 have w_ := k h9
 obtain ⟨i, r', h1, _, _⟩ := w_
 omega
theorem l14Calls_spec {p : Pg} {vp : Value} (hp : RepV μ p.d vp) : ∀ (g : Gl) {v : Value}, g.Sh → RepV μ g.d v → Gives Tryz.prog 181 [vp, v] μ (.bool (decide (FitAll p g))) := by
 have w_ := Pg.inv hp
 obtain ⟨q, rfl, hrl⟩ := w_
 refine Gl.ind fun g ih v hS hv => ?_
 have w_ := Gl.inv hv
 obtain ⟨q2, rfl, hts, hgs⟩ := w_
 have hn := maxLen_le hgs.max
 refine Spec.mk Tryz.func181 (by kernel_rfl) ?_
 intro r1 r2
 refine ifd (fun h9 => ?_) (fun h9 => ?_)
 ·have hg0 : g.goals = [] := List.eq_nil_of_length_eq_zero (hS.top.gl0 (.inr h9))
  have hiff : FitAll p g ↔ CallFits p g := ⟨fun h => h.top, fun h => .mk h (by rw [hg0]; simp)⟩
  refine cGv (l14Find_spec hp) ?_
  refine ifd (fun h0 => ?_) (fun h0 => rGv (isF fun h => callFits_neg h9 h0 h.top) rfl)
  have w_ := relAt_some h0
  obtain ⟨j, rl, e, hr⟩ := w_
  have w_ := Rl.elem hrl hr
  obtain ⟨ad, q3, hel, hrr⟩ := w_
  rw [e]
  refine eIn hel ?_
  exact rGv (isI ((callFits_iff h9 e hr).symm.trans hiff.symm)) rfl
 ·refine lIn (fun i : Nat => i ≤ g.goals.length ∧ ∀ x ∈ g.goals.take i, FitAll p x) (fun i => ⟨[(2, .loc 0 r1 0), (30, .val (.slice q2.2.1 g.goals.length q2.2.2)), (31, .val (.int .i64 g.goals.length)), (32, .val (.int .i64 i))], [(0, some (.cells r1 [.val (.slice q.1 p.rels.length q.2)] 45))], 2, μ, Mem.nil⟩) (fun i => g.goals.length - i)
   0 ⟨by omega, by simp⟩ (fun _ => ⟨rfl, rfl⟩) ⟨⟨rfl, rfl, rfl, rfl, trivial⟩, ⟨rfl, trivial⟩, rfl, rfl⟩ ?_
  rintro i ⟨hi, hall⟩
  refine ifd (fun hlt => ?_) (fun hlt => ?_)
  ·have w_ := aSo (l := g.goals) (i := i) (by omega)
   obtain ⟨t, ht⟩ := w_
   have w_ := Gl.elem hgs ht
   obtain ⟨ad, q3, hel, hr⟩ := w_
   refine eIn hel ?_
   intro r3
   refine cGv (ih t (mAt ht) (hS.sub t (mAt ht)) hr) ?_
   refine ifnd (fun h => rGv (isF fun S => h (S.sub t (mAt ht))) rfl) (fun h => ?_)
   refine num64 (by omega) (by omega) ⟨i + 1, ⟨by omega, fun x hx => ?_⟩, by omega, ⟨⟨rfl, rfl, rfl, rfl, trivial⟩, ⟨rfl, trivial⟩, rfl, rfl⟩⟩
   rw [List.take_add_one, ht, Option.toList_some, List.mem_append, List.mem_singleton] at hx
   rcases hx with hx | rfl
   ·exact hall x hx
   ·exact h
  ·obtain rfl : i = g.goals.length := by omega
   rw [List.take_length] at hall
   exact rGv (isT (.mk (fun h => absurd h h9) hall)) rfl
end
end Go.Vx
namespace Go.Vx
open Go.Proofs Classical
theorem foldl_and {α : Type} (f : α → Prop) : ∀ (l : List α) (b : Bool), l.foldl (fun b x => b && decide (f x)) b = (b && decide (∀ x ∈ l, f x))
 | [], b => by simp
 | a :: l, b => by
  rw [List.foldl_cons, foldl_and f l, Bool.and_assoc]
  congr 1
  by_cases h : f a
  ·simp [h]
  ·simp [h]
section
variable {μ : Mem}
theorem callsFit1_spec {p : Pg} {q : Pg.P} {rp rf : Nat} {b : Bool} {h : Mem} {g : Gl} {v : Value} (hp : RepV μ p.d (.agg #[.slice q.1 p.rels.length q.2])) (hrl : Sl μ 7 q.1 p.rels.length (p.rels.map Rl.d)) (hat : μ rp = some (.cells #[.slice q.1 p.rels.length q.2] 45 (0, 0)))
  (hv : RepV μ g.d v) (hf : h rf = some (.cells #[.bool b] 4 (0, 0))) :
  SpecH Tryz.prog 187 [v, .pointer (some ⟨rp, 0, none⟩), .pointer (some ⟨rf, 0, none⟩)] μ h fun r μ' h' => r = .tuple #[] ∧ μ' = μ ∧ h' rf = some (.cells #[.bool (b && decide (CallFits p g))] 4 (0, 0)) := by
 have w_ := Gl.inv hv
 obtain ⟨q2, rfl, hts, hgs⟩ := w_
 refine SpecH.mk [] Tryz.func187 (by kernel_rfl) ?_
 intro r
 refine ifd (fun h9 => ?_) (fun h9 => ?_)
 rotate_left
 ·have : CallFits p g := fun k => absurd k h9
  exact rPl ⟨rfl, rfl, by rw [decide_eq_true this, Bool.and_true]; exact hf⟩
 refine ext_intro [.slice q.1 p.rels.length q.2] rfl (box_at hat) ?_
 refine cGv (relation_spec hp) ?_
 refine ifd (fun h0 => ?_) (fun h0 => ?_)
 ·have : ¬ CallFits p g := callFits_neg h9 (by omega)
  refine sIn [.bool b] 4 hf rfl (Nat.le_refl _) ?_
  exact rPl ⟨rfl, rfl, by rw [decide_eq_false this, Bool.and_false]; exact Mem.set_at _ _ _⟩
 ·have w_ := relAt_some (Int.not_lt.1 h0)
  obtain ⟨j, rl, e, hr⟩ := w_
  have w_ := Rl.elem hrl hr
  obtain ⟨ad, q3, hel, hrr⟩ := w_
  have hiff := callFits_iff h9 e hr
  refine ext_intro [.slice q.1 p.rels.length q.2] rfl (fun j v hj => by show μ.cell (((⟨rp, 0, none⟩ : Addr).add 0).add j) = some v; rw [add_add, Nat.zero_add]; exact box_at hat j v hj) ?_
  rw [e]
  refine eIn hel ?_
  refine ifnd (fun hne => ?_) (fun heq => ?_)
  ·have : ¬ CallFits p g := fun k => hne (hiff.1 k)
   refine sIn [.bool b] 4 hf rfl (Nat.le_refl _) ?_
   exact rPl ⟨rfl, rfl, by rw [decide_eq_false this, Bool.and_false]; exact Mem.set_at _ _ _⟩
  ·have : CallFits p g := hiff.2 heq
   exact rPl ⟨rfl, rfl, by rw [decide_eq_true this, Bool.and_true]; exact hf⟩
theorem callsFit_spec {p : Pg} {vp v : Value} {g : Gl} (hp : RepV μ p.d vp) (hv : RepV μ g.d v) : Spec Tryz.prog 139 [vp, v] μ fun r _ => r = .bool (decide (FitAll p g)) := by
 have w_ := Pg.inv hp
 obtain ⟨q, rfl, hrl⟩ := w_
 have w_ := Gl.invV hv
 obtain ⟨q2, rfl⟩ := w_
 refine Spec.mkO [5] Tryz.func139 (by kernel_rfl) ?_
 intro r1 r2
 intro rf hmf hof
 refine sIn [.bool false] 4 (Mem.set_at _ _ _) rfl (Nat.le_refl _) ?_
 generalize hh : Mem.set (Mem.set _ rf _) rf _ = h0
 have hf0 : h0 rf = some (.cells #[.bool true] 4 (0, 0)) := by subst hh; rw [Mem.set_at]; rfl
 refine call_gen [0] [] (fun _ => rfl) ?_
 intro μ1 hle1 hno1 hat1
 refine own_go (eachGoal_rel (fun b h => h rf = some (.cells #[.bool b] 4 (0, 0))) (fun b x => b && decide (CallFits p x)) (fun _ => True) (fun b h x w _ hw hj => callsFit1_spec (hp.mono hle1) (hrl.mono hle1) hat1 hw hj) g true h0 (hv.mono hle1) (fun _ _ => trivial) hf0) fun v μ2 h' hle hap hR => ?_
 obtain ⟨rfl, e2, hj⟩ := hR
 obtain rfl := e2.symm
 rw [foldl_and, Bool.true_and] at hj
 refine oIn [.bool _] rfl (box_at hj) ?_
 exact rPl (isI ⟨fun h => FitAll.of h, fun h => h.all⟩)
end
end Go.Vx
namespace Go.Vx
open Go.Proofs Classical
section
variable {μ : Mem}
theorem impl_ProgramOk_spec {p : Pg} {v : Value} (hp : RepV μ p.d v) : Spec Tryz.prog 77 [v] μ fun r _ => r = .bool (decide p.Ok) := by
 have w_ := Pg.inv hp
 obtain ⟨q, rfl, hrl⟩ := w_
 refine Spec.mk Tryz.func77 (by kernel_rfl) ?_
 intro r1
 refine ifd (fun h8 => rPl (isF fun h => by have := h.1; omega)) (fun h8 => ?_)
 refine lIn (fun x : Nat × Mem => x.1 ≤ p.rels.length ∧ μ.Le x.2 ∧ ∀ (j : Nat) (r : Rl), j < x.1 → p.rels[j]? = some r → RelOk p j r)
  (fun (i, μ') => ⟨[(1, .loc 0 r1 0), (10, .val (.slice q.1 p.rels.length q.2)), (11, .val (.int .i64 p.rels.length)), (12, .val (.int .i64 i))], [(0, some (.cells r1 [.val (.slice q.1 p.rels.length q.2)] 45))], 1, μ', Mem.nil⟩) (fun x => p.rels.length - x.1)
  (0, μ) ⟨by simp, Mem.Le.refl _, fun j r hj => by simp at hj⟩ (fun (_, _) => ⟨rfl, rfl⟩) ⟨⟨rfl, rfl, rfl, rfl, trivial⟩, ⟨rfl, trivial⟩, rfl, rfl⟩ ?_
 rintro ⟨i, μ'⟩ ⟨hi, hle, hall⟩
 dsimp only at hi hle hall
 refine ifd (fun hlt => ?_) (fun hlt => ?_)
 ·have w_ := aSo (l := p.rels) (i := i) (by omega)
  obtain ⟨x, hx⟩ := w_
  have w_ := Rl.elemA (hrl.mono hle) hx
  obtain ⟨ad, q2, hel, hr, hb⟩ := w_
  have hb : RepV μ' x.body.d (.agg (x.body.cs q2).toArray) := hb
  have bad : ¬ RelOk p i x → Value.bool false = .bool (decide p.Ok) := fun h => isF fun k => h (k.2 i x hx)
  refine eIn hel ?_
  intro r2
  refine cGv (impl_IsRelName_spec _ _) ?_
  refine ifnd (fun h => rPl (bad fun k => h k.name)) (fun g1 => ?_)
  refine cGv (relation_spec (hp.mono hle)) ?_
  refine ifnd (fun h => rPl (bad fun k => h k.at_)) (fun g2 => ?_)
  refine ifd (fun h => rPl (bad fun k => by have := k.ar0; omega)) (fun g3 => ?_)
  refine ifd (fun h => rPl (bad fun k => by have := k.ar4; omega)) (fun g4 => ?_)
  refine ifd (fun h => rPl (bad fun k => by have := k.lo0; omega)) (fun g5 => ?_)
  refine ifd (fun h => rPl (bad fun k => by have := k.lo8; omega)) (fun g6 => ?_)
  refine cGv (goalNodes_spec x.body hb (by decide) (by decide)) ?_
  refine ifd (fun h => rPl (bad fun k => Gl.nodes_lt h ⟨k.body, by have := k.size; omega⟩)) (fun h => ?_)
  have w_ := Gl.nodes_ge h
  obtain ⟨g7, g8, _⟩ := w_
  refine num64 (by omega) (by omega) ?_
  refine cPl (varsBelow_spec g7 hb) fun v1 μ1 hle1 hR => ?_
  obtain rfl := hR
  refine ifnd (fun h => rPl (bad fun k => h k.vars)) (fun g9 => ?_)
  refine cPl (callsFit_spec ((hp.mono hle).mono hle1) (hb.mono hle1)) fun v2 μ2 hle2 hR => ?_
  obtain rfl := hR
  refine ifnd (fun h => rPl (bad fun k => h k.calls)) (fun g10 => ?_)
  have hok : RelOk p i x := ⟨g2, g1, by omega, by omega, by omega, by omega, g7, by omega, g9, g10⟩
  refine num64 (by omega) (by omega) ⟨(i + 1, μ2), ⟨by dsimp only; omega, (hle.trans hle1).trans hle2, fun j r hj hr => ?_⟩, by dsimp only; omega, ⟨⟨rfl, rfl, rfl, rfl, trivial⟩, ⟨rfl, trivial⟩, rfl, rfl⟩⟩
  rcases Nat.lt_or_ge j i with h6 | h6
  ·exact hall j r h6 hr
  ·obtain rfl : j = i := by omega
   rw [hx] at hr; cases hr; exact hok
 ·obtain rfl : i = p.rels.length := by omega
  exact rPl (isT ⟨by omega, fun j r hr => hall j r (List.getElem?_eq_some_iff.1 hr).1 hr⟩)
noncomputable def Gl.count (g : Gl) : Int := if g.Ok then g.cnt else 0
theorem spec_GoalSize_spec (g : Gl) {v : Value} (hv : RepV μ g.d v) (hw : g.d.wd) : Gives Tryz.prog 129 [v] μ (.int .i64 g.count) := by
 have w_ := Gl.invV hv
 obtain ⟨p, rfl⟩ := w_
 refine Spec.mk Tryz.func129 (by kernel_rfl) ?_
 intro r
 refine cGv (spec_GoalOk_spec g hv hw) ?_
 refine ifnd (fun h => rGv (by rw [Gl.count, if_neg h]) rfl) (fun h => ?_)
 refine cGv (l13Count_spec g hv (by decide) (by decide)) ?_
 refine rGv ?_ rfl
 congr 1
 have := h.2
 have := g.cnt_pos
 rw [Gl.count, if_pos h, upTo]
 omega
end
end Go.Vx
namespace Go.Vx
open Go.Proofs Classical
theorem ins_sorted {l : List Int} {n : Int} {k : Nat} (hs : l.Pairwise (· < ·)) (h1 : ∀ y ∈ l.take k, y < n) (h2 : ∀ y ∈ l.drop k, n < y) : (insInt l n k).Pairwise (· < ·) := by
 unfold insInt
 rw [List.pairwise_append]
 refine ⟨hs.sublist (List.take_sublist _ _), ?_, ?_⟩
 ·rw [List.singleton_append, List.pairwise_cons]
  exact ⟨h2, hs.sublist (List.drop_sublist _ _)⟩
 ·intro a ha b hb
  rcases List.mem_append.1 hb with hb | hb
  ·rw [List.mem_singleton] at hb; subst hb; exact h1 a ha
  ·have := h1 a ha; have := h2 b hb; omega
theorem take_lt {l : List Int} (hs : l.Pairwise (· < ·)) {k : Nat} {n : Int} (h : k = 0 ∨ ∃ x, l[k - 1]? = some x ∧ x < n) : ∀ y ∈ l.take k, y < n := fun y hy => by
 have w_ := List.mem_iff_getElem?.1 hy
 obtain ⟨i, hi⟩ := w_
 rw [List.getElem?_take] at hi
 split at hi
 ·rename_i hik
  rcases h with rfl | ⟨x, hx, hxn⟩
  ·omega
  ·rcases Nat.lt_or_ge i (k - 1) with h1 | h1
   ·have := srt_get hs h1 hi hx; omega
   ·obtain rfl : i = k - 1 := by omega
    rw [hx] at hi; cases hi; exact hxn
 ·cases hi
theorem drop_gt {l : List Int} (hs : l.Pairwise (· < ·)) {k : Nat} {n : Int} (h : ∀ (j : Nat) y, k ≤ j → l[j]? = some y → n ≤ y) (hne : ∀ y, l[k]? = some y → y ≠ n) : ∀ y ∈ l.drop k, n < y := fun y hy => by
 have w_ := List.mem_iff_getElem?.1 hy
 obtain ⟨i, hi⟩ := w_
 rw [List.getElem?_drop] at hi
 have h1 := h (k + i) y (by omega) hi
 rcases Nat.eq_zero_or_pos i with rfl | h2
 ·have := hne y (by simpa using hi)
  omega
 ·have hk : k < l.length := by have := (List.getElem?_eq_some_iff.1 hi).1; omega
  have hkk : l[k]? = some l[k] := List.getElem?_eq_getElem hk
  have h3 := h k _ (Nat.le_refl _) hkk
  have := srt_get hs (by omega : k < k + i) hkk hi
  omega
section
variable {μ : Mem}
theorem l02InsertS_spec {l : List Int} {v : Value} {n : Int} (hv : RepV μ (.sl 1 (l.map D.i)) v) (hb : l.length ≤ 1000000000) (hs : l.Pairwise (· < ·)) : Spec Tryz.prog 177 [v, .int .i64 n] μ fun v μ' => ∃ r : List Int, RepV μ' (.sl 1 (r.map D.i)) v ∧ (∀ x, x ∈ r ↔ x = n ∨ x ∈ l) ∧ r.Pairwise (· < ·) := by
 have w_ := Rep.sl hv
 obtain ⟨base, cap, rfl, hsl⟩ := w_
 have hcap := Rep.lens hv
 rw [List.length_map] at hsl hcap hv ⊢
 refine Spec.mk Tryz.func177 (by kernel_rfl) ?_
 refine lIn (fun k : Nat => k ≤ l.length ∧ ∀ (j : Nat) y, k ≤ j → l[j]? = some y → n ≤ y) (fun k => ⟨[(0, .val (.slice base l.length cap)), (1, .val (.int .i64 n)), (5, .val (.int .i64 k))], [], 0, μ, Mem.nil⟩) (fun k => k)
  l.length ⟨Nat.le_refl _, fun j y hj hy => absurd (List.getElem?_eq_some_iff.1 hy).1 (by omega)⟩ (fun i => ⟨rfl, rfl⟩) ⟨⟨rfl, rfl, rfl, trivial⟩, trivial, rfl, rfl⟩ ?_
 rintro k ⟨hk, hge⟩
 refine ifd (fun h1 => ?_) (fun h1 => ?_)
 ·have w_ := aSo (l := l) (i := k - 1) (by omega)
  obtain ⟨x, hx⟩ := w_
  have w_ := Ints.elem hsl hx
  obtain ⟨ad, hel⟩ := w_
  refine nEq (x := ((k - 1 : Nat) : Int)) (by rw [wrap64 (by omega) (by omega)]; omega) ?_
  refine eIn hel ?_
  refine ifd (fun h2 => ?_) (fun h2 => ?_)
  ·refine nEq (x := ((k - 1 : Nat) : Int)) (by rw [wrap64 (by omega) (by omega)]; omega) ⟨k - 1, ⟨by omega, fun j y hj hy => ?_⟩, by omega, ⟨⟨rfl, rfl, rfl, trivial⟩, trivial, rfl, rfl⟩⟩
   rcases Nat.lt_or_ge j k with h3 | h3
   ·obtain rfl : j = k - 1 := by omega
    rw [hx] at hy; cases hy; exact h2
   ·exact hge j y h3 hy
  ·have htk := take_lt hs (k := k) (n := n) (.inr ⟨x, hx, by omega⟩)
   refine ifd (fun h3 => ?_) (fun h3 => ?_)
   ·have w_ := aSo (l := l) (i := k) (by omega)
    obtain ⟨y, hy⟩ := w_
    have w_ := Ints.elem hsl hy
    obtain ⟨ad2, hel2⟩ := w_
    refine eIn hel2 ?_
    refine ifd (fun h4 => rPl ⟨l, hv, fun x => ⟨.inr, fun hx => hx.elim (fun e => by rw [e, ← h4]; exact mAt hy) id⟩, hs⟩) (fun h4 => ?_)
    have hgt := drop_gt hs hge (fun z hz => by rw [hy] at hz; cases hz; exact h4)
    intro r0
    refine cut_intro 0 k rfl rfl (by omega) (by omega) ?_
    refine src_intro _ (Ints.src hsl (a := 0) (b := k) (by omega) hk hcap) ?_
    refine gIn ?_ ?_ fun b1 c1 _ => ?_
    ·show (0 + (ints _).length) * 8 ≤ _; simp [ints]; omega
    ·show 0 + (ints _).length ≤ 9223372036854775807; simp [ints]; omega
    intro r1
    refine gIn ?_ ?_ fun b2 c2 _ => ?_
    ·show (([] ++ ints _).length + 1) * 8 ≤ _; simp [ints]; omega
    ·show ([] ++ ints _).length + 1 ≤ 9223372036854775807; simp [ints]; omega
    refine cut_intro k l.length rfl rfl hk (by omega) ?_
    refine src_intro _ (Ints.src hsl (a := k) (b := l.length) hk (Nat.le_refl _) hcap) ?_
    refine gIn ?_ ?_ fun b3 c3 _ => ?_
    ·show (([] ++ ints _ ++ [_]).length + (ints _).length) * 8 ≤ _; simp [ints]; omega
    ·show ([] ++ ints _ ++ [_]).length + (ints _).length ≤ 9223372036854775807; simp [ints]; omega
    refine rFz [0] fun μ' hle hno hrow => .inl ⟨insInt l n k, ?_, insInt_mem l n k, ins_sorted hs htk hgt⟩
    have e : [] ++ ints ((l.drop 0).take (k - 0)) ++ [.int .i64 n] ++ ints ((l.drop k).take (l.length - k)) = ints (insInt l n k) := by
     simp [ints, insInt]
     rw [List.take_of_length_le (by simp)]
    rw [e] at hrow ⊢
    exact Ints.sl hrow (Nat.le_trans (m := 2000000000) (by simp [insInt]; omega) (by decide))
   ·have hgt := drop_gt hs hge (fun z hz => by have := (List.getElem?_eq_some_iff.1 hz).1; omega)
    intro r0
    refine cut_intro 0 k rfl rfl (by omega) (by omega) ?_
    refine src_intro _ (Ints.src hsl (a := 0) (b := k) (by omega) hk hcap) ?_
    refine gIn ?_ ?_ fun b1 c1 _ => ?_
    ·show (0 + (ints _).length) * 8 ≤ _; simp [ints]; omega
    ·show 0 + (ints _).length ≤ 9223372036854775807; simp [ints]; omega
    intro r1
    refine gIn ?_ ?_ fun b2 c2 _ => ?_
    ·show (([] ++ ints _).length + 1) * 8 ≤ _; simp [ints]; omega
    ·show ([] ++ ints _).length + 1 ≤ 9223372036854775807; simp [ints]; omega
    refine cut_intro k l.length rfl rfl hk (by omega) ?_
    refine src_intro _ (Ints.src hsl (a := k) (b := l.length) hk (Nat.le_refl _) hcap) ?_
    refine gIn ?_ ?_ fun b3 c3 _ => ?_
    ·show (([] ++ ints _ ++ [_]).length + (ints _).length) * 8 ≤ _; simp [ints]; omega
    ·show ([] ++ ints _ ++ [_]).length + (ints _).length ≤ 9223372036854775807; simp [ints]; omega
    refine rFz [0] fun μ' hle hno hrow => .inl ⟨insInt l n k, ?_, insInt_mem l n k, ins_sorted hs htk hgt⟩
    have e : [] ++ ints ((l.drop 0).take (k - 0)) ++ [.int .i64 n] ++ ints ((l.drop k).take (l.length - k)) = ints (insInt l n k) := by
     simp [ints, insInt]
     rw [List.take_of_length_le (by simp)]
    rw [e] at hrow ⊢
    exact Ints.sl hrow (Nat.le_trans (m := 2000000000) (by simp [insInt]; omega) (by decide))
 ·have htk := take_lt hs (k := k) (n := n) (.inl (by omega))
  refine ifd (fun h3 => ?_) (fun h3 => ?_)
  ·have w_ := aSo (l := l) (i := k) (by omega)
   obtain ⟨y, hy⟩ := w_
   have w_ := Ints.elem hsl hy
   obtain ⟨ad2, hel2⟩ := w_
   refine eIn hel2 ?_
   refine ifd (fun h4 => rPl ⟨l, hv, fun x => ⟨.inr, fun hx => hx.elim (fun e => by rw [e, ← h4]; exact mAt hy) id⟩, hs⟩) (fun h4 => ?_)
   have hgt := drop_gt hs hge (fun z hz => by rw [hy] at hz; cases hz; exact h4)
   intro r0
   refine cut_intro 0 k rfl rfl (by omega) (by omega) ?_
   refine src_intro _ (Ints.src hsl (a := 0) (b := k) (by omega) hk hcap) ?_
   refine gIn ?_ ?_ fun b1 c1 _ => ?_
   ·show (0 + (ints _).length) * 8 ≤ _; simp [ints]; omega
   ·show 0 + (ints _).length ≤ 9223372036854775807; simp [ints]; omega
   intro r1
   refine gIn ?_ ?_ fun b2 c2 _ => ?_
   ·show (([] ++ ints _).length + 1) * 8 ≤ _; simp [ints]; omega
   ·show ([] ++ ints _).length + 1 ≤ 9223372036854775807; simp [ints]; omega
   refine cut_intro k l.length rfl rfl hk (by omega) ?_
   refine src_intro _ (Ints.src hsl (a := k) (b := l.length) hk (Nat.le_refl _) hcap) ?_
   refine gIn ?_ ?_ fun b3 c3 _ => ?_
   ·show (([] ++ ints _ ++ [_]).length + (ints _).length) * 8 ≤ _; simp [ints]; omega
   ·show ([] ++ ints _ ++ [_]).length + (ints _).length ≤ 9223372036854775807; simp [ints]; omega
   refine rFz [0] fun μ' hle hno hrow => .inl ⟨insInt l n k, ?_, insInt_mem l n k, ins_sorted hs htk hgt⟩
   have e : [] ++ ints ((l.drop 0).take (k - 0)) ++ [.int .i64 n] ++ ints ((l.drop k).take (l.length - k)) = ints (insInt l n k) := by
    simp [ints, insInt]
    rw [List.take_of_length_le (by simp)]
   rw [e] at hrow ⊢
   exact Ints.sl hrow (Nat.le_trans (m := 2000000000) (by simp [insInt]; omega) (by decide))
  ·have hgt := drop_gt hs hge (fun z hz => by have := (List.getElem?_eq_some_iff.1 hz).1; omega)
   intro r0
   refine cut_intro 0 k rfl rfl (by omega) (by omega) ?_
   refine src_intro _ (Ints.src hsl (a := 0) (b := k) (by omega) hk hcap) ?_
   refine gIn ?_ ?_ fun b1 c1 _ => ?_
   ·show (0 + (ints _).length) * 8 ≤ _; simp [ints]; omega
   ·show 0 + (ints _).length ≤ 9223372036854775807; simp [ints]; omega
   intro r1
   refine gIn ?_ ?_ fun b2 c2 _ => ?_
   ·show (([] ++ ints _).length + 1) * 8 ≤ _; simp [ints]; omega
   ·show ([] ++ ints _).length + 1 ≤ 9223372036854775807; simp [ints]; omega
   refine cut_intro k l.length rfl rfl hk (by omega) ?_
   refine src_intro _ (Ints.src hsl (a := k) (b := l.length) hk (Nat.le_refl _) hcap) ?_
   refine gIn ?_ ?_ fun b3 c3 _ => ?_
   ·show (([] ++ ints _ ++ [_]).length + (ints _).length) * 8 ≤ _; simp [ints]; omega
   ·show ([] ++ ints _ ++ [_]).length + (ints _).length ≤ 9223372036854775807; simp [ints]; omega
   refine rFz [0] fun μ' hle hno hrow => .inl ⟨insInt l n k, ?_, insInt_mem l n k, ins_sorted hs htk hgt⟩
   have e : [] ++ ints ((l.drop 0).take (k - 0)) ++ [.int .i64 n] ++ ints ((l.drop k).take (l.length - k)) = ints (insInt l n k) := by
    simp [ints, insInt]
    rw [List.take_of_length_le (by simp)]
   rw [e] at hrow ⊢
   exact Ints.sl hrow (Nat.le_trans (m := 2000000000) (by simp [insInt]; omega) (by decide))
def VarsS (μ' : Mem) (l vs : List Int) (v : Value) : Prop := ∃ r : List Int, RepV μ' (.sl 1 (r.map D.i)) v ∧ (∀ x, x ∈ r ↔ x ∈ vs ∨ x ∈ l) ∧ VL r
theorem l02VarsS_spec : ∀ (x : T) {μ : Mem} {l : List Int} {w v : Value}, x.good → RepV μ x.tm.d w → RepV μ (.sl 1 (l.map D.i)) v → VL l → Spec Tryz.prog 124 [w, v] μ fun v μ' => VarsS μ' l x.vars v :=
 T.ind fun x ih μ l w v hgd hw hv hb => by
  have hrng := T.vars_range hgd
  have w_ := T.inv hw
  obtain ⟨base, cap, rfl, hsl⟩ := w_
  have hn := maxLen_le hsl.max
  refine Spec.mk Tryz.func124 (by kernel_rfl) ?_
  intro r
  refine ifd (fun h => ?_) (fun h => ?_)
  ·have e : x.vars = [x.tm.num] := by cases x <;> simp_all [T.vars, T.tm, Tm.kind, Tm.num]
   refine cPl (l02InsertS_spec hv (by have := hb.len; omega) hb.srt) fun v' μ' hle hR => rPl ?_
   obtain ⟨r, h1, h2, h3⟩ := hR
   refine ⟨r, h1, by simpa [e] using h2, h3, fun y hy => ?_⟩
   rcases (h2 y).1 hy with rfl | hy
   ·exact hrng _ (by rw [e]; simp)
   ·exact hb.rng y hy
  have e := T.vars_args h
  have hgs : ∀ y ∈ x.args, y.good := fun y hy => by
   cases x with
   | pair a b =>
    simp only [T.args, List.mem_cons, List.not_mem_nil, or_false] at hy
    rcases hy with rfl | rfl
    ·exact hgd.1
    ·exact hgd.2
   | _ => simp [T.args] at hy
  refine lIn (fun p : Nat × Value × Mem => p.1 ≤ x.args.length ∧ μ.Le p.2.2 ∧ VarsS p.2.2 l ((x.args.take p.1).flatMap T.vars) p.2.1)
   (fun (i, v, μ') => ⟨[(1, .val v), (15, .val (.slice base x.args.length cap)), (16, .val (.int .i64 x.args.length)), (17, .val (.int .i64 i))], [], 1, μ', Mem.nil⟩) (fun p => x.args.length - p.1)
   (0, v, μ) ⟨by simp, Mem.Le.refl μ, l, hv, by simp, hb⟩ (fun (_, _, _) => ⟨rfl, rfl⟩) ⟨⟨rfl, rfl, rfl, rfl, trivial⟩, trivial, rfl, rfl⟩ ?_
  rintro ⟨i, v, μ'⟩ ⟨hi, hle, r, h1, h2, h3⟩
  dsimp only at hi hle h1 h2 h3
  refine ifd (fun h => ?_) (fun h => ?_)
  ·have w_ := aSo (l := x.args) (i := i) (by omega)
   obtain ⟨t, ht⟩ := w_
   have ht' : (x.args.map T.tm)[i]? = some t.tm := by simp [ht]
   have w_ := Tm.elem (hsl.mono hle) ht'
   obtain ⟨ad, p, hel, hr⟩ := w_
   have hsucc : (x.args.take (i + 1)).flatMap T.vars = (x.args.take i).flatMap T.vars ++ t.vars := by
    rw [List.take_add_one, ht, Option.toList_some, List.flatMap_append]; simp
   refine eIn hel ?_
   intro r2
   refine cPl (ih t (mAt ht) (hgs t (mAt ht)) hr h1 h3) fun v' μ'' hle2 hR => ?_
   obtain ⟨q, g1, g2, g3⟩ := hR
   refine num64 (by omega) (by omega) ⟨(i + 1, v', μ''), ⟨by dsimp only; omega, hle.trans hle2, q, g1, fun y => ?_, g3⟩, by dsimp only; omega, ⟨⟨rfl, rfl, rfl, rfl, trivial⟩, trivial, rfl, rfl⟩⟩
   dsimp only
   rw [g2, h2, hsucc, List.mem_append]
   constructor
   ·rintro (h | h | h) <;> simp [h]
   ·rintro ((h | h) | h) <;> simp [h]
  ·obtain rfl : i = x.args.length := by omega
   rw [List.take_length] at h2
   exact rPl ⟨r, h1, by rw [e]; exact h2, h3⟩
end
end Go.Vx
namespace Go.Vx
open Go.Proofs Classical
theorem Gl.vars_eq (g : Gl) : g.vars = g.tvars ++ g.goals.flatMap Gl.vars := by
 rw [Gl.vars, Gl.all_eq, List.flatMap_cons, List.flatMap_assoc]
 rfl
section
variable {μ : Mem}
theorem l13Vars_spec : ∀ (g : Gl) {μ : Mem} {l : List Int} {w v : Value}, g.Sh → RepV μ g.d w → RepV μ (.sl 1 (l.map D.i)) v → VL l → Spec Tryz.prog 182 [w, v] μ fun v μ' => VarsS μ' l g.vars v :=
 Gl.ind fun g ih μ l w v hS hw hv hb => by
  have w_ := Gl.inv hw
  obtain ⟨p, rfl, hts, hgs⟩ := w_
  have w_ := lift_ok hS.top.tm
  obtain ⟨xs, hxs, hxo⟩ := w_
  have htv : g.tvars = xs.flatMap T.vars := by rw [Gl.tvars, hxs, toTs_tm']
  rw [hxs, List.length_map] at hts ⊢
  have hn := maxLen_le hts.max
  have hn2 := maxLen_le hgs.max
  refine Spec.mk Tryz.func182 (by kernel_rfl) ?_
  intro r1
  refine lIn (fun p : Nat × Value × Mem => p.1 ≤ xs.length ∧ μ.Le p.2.2 ∧ VarsS p.2.2 l ((xs.take p.1).flatMap T.vars) p.2.1)
   (fun (i, v, μ') => ⟨[(1, .val v), (2, .loc 0 r1 0), (10, .val (.slice p.1.1 xs.length p.1.2)), (11, .val (.int .i64 xs.length)), (12, .val (.int .i64 i))], [(0, some (.cells r1 [.val (.int .i64 g.kind), .val (.string g.name), .val (.slice p.1.1 xs.length p.1.2), .val (.slice p.2.1 g.goals.length p.2.2)] 30))], 1, μ', Mem.nil⟩) (fun p => xs.length - p.1)
   (0, v, μ) ⟨by simp, Mem.Le.refl μ, l, hv, by simp, hb⟩ (fun (_, _, _) => ⟨rfl, rfl⟩) ⟨⟨rfl, rfl, rfl, rfl, rfl, trivial⟩, ⟨rfl, trivial⟩, rfl, rfl⟩ ?_
  rintro ⟨i, v, μ'⟩ ⟨hi, hle, r, h1, h2, h3⟩
  dsimp only at hi hle h1 h2 h3
  refine ifd (fun h => ?_) (fun h => ?_)
  ·have w_ := aSo (l := xs) (i := i) (by omega)
   obtain ⟨t, ht⟩ := w_
   have w_ := Tm.elem (i := i) (t := t.tm) (hts.mono hle) (by simp [ht])
   obtain ⟨ad, p3, hel, hr⟩ := w_
   have hsucc : (xs.take (i + 1)).flatMap T.vars = (xs.take i).flatMap T.vars ++ t.vars := by
    rw [List.take_add_one, ht, Option.toList_some, List.flatMap_append]; simp
   refine eIn hel ?_
   intro r2
   refine cPl (l02VarsS_spec t (hxo t (mAt ht)).1 hr h1 h3) fun v' μ'' hle2 hR => ?_
   obtain ⟨q, g1, g2, g3⟩ := hR
   refine num64 (by omega) (by omega) ⟨(i + 1, v', μ''), ⟨by dsimp only; omega, hle.trans hle2, q, g1, fun y => ?_, g3⟩, by dsimp only; omega, ⟨⟨rfl, rfl, rfl, rfl, rfl, trivial⟩, ⟨rfl, trivial⟩, rfl, rfl⟩⟩
   dsimp only
   rw [g2, h2, hsucc, List.mem_append]
   constructor
   ·rintro (h | h | h) <;> simp [h]
   ·rintro ((h | h) | h) <;> simp [h]
  ·obtain rfl : i = xs.length := by omega
   rw [List.take_length] at h2
   have hgs1 := hgs.mono hle
   refine lIn (fun x : Nat × Value × Mem => x.1 ≤ g.goals.length ∧ μ'.Le x.2.2 ∧ VarsS x.2.2 l (g.tvars ++ (g.goals.take x.1).flatMap Gl.vars) x.2.1)
    (fun (i, v, μ'') => ⟨[(1, .val v), (21, .val (.slice p.2.1 g.goals.length p.2.2)), (22, .val (.int .i64 g.goals.length)), (23, .val (.int .i64 i))], [], 1, μ'', Mem.nil⟩) (fun x => g.goals.length - x.1)
    (0, v, μ') ⟨by simp, Mem.Le.refl μ', r, h1, by simpa [htv] using h2, h3⟩ (fun (_, _, _) => ⟨rfl, rfl⟩) ⟨⟨rfl, rfl, rfl, rfl, trivial⟩, trivial, rfl, rfl⟩ ?_
   rintro ⟨i, v2, μ2⟩ ⟨hi, hle2, r2, k1, k2, k3⟩
   dsimp only at hi hle2 k1 k2 k3
   refine ifd (fun h => ?_) (fun h => ?_)
   ·have w_ := aSo (l := g.goals) (i := i) (by omega)
    obtain ⟨t, ht⟩ := w_
    have w_ := Gl.elem (hgs1.mono hle2) ht
    obtain ⟨ad, p3, hel, hr⟩ := w_
    have hsucc : (g.goals.take (i + 1)).flatMap Gl.vars = (g.goals.take i).flatMap Gl.vars ++ t.vars := by
     rw [List.take_add_one, ht, Option.toList_some, List.flatMap_append]; simp
    refine eIn hel ?_
    intro r3
    refine cPl (ih t (mAt ht) (hS.sub t (mAt ht)) hr k1 k3) fun v' μ3 hle3 hR => ?_
    obtain ⟨q, g1, g2, g3⟩ := hR
    refine num64 (by omega) (by omega) ⟨(i + 1, v', μ3), ⟨by dsimp only; omega, hle2.trans hle3, q, g1, fun y => ?_, g3⟩, by dsimp only; omega, ⟨⟨rfl, rfl, rfl, rfl, trivial⟩, trivial, rfl, rfl⟩⟩
    dsimp only
    rw [g2, k2, hsucc, ← List.append_assoc, List.mem_append (s := g.tvars ++ _)]
    constructor
    ·rintro (h | h | h) <;> simp [h]
    ·rintro ((h | h) | h) <;> simp [h]
   ·obtain rfl : i = g.goals.length := by omega
    rw [List.take_length, ← Gl.vars_eq] at k2
    exact rPl ⟨r2, k1, k2, k3⟩
def Fits (p : Pg) (g : Gl) (n : Int) : Prop := g.Ok ∧ FitAll p g ∧ ∀ m ∈ g.vars, m < n
theorem l14Fits_spec {p : Pg} {g : Gl} {n : Int} {vp v : Value} (hp : RepV μ p.d vp) (hv : RepV μ g.d v) (hw : g.d.wd) : Spec Tryz.prog 128 [vp, v, .int .i64 n] μ fun r _ => r = .bool (decide (Fits p g n)) := by
 have w_ := Pg.inv hp
 obtain ⟨q, rfl, hrl⟩ := w_
 have w_ := Gl.invV hv
 obtain ⟨q2, rfl⟩ := w_
 refine Spec.mk Tryz.func128 (by kernel_rfl) ?_
 intro r1 r2
 refine cGv (spec_GoalOk_spec g hv hw) ?_
 refine ifnd (fun h => rPl (isF fun k => h k.1)) (fun h1 => ?_)
 refine cGv (l14Calls_spec hp g h1.1 hv) ?_
 refine ifnd (fun h => rPl (isF fun k => h k.2.1)) (fun h2 => ?_)
 refine cPl (l13Vars_spec (l := []) (v := .slice none 0 0) g h1.1 hv ⟨none, 0, rfl, ⟨Nat.zero_le _, Nat.zero_le _⟩, by simp, .inl rfl⟩ ⟨List.Pairwise.nil, by simp⟩) fun v1 μ1 hle1 hR => ?_
 obtain ⟨r, g1, g2, g3⟩ := hR
 have w_ := Rep.sl g1
 obtain ⟨b, c, rfl, hsl⟩ := w_
 rw [List.length_map] at hsl ⊢
 have hlen := g3.len
 have hmem : ∀ x, x ∈ r ↔ x ∈ g.vars := fun x => by rw [g2]; simp
 refine ifd (fun h => rPl (isT ⟨h1, h2, fun m hm => ?_⟩)) (fun h => ?_)
 ·have h3 : r = [] := List.eq_nil_of_length_eq_zero (by omega)
  have := (hmem m).2 hm
  rw [h3] at this; simp at this
 ·have w_ := aSo (l := r) (i := r.length - 1) (by omega)
  obtain ⟨x, hx⟩ := w_
  have w_ := Ints.elem hsl hx
  obtain ⟨ad, hel⟩ := w_
  refine nEq (x := ((r.length - 1 : Nat) : Int)) (by rw [wrap64 (by omega) (by omega)]; omega) ?_
  refine eIn hel ?_
  refine rPl (isI ⟨fun k => ⟨h1, h2, fun m hm => ((VL.last g3 hx).2 k) m ((hmem m).2 hm)⟩, fun k => (VL.last g3 hx).1 fun y hy => k.2.2 y ((hmem y).1 hy)⟩)
end
end Go.Vx
namespace Go.Vx
open Go.Proofs Classical
section
variable {μ : Mem}
theorem spec_ProgramOk_spec {p : Pg} {v : Value} (hp : RepV μ p.d v) (hw : p.d.wd) : Spec Tryz.prog 66 [v] μ fun r _ => r = .bool (decide p.Ok) := by
 have w_ := Pg.inv hp
 obtain ⟨q, rfl, hrl⟩ := w_
 have hws : D.wds (p.rels.map Rl.d) := by rw [Pg.d_eq] at hw; exact hw.1
 refine Spec.mk Tryz.func66 (by kernel_rfl) ?_
 intro r1
 refine ifd (fun h8 => rPl (isF fun h => by have := h.1; omega)) (fun h8 => ?_)
 refine lIn (fun x : Nat × Mem => x.1 ≤ p.rels.length ∧ μ.Le x.2 ∧ ∀ (j : Nat) (r : Rl), j < x.1 → p.rels[j]? = some r → RelOk p j r)
  (fun (i, μ') => ⟨[(1, .loc 0 r1 0), (10, .val (.slice q.1 p.rels.length q.2)), (11, .val (.int .i64 p.rels.length)), (12, .val (.int .i64 i))], [(0, some (.cells r1 [.val (.slice q.1 p.rels.length q.2)] 45))], 1, μ', Mem.nil⟩) (fun x => p.rels.length - x.1)
  (0, μ) ⟨by simp, Mem.Le.refl _, fun j r hj => by simp at hj⟩ (fun (_, _) => ⟨rfl, rfl⟩) ⟨⟨rfl, rfl, rfl, rfl, trivial⟩, ⟨rfl, trivial⟩, rfl, rfl⟩ ?_
 rintro ⟨i, μ'⟩ ⟨hi, hle, hall⟩
 dsimp only at hi hle hall
 refine ifd (fun hlt => ?_) (fun hlt => ?_)
 ·have w_ := aSo (l := p.rels) (i := i) (by omega)
  obtain ⟨x, hx⟩ := w_
  have w_ := Rl.elemA (hrl.mono hle) hx
  obtain ⟨ad, q2, hel, hr, hb⟩ := w_
  have hb : RepV μ' x.body.d (.agg (x.body.cs q2).toArray) := hb
  have hxw : x.d.wd := D.wds_mem hws _ (mAt (at_map (f := Rl.d) hx))
  rw [Rl.d_eq] at hxw
  have hnm : x.name.size ≤ maxLen := hxw.1
  have hbw : x.body.d.wd := hxw.2.2.2.1
  have bad : ¬ RelOk p i x → Value.bool false = .bool (decide p.Ok) := fun h => isF fun k => h (k.2 i x hx)
  refine eIn hel ?_
  intro r2
  refine cGv (l14Find_spec (hp.mono hle)) ?_
  refine ifnd (fun h => rPl (bad fun k => h k.at_)) (fun g2 => ?_)
  refine cGv (spec_IsRelName_spec _ hnm _) ?_
  refine ifnd (fun h => rPl (bad fun k => h k.name)) (fun g1 => ?_)
  refine cGv (l01In_spec _ _ _ _) ?_
  refine ifnd (fun h => rPl (bad fun k => h ⟨k.ar0, k.ar4⟩)) (fun g3 => ?_)
  refine cGv (l01In_spec _ _ _ _) ?_
  refine ifnd (fun h => rPl (bad fun k => h ⟨k.lo0, k.lo8⟩)) (fun g4 => ?_)
  refine num64 (by omega) (by omega) ?_
  refine cPl (l14Fits_spec (hp.mono hle) hb hbw) fun v1 μ1 hle1 hR => ?_
  obtain rfl := hR
  refine ifnd (fun h => rPl (bad fun k => h ⟨⟨k.body, by have := k.size; omega⟩, k.calls, k.vars⟩)) (fun g5 => ?_)
  refine cGv (spec_GoalSize_spec x.body (hb.mono hle1) hbw) ?_
  have hc : x.body.count = x.body.cnt := by rw [Gl.count, if_pos g5.1]
  refine ifd (fun h => rPl (bad fun k => by have := k.size; omega)) (fun g6 => ?_)
  have hok : RelOk p i x := ⟨g2, g1, by omega, by omega, by omega, by omega, g5.1.1, by omega, g5.2.2, g5.2.1⟩
  refine num64 (by omega) (by omega) ⟨(i + 1, μ1), ⟨by dsimp only; omega, hle.trans hle1, fun j r hj hr => ?_⟩, by dsimp only; omega, ⟨⟨rfl, rfl, rfl, rfl, trivial⟩, ⟨rfl, trivial⟩, rfl, rfl⟩⟩
  rcases Nat.lt_or_ge j i with h6 | h6
  ·exact hall j r h6 hr
  ·obtain rfl : j = i := by omega
   rw [hx] at hr; cases hr; exact hok
 ·obtain rfl : i = p.rels.length := by omega
  exact rPl (isT ⟨by omega, fun j r hr => hall j r (List.getElem?_eq_some_iff.1 hr).1 hr⟩)
end
end Go.Vx
namespace Go.Vx
open Go.Proofs Classical
open Go.Sort
structure SortBy {α : Type} [Inhabited α] (lf sf : FuncId) (lb sb : List Value) (n : Nat) (lt : α → α → Bool) (μ0 : Mem) (J : Array α → Mem) (V : Array α → Prop) : Prop where
 max : n ≤ 1000000000000
 size : ∀ {d}, V d → d.size = n
 sw : ∀ {d : Array α} {i j : Nat}, V d → i < n → j < n → V (swp d i j)
 dom : ∀ {d d' : Array α} {b : Nat}, V d → V d' → J d b = none → J d' b = none
 less : ∀ {μ : Mem} {d : Array α} {i j : Nat}, μ0.Le μ → V d → i < n → j < n → SpecH Tryz.prog lf (.int .i64 i :: .int .i64 j :: lb) μ (J d) fun v μ' h' => v = .bool (lt d[i]! d[j]!) ∧ μ' = μ ∧ h' = J d
 swap : ∀ {μ : Mem} {d : Array α} {i j : Nat}, μ0.Le μ → V d → i < n → j < n → SpecH Tryz.prog sf (.int .i64 i :: .int .i64 j :: sb) μ (J d) fun v μ' h' => v = .tuple #[] ∧ μ' = μ ∧ h' = J (swp d i j)
section
variable {α : Type} [Inhabited α] {lf sf : FuncId} {lb sb : List Value} {n : Nat} {lt : α → α → Bool} {μ0 : Mem} {J : Array α → Mem} {V : Array α → Prop} {μ : Mem} {d : Array α}
end
end Go.Vx
namespace Go.Vx
open Go.Proofs Classical
open Go.Sort
open Go.Extern Go.Extern.Rtype Go.RowKit Go.Lib
section
variable {P : Program} {f : FuncId} {args : List Value} {μ h0 : Mem}
theorem SpecH.ext {R : Value → Mem → Mem → Prop} (h : ∀ w, Holds μ w → Holds h0 w → Apart μ h0 → ∃ v w' μ' h', (callFunc f args.toArray).run P w = .ok (.value v) w' ∧ R v μ' h' ∧ Step μ h0 w μ' h' w') : SpecH P f args μ h0 R :=
 ⟨trivial, fun w h1 h2 h3 => by
  have w_ := h w h1 h2 h3
  obtain ⟨v, w', μ', h', e, hr, hS⟩ := w_
  exact .inr ⟨v, w', e, v, μ', h', rfl, hr, hS⟩⟩
theorem Step.same {w : World} (h1 : Holds μ w) (h2 : Holds h0 w) (h3 : Apart μ h0) : Step μ h0 w μ h0 w :=
 ⟨Mem.Le.refl _, h1, h2, h3, fun _b h h' => absurd h h', fun _b h => .inr h, Nat.le_refl _, fun _ _ _ => rfl, rfl, rfl, rfl⟩
theorem Step.row {w : World} {r : Nat} {cs cs' : Array Value} {ty : TypeId} (h1 : Holds μ w) (h2 : Holds h0 w) (h3 : Apart μ h0) (hr : h0 r = some (.cells cs ty (0, 0))) : Step μ h0 w μ (h0.set r (.cells cs' ty (0, 0))) (w.setRow r cs') := by
 have hne : ∀ b, μ b ≠ none → b ≠ r := fun b hb e => by
  subst e; rw [h3 b hb] at hr; cases hr
 have hg : w.heap[r]? = some (.cells cs ty (0, 0)) := h2 _ _ hr
 refine ⟨Mem.Le.refl _, fun b o hb => ?_, fun b o hb => ?_, fun b hb => ?_, fun b h h' => absurd h h', fun b h => ?_, by simp, fun b _ hb => setRow_other w r b _ fun e => ?_, rfl, rfl, rfl⟩
 ·rw [setRow_other w r b _ (hne b (by simp [hb]))]; exact h1 b o hb
 ·rw [Mem.set_get] at hb
  split at hb
  ·rename_i e; subst e; cases hb; rw [setRow_heap w b _ _ ty (0, 0) hg]
  ·rename_i e; rw [setRow_other w r b _ e]; exact h2 b o hb
 ·rw [Mem.set_ne (hne b hb)]; exact h3 b hb
 ·by_cases e : b = r
  ·subst e; exact .inr (by rw [hr]; simp)
  ·rw [Mem.set_ne e] at h; exact .inr h
 ·subst e; rw [hr] at hb; cases hb
theorem Step.alloc {w : World} {o : Obj} (h1 : Holds μ w) (h2 : Holds h0 w) (h3 : Apart μ h0) : Step μ h0 w (μ.set w.heap.size o) h0 (w.alloc o) ∧ μ w.heap.size = none := by
 have hlt : ∀ b o, w.heap[b]? = some o → b < w.heap.size := fun b o h => (Array.getElem?_eq_some_iff.1 h).1
 have hm : μ w.heap.size = none := by
  cases e : μ w.heap.size with
  | none => rfl
  | some o => have := hlt _ _ (h1 _ _ e); omega
 have hh : h0 w.heap.size = none := by
  cases e : h0 w.heap.size with
  | none => rfl
  | some o => have := hlt _ _ (h2 _ _ e); omega
 have hk : ∀ b, b < w.heap.size → (w.alloc o).heap[b]? = w.heap[b]? := fun b hb => by
  show (w.heap.push o)[b]? = _
  rw [Array.getElem?_push, if_neg (by omega)]
 refine ⟨⟨fun b x hb => ?_, fun b x hb => ?_, fun b x hb => ?_, fun b hb => ?_, fun b h h' => ?_, fun b h => .inr h, by show w.heap.size ≤ (w.heap.push o).size; simp, fun b hb _ => hk b hb, rfl, rfl, rfl⟩, hm⟩
 ·rw [Mem.set_ne (fun e => by subst e; rw [hm] at hb; cases hb)]; exact hb
 ·rw [Mem.set_get] at hb
  split at hb
  ·rename_i e; subst e; cases hb; show (w.heap.push o)[w.heap.size]? = some o; simp
  ·rw [hk b (hlt _ _ (h1 _ _ hb))]; exact h1 _ _ hb
 ·rw [hk b (hlt _ _ (h2 _ _ hb))]; exact h2 _ _ hb
 ·rw [Mem.set_get] at hb
  split at hb
  ·rename_i e; subst e; exact hh
  ·exact h3 b hb
 ·rw [Mem.set_get] at h'
  split at h'
  ·rename_i e; subst e; exact .inl (Nat.le_refl _)
  ·exact absurd h h'
end
structure SlTy (t e : TypeId) (i ie : TypeInfo) (ke : Nat) : Prop where
 hi : Tryz.prog.info? t = some i
 hd : i.desc = .slice e
 pk : Tryz.prog.packed t = false
 hie : Tryz.prog.info? e = some ie
 hke : ∀ w, (Extern.Rtype.kind e).run Tryz.prog w = .ok ke w
 h9 : swapperK 2 ie ke = 9
section
variable {μ : Mem}
end
end Go.Vx
namespace Go.Vx
open Go.Proofs Classical
open Go.Sort
open Go.Extern Go.Extern.Rtype Go.RowKit Go.Lib
def RowV (h0 : Mem) (r : Nat) (ty : TypeId) (rest : List Value) (d : Array Value) : Mem := h0.set r (.cells (List.toArray (d.toList.flatMap vcells ++ rest)) ty (0, 0))
def Els (es : Nat) (d : Array Value) : Prop := ∀ x ∈ d.toList, (vcells x).length = es ∧ ∀ u ∈ vcells x, u.oneCell' = true
theorem flat_put {es : Nat} : ∀ {l : List Value}, (∀ y ∈ l, (vcells y).length = es) → ∀ {i : Nat}, i < l.length → ∀ {y : Value}, (vcells y).length = es → ∀ rest : List Value,
  (l.flatMap vcells ++ rest).take (i * es) ++ vcells y ++ (l.flatMap vcells ++ rest).drop (i * es + es) = (l.set i y).flatMap vcells ++ rest
 | [], _, i, hi, _, _, _ => by simp at hi
 | z :: r, hl, 0, _, y, hy, rest => by
  have hz := hl z (by simp)
  simp only [Nat.zero_mul, List.take_zero, List.nil_append, Nat.zero_add, List.set_cons_zero, List.flatMap_cons, List.append_assoc]
  rw [← hz, List.drop_left]
 | z :: r, hl, i + 1, hi, y, hy, rest => by
  have hz := hl z (by simp)
  have ih := flat_put (l := r) (fun y h => hl y (List.mem_cons_of_mem _ h)) (i := i) (by simpa using hi) hy rest
  simp only [List.set_cons_succ, List.flatMap_cons, List.append_assoc] at ih ⊢
  have e1 : (i + 1) * es = (vcells z).length + i * es := by rw [hz, Nat.add_mul, Nat.one_mul, Nat.add_comm]
  rw [e1, List.take_length_add_append, Nat.add_assoc, List.drop_length_add_append, List.append_assoc, ih]
theorem arrV_at {d : Array Value} {k : Nat} (h : k < d.size) : d.toList[k]? = some d[k]! := by
 rw [Array.getElem?_toList, getElem!_pos d k h, Array.getElem?_eq_getElem h]
theorem arrV_mem {d : Array Value} {k : Nat} (h : k < d.size) : d[k]! ∈ d.toList := List.mem_of_getElem? (arrV_at h)
theorem Els.perm {es n : Nat} {d d' : Array Value} (hn : d.size = n) (h : Els es d) (p : PermIn 0 n d d') : Els es d' := fun x hx => by
 have w_ := List.mem_iff_getElem?.1 hx
 obtain ⟨i, hi⟩ := w_
 have hi2 : i < d'.size := by have := (List.getElem?_eq_some_iff.1 hi).1; simpa using this
 rw [arrV_at hi2] at hi
 cases hi
 exact permIn_all d d' 0 n (fun x => (vcells x).length = es ∧ ∀ u ∈ vcells x, u.oneCell' = true) (by omega) p (fun j _ hj => h _ (arrV_mem (by omega))) i (by omega) (by rw [p.1] at hi2; omega)
section
variable {P : Program} {μ h0 : Mem} {r : Nat} {ty : TypeId} {rest : List Value} {d : Array Value} {es : Nat}
theorem RowV.cell (hE : Els es d) {i c : Nat} {v : Value} (hi : i < d.size) (hv : (vcells d[i]!)[c]? = some v) : (RowV h0 r ty rest d).cell ⟨r, i * es + c, none⟩ = some v := by
 have h := flat_at (fun y hy => (hE y hy).1) (arrV_at hi) hv
 simp only [Mem.cell, RowV, Mem.set_at, Option.isSome_none]
 have h2 := (List.getElem?_eq_some_iff.1 h).1
 simp only [List.getElem?_toArray]
 rw [List.getElem?_append_left h2, h]
 rfl
theorem load_row {e : TypeId} {ti : TI} (hti : TIok P e ti) (w : World) (a : Addr) (x : Value) (hl : (vcells x).length = ti.size) (h : ∀ j v, (vcells x)[j]? = some v → w.cell? (a.add j) = some v) (h1 : ti.agg = false → ti.size = 1) (h2 : ∀ u ∈ vcells x, u.oneCell' = true) :
  ∃ y, (loadVar e a).run P w = .ok y w ∧ vcells y = vcells x := by
 have hr := run_loadVar_cells hti w a (vcells x) hl h h1
 refine ⟨_, hr, ?_⟩
 cases hg : ti.agg with
 | true => simp [vcells]
 | false =>
  rw [h1 hg] at hl
  match hc : vcells x, hl with
  | [u], _ =>
   have := h2 u (by rw [hc]; simp)
   simp only [Bool.false_eq_true, if_false, List.getD_cons_zero]
   cases u <;> first | rfl | (simp [Value.oneCell'] at this)
theorem swap9_spec {e : TypeId} {ti : TI} (hti : TIok Tryz.prog e ti) (h1 : ti.agg = false → ti.size = 1) (hE : Els ti.size d) {n cap i j : Nat} (hd : d.size = n) (hi : i < n) (hj : j < n) :
  SpecH Tryz.prog 271 [.int .i64 i, .int .i64 j, .slice (some ⟨r, 0, none⟩) n cap, typeHandle Tryz.prog e] μ (RowV h0 r ty rest d) fun v μ' h' => v = .tuple #[] ∧ μ' = μ ∧ h' = RowV h0 r ty rest (swp d i j) := by
 refine SpecH.ext fun w hm hh ha => ?_
 subst hd
 have hX := hE _ (arrV_mem hi)
 have hY := hE _ (arrV_mem hj)
 have hcell : ∀ k, k < d.size → ∀ c v, (vcells d[k]!)[c]? = some v → w.cell? ((⟨r, k * ti.size, none⟩ : Addr).add c) = some v := fun k hk c v hv => by
  rw [Addr.add_lit']; exact hh.cell (RowV.cell hE hk hv)
 have w_ := load_row hti w ⟨r, i * ti.size, none⟩ d[i]! hX.1 (hcell i hi) h1 hX.2
 obtain ⟨X, l1, eX⟩ := w_
 have w_ := load_row hti w ⟨r, j * ti.size, none⟩ d[j]! hY.1 (hcell j hj) h1 hY.2
 obtain ⟨Y, l2, eY⟩ := w_
 have hb : ∀ k, k < d.size → k * ti.size + ti.size ≤ d.size * ti.size := fun k hk => by
  have := Nat.mul_le_mul_right ti.size (show k + 1 ≤ d.size from hk); rwa [Nat.add_mul, Nat.one_mul] at this
 have hlen : (d.toList.flatMap vcells).length = d.size * ti.size := by rw [flat_len _ fun y hy => (hE y hy).1]; simp
 have hg : w.heap[r]? = some (.cells (List.toArray (d.toList.flatMap vcells ++ rest)) ty (0, 0)) := hh _ _ (Mem.set_at _ _ _)
 have s1 := run_storeVar hti w r (i * ti.size) _ ty hg Y (by rw [eY]; exact hY.1) (by have := hb i hi; simp [hlen]; omega) (by rw [eY]; exact hY.2)
 have e1 := flat_put (fun y hy => (hE y hy).1) (l := d.toList) (i := i) (by simpa using hi) (y := d[j]!) hY.1 rest
 rw [eY, hY.1] at s1
 simp only [e1] at s1
 have hE2 : ∀ y ∈ d.toList.set i d[j]!, (vcells y).length = ti.size := fun y hy => by
  rcases List.mem_or_eq_of_mem_set hy with h | h
  ·exact (hE y h).1
  ·subst h; exact hY.1
 have hlen2 : ((d.toList.set i d[j]!).flatMap vcells).length = d.size * ti.size := by rw [flat_len _ hE2]; simp
 have hg2 : (w.setRow r (List.toArray ((d.toList.set i d[j]!).flatMap vcells ++ rest))).heap[r]? = some (.cells (List.toArray ((d.toList.set i d[j]!).flatMap vcells ++ rest)) ty (0, 0)) := setRow_heap w r _ _ ty (0, 0) hg
 have s2 := run_storeVar hti _ r (j * ti.size) _ ty hg2 X (by rw [eX]; exact hX.1) (by have := hb j hj; simp [hlen2]; omega) (by rw [eX]; exact hX.2)
 have e2 := flat_put hE2 (i := j) (by simpa using hj) (y := d[i]!) hX.1 rest
 rw [eX, hX.1] at s2
 simp only [e2] at s2
 have hsw : (d.toList.set i d[j]!).set j d[i]! = (swp d i j).toList := by rw [swp, Array.toList_setIfInBounds, Array.toList_setIfInBounds]
 rw [hsw] at s2
 have hss : ∀ z z', (w.setRow r z).setRow r z' = w.setRow r z' := fun z z' => setRow_setRow w r z z'
 have hS := Step.row (cs' := List.toArray ((swp d i j).toList.flatMap vcells ++ rest)) hm hh ha (Mem.set_at _ _ _)
 refine ⟨.tuple #[], w.setRow r (List.toArray ((swp d i j).toList.flatMap vcells ++ rest)), μ, RowV h0 r ty rest (swp d i j), ?_, ⟨rfl, rfl, rfl⟩, ?_⟩
 rotate_left
 ·rw [RowV, Mem.set_set] at hS; exact hS
 rw [run_callFunc_extern Tryz.func271 (by kernel_rfl) (by kernel_rfl) (by kernel_rfl) (e := Extern.ReflectliteSwapper.swap false) (by kernel_rfl)]
 show (Sem.run _ (ReflectliteSwapper.swap false #[.int .i64 i, .int .i64 j, .slice (some ⟨r, 0, none⟩) d.size cap, typeHandle Tryz.prog e]) w).andThen _ = _
 have i0 : ¬ ((i : Int) < 0) := by omega
 have i1 : ¬ ((i : Int) ≥ d.size) := by omega
 have j0 : ¬ ((j : Int) < 0) := by omega
 have j1 : ¬ ((j : Int) ≥ d.size) := by omega
 rw [rl_swap]
 simp [i0, i1, j0, j1, ofHandle, handleType, typeHandle, ReflectliteSwapper.exchange, hti.run_sizeOf, Addr.add_lit', l1, l2, s1, s2, hss, Result.andThen]
end
section
variable {μ h0 : Mem} {lf sf : FuncId} {lb sb : List Value} {n : Nat}
end
section
variable {α : Type} [Inhabited α] {enc : α → Value} {μ h0 : Mem} {r : Nat} {ty t e : TypeId} {i ie : TypeInfo} {ke : Nat} {ti : TI} {rest : List Value} {d0 : Array α} {n cap : Nat} {lf : FuncId} {lb : List Value} {lt : α → α → Bool}
theorem map_get {d : Array α} {k : Nat} (h : k < d.size) : (d.map enc)[k]! = enc d[k]! := by
 rw [getElem!_pos _ k (by simpa using h), getElem!_pos d k h, Array.getElem_map]
theorem swp_map {d : Array α} {a b : Nat} (ha : a < d.size) (hb : b < d.size) : (swp d a b).map enc = swp (d.map enc) a b := by
 unfold swp
 rw [map_get hb, map_get ha]
 simp
theorem permIn_map {d d' : Array α} (hn : d.size = n) (p : PermIn 0 n d d') : PermIn 0 n (d.map enc) (d'.map enc) := by
 obtain ⟨h1, h2, h3⟩ := p
 refine ⟨by simp [h1], fun k hk => ?_, ?_⟩
 ·have hk2 : n ≤ k := by omega
  rw [getElem!_neg _ k (by simp; omega), getElem!_neg _ k (by simp; omega)]
 ·have e1 : d'.extract 0 n = d' := by rw [← hn, ← h1]; exact Array.extract_size
  have e2 : d.extract 0 n = d := by rw [← hn]; exact Array.extract_size
  have e3 : (d'.map enc).extract 0 n = d'.map enc := by rw [← hn, ← h1, show d'.size = (d'.map enc).size by simp]; exact Array.extract_size
  have e4 : (d.map enc).extract 0 n = d.map enc := by rw [← hn, show d.size = (d.map enc).size by simp]; exact Array.extract_size
  rw [e1, e2] at h3
  rw [e3, e4]
  simpa using h3.map enc
theorem SortBy.row (hti : TIok Tryz.prog e ti) (h1 : ti.agg = false → ti.size = 1) (hE : Els ti.size (d0.map enc)) (hn : d0.size = n) (hmax : n ≤ 1000000000000)
  (less : ∀ {μ' : Mem} {d : Array α} {i j : Nat}, μ.Le μ' → PermIn 0 n d0 d → i < n → j < n → SpecH Tryz.prog lf (.int .i64 i :: .int .i64 j :: lb) μ' (RowV h0 r ty rest (d.map enc)) fun v μ'' h' => v = .bool (lt d[i]! d[j]!) ∧ μ'' = μ' ∧ h' = RowV h0 r ty rest (d.map enc)) :
  SortBy lf 271 lb [.slice (some ⟨r, 0, none⟩) n cap, typeHandle Tryz.prog e] n lt μ (fun d => RowV h0 r ty rest (d.map enc)) (PermIn 0 n d0) where
 max := hmax
 size hV := hV.1.trans hn
 sw hV hi hj := permIn_trans _ _ _ _ _ hV (swp_permIn _ _ _ _ _ (Nat.zero_le _) hi (Nat.zero_le _) hj (by rw [hV.1, hn]; exact Nat.le_refl _))
 dom {d d' b} _ _ hb := by
  simp only [RowV, Mem.set_get] at hb ⊢
  split at hb
  ·cases hb
  ·rename_i e; rw [if_neg e]; exact hb
 less hle hV hi hj := less hle hV hi hj
 swap {μ d i j} hle hV hi hj := by
  have hs : d.size = n := hV.1.trans hn
  have := swap9_spec (μ := μ) (h0 := h0) (r := r) (ty := ty) (rest := rest) (cap := cap) hti h1 (d := d.map enc) (hE.perm (by simp [hn]) (permIn_map hn hV)) (by simpa using hs) hi hj
  rwa [← swp_map (by omega) (by omega)] at this
end
section
variable {μ h0 : Mem} {r : Nat} {ty : TypeId} {rest : List Value} {es : Nat}
end
end Go.Vx
namespace Go.Vx
open Go.Proofs Classical
open Go.Sort
structure Prs {X : Type} (es : Nat) (f : X → D) (ps : List (X × Value)) (g : Mem) : Prop where
 own : OwnRows es (ps.map fun p => f p.1) (ps.map Prod.snd) g
 size : ∀ p ∈ ps, (vcells p.2).length = es ∧ ∀ u ∈ vcells p.2, u.oneCell' = true
section
variable {X : Type} {es : Nat} {f : X → D} {g : Mem}
theorem Prs.uncons {p : X × Value} {ps : List (X × Value)} (h : Prs es f (p :: ps) g) : ∃ g1 g2, Parts g g1 g2 ∧ Own (f p.1) g1 (vcells p.2) ∧ (f p.1).n = es ∧ Prs es f ps g2 := by
 obtain ⟨⟨ho, hs, hl⟩, hz⟩ := h
 simp only [List.map_cons, List.flatMap_cons] at ho
 obtain ⟨c1, c2, g1, g2, e, hp, h1, h2⟩ := ho
 have hn : (f p.1).n = es := hs _ (by simp)
 have hz0 := (hz p (by simp)).1
 have := List.append_inj e (by rw [h1.len, hn, hz0])
 obtain ⟨rfl, rfl⟩ := this
 exact ⟨g1, g2, hp, h1, hn, ⟨h2, fun x hx => hs x (by simp only [List.map_cons]; exact List.mem_cons_of_mem _ hx), by simp⟩, fun q hq => hz q (List.mem_cons_of_mem _ hq)⟩
theorem Prs.cons {p : X × Value} {ps : List (X × Value)} {g1 g2 : Mem} (hp : Parts g g1 g2) (h1 : Own (f p.1) g1 (vcells p.2)) (hn : (f p.1).n = es) (hz : (vcells p.2).length = es ∧ ∀ u ∈ vcells p.2, u.oneCell' = true) (h : Prs es f ps g2) : Prs es f (p :: ps) g := by
 refine ⟨⟨?_, ?_, by simp⟩, ?_⟩
 ·simp only [List.map_cons, List.flatMap_cons]
  exact OwnS.cons hp h1 h.own.own
 ·intro x hx
  simp only [List.map_cons, List.mem_cons] at hx
  rcases hx with rfl | hx
  ·exact hn
  ·exact h.own.size x hx
 ·intro q hq
  rcases List.mem_cons.1 hq with rfl | hq
  ·exact hz
  ·exact h.size q hq
theorem Prs.perm {ps ps' : List (X × Value)} (h : ps.Perm ps') : ∀ {g : Mem}, Prs es f ps g → Prs es f ps' g := by
 induction h with
 | nil => exact fun h => h
 | cons p _ ih =>
  intro g h
  obtain ⟨g1, g2, hp, h1, hn, h2⟩ := h.uncons
  exact Prs.cons hp h1 hn (h.size _ (by simp)) (ih h2)
 | swap p q l =>
  intro g h
  obtain ⟨g1, k, hp, h1, hn, h2⟩ := h.uncons
  obtain ⟨g2, g3, hq, h3, hn2, h4⟩ := h2.uncons
  have w_ := Parts.assoc hp hq.symm
  obtain ⟨m, hm1, hm2⟩ := w_
  exact Prs.cons hm2.symm h3 hn2 (h.size _ (by simp)) (Prs.cons hm1 h1 hn (h.size _ (by simp)) h4)
 | trans _ _ ih1 ih2 => exact fun h => ih2 (ih1 h)
theorem Prs.at : ∀ {ps : List (X × Value)} {g : Mem}, Prs es f ps g → ∀ p ∈ ps, ∃ g' : Mem, g'.Le g ∧ Own (f p.1) g' (vcells p.2)
 | [], _, _, p, hp => by simp at hp
 | q :: ps, g, h, p, hp => by
  obtain ⟨g1, g2, hpp, h1, _, h2⟩ := h.uncons
  rcases List.mem_cons.1 hp with rfl | hp
  ·exact ⟨g1, hpp.left, h1⟩
  ·have w_ := Prs.at h2 p hp
   obtain ⟨g', h3, h4⟩ := w_
   exact ⟨g', h3.trans hpp.right, h4⟩
theorem Prs.zip : ∀ {xs : List X} {ys : List Value} {g : Mem}, OwnRows es (xs.map f) ys g → (∀ y ∈ ys, (vcells y).length = es ∧ ∀ u ∈ vcells y, u.oneCell' = true) → Prs es f (xs.zip ys) g ∧ (xs.zip ys).map Prod.fst = xs ∧ (xs.zip ys).map Prod.snd = ys := fun {xs ys g} h hz => by
 have hl : xs.length = ys.length := by simpa using h.len
 have e1 : (xs.zip ys).map Prod.fst = xs := by rw [List.map_fst_zip (by omega)]
 have e2 : (xs.zip ys).map Prod.snd = ys := by rw [List.map_snd_zip (by omega)]
 refine ⟨⟨?_, fun p hp => hz p.2 ?_⟩, e1, e2⟩
 ·have e3 : (xs.zip ys).map (fun p => f p.1) = xs.map f := by
   conv => rhs; rw [← e1, List.map_map]
   rfl
  rw [e2, e3]; exact h
 ·rw [← e2]; exact List.mem_map.2 ⟨p, hp, rfl⟩
end
section
variable {X : Type} {es : Nat} {f : X → D}
theorem Prs.nil : Prs es f [] Mem.nil := ⟨OwnRows.nil es, fun p hp => by simp at hp⟩
theorem Prs.sub {ps ps' : List (X × Value)} (h : ps'.Sublist ps) : ∀ {g : Mem}, Prs es f ps g → ∃ g' : Mem, g'.Le g ∧ Prs es f ps' g' := by
 induction h with
 | slnil => exact fun {g} h => ⟨g, Mem.Le.refl _, h⟩
 | cons p _ ih =>
  intro g h
  obtain ⟨g1, g2, hp, h1, hn, h2⟩ := h.uncons
  obtain ⟨g', h3, h4⟩ := ih h2
  exact ⟨g', h3.trans hp.right, h4⟩
 | cons_cons p _ ih =>
  intro g h
  obtain ⟨g1, g2, hp, h1, hn, h2⟩ := h.uncons
  obtain ⟨g', h3, h4⟩ := ih h2
  have ha : Apart g1 g' := fun b hb => by
   have := hp.apart b hb
   cases e : g' b with
   | none => rfl
   | some o => rw [h3 b o e] at this; cases this
  exact ⟨g1.join g', join_le hp.left (h3.trans hp.right), Prs.cons (Parts.join ha) h1 hn (h.size _ (by simp)) h4⟩
end
end Go.Vx
namespace Go.Vx
open Go.Proofs Classical
theorem prodC_mem {a l : List (List Gl)} {z : List Gl} (h : z ∈ prodC a l) : ∃ x ∈ a, ∃ y ∈ l, z = x ++ y := by
 have w_ := List.mem_flatMap.1 h
 obtain ⟨x, hx, h⟩ := w_
 have w_ := List.mem_map.1 h
 obtain ⟨y, hy, rfl⟩ := w_
 exact ⟨x, hx, y, hy, rfl⟩
section
variable {μ : Mem}
end
end Go.Vx
namespace Go.Vx
open Go.Proofs Classical
noncomputable def numTo (P : Nat → Prop) : Nat → Nat
 | 0 => 0
 | n + 1 => numTo P n + if P n then 2 ^ n else 0
theorem numTo_lt (P : Nat → Prop) : ∀ n, numTo P n < 2 ^ n
 | 0 => by simp [numTo]
 | n + 1 => by
  have h := numTo_lt P n
  have e : 2 ^ (n + 1) = 2 ^ n + 2 ^ n := by rw [Nat.pow_succ]; omega
  rw [numTo, e]
  split <;> omega
theorem numTo_bit (P : Nat → Prop) : ∀ n k, (numTo P n).testBit k = decide (k < n ∧ P k)
 | 0, k => by simp [numTo]
 | n + 1, k => by
  have ih := numTo_bit P n k
  have hlt := numTo_lt P n
  rw [numTo]
  split
  ·rename_i h
   rw [Nat.add_comm]
   rcases Nat.lt_trichotomy k n with h1 | h1 | h1
   ·rw [Nat.testBit_two_pow_add_gt h1, ih]
    congr 1
    exact propext ⟨fun k => ⟨by omega, k.2⟩, fun k => ⟨h1, k.2⟩⟩
   ·subst h1
    rw [Nat.testBit_two_pow_add_eq, ih]
    simp [h]
   ·rw [Nat.testBit_lt_two_pow]
    ·simp; omega
    ·have : 2 ^ (n + 1) ≤ 2 ^ k := Nat.pow_le_pow_right (by omega) h1
     rw [Nat.pow_succ] at this; omega
  ·rename_i h
   rw [Nat.add_zero, ih]
   congr 1
   refine propext ⟨fun g => ⟨by omega, g.2⟩, fun g => ⟨?_, g.2⟩⟩
   have : k ≠ n := fun e => by subst e; exact h g.2
   omega
theorem eq_numTo {P : Nat → Prop} {n m : Nat} (hm : m < 2 ^ n) (h : ∀ k, k < n → (m.testBit k = true ↔ P k)) : m = numTo P n := by
 refine Nat.eq_of_testBit_eq fun k => ?_
 rw [numTo_bit]
 by_cases hk : k < n
 ·rw [Bool.eq_iff_iff, h k hk, decide_eq_true_eq]; simp [hk]
 ·have : 2 ^ n ≤ 2 ^ k := Nat.pow_le_pow_right (by omega) (by omega)
  rw [Nat.testBit_lt_two_pow (by omega)]
  simp [hk]
def gndBy (s : Nat) (x : T) : Prop := ∀ n ∈ x.vars, s.testBit n.toNat = true
def fitEq (s : Nat) : T → T → Prop
 | .pair a b, .pair c d => fitEq s a c ∧ fitEq s b d
 | x, y => if x.tm.kind = 1 ∨ y.tm.kind = 1 then (gndBy s x ↔ gndBy s y) else x = y
noncomputable def callRow (s : Nat) (l : List T) : Nat → Nat := numTo fun i => ∃ x, l[i]? = some x ∧ gndBy s x
noncomputable def fitG (p : Pg) (rows : List Nat) (s : Nat) (g : Gl) : Prop :=
 if g.kind = 2 then ∃ x y, g.terms = [x, y] ∧ fitEq s x.toT y.toT
 else if g.kind = 9 then ∃ n, rows[(relAt p g.name).toNat]? = some n ∧ n.testBit (callRow s (g.terms.map Tm.toT) g.terms.length) = true
 else True
def rowHit (p : Pg) (rows : List Nat) (r : Rl) (k : Nat) : Prop :=
 ∃ s L c, s < 2 ^ (r.arity + r.locals).toNat ∧ s % 2 ^ r.arity.toNat = k ∧ r.body.cl = some L ∧ c ∈ L ∧ ∀ g ∈ c, fitG p rows s g
end Go.Vx
namespace Go.Vx
open Go.Proofs Classical
def Low (x : T) : Prop := ∀ n ∈ x.vars, 0 ≤ n ∧ n ≤ 60
theorem Low.arg {x y : T} (h : Low x) (hy : y ∈ x.args) : Low y := fun n hn => by
 cases x with
 | pair a b =>
  simp only [T.args, List.mem_cons, List.not_mem_nil, or_false] at hy
  refine h n ?_
  rw [T.vars, List.mem_append]
  rcases hy with rfl | rfl
  ·exact .inl hn
  ·exact .inr hn
 | _ => simp [T.args] at hy
theorem Low.var {x : T} (h : Low x) (hk : x.tm.kind = 1) : 0 ≤ x.tm.num ∧ x.tm.num ≤ 60 := by
 cases x with
 | var n => exact h n (by simp [T.vars])
 | _ => simp [T.tm, Tm.kind] at hk
section
variable {μ : Mem}
end
end Go.Vx
namespace Go.Vx
open Go.Proofs Classical
def Gl.single (x : Gl) : Prop := x.kind ≠ 0 ∧ x.kind ≠ 1 ∧ x.kind ≠ 7 ∧ x.kind ≠ 8
mutual
theorem Gl.cl_all : ∀ (g : Gl) {L : List (List Gl)}, g.cl = some L → ∀ c ∈ L, ∀ x ∈ c, x ∈ g.all ∧ x.single
 | .mk k s ts gs, L, h => by
  have hsub : ∀ y ∈ gs, ∀ x ∈ y.all, x ∈ (Gl.mk k s ts gs).all := fun y hy x hx => by
   rw [Gl.all_eq]
   exact List.mem_cons_of_mem _ (List.mem_flatMap.2 ⟨y, hy, hx⟩)
  rw [Gl.cl] at h
  split at h
  ·cases h; simp
  rename_i h0
  split at h
  ·cases h; simp
  rename_i h1
  split at h
  ·exact Gl.clOr_all gs (fun x => x ∈ (Gl.mk k s ts gs).all ∧ x.single) (fun y hy x hx hs => ⟨hsub y hy x hx, hs⟩) (by simp) h
  rename_i h8
  split at h
  ·exact Gl.clAnd_all gs (fun x => x ∈ (Gl.mk k s ts gs).all ∧ x.single) (fun y hy x hx hs => ⟨hsub y hy x hx, hs⟩) (by simp) h
  ·rename_i h7
   cases h
   intro c hc x hx
   rw [List.mem_singleton.1 hc] at hx
   rw [List.mem_singleton.1 hx]
   exact ⟨by rw [Gl.all_eq]; simp, h0, h1, h7, h8⟩
theorem Gl.clOr_all : ∀ (gs : List Gl) (Q : Gl → Prop) {acc L : List (List Gl)}, (∀ y ∈ gs, ∀ x ∈ y.all, x.single → Q x) → (∀ c ∈ acc, ∀ x ∈ c, Q x) → Gl.clOr gs acc = some L → ∀ c ∈ L, ∀ x ∈ c, Q x
 | [], Q, acc, L, _, h1, h => by
  rw [Gl.clOr] at h; cases h; exact h1
 | g :: gs, Q, acc, L, hQ, h1, h => by
  rw [Gl.clOr] at h
  cases e : g.cl with
  | none => rw [e] at h; cases h
  | some l =>
   rw [e, Option.bind_some] at h
   have hb := Gl.cl_all g e
   split at h
   ·exact Gl.clOr_all gs Q (acc := acc ++ l) (fun y hy => hQ y (by simp [hy])) (fun c hc x hx => by
     rcases List.mem_append.1 hc with hc | hc
     ·exact h1 c hc x hx
     ·exact hQ g (by simp) x (hb c hc x hx).1 (hb c hc x hx).2) h
   ·cases h
theorem Gl.clAnd_all : ∀ (gs : List Gl) (Q : Gl → Prop) {acc L : List (List Gl)}, (∀ y ∈ gs, ∀ x ∈ y.all, x.single → Q x) → (∀ c ∈ acc, ∀ x ∈ c, Q x) → Gl.clAnd gs acc = some L → ∀ c ∈ L, ∀ x ∈ c, Q x
 | [], Q, acc, L, _, h1, h => by
  rw [Gl.clAnd] at h; cases h; exact h1
 | g :: gs, Q, acc, L, hQ, h1, h => by
  rw [Gl.clAnd] at h
  cases e : g.cl with
  | none => rw [e] at h; cases h
  | some l =>
   rw [e, Option.bind_some] at h
   have hb := Gl.cl_all g e
   split at h
   ·exact Gl.clAnd_all gs Q (acc := prodC acc l) (fun y hy => hQ y (by simp [hy])) (fun c hc => by
     have w_ := prodC_mem hc
     obtain ⟨u, hu, w, hw, rfl⟩ := w_
     intro x hx
     rcases List.mem_append.1 hx with hx | hx
     ·exact h1 u hu x hx
     ·exact hQ g (by simp) x (hb w hw x hx).1 (hb w hw x hx).2) h
   ·cases h
end
structure GOk (p : Pg) (rows : List Nat) (g : Gl) : Prop where
 sh : g.Sh
 one : g.single
 low : ∀ t ∈ g.terms, Low t.toT
 rel : g.kind = 9 → ∃ k n : Nat, relAt p g.name = (k : Int) ∧ rows[k]? = some n ∧ n < 65536
theorem GOk.of {p : Pg} (hp : p.Ok) {rows : List Nat} (hl : rows.length = p.rels.length) (hr : ∀ n ∈ rows, n < 65536) {i : Nat} {r : Rl} (hi : p.rels[i]? = some r) {L : List (List Gl)} (hL : r.body.cl = some L) {c : List Gl} (hc : c ∈ L) {g : Gl} (hg : g ∈ c) : GOk p rows g := by
 have hrel := hp.2 i r hi
 have w_ := Gl.cl_all r.body hL c hc g hg
 obtain ⟨h1, h2⟩ := w_
 have hsh := hrel.body.all _ g h1
 refine ⟨hsh, h2, fun t ht n hn => ?_, fun h9 => ?_⟩
 ·have hv : n ∈ r.body.vars := by
   rw [Gl.vars]
   exact List.mem_flatMap.2 ⟨g, h1, List.mem_flatMap.2 ⟨t.toT, List.mem_map.2 ⟨t, ht, rfl⟩, hn⟩⟩
  have hlt := hrel.vars n hv
  have hge := Gl.vars_range hrel.body n hv
  have := hrel.ar4; have := hrel.lo8
  omega
 ·have w_ := hrel.calls.all g h1 h9
  obtain ⟨k, q, hk, hq, _⟩ := w_
  have hlen := (List.getElem?_eq_some_iff.1 hq).1
  have w_ := aSo (l := rows) (i := k) (by omega)
  obtain ⟨n, hn⟩ := w_
  exact ⟨k, n, hk, hn, hr n (mAt hn)⟩
section
variable {μ : Mem}
end
end Go.Vx
namespace Go.Vx
open Go.Proofs Classical
structure BitsOf (p : Pg) (rows : List Nat) (a N : Nat) (D : Nat → List Gl → Prop) : Prop where
 lt : N < 2 ^ (2 ^ a)
 bit : ∀ k, k < 2 ^ a → (N.testBit k = true ↔ ∃ s c, D s c ∧ s % 2 ^ a = k ∧ ∀ g ∈ c, fitG p rows s g)
section
variable {p : Pg} {rows : List Nat} {a N : Nat} {D D' : Nat → List Gl → Prop}
theorem BitsOf.zero (h : ∀ s c, ¬ D s c) : BitsOf p rows a 0 D where
 lt := Nat.two_pow_pos _
 bit := fun k _ => by
  simp only [Nat.zero_testBit, Bool.false_eq_true, false_iff]
  rintro ⟨s, c, h1, _⟩
  exact h s c h1
theorem BitsOf.congr (h : BitsOf p rows a N D) (e : ∀ s c, D' s c ↔ D s c) : BitsOf p rows a N D' where
 lt := h.lt
 bit := fun k hk => by simp only [e]; exact h.bit k hk
end
def DI (L : List (List Gl)) (M j b : Nat) (s : Nat) (c : List Gl) : Prop := (c ∈ L.take j ∧ s < M) ∨ (L[j]? = some c ∧ s < b)
def DS (L : List (List Gl)) (s0 j : Nat) (s : Nat) (c : List Gl) : Prop := (s < s0 ∧ c ∈ L) ∨ (s = s0 ∧ c ∈ L.take j)
theorem DI.next {L : List (List Gl)} {M j b : Nat} {c0 : List Gl} (h : L[j]? = some c0) (s : Nat) (c : List Gl) : DI L M j (b + 1) s c ↔ DI L M j b s c ∨ (s = b ∧ c = c0) := by
 unfold DI
 rw [h]
 constructor
 ·rintro (k | ⟨k1, k2⟩)
  ·exact .inl (.inl k)
  ·cases k1
   rcases Nat.lt_or_ge s b with k3 | k3
   ·exact .inl (.inr ⟨rfl, k3⟩)
   ·exact .inr ⟨by omega, rfl⟩
 ·rintro ((k | ⟨k1, k2⟩) | ⟨rfl, rfl⟩)
  ·exact .inl k
  ·exact .inr ⟨k1, by omega⟩
  ·exact .inr ⟨rfl, by omega⟩
theorem DS.next {L : List (List Gl)} {s0 j : Nat} {c0 : List Gl} (h : L[j]? = some c0) (s : Nat) (c : List Gl) : DS L s0 (j + 1) s c ↔ DS L s0 j s c ∨ (s = s0 ∧ c = c0) := by
 unfold DS
 rw [List.take_add_one, h, Option.toList_some, List.mem_append, List.mem_singleton]
 constructor
 ·rintro (k | ⟨rfl, k | rfl⟩)
  ·exact .inl (.inl k)
  ·exact .inl (.inr ⟨rfl, k⟩)
  ·exact .inr ⟨rfl, rfl⟩
 ·rintro ((k | ⟨rfl, k⟩) | ⟨rfl, rfl⟩)
  ·exact .inl k
  ·exact .inr ⟨rfl, .inl k⟩
  ·exact .inr ⟨rfl, .inr rfl⟩
theorem BitsOf.row {p : Pg} {rows : List Nat} {r : Rl} {L : List (List Gl)} (hL : r.body.cl = some L) {a l N : Nat} (ha : r.arity = (a : Int)) (hl : r.locals = (l : Int)) {D : Nat → List Gl → Prop} (h : BitsOf p rows a N D) (e : ∀ s c, D s c ↔ c ∈ L ∧ s < 2 ^ (a + l)) : N = numTo (rowHit p rows r) (2 ^ r.arity.toNat) := by
 have e1 : r.arity.toNat = a := by omega
 have e2 : (r.arity + r.locals).toNat = a + l := by omega
 rw [e1]
 refine eq_numTo h.lt fun k hk => ?_
 rw [h.bit k hk]
 constructor
 ·rintro ⟨s, c, h1, h2, h3⟩
  have w_ := (e s c).1 h1
  obtain ⟨h4, h5⟩ := w_
  exact ⟨s, L, c, by rw [e2]; exact h5, by rw [e1]; exact h2, hL, h4, h3⟩
 ·rintro ⟨s, L', c, h1, h2, h3, h4, h5⟩
  rw [hL] at h3
  cases h3
  rw [e2] at h1
  rw [e1] at h2
  exact ⟨s, c, (e s c).2 ⟨h4, h1⟩, h2, h5⟩
structure RowsIn (p : Pg) (rows : List Nat) : Prop where
 ok : p.Ok
 cls : ∀ r ∈ p.rels, r.body.cl ≠ none
 len : rows.length = p.rels.length
 lt : ∀ n ∈ rows, n < 65536
section
variable {μ : Mem}
set_option maxHeartbeats 8000000 in
end
end Go.Vx
namespace Go.Vx
open Go.Proofs Classical
structure RuD where
 rel : ByteArray
 hargs : List Tm
 clause : Int
 vals : List Tm
 pos : List Fc
 neg : List Fc
def RuD.d (x : RuD) : D := .st [.s x.rel, .sl 4 (x.hargs.map Tm.d), .i x.clause, .sl 4 (x.vals.map Tm.d), .sl 2 (x.pos.map Fc.d), .sl 2 (x.neg.map Fc.d)]
theorem RuD.d_eq (x : RuD) : x.d = .st [.s x.rel, .sl 4 (x.hargs.map Tm.d), .i x.clause, .sl 4 (x.vals.map Tm.d), .sl 2 (x.pos.map Fc.d), .sl 2 (x.neg.map Fc.d)] := rfl
theorem RuD.d_n (x : RuD) : x.d.n = 6 := by
 rw [RuD.d_eq]
 simp only [D.n, D.ns]
abbrev RuD.P := (Option Addr × Nat) × (Option Addr × Nat) × (Option Addr × Nat) × (Option Addr × Nat)
def RuD.cs (x : RuD) (p : RuD.P) : List Value := [.string x.rel, .slice p.1.1 x.hargs.length p.1.2, .int .i64 x.clause, .slice p.2.1.1 x.vals.length p.2.1.2, .slice p.2.2.1.1 x.pos.length p.2.2.1.2, .slice p.2.2.2.1 x.neg.length p.2.2.2.2]
section
variable {μ : Mem}
def RuD.At (μ : Mem) (x : RuD) (p : RuD.P) : Prop := Sl μ 4 p.1.1 x.hargs.length (x.hargs.map Tm.d) ∧ Sl μ 4 p.2.1.1 x.vals.length (x.vals.map Tm.d) ∧ Sl μ 2 p.2.2.1.1 x.pos.length (x.pos.map Fc.d) ∧ Sl μ 2 p.2.2.2.1 x.neg.length (x.neg.map Fc.d)
theorem RuD.invA {x : RuD} {cs : List Value} (h : Rep μ x.d cs) : ∃ p : RuD.P, cs = x.cs p ∧ RuD.At μ x p := by
 rw [RuD.d_eq] at h
 obtain ⟨a0, t0, rfl, h0, h⟩ := h
 have h0 : a0 = [.string x.rel] := h0
 subst h0
 obtain ⟨a1, t1, rfl, h1, h⟩ := h
 have w_ := one_of (Rep.len _ _ h1)
 obtain ⟨v1, rfl⟩ := w_
 have w_ := Rep.sl h1
 obtain ⟨b1, c1, rfl, s1⟩ := w_
 rw [List.length_map] at s1
 obtain ⟨a2, t2, rfl, h2, h⟩ := h
 have h2 : a2 = [.int .i64 x.clause] := h2
 subst h2
 obtain ⟨a3, t3, rfl, h3, h⟩ := h
 have w_ := one_of (Rep.len _ _ h3)
 obtain ⟨v3, rfl⟩ := w_
 have w_ := Rep.sl h3
 obtain ⟨b3, c3, rfl, s3⟩ := w_
 rw [List.length_map] at s3
 obtain ⟨a4, t4, rfl, h4, h⟩ := h
 have w_ := one_of (Rep.len _ _ h4)
 obtain ⟨v4, rfl⟩ := w_
 have w_ := Rep.sl h4
 obtain ⟨b4, c4, rfl, s4⟩ := w_
 rw [List.length_map] at s4
 obtain ⟨a5, t5, rfl, h5, h⟩ := h
 have w_ := one_of (Rep.len _ _ h5)
 obtain ⟨v5, rfl⟩ := w_
 have w_ := Rep.sl h5
 obtain ⟨b5, c5, rfl, s5⟩ := w_
 rw [List.length_map] at s5
 obtain rfl : t5 = [] := h
 exact ⟨((b1, c1), (b3, c3), (b4, c4), (b5, c5)), by simp [RuD.cs], ⟨s1, s3, s4, s5⟩⟩
theorem RuD.rep {x : RuD} {cs : List Value} (h : Rep μ x.d cs) : RepV μ x.d (.agg cs.toArray) := by
 rw [RuD.d_eq] at h ⊢; exact ⟨cs, rfl, h⟩
theorem RuD.invR {x : RuD} {cs : List Value} (h : Rep μ x.d cs) : ∃ p : RuD.P, cs = x.cs p ∧ RepV μ x.d (.agg (x.cs p).toArray) := by
 have w_ := RuD.invA h
 obtain ⟨p, e, _⟩ := w_
 subst e
 exact ⟨p, rfl, RuD.rep h⟩
theorem RuD.inv {x : RuD} {v : Value} (h : RepV μ x.d v) : ∃ p : RuD.P, v = .agg #[.string x.rel, .slice p.1.1 x.hargs.length p.1.2, .int .i64 x.clause, .slice p.2.1.1 x.vals.length p.2.1.2, .slice p.2.2.1.1 x.pos.length p.2.2.1.2, .slice p.2.2.2.1 x.neg.length p.2.2.2.2] ∧ RuD.At μ x p := by
 have h2 : ∃ cs, v = .agg (List.toArray cs) ∧ Rep μ x.d cs := by rw [RuD.d_eq] at h ⊢; exact h
 obtain ⟨cs, rfl, h3⟩ := h2
 have w_ := RuD.invA h3
 obtain ⟨p, rfl, hA⟩ := w_
 exact ⟨p, rfl, hA⟩
theorem RuD.invV {x : RuD} {v : Value} (h : RepV μ x.d v) : ∃ p : RuD.P, v = .agg #[.string x.rel, .slice p.1.1 x.hargs.length p.1.2, .int .i64 x.clause, .slice p.2.1.1 x.vals.length p.2.1.2, .slice p.2.2.1.1 x.pos.length p.2.2.1.2, .slice p.2.2.2.1 x.neg.length p.2.2.2.2] := by
 have w_ := RuD.inv h
 obtain ⟨p, h, _⟩ := w_
 exact ⟨p, h⟩
theorem RuD.elemA {l : List RuD} {base : Option Addr} {n : Nat} (h : Sl μ 6 base n (l.map RuD.d)) {i : Nat} {x : RuD} (hx : l[i]? = some x) : ∃ ad, ∃ p : RuD.P, ElemAt μ base n 6 i ad (x.cs p) ∧ RepV μ x.d (.agg (x.cs p).toArray) ∧ RuD.At μ x p := by
 have w_ := h.get i x.d (by simp [hx])
 obtain ⟨ad, cs, h1, h2⟩ := w_
 have w_ := RuD.invA h2
 obtain ⟨p, rfl, hA⟩ := w_
 exact ⟨ad, p, h1, RuD.rep h2, hA⟩
theorem RuD.elem {l : List RuD} {base : Option Addr} {n : Nat} (h : Sl μ 6 base n (l.map RuD.d)) {i : Nat} {x : RuD} (hx : l[i]? = some x) : ∃ ad, ∃ p : RuD.P, ElemAt μ base n 6 i ad (x.cs p) ∧ RepV μ x.d (.agg (x.cs p).toArray) := by
 have w_ := RuD.elemA h hx
 obtain ⟨ad, p, h1, h2, _⟩ := w_
 exact ⟨ad, p, h1, h2⟩
end
end Go.Vx
namespace Go.Vx
open Go.Proofs Classical
def GndT (t : Tm) : Prop := t.Ok ∧ t.toT.vars = []
structure UnivOk (l : List Tm) : Prop where
 pos : 1 ≤ l.length
 max : l.length ≤ 8
 gnd : ∀ t ∈ l, GndT t
 asc : ∀ (i : Nat) x y, l[i]? = some x → l[i + 1]? = some y → x.toT.cmp y.toT < 0
theorem UnivOk.lift {l : List Tm} (h : UnivOk l) : ∃ U : List T, l = U.map T.tm ∧ (∀ x ∈ U, x.ok ∧ x.vars = []) ∧ U.length = l.length := by
 have w_ := lift_ok fun t ht => (h.gnd t ht).1
 obtain ⟨U, rfl, hU⟩ := w_
 refine ⟨U, rfl, fun x hx => ⟨hU x hx, ?_⟩, by rw [List.length_map]⟩
 have := (h.gnd x.tm (List.mem_map_of_mem hx)).2
 rwa [T.toT_tm] at this
def relFor (p : Pg) (f : Fc) : Prop := ∃ (k : Nat) (r : Rl), relAt p f.rel = (k : Int) ∧ p.rels[k]? = some r ∧ r.arity = (f.args.length : Int)
def FactFits (p : Pg) (f : Fc) : Prop := relFor p f ∧ ∀ t ∈ f.args, GndT t
noncomputable def Fc.f (x : Fc) : F := ⟨x.rel, x.args.map Tm.toT⟩
theorem FactFits.lift {p : Pg} {x : Fc} (h : FactFits p x) : x.f.fc = x ∧ ∀ a ∈ x.f.args, a.ok ∧ a.vars = [] := by
 have w_ := lift_ok fun t ht => (h.2 t ht).1
 obtain ⟨xs, hxs, hok⟩ := w_
 have e : x.f.args = xs := by show x.args.map Tm.toT = xs; rw [hxs, toTs_tm]
 refine ⟨?_, fun a ha => ?_⟩
 ·show Fc.mk x.rel (x.f.args.map T.tm) = x
  rw [e, ← hxs]
 ·rw [e] at ha
  refine ⟨hok a ha, ?_⟩
  have := (h.2 a.tm (by rw [hxs]; exact List.mem_map_of_mem ha)).2
  rwa [T.toT_tm] at this
section
variable {μ : Mem}
def UnivTo (l : List Tm) (i : Nat) : Prop := ∀ j, j < i → (∀ t, l[j]? = some t → GndT t) ∧ ∀ k x y, k + 1 = j → l[k]? = some x → l[j]? = some y → x.toT.cmp y.toT < 0
theorem UnivTo.all {l : List Tm} (h : UnivTo l l.length) (h1 : 1 ≤ l.length) (h8 : l.length ≤ 8) : UnivOk l where
 pos := h1
 max := h8
 gnd t ht := by
  have w_ := List.mem_iff_getElem?.1 ht
  obtain ⟨j, hj⟩ := w_
  exact (h j (List.getElem?_eq_some_iff.1 hj).1).1 t hj
 asc i x y hx hy := (h (i + 1) (List.getElem?_eq_some_iff.1 hy).1).2 i x y rfl hx hy
theorem UnivOk.to {l : List Tm} (h : UnivOk l) (i : Nat) : UnivTo l i := fun j _ => ⟨fun t ht => h.gnd t (mAt ht), fun k x y hk hx hy => by subst hk; exact h.asc k x y hx hy⟩
noncomputable def findR (p : Pg) (s : ByteArray) : Int := if p.Ok then relAt p s else -1
end
end Go.Vx
namespace Go.Vx
open Go.Proofs Classical
section
variable {μ : Mem}
structure SimpleLen (k : Int) (n : Nat) : Prop where
 two : k = 2 ∨ k = 3 ∨ k = 6 → n = 2
 one : k = 4 ∨ k = 5 → n = 1
end
end Go.Vx
namespace Go.Vx
open Go.Proofs Classical
structure ClG (g : Gl) : Prop where
 sh : g.Sh
 one : g.kind ≠ 7 ∧ g.kind ≠ 8
section
variable {μ : Mem}
theorem flat_len2 {es : Nat} : ∀ {ys : List Value}, (∀ x ∈ ys, (vcells x).length = es) → (ys.flatMap vcells).length = ys.length * es
 | [], _ => by simp
 | y :: ys, h => by
  rw [List.flatMap_cons, List.length_append, flat_len2 fun x hx => h x (by simp [hx]), h y (by simp), List.length_cons, Nat.succ_mul]; omega
theorem RowAt.cut {b : Option Nat} {k es : Nat} {ys : List Value} (h : RowAt μ b k es ys) (a : Nat) : RowAt μ b k es (ys.take a) := by
 cases b with
 | none =>
  have h : ys = [] := h
  subst h
  exact List.take_nil
 | some r =>
  obtain ⟨h1, h2, arr, ty, h3, h4, h5⟩ := h
  have hl : (ys.take a).length ≤ ys.length := by rw [List.length_take]; omega
  refine ⟨by omega, fun x hx => h2 x (List.mem_of_mem_take hx), arr, ty, h3, h4, ?_⟩
  have e : ((ys.take a).flatMap vcells).length = (ys.take a).length * es := flat_len2 fun x hx => (h2 x (List.mem_of_mem_take hx)).1
  have e1 : arr.toList.take ((ys.take a).length * es) = (arr.toList.take (ys.length * es)).take ((ys.take a).length * es) := by
   rw [List.take_take]
   congr 1
   have := Nat.mul_le_mul_right es hl
   omega
  rw [e1, h5]
  conv => lhs; rw [← List.take_append_drop a ys]
  rw [List.flatMap_append, List.take_left' (by rw [e]; simp)]
end
end Go.Vx
namespace Go.Vx
open Go.Proofs Classical
theorem gl_cnt_sz3 : ∀ g : Gl, g.d.cnt ≤ 3 + 3 * g.d.sz :=
 Gl.ind fun g ih => by
  have h1 := tms_cnt g.terms
  have h2 : D.cnts (g.goals.map Gl.d) ≤ 3 * g.goals.length + 3 * D.szs (g.goals.map Gl.d) := by
   generalize g.goals = l at ih
   induction l with
   | nil => simp [D.cnts, D.szs]
   | cons t l ih2 =>
    have h1 := ih t (by simp)
    have h2 := ih2 fun t ht => ih t (by simp [ht])
    simp only [List.map_cons, D.cnts, D.szs, List.length_cons]; omega
  rw [Gl.cnt_eq, Gl.sz_eq]; omega
theorem rls_cnt : ∀ l : List Rl, D.cnts (l.map Rl.d) ≤ 10 * l.length + 3 * D.szs (l.map Rl.d)
 | [] => by simp [D.cnts, D.szs]
 | x :: l => by
  have h1 := rls_cnt l
  have h2 := gl_cnt_sz3 x.body
  have h3 := Rl.sz_eq x
  rw [Gl.cnt_eq] at h2
  simp only [List.map_cons, D.cnts, D.szs, List.length_cons]
  rw [Rl.cnt_eq, Rl.sz_eq]; omega
theorem pg_cnt_sz (p : Pg) : p.d.cnt ≤ 10 * p.d.sz := by
 have h1 := rls_cnt p.rels
 rw [Pg.cnt_eq, Pg.sz_eq]; omega
theorem pg_mt (p : Pg) (k : Int) : (p.d.mt k).2 = k + D.cnts (p.rels.map Rl.d) := by
 rw [Pg.mt_eq]
 exact D.mks_cnt (p.rels.map Rl.d) k
end Go.Vx
namespace Go.Vx
open Go.Proofs Classical
section
variable {μ : Mem}
theorem copyProgram_row {p : Pg} {v : Value} (hv : RepV μ p.d v) (hok : p.Ok) : Spec Tryz.prog 75 [v] μ fun v μ' => ∃ (b : Option Nat) (c : Nat) (us : List Value) (μ1 : Mem), v = .agg #[.slice (b.map fun r => ⟨r, 0, none⟩) us.length c] ∧ μ.Le μ1 ∧ μ1.Le μ' ∧ Grown 7 μ μ1 (p.rels.map Rl.d) us ∧ (∀ r, b = some r → μ1 r = none) ∧ RowAt μ' b c 7 us := by
 obtain ⟨q, rfl, hrl⟩ := Pg.inv hv
 have hn := hok.1
 refine Spec.mk Tryz.func75 (by kernel_rfl) ?_
 intro r1 r2 r3
 refine loop_nil (fun z : Nat × Option Nat × Nat × List Value × Mem => z.1 ≤ p.rels.length ∧ μ.Le z.2.2.2.2 ∧ Grown 7 μ z.2.2.2.2 ((p.rels.take z.1).map Rl.d) z.2.2.2.1)
  (fun (i, b, c, us, μ') => ⟨[(2, .loc 1 r2 0), (3, .loc 2 r3 0), (8, .val (.slice q.1 p.rels.length q.2)), (9, .val (.int .i64 p.rels.length)), (10, .val (.int .i64 i))],
   [(1, some (.cells r2 [.val (.slice none 0 0)] 45)), (2, some (.cells r3 [.row 3 b us.length c] 45)), (3, some (.row b c 94 7 us))], 4, μ', Mem.nil⟩) (fun z => p.rels.length - z.1)
  (0, none, 0, [], μ) ⟨Nat.zero_le _, Mem.Le.refl _, Grown.nil _ _ _⟩ (fun (_, _, _, _, _) => ⟨rfl, rfl⟩) ⟨⟨⟨_, rfl, .inl rfl⟩, ⟨_, rfl, .inl rfl⟩, ⟨_, rfl, .inl rfl⟩, ⟨_, rfl, .inl rfl⟩, ⟨_, rfl, .inl rfl⟩, trivial⟩, ⟨.inl rfl, .inr (.inr ⟨_, _, _, _, rfl, rfl, .inr ⟨3, rfl, rfl, Nat.le_refl _⟩, trivial⟩), .inr (.inl ⟨_, _, rfl, Nat.le_refl _⟩), trivial⟩, rfl, rfl⟩ ?_
 rintro ⟨i, b, c, us, μ'⟩ ⟨hi, hle, hrows⟩
 dsimp only at hi hle hrows
 have hlen := hrows.len
 simp only [List.length_map, List.length_take] at hlen
 refine ifd (fun hlt => ?_) (fun hlt => ?_)
 ·have w_ := aSo (l := p.rels) (i := i) (by omega)
  obtain ⟨x, hx⟩ := w_
  have w_ := Rl.elemA (hrl.mono hle) hx
  obtain ⟨ad, q2, hel, hr, hb⟩ := w_
  have hb : RepV μ' x.body.d (.agg (x.body.cs q2).toArray) := hb
  refine eIn hel ?_
  intro r5
  refine cPl (copyGoal_spec x.body hb (hok.2 i x hx).body) fun v2 μ2 hle2 hR => ?_
  have w_ := Gl.invV hR.rep
  obtain ⟨q3, rfl⟩ := w_
  intro r26
  refine gIn ?_ ?_ fun b' c' _ => ?_
  ·show (us.length + 1) * 104 ≤ _; omega
  ·exact Nat.le_trans (m := 100000000) (show us.length + 1 ≤ _ by omega) (by decide)
  refine num64 (by omega) (by omega) ⟨(i + 1, b', c', _, μ2), ⟨by dsimp only; omega, hle.trans hle2, ?_⟩, by dsimp only; omega, ⟨⟨rfl, rfl, rfl, rfl, rfl, trivial⟩, ⟨rfl, rfl, rfl, trivial⟩, rfl, rfl⟩⟩
  dsimp only
  rw [List.take_add_one, hx, Option.toList_some]
  simp only [List.map_append, List.map_cons, List.map_nil]
  refine hrows.snoc hle ?_ hle2 (Rl.d_n _)
  rw [Rl.d_eq]
  exact FreshS.st (FreshS.str (FreshS.int (FreshS.int (FreshS.cons hR hle2 (Mem.Le.refl _) FreshS.nil))))
 ·obtain rfl : i = p.rels.length := by omega
  rw [List.take_length] at hrows
  refine rFz [3] fun μ2 hle2 hno hrow => .inl ?_
  exact ⟨b, c, us, μ', rfl, hle, hle2, hrows, hno, hrow⟩
theorem copyProgram_spec {p : Pg} {v : Value} (hv : RepV μ p.d v) (hok : p.Ok) : Spec Tryz.prog 75 [v] μ fun v μ' => Fresh μ μ' p.d v :=
 (copyProgram_row hv hok).weaken fun v μ2 _ hR => by
  obtain ⟨b, c, us, μ1, rfl, hle, hle2, hrows, hno, hrow⟩ := hR
  have hn := hok.1
  have hl := hrows.len
  rw [List.length_map] at hl
  rw [Pg.d_eq]
  have k := hrows.fresh hle hle2 hno hrow (Nat.le_trans (m := 1000000) (by omega) (by decide))
  exact FreshS.st (FreshS.cons k (hle.trans hle2) (Mem.Le.refl _) FreshS.nil)
theorem copyProgram_own {p : Pg} {v : Value} (hv : RepV μ p.d v) (hok : p.Ok) (hne : p.rels ≠ []) : SpecH Tryz.prog 75 [v] μ Mem.nil fun v μ2 H2 => ∃ (r c : Nat) (ty : TypeId) (us : List Value), v = .agg #[.slice (some ⟨r, 0, none⟩) us.length c] ∧ RowO H2 r c ty 7 us ∧ Grown 7 μ μ2 (p.rels.map Rl.d) us := by
 have e0 : μ.join Mem.nil = μ := funext fun b => by rw [Mem.join_get]; cases μ b <;> rfl
 have h0 := copyProgram_row hv hok
 generalize hR0 : (fun v μ' => ∃ (b : Option Nat) (c : Nat) (us : List Value) (μ1 : Mem), v = Value.agg #[.slice (b.map fun r => ⟨r, 0, none⟩) us.length c] ∧ μ.Le μ1 ∧ μ1.Le μ' ∧ Grown 7 μ μ1 (p.rels.map Rl.d) us ∧ (∀ r, b = some r → μ1 r = none) ∧ RowAt μ' b c 7 us) = R0 at h0
 have h : Spec Tryz.prog 75 [v] (μ.join Mem.nil) R0 := by rw [e0]; exact h0
 refine (Spec.lendOwn (H := Mem.nil) (R' := fun v g μ1 => ∃ (r c : Nat) (ty : TypeId) (us : List Value), v = .agg #[.slice (some ⟨r, 0, none⟩) us.length c] ∧ RowO g r c ty 7 us ∧ Grown 7 μ (μ1.sub g) (p.rels.map Rl.d) us) (fun b _ => rfl) h fun v μ1 hle hR => ?_).weaken fun v μ2 H2 _ _ hR => ?_
 ·rw [e0]
  rw [← hR0] at hR
  obtain ⟨b, c, us, μ0, rfl, hl0, hl1, hgr, hno, hrow⟩ := hR
  have hl := hgr.len
  rw [List.length_map] at hl
  cases b with
  | none =>
   have : us = [] := hrow
   subst this
   exact absurd (List.eq_nil_of_length_eq_zero hl) hne
  | some r =>
   obtain ⟨h2, h3, arr, ty, h4, h5, h6⟩ := hrow
   have hr0 := hno r rfl
   have hn := hok.1
   refine ⟨Mem.nil.set r (.cells arr ty (0, 0)), fun x o hx => ?_, fun x hx => ?_, r, c, ty, us, rfl, ⟨arr.toList, Mem.set_at _ _ _, h2, Nat.le_trans (m := 8) (by omega) (by decide), h3, by simpa using h5, h6⟩, ?_⟩
   ·by_cases e : x = r
    ·subst e; rw [Mem.set_at] at hx; rw [h4]; exact hx
    ·rw [Mem.set_ne e] at hx; cases hx
   ·by_cases e : x = r
    ·subst e
     cases e2 : μ x with
     | none => rfl
     | some o => rw [hl0 x o e2] at hr0; cases hr0
    ·rw [Mem.set_ne e] at hx; exact absurd rfl hx
   ·obtain ⟨g, k1, k2, k3⟩ := hgr
    refine ⟨g, k1, Mem.le_sub (k2.trans hl1) (fun b hb => ?_), k3⟩
    by_cases e : b = r
    ·subst e
     cases e2 : g b with
     | none => exact absurd e2 hb
     | some o => rw [k2 b o e2] at hr0; cases hr0
    ·rw [Mem.set_ne e]; rfl
 ·obtain ⟨g, μ1, ⟨r, c, ty, us, rfl, ⟨cs, q1, q2⟩, hgr⟩, _, hp, rfl⟩ := hR
  exact ⟨r, c, ty, us, rfl, ⟨cs, hp.right _ _ q1, q2⟩, hgr⟩
end
end Go.Vx
namespace Go.Vx
open Go.Proofs Classical
def Gl.Long (nm : ByteArray) (k : Nat) (g : Gl) : Prop := ∀ x ∈ g.all, x.kind = 9 → x.name = nm → k < x.terms.length
theorem Gl.Long.sub {nm : ByteArray} {k : Nat} {g : Gl} (h : g.Long nm k) (x : Gl) (hx : x ∈ g.goals) : x.Long nm k := fun y hy => h y (by rw [Gl.all_eq]; exact List.mem_cons_of_mem _ (List.mem_flatMap.2 ⟨x, hx, hy⟩))
theorem Gl.Long.top {nm : ByteArray} {k : Nat} {g : Gl} (h : g.Long nm k) : g.kind = 9 → g.name = nm → k < g.terms.length := h g (by rw [Gl.all_eq]; simp)
section
variable {μ : Mem}
end
end Go.Vx
namespace Go.Vx
open Go.Proofs Classical
def SpcOk (p : Pg) (nm : ByteArray) (arg : Int) (t : Tm) (r : Rl) : Prop := (∃ k : Nat, findR p nm = (k : Int) ∧ p.rels[k]? = some r) ∧ GndT t ∧ 0 ≤ arg ∧ arg < r.arity
theorem SpcOk.uniq {p : Pg} {nm : ByteArray} {arg : Int} {t : Tm} {r r' : Rl} (h : SpcOk p nm arg t r) (h' : SpcOk p nm arg t r') : r = r' := by
 obtain ⟨⟨k, h1, h2⟩, _⟩ := h
 obtain ⟨⟨k', h3, h4⟩, _⟩ := h'
 obtain rfl : k = k' := by omega
 rw [h2] at h4; exact Option.some.inj h4
end Go.Vx
namespace Go.Vx
open Go.Proofs Classical
theorem Pg.repS {μ : Mem} {p : Pg} {v : Value} (h : RepV μ (.sl 7 (p.rels.map Rl.d)) v) : RepV μ p.d (.agg #[v]) := by
 rw [Pg.d_eq]
 exact ⟨_, rfl, RepS.last h⟩
section
variable {μ : Mem}
end
end Go.Vx
namespace Go.Vx
open Go.Proofs Classical
section
variable {μ : Mem}
theorem rls_cnt_ok : ∀ l : List Rl, (∀ r ∈ l, r.body.Sh ∧ r.body.cnt ≤ 60) → D.cnts (l.map Rl.d) ≤ 4000000 * l.length
 | [], _ => by simp [D.cnts]
 | x :: l, h => by
  have h1 := rls_cnt_ok l fun r hr => h r (List.mem_cons_of_mem _ hr)
  have hx := h x (by simp)
  have h2 := gl_cnts_ok x.body hx.1
  rw [Gl.cnt_eq] at h2
  simp only [List.map_cons, D.cnts, List.length_cons]
  rw [Rl.cnt_eq]; omega
end
end Go.Vx
namespace Go.Vx
open Go.Proofs Classical
section
variable {X : Type} {es : Nat} {f : X → D}
theorem Prs.set {g' : Mem} {p' : X × Value} (h1 : Own (f p'.1) g' (vcells p'.2)) (hn : (f p'.1).n = es) (hz : (vcells p'.2).length = es ∧ ∀ u ∈ vcells p'.2, u.oneCell' = true) : ∀ {ps : List (X × Value)} {g : Mem} (k : Nat), Prs es f ps g → k < ps.length → Apart g g' → ∃ g2 : Mem, Prs es f (ps.set k p') g2 ∧ g2.Le (g.join g')
 | [], _, _, _, h, _ => absurd h (Nat.not_lt_zero _)
 | q :: ps, g, 0, h, _, ha => by
  obtain ⟨ga, gb, hpp, _, _, h3⟩ := h.uncons
  have ha2 : Apart g' gb := fun b hb => by
   cases e : gb b with
   | none => rfl
   | some o => exact absurd (ha b (by rw [hpp.right b o e]; simp)) hb
  refine ⟨g'.join gb, Prs.cons (Parts.join ha2) h1 hn hz h3, join_le (fun b o hb => ?_) (hpp.right.trans (Mem.le_join g g'))⟩
  rw [Mem.join_get]
  cases e : g b with
  | none => exact hb
  | some o' => have := ha b (by rw [e]; simp); rw [this] at hb; cases hb
 | q :: ps, g, k + 1, h, hk, ha => by
  obtain ⟨ga, gb, hpp, ho, hqn, h3⟩ := h.uncons
  have hab : Apart gb g' := fun b hb => ha b (by
   cases e : gb b with
   | none => exact absurd e hb
   | some o => rw [hpp.right b o e]; simp)
  obtain ⟨g2, h4, h5⟩ := Prs.set h1 hn hz k h3 (Nat.lt_of_succ_lt_succ hk) hab
  have haa : Apart ga g2 := fun b hb => by
   cases e : g2 b with
   | none => rfl
   | some o =>
    have h6 := h5 b o e
    rw [Mem.join_get] at h6
    have hgb := hpp.apart b hb
    rw [hgb] at h6
    have hg : g b ≠ none := by
     cases e2 : ga b with
     | none => exact absurd e2 hb
     | some o2 => rw [hpp.left b o2 e2]; simp
    have := ha b hg
    rw [this] at h6; cases h6
  refine ⟨ga.join g2, Prs.cons (Parts.join haa) ho hqn (h.size q (by simp)) h4, join_le (hpp.left.trans (Mem.le_join g g')) (h5.trans ?_)⟩
  exact join_le (hpp.right.trans (Mem.le_join g g')) (Mem.le_join_right ha)
end
theorem Grown.at {es : Nat} {μ μ1 : Mem} {ds : List D} {us : List Value} (h : Grown es μ μ1 ds us) (hz : ∀ y ∈ us, (vcells y).length = es ∧ ∀ u ∈ vcells y, u.oneCell' = true) {k : Nat} {d : D} {u : Value} (hd : ds[k]? = some d) (hu : us[k]? = some u) : ∃ g' : Mem, Own d g' (vcells u) := by
 obtain ⟨g, ho, _, _⟩ := h
 have w_ := Prs.zip (f := id) (xs := ds) (by simpa using ho) hz
 obtain ⟨hP, -, -⟩ := w_
 obtain ⟨g', _, h2⟩ := Prs.at hP (d, u) (List.mem_of_getElem? (i := k) (by rw [List.getElem?_zip_eq_some]; exact ⟨hd, hu⟩))
 exact ⟨g', h2⟩
theorem Grown.set {es : Nat} {μ μ1 μ2 : Mem} {ds : List D} {us : List Value} {k : Nat} {d' : D} {v' : Value} (h : Grown es μ1 μ2 ds us) (hz : ∀ y ∈ us, (vcells y).length = es ∧ ∀ u ∈ vcells y, u.oneCell' = true) (hk : k < us.length) (hv : Fresh μ μ1 d' v') (h01 : μ.Le μ1) (h12 : μ1.Le μ2) (hn : d'.n = es) (hz' : (vcells v').length = es ∧ ∀ u ∈ vcells v', u.oneCell' = true) : Grown es μ μ2 (ds.set k d') (us.set k v') := by
 obtain ⟨g, ho, hg, hnew⟩ := h
 obtain ⟨g', ho', hg', hnew'⟩ := hv
 have hl := ho.len
 have hap : Apart g g' := fun b hb => by
  have h1 := hnew b hb
  cases e : g' b with
  | none => rfl
  | some o => have := hg' b o e; rw [h1] at this; cases this
 have w_ := Prs.zip (f := id) (xs := ds) (by simpa using ho) hz
 obtain ⟨hP, e1, e2⟩ := w_
 obtain ⟨g2, h2, h3⟩ := Prs.set (f := id) (p' := (d', v')) ho'.cells hn hz' k hP (by rw [List.length_zip]; omega) hap
 have h4 := h2.own
 rw [List.map_set, List.map_set, e2] at h4
 have e3 : (ds.zip us).map (fun p => id p.1) = ds := e1
 rw [e3] at h4
 refine ⟨g2, h4, fun b o hb => ?_, fun b hb => ?_⟩
 ·exact join_le hg (hg'.trans h12) b o (h3 b o hb)
 ·cases e : g2 b with
  | none => exact absurd e hb
  | some o =>
   have h5 := h3 b o e
   rw [Mem.join_get] at h5
   cases e6 : g b with
   | some o2 =>
    have h7 := hnew b (by rw [e6]; simp)
    cases e8 : μ b with
    | none => rfl
    | some o3 => have := h01 b o3 e8; rw [h7] at this; cases this
   | none =>
    rw [e6] at h5
    have h5 : g' b = some o := h5
    exact hnew' b (by rw [h5]; simp)
end Go.Vx
namespace Go.Vx
open Go.Proofs Classical
noncomputable def simpR (r : Rl) : Rl := ⟨r.name, r.arity, r.locals, simpO r.body⟩
noncomputable def simpP (p : Pg) : Pg := if p.Ok then ⟨p.rels.map simpR⟩ else ⟨[]⟩
theorem Grown.repAt {es : Nat} {μ μ1 : Mem} {ds : List D} {us : List Value} (h : Grown es μ μ1 ds us) (hz : ∀ y ∈ us, (vcells y).length = es ∧ ∀ u ∈ vcells y, u.oneCell' = true) {k : Nat} {d : D} {u : Value} (hd : ds[k]? = some d) (hu : us[k]? = some u) : Rep μ1 d (vcells u) := by
 obtain ⟨g, ho, hg, _⟩ := h
 have w_ := Prs.zip (f := id) (xs := ds) (by simpa using ho) hz
 obtain ⟨hP, -, -⟩ := w_
 obtain ⟨g', hle, h2⟩ := Prs.at hP (d, u) (List.mem_of_getElem? (i := k) (by rw [List.getElem?_zip_eq_some]; exact ⟨hd, hu⟩))
 exact Own.rep _ _ _ h2 (hle.trans hg)
theorem Grown.later {es : Nat} {μ μ2 μ3 : Mem} {ds : List D} {us : List Value} {k : Nat} {d' : D} {v' : Value} (h : Grown es μ μ2 ds us) (hz : ∀ y ∈ us, (vcells y).length = es ∧ ∀ u ∈ vcells y, u.oneCell' = true) (hk : k < us.length) (hv : Fresh μ2 μ3 d' v') (h01 : μ.Le μ2) (h12 : μ2.Le μ3) (hn : d'.n = es) (hz' : (vcells v').length = es ∧ ∀ u ∈ vcells v', u.oneCell' = true) : Grown es μ μ3 (ds.set k d') (us.set k v') := by
 obtain ⟨g, ho, hg, hnew⟩ := h
 obtain ⟨g', ho', hg', hnew'⟩ := hv
 have hl := ho.len
 have hap : Apart g g' := fun b hb => by
  cases e : g' b with
  | none => rfl
  | some o =>
   have h1 := hnew' b (by rw [e]; simp)
   cases e2 : g b with
   | none => exact absurd e2 hb
   | some o2 => have := hg b o2 e2; rw [h1] at this; cases this
 have w_ := Prs.zip (f := id) (xs := ds) (by simpa using ho) hz
 obtain ⟨hP, e1, e2⟩ := w_
 obtain ⟨g2, h2, h3⟩ := Prs.set (f := id) (p' := (d', v')) ho'.cells hn hz' k hP (by rw [List.length_zip]; omega) hap
 have h4 := h2.own
 rw [List.map_set, List.map_set, e2] at h4
 have e3 : (ds.zip us).map (fun p => id p.1) = ds := e1
 rw [e3] at h4
 have hgg : (g.join g').Le μ3 := join_le (hg.trans h12) hg'
 refine ⟨g2, h4, h3.trans hgg, fun b hb => ?_⟩
 cases e : g2 b with
 | none => exact absurd e hb
 | some o =>
  have h5 := h3 b o e
  rcases join_ne (show (g.join g') b ≠ none by rw [h5]; simp) with h | h
  ·exact hnew b h
  ·have h6 := hnew' b h
   cases e3 : μ b with
   | none => rfl
   | some o3 => rw [h01 b o3 e3] at h6; cases h6
theorem pg0_own : OwnV (Pg.mk []).d Mem.nil (.agg #[.slice none 0 0]) := by
 rw [Pg.d_eq]
 exact ⟨_, rfl, OwnS.last (Own.nilSl 7)⟩
section
variable {μ : Mem}
set_option maxHeartbeats 4000000 in
theorem spec_SimplifyProgram_spec {p : Pg} {v : Value} (hp : RepV μ p.d v) (hw : p.d.wd) : Spec Tryz.prog 29 [v] μ fun v μ' => RepV μ' (simpP p).d v := by
 have w_ := Pg.inv hp
 obtain ⟨q, rfl, hrl⟩ := w_
 refine Spec.mk Tryz.func29 (by kernel_rfl) ?_
 intro r1 r2 r3
 refine cPl (spec_ProgramOk_spec hp hw) fun v1 μ1 hle1 hR => ?_
 obtain rfl := hR
 refine ifnd (fun hbad => ?_) (fun hok => ?_)
 ·rw [simpP, if_neg hbad]
  exact rPl (Pg.repS (Rep.nilSl 7))
 rw [simpP, if_pos hok]
 replace hle1 : μ.Le μ1 := hle1
 have hw0 : D.wds (p.rels.map Rl.d) := by rw [Pg.d_eq] at hw; exact hw.1
 refine loop_nil (fun z : Nat × Option Nat × Nat × List Value × Mem => z.1 ≤ p.rels.length ∧ μ1.Le z.2.2.2.2 ∧ Rows z.2.2.2.2 7 (((p.rels.take z.1).map simpR).map Rl.d) z.2.2.2.1)
  (fun (i, b, c, us, μ') => ⟨[(2, .loc 1 r2 0), (3, .loc 2 r3 0), (12, .val (.slice q.1 p.rels.length q.2)), (13, .val (.int .i64 p.rels.length)), (14, .val (.int .i64 i))],
   [(1, some (.cells r2 [.val (.slice none 0 0)] 45)), (2, some (.cells r3 [.row 3 b us.length c] 45)), (3, some (.row b c 94 7 us))], 4, μ', Mem.nil⟩) (fun z => p.rels.length - z.1)
  (0, none, 0, [], μ1) ⟨Nat.zero_le _, Mem.Le.refl _, .nil⟩ (fun (_, _, _, _, _) => ⟨rfl, rfl⟩) ⟨⟨⟨_, rfl, .inl rfl⟩, ⟨_, rfl, .inl rfl⟩, ⟨_, rfl, .inl rfl⟩, ⟨_, rfl, .inl rfl⟩, ⟨_, rfl, .inl rfl⟩, trivial⟩, ⟨.inl rfl, .inr (.inr ⟨_, _, _, _, rfl, rfl, .inr ⟨3, rfl, rfl, Nat.le_refl _⟩, trivial⟩), .inr (.inl ⟨_, _, rfl, Nat.le_refl _⟩), trivial⟩, rfl, rfl⟩ ?_
 rintro ⟨i, b, c, us, μ'⟩ ⟨hi, hle, hrows⟩
 dsimp only at hi hle hrows
 have hlen := hrows.len
 have hp8 := hok.1
 simp only [List.length_map, List.length_take] at hlen
 refine ifd (fun hlt => ?_) (fun hlt => ?_)
 ·have w_ := aSo (l := p.rels) (i := i) (by omega)
  obtain ⟨x, hx⟩ := w_
  have w_ := Rl.elemA (hrl.mono (hle1.trans hle)) hx
  obtain ⟨ad, q2, hel, hr2, hb⟩ := w_
  have hb : RepV μ' x.body.d (.agg (x.body.cs q2).toArray) := hb
  have hwx : x.d.wd := D.wds_mem hw0 _ (List.mem_map.2 ⟨x, mAt hx, rfl⟩)
  have hwb : x.body.d.wd := by rw [Rl.d_eq] at hwx; exact hwx.2.2.2.1
  refine eIn hel ?_
  intro r5
  refine cPl (spec_SimplifyGoal_spec hb hwb) fun v2 μ2 hle2 hR => ?_
  have w_ := Gl.invV hR
  obtain ⟨q3, rfl⟩ := w_
  intro r30
  refine gIn ?_ ?_ fun b' c' _ => ?_
  ·show (us.length + 1) * 104 ≤ _; omega
  ·exact Nat.le_trans (m := 100000000) (show us.length + 1 ≤ _ by omega) (by decide)
  refine num64 (by omega) (by omega) ⟨(i + 1, b', c', _, μ2), ⟨by dsimp only; omega, hle.trans hle2, ?_⟩, by dsimp only; omega, ⟨⟨rfl, rfl, rfl, rfl, rfl, trivial⟩, ⟨rfl, rfl, rfl, trivial⟩, rfl, rfl⟩⟩
  dsimp only
  rw [List.take_add_one, hx, Option.toList_some]
  simp only [List.map_append, List.map_cons, List.map_nil] at hrows ⊢
  refine (hrows.mono hle2).append (Rows.one ?_ (Rl.d_n _))
  rw [simpR, Rl.d_eq]
  exact ⟨_, rfl, RepS.str (RepS.int (RepS.int (RepS.last (RepV.cells hR))))⟩
 ·obtain rfl : i = p.rels.length := by omega
  rw [List.take_length] at hrows
  refine rFz [3] fun μ2 hle2 hno2 hrow => .inl ?_
  exact Pg.repS (Rows.sl hrow (hrows.mono hle2) (Nat.le_trans (m := 100000000) (by omega) (by decide)))
theorem RowO.ownN {h : Mem} {r cap : Nat} {ty : TypeId} {es : Nat} {xs : List Value} {k j n : Nat} {x : Value} {cs : List Value} {ad : Addr} (hr : RowO h r cap ty es xs) (hx : xs[k]? = some x) (hu : ((vcells x).drop j).take n = cs) (ha : ad = ⟨r, k * es + j, none⟩) : ∀ i v, cs[i]? = some v → h.cell (ad.add i) = some v := fun i v hi => by
 subst hu
 have hin : i < n := by
  have := (List.getElem?_eq_some_iff.1 hi).1
  rw [List.length_take] at this; omega
 rw [List.getElem?_take_of_lt hin, List.getElem?_drop] at hi
 rw [ha]
 have := hr.cell hx hi
 simpa [Addr.add_lit', Nat.add_assoc] using this
theorem FreshS.rl {μ' : Mem} {r : Rl} {g : Gl} {q : Gl.P} (h : Fresh μ μ' g.d (.agg (g.cs q).toArray)) (hle : μ.Le μ') : Fresh μ μ' (Rl.mk r.name r.arity r.locals g).d (.agg (Value.string r.name :: .int .i64 r.arity :: .int .i64 r.locals :: g.cs q).toArray) := by
 rw [Rl.d_eq]
 have e : vcells (.agg (g.cs q).toArray) ++ [] = g.cs q := by simp [vcells]
 have h1 := FreshS.st (FreshS.str (n := r.name) (FreshS.int (n := r.arity) (FreshS.int (n := r.locals) (FreshS.cons h hle (Mem.Le.refl _) FreshS.nil))))
 rw [e] at h1
 exact h1
set_option maxHeartbeats 4000000 in
theorem impl_SimplifyProgram_spec {p : Pg} {v : Value} (hp : RepV μ p.d v) : Spec Tryz.prog 30 [v] μ fun v μ' => Fresh μ μ' (simpP p).d v := by
 have w_ := Pg.inv hp
 obtain ⟨q, rfl, hrl⟩ := w_
 refine Spec.mk Tryz.func30 (by kernel_rfl) ?_
 intro r1 r2
 refine cPl (impl_ProgramOk_spec hp) fun v1 μ1 hle1 hR => ?_
 obtain rfl := hR
 refine ifnd (fun hbad => ?_) (fun hok => ?_)
 ·rw [simpP, if_neg hbad]
  exact rPl ⟨Mem.nil, pg0_own, (fun _ _ h => nomatch h), fun _ h => absurd rfl h⟩
 rw [simpP, if_pos hok]
 replace hle1 : μ.Le μ1 := hle1
 by_cases hne : p.rels = []
 ·have e0 : (Pg.mk (p.rels.map simpR)) = p := by cases p; simp only at hne; subst hne; rfl
  rw [e0]
  refine cPl (copyProgram_spec (hp.mono hle1) hok) fun v2 μ2 hle2 hR2 => ?_
  have w_ := Pg.invV hR2.rep
  obtain ⟨qq, rfl⟩ := w_
  intro r3
  have el : p.rels.length = 0 := by rw [hne]; rfl
  refine lIn (fun i : Nat => i = 0)
   (fun i => ⟨[(2, .loc 1 r2 0), (3, .loc 2 r3 0), (13, .val (.int .i64 p.rels.length)), (14, .val (.int .i64 i))],
    [(1, some (.cells r2 [.val (.slice none 0 0)] 45)), (2, some (.cells r3 [.val (.slice qq.1 p.rels.length qq.2)] 45))], 3, μ2, Mem.nil⟩) (fun _ => 0)
   0 rfl (fun _ => ⟨rfl, rfl⟩) ⟨⟨rfl, rfl, rfl, rfl, trivial⟩, ⟨rfl, rfl, trivial⟩, rfl, rfl⟩ ?_
  intro i hi
  subst hi
  refine ifd (fun hlt => absurd hlt (by omega)) (fun _ => ?_)
  exact rPl (hR2.mono hle1 (Mem.Le.refl _))
 refine cOw (copyProgram_own (hp.mono hle1) hok hne) fun v2 μ2 H2 hle2 hap2 hR2 => ?_
 obtain ⟨rb, rc, rty, us, rfl, hrow, hgr⟩ := hR2
 have hul := hgr.len
 rw [List.length_map] at hul
 have hp8 := hok.1
 replace hap2 : Apart μ2 H2 := hap2
 intro r3
 refine lIn (fun z : Nat × List Value × Mem × Mem => z.1 ≤ p.rels.length ∧ z.2.1.length = p.rels.length ∧ μ2.Le z.2.2.1 ∧ Apart z.2.2.1 z.2.2.2 ∧ RowO z.2.2.2 rb rc rty 7 z.2.1 ∧ Grown 7 μ1 z.2.2.1 (((p.rels.take z.1).map simpR ++ p.rels.drop z.1).map Rl.d) z.2.1)
  (fun (i, ys, μ', H') => ⟨[(2, .loc 1 r2 0), (3, .loc 2 r3 0), (13, .val (.int .i64 us.length)), (14, .val (.int .i64 i))],
   [(1, some (.cells r2 [.val (.slice none 0 0)] 45)), (2, some (.cells r3 [.val (.slice (some ⟨rb, 0, none⟩) us.length rc)] 45))], 3, μ', H'⟩) (fun z => p.rels.length - z.1)
  (0, us, μ2, H2) ⟨Nat.zero_le _, hul.symm, Mem.Le.refl _, hap2, hrow, by simpa using hgr⟩ (fun (_, _, _, _) => ⟨rfl, rfl⟩) ⟨⟨rfl, rfl, rfl, rfl, trivial⟩, ⟨rfl, rfl, trivial⟩, rfl, rfl⟩ ?_
 clear hrow hgr hap2
 rintro ⟨i, ys, μ', H'⟩ ⟨hi, hyl, hle, hap, hrow, hgr⟩
 dsimp only at hi hyl hle hap hrow hgr
 have hz : ∀ y ∈ ys, (vcells y).length = 7 ∧ ∀ u ∈ vcells y, u.oneCell' = true := by
  obtain ⟨_, _, _, _, hz, _⟩ := hrow
  exact hz
 refine ifd (fun hlt => ?_) (fun hlt => ?_)
 ·have w_ := aSo (l := p.rels) (i := i) (by omega)
  obtain ⟨x, hx⟩ := w_
  have w_ := aSo (l := ys) (i := i) (by omega)
  obtain ⟨u, hu⟩ := w_
  have hds : (((p.rels.take i).map simpR ++ p.rels.drop i).map Rl.d)[i]? = some x.d := by
   rw [List.map_append, List.getElem?_append_right (by simp; omega)]
   simp only [List.length_map, List.length_take, List.getElem?_map, List.getElem?_drop]
   rw [show i + (i - min i p.rels.length) = i by omega, hx]; rfl
  have w_ := Rl.invA (hgr.repAt hz hds hu)
  obtain ⟨q2, eu, hb⟩ := w_
  have hb : RepV μ' x.body.d (.agg (x.body.cs q2).toArray) := hb
  refine ptr_intro ⟨rb, 0, none⟩ rfl (by omega) (by omega) ?_
  refine oIn (x.body.cs q2) rfl (hrow.ownN (k := i) (j := 3) (n := 4) hu (by rw [eu]; rfl) (by simp [Addr.add_lit'])) ?_
  refine cDa hap (impl_SimplifyGoal_spec hb) fun v3 μ3 hle3 hap3 hR3 => ?_
  have w_ := Gl.invV hR3.rep
  obtain ⟨q3, rfl⟩ := w_
  refine ptr_intro ⟨rb, 0, none⟩ rfl (by omega) (by omega) ?_
  refine sto_row (k := i) (j := 3) (.agg (Value.string x.name :: .int .i64 x.arity :: .int .i64 x.locals :: (simpO x.body).cs q3).toArray) hrow hu (by simp [Addr.add_lit']) (by rw [eu]; rfl) (show 3 + 4 ≤ 7 by decide) (by simp [Value.oneCell']) fun o hrow3 => ?_
  have hnew : Fresh μ' μ3 (simpR x).d (.agg (Value.string x.name :: .int .i64 x.arity :: .int .i64 x.locals :: (simpO x.body).cs q3).toArray) := FreshS.rl (r := x) hR3 hle3
  have hgr3 := hgr.later hz (k := i) (by omega) hnew (hle2.trans hle) hle3 (Rl.d_n _) ⟨rfl, by simp [vcells, Value.oneCell', Gl.cs]⟩
  have eds : (((p.rels.take i).map simpR ++ p.rels.drop i).map Rl.d).set i (simpR x).d = ((p.rels.take (i + 1)).map simpR ++ p.rels.drop (i + 1)).map Rl.d := by
   rw [← List.map_set]
   congr 1
   rw [List.set_append_right _ _ (by simp; omega), drop_at hx]
   rw [show i - ((p.rels.take i).map simpR).length = 0 by simp; omega]
   rw [List.set_cons_zero, List.take_add_one, hx, Option.toList_some, List.map_append]
   simp
  rw [eds] at hgr3
  refine num64 (by omega) (by omega) ⟨(i + 1, _, μ3, _), ⟨by dsimp only; omega, by dsimp only; rw [List.length_set]; exact hyl, hle.trans hle3, hap3.set (apartO hrow hap3 (.inl rfl)), hrow3, hgr3⟩, by dsimp only; omega, ⟨⟨rfl, rfl, rfl, rfl, trivial⟩, ⟨rfl, rfl, trivial⟩, rfl, rfl⟩⟩
 ·obtain rfl : i = p.rels.length := by omega
  rw [List.take_length, List.drop_length, List.append_nil] at hgr
  refine ret_own _ Mem.nil (Parts.nil_right _) ?_
  obtain ⟨cs, hcell, hlen0, hcap, hone, hcs, htake⟩ := hrow
  have hb2 : μ' rb = none := by
   cases e : μ' rb with
   | none => rfl
   | some o => have := hap rb (by simp [e]); rw [hcell] at this; cases this
  have hrowA : RowAt (μ'.join H') (some rb) rc 7 ys := ⟨hlen0, hone, _, _, by rw [Mem.join_get, hb2]; exact hcell, by simpa using hcs, by simpa using htake⟩
  have e : us.length = ys.length := by omega
  rw [e]
  have k := (hgr.fresh (hle2.trans hle) (Mem.le_join _ _) (fun r h => by cases h; exact hb2) hrowA hcap)
  have k2 := FreshS.st (FreshS.cons (k.mono hle1 (Mem.Le.refl _)) ((hle1.trans (hle2.trans hle)).trans (Mem.le_join _ _)) (Mem.Le.refl _) FreshS.nil)
  rw [Pg.d_eq]
  exact k2
end
end Go.Vx
namespace Go.Vx
open Go.Proofs Classical
section
variable {μ : Mem}
theorem simpP_rep {μ : Mem} {g : Pg} {v : Value} (h : RepV μ g.d v) : ∃ tv, v = tv ∧ RepV μ g.d tv := ⟨v, rfl, h⟩
theorem simpP_fresh {μ μ' : Mem} {g : Pg} {v : Value} (h : Fresh μ μ' g.d v) : ∃ tv, v = id tv ∧ Fresh μ μ' g.d tv := ⟨v, rfl, h⟩
theorem simpP_size (p : Pg) : D.cnts ((simpP p).rels.map Rl.d) ≤ 40000000 := by
 unfold simpP
 split
 ·rename_i hy
  have h1 := rls_cnt_ok (p.rels.map simpR) fun r hr => by
   have w_ := List.mem_map.1 hr
   obtain ⟨r0, hr0, rfl⟩ := w_
   have w_ := List.mem_iff_getElem?.1 hr0
   obtain ⟨i, hi⟩ := w_
   have hB := (hy.2 i r0 hi).body
   have hC := (hy.2 i r0 hi).size
   have hok : r0.body.Ok := ⟨hB, by omega⟩
   show (simpO r0.body).Sh ∧ (simpO r0.body).cnt ≤ 60
   rw [simpO, if_pos hok]
   exact ⟨Gl.simp_sh _ hB, Nat.le_trans (Gl.simp_cnt _) hC⟩
  have h2 := hy.1
  show D.cnts ((p.rels.map simpR).map Rl.d) ≤ _
  rw [List.length_map] at h1
  omega
 ·simp [D.cnts]
set_option maxHeartbeats 4000000 in
theorem FnExactSimplifyProgram_spec {t0 : Pg} {v0 : Value} (h0 : RepV μ t0.d v0) (w0 : t0.d.wd) :
  Spec Tryz.prog 6 [v0] μ fun r _ => r = .bool true := by
 obtain ⟨p0, rfl⟩ := Pg.invV h0
 refine Spec.mk Tryz.func6 (by kernel_rfl) ?_
 intro r0
 refine cGv (szProgram_spec t0 h0 (by omega) (by omega) w0) ?_
 refine ifd (fun h => rPl rfl) (fun h => ?_)
 have q0 := szR_ge h
 rw [szR_pos q0] at h
 have hb0 : t0.d.sz ≤ 1048576 := by omega
 refine cPl (toProgram_spec t0 h0 hb0) fun u1 μ1 hle1 hf1 => ?_
 replace h0 := h0.mono hle1
 obtain ⟨qq2, rfl⟩ := Pg.invV hf1.rep
 have a0 := hf1.rep
 refine cPl (spec_SimplifyProgram_spec a0 w0) fun u3 μ3 hle3 hR => ?_
 replace h0 := h0.mono hle3
 replace a0 := a0.mono hle3
 obtain ⟨w0, rfl, hw0⟩ := simpP_rep hR
 obtain ⟨qq4, rfl⟩ := Pg.invV hw0
 have hw := hw0
 intro rw0
 refine call_new id (apart_nil _) Owns.none ((toProgram_spec t0 (h0.mono (Mem.le_join _ _)) hb0).weaken fun v μ' _ h => ⟨v, rfl, h⟩) fun x0 μ5 H5 hle5 hap5 ho5 => ?_
 replace h0 := h0.mono hle5
 replace hw := hw.mono hle5
 obtain ⟨qq6, rfl⟩ := Pg.invV (Owns.rep (l1 := []) hap5 ho5)
 have xx0 := (Owns.rep (l1 := []) hap5 ho5)
 intro rx0
 refine call_new (id) hap5 ho5 ((impl_SimplifyProgram_spec (Owns.rep (l1 := []) hap5 ho5)).weaken fun v μ' _ h => simpP_fresh h) fun g0 μ7 H7 hle7 hap7 ho7 => ?_
 replace h0 := h0.mono hle7
 replace hw := hw.mono hle7
 obtain ⟨qq8, rfl⟩ := Pg.invV (Owns.rep (l1 := [_]) hap7 ho7)
 have gg := (Owns.rep (l1 := [_]) hap7 ho7)
 intro rg0
 refine call_read hap7 (eqProgram_spec _ (Owns.rep (l1 := [_]) hap7 ho7) (hw.mono (Mem.le_join _ _))) ?_
 refine iIn (fun h => nomatch h) (fun _ => ?_)
 refine cDa hap7 (toProgram_spec t0 h0 hb0) fun u9 μ9 hle9 hap9 hf9 => ?_
 replace h0 := h0.mono hle9
 replace hw := hw.mono hle9
 refine call_read hap9 (eqProgram_spec t0 (Owns.rep (l1 := []) hap9 ho7) (hf9.rep.mono (Mem.le_join _ _))) ?_
 refine iIn (fun h => nomatch h) (fun _ => ?_)
 have ca0 := pg_cnt_sz t0
 rw [Pg.cnt_eq] at ca0
 have ma0 := pg_mt t0 (1)
 have rz := simpP_size t0
 have mg := pg_mt (simpP t0) 1
 refine call_mark (l1 := []) hap9 ho7 (fun hx o => markProgram_spec t0 o (by omega) (by omega)) fun H10 hap10 ho10 => ?_
 refine ifd (fun h => by omega) (fun _ => ?_)
 refine call_read hap10 (eqProgram_spec _ (Owns.rep (l1 := [_]) hap10 ho10) (hw.mono (Mem.le_join _ _))) ?_
 refine iIn (fun h => nomatch h) (fun _ => ?_)
 refine call_mark (l1 := [_]) hap10 ho10 (fun hx o => markProgram_spec _ o (by omega) (by omega)) fun H11 hap11 ho11 => ?_
 refine call_read hap11 (heldProgram_spec _ (Owns.rep (l1 := [_]) hap11 ho11) (by omega) (by omega)) ?_
 refine ifd (fun h => by omega) (fun _ => ?_)
 refine ifnd (fun h => absurd rfl h) (fun _ => ?_)
 refine cDa hap11 (toProgram_spec t0 h0 hb0) fun u12 μ12 hle12 hap12 hf12 => ?_
 replace h0 := h0.mono hle12
 replace hw := hw.mono hle12
 obtain ⟨qq13, rfl⟩ := Pg.invV hf12.rep
 have o0 := hf12.rep
 refine cDa hap12 ((impl_SimplifyProgram_spec o0).weaken fun v μ' _ h => simpP_fresh h) fun u14 μ14 hle14 hap14 hR => ?_
 replace h0 := h0.mono hle14
 replace hw := hw.mono hle14
 replace o0 := o0.mono hle14
 obtain ⟨h0, rfl, hh0⟩ := hR
 obtain ⟨qq15, rfl⟩ := Pg.invV hh0.rep
 have hh := hh0.rep
 intro rh0
 refine call_read hap14 (eqProgram_spec _ (hh.mono (Mem.le_join _ _)) (hw.mono (Mem.le_join _ _))) ?_
 refine iIn (fun h => nomatch h) (fun _ => ?_)
 refine call_read hap14 (heldProgram_spec _ (Owns.rep (l1 := [_]) hap14 ho11) (by omega) (by omega)) ?_
 refine ifd (fun h => by omega) (fun _ => ?_)
 refine ifnd (fun h => absurd rfl h) (fun _ => ?_)
 exact rPl rfl
end
end Go.Vx
