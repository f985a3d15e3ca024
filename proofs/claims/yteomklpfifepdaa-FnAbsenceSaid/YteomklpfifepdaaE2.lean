/- Texts of the proof, part E2. -/
import Derived.Test.YteomklpfifepdaaE1
namespace Go.Vx
open Go.Proofs Classical
theorem refMFrom_ok {bs : List B} (h : ∀ b ∈ bs, b.to.ok) : ∀ {l acc y : List Mk}, (∀ k ∈ l, GoodM k) → marksOk acc → refMFrom bs l acc = some y → marksOk y
 | [], acc, y, _, ha, e => by cases e; exact ha
 | c :: l, acc, y, hl, ha, e => by
  rw [refMFrom] at e
  have w_ := Option.bind_eq_some_iff.1 e
  obtain ⟨a, hf, e⟩ := w_
  have hc := hl c (by simp)
  exact refMFrom_ok h (fun k hk => hl k (by simp [hk])) (addM1_ok ha (var_subst_ok h hc.1).1 hc.2 hf) e
section
variable {μ : Mem}
theorem free_spec {l : List Mk} {g : List B} {base base2 : Option Addr} {cap cap2 : Nat} (hok : ∀ c ∈ l, (asF g c.var).ok) (hs : Sl μ 2 base l.length (l.map Mk.d)) (hg : Sl μ 5 base2 g.length ((g.map B.bd).map Bd.d)) :
  Spec Try.prog 44 [.slice base l.length cap, .slice base2 g.length cap2] μ fun v _ => v = .bool (decide (freeG l (asF g))) := by
 have hn := maxLen_le hs.max
 refine Spec.mk Try.func44 (by kernel_rfl) ?_
 refine lIn (fun p : Nat × Mem => p.1 ≤ l.length ∧ μ.Le p.2 ∧ freeG (l.take p.1) (asF g))
  (fun (i, μ') => ⟨[(1, .val (.slice base2 g.length cap2)), (7, .val (.slice base l.length cap)), (8, .val (.int .i64 l.length)), (9, .val (.int .i64 i))], [], 0, μ', Mem.nil⟩) (fun p => l.length - p.1)
  (0, μ) ⟨Nat.zero_le _, Mem.Le.refl _, by simp [freeG]⟩ (fun (_, _) => ⟨rfl, rfl⟩) ⟨⟨rfl, rfl, rfl, rfl, trivial⟩, trivial, rfl, rfl⟩ ?_
 rintro ⟨i, μ1⟩ ⟨hi, hle1, hall⟩
 dsimp only at hi hle1 hall
 refine ifd (fun h => ?_) (fun h => ?_)
 ·have w_ := aSo (l := l) (i := i) (by omega)
  obtain ⟨b, hb⟩ := w_
  have w_ := Mk.elem (hs.mono hle1) hb
  obtain ⟨ad, p, hel, hto⟩ := w_
  refine eIn hel ?_
  intro r3
  refine cPl (MakeValue_spec (x := .var b.var) (hg.mono hle1) (varV_rep b.var)) fun v2 μ2 hle2 hR2 => ?_
  have hbo := hok b (mAt hb)
  refine cGv (ContainsSymbol_spec b.tag (asF g b.var) hR2 hbo (T.good_wd hbo.1)) ?_
  refine ifd (fun h5 => rPl (isF fun e => e b (mAt hb) h5)) (fun h5 => ?_)
  refine num64 (by omega) (by omega) ⟨(i + 1, μ2), ⟨by dsimp only; omega, hle1.trans hle2, ?_⟩, by dsimp only; omega, ⟨⟨rfl, rfl, rfl, rfl, trivial⟩, trivial, rfl, rfl⟩⟩
  dsimp only
  rw [List.take_add_one, hb, Option.toList_some]
  intro c hc
  rcases List.mem_append.1 hc with hc | hc
  ·exact hall c hc
  ·rw [List.mem_singleton.1 hc]; exact h5
 ·obtain rfl : i = l.length := by omega
  rw [List.take_length] at hall
  exact rPl (isT hall)
set_option maxHeartbeats 1000000 in
theorem FnAbsence_spec {base : Option Addr} {n cap : Nat} (hb : Bytes μ base n) :
  Spec Try.prog 7 [.slice base n cap] μ fun r _ => r = .bool true := by
 refine Spec.mk Try.func7 (by kernel_rfl) ?_
 refine ifd (fun h => rPl rfl) (fun h => ?_)
 refine cPl (MakeSolved_spec hb 0 (by decide)) fun v1 μ1 hle1 hR => ?_
 obtain ⟨s, g, u1, u2, rfl, hs, hg, hsol, hrs, hrg⟩ := hR
 have w_ := Rep.sl hrs
 obtain ⟨b1, c1, rfl, hss⟩ := w_
 have w_ := Rep.sl hrg
 obtain ⟨b2, c2, rfl, hsg⟩ := w_
 rw [List.length_map, List.length_map] at hss hsg ⊢
 rw [List.length_map, List.length_map]
 refine cPl (MakeTerm_spec (hb.mono hle1) 40 (by decide) 5 8 (by decide) (by decide)) fun v2 μ2 hle2 hR => ?_
 obtain ⟨t, ht, hdt⟩ := hR
 rw [lvB_5] at hdt
 have w_ := Tm.invV ht
 obtain ⟨pt, rfl⟩ := w_
 intro r1
 have hna : IsNm ⟨#[97]⟩ := isNm_one (by decide)
 have hnb : IsNm ⟨#[98]⟩ := isNm_one (by decide)
 have hgo : ∀ {m : Int}, (0 ≤ m ∧ m ≤ 100000) → (asF g m).ok := fun {m} hm => by
  by_cases k : m < 8
  ·exact (hg.asF hm.1 (by omega)).ok (by decide)
  ·rw [hg.out (by omega)]
   exact ⟨hm, by show 1 ≤ 5000; decide⟩
 have hto : (t.ap (asF g)).ok := (hdt.ap (l := 8) (w := 0) (by decide) fun m h0 h1 => hg.asF h0 (by omega)).ok (by decide)
 replace hss := hss.mono hle2
 replace hsg := hsg.mono hle2
 have hS := hs.subst (by decide) (by decide) (by decide) (by decide)
 have hab := (absorb hS).1 hsol
 have hadd := impl_AddAbsence_spec (s := s.map B.bd) (l := []) (t := t.tm) (tag := ⟨#[97]⟩) (base := b1) (base2 := none) (cap := c1) (cap2 := 0) (by rw [List.length_map]; exact hss) (Rep.nilSl 2) ht (Nat.zero_le _)
 rw [List.length_map] at hadd
 have eadd : addM (s.map B.bd) [] t.tm ⟨#[97]⟩ = addM1 [] (t.ap (asF s)) ⟨#[97]⟩ := by
  rw [addM, if_pos ⟨(substOk_iff s).2 hS, (hdt.ok (by decide)).tm, marksOk_nil, hna⟩, B.map_b, T.toT_tm, hs.fit hdt (by decide)]; rfl
 rw [eadd] at hadd
 refine cPl hadd fun v4 μ4 hle4 hR4 => ?_
 replace hss := hss.mono hle4
 replace hsg := hsg.mono hle4
 replace ht := ht.mono hle4
 replace hb := hb.mono (hle1.trans (hle2.trans hle4))
 have happ : (t.ap (asF s)).ap (asF g) = t.ap (asF g) := absorb_ap hab t
 cases ho : addM1 [] (t.ap (asF s)) ⟨#[97]⟩ with
 | none =>
  rw [ho] at hR4
  obtain rfl := hR4
  have hno := addM1_none (θ := asF g) ho
  rw [happ] at hno
  refine cPl (MakeValue_spec hsg ht) fun v5 μ5 hle5 hR5 => ?_
  refine cGv (ContainsSymbol_spec ⟨#[97]⟩ (t.ap (asF g)) hR5 hto (T.good_wd hto.1)) ?_
  have hko := impl_MarksOk_spec (μ := μ5) (l := []) (base := none) (cap := 0) ⟨rfl, Nat.zero_le _, fun i x h => by simp at h⟩
  refine cGv hko ?_
  refine ifnd (fun q => absurd marksOk_nil q) (fun _ => ?_)
  refine iIn (fun q => nomatch q) (fun _ => ?_)
  refine iIn (fun _ => ?_) (fun q => nomatch q)
  refine ifnd (fun q => absurd hno q) (fun _ => ?_)
  replace hss := hss.mono hle5
  replace hsg := hsg.mono hle5
  replace hb := hb.mono hle5
  refine cPl (MakeSize_spec hb 62 0 3 (by decide) (by decide) (by decide) (by decide)) fun v7 μ7 hle7 hR => ?_
  obtain ⟨e7, x7, rfl, hx0, hx3⟩ := hR
  obtain rfl := e7.symm
  refine cPl (MakeSize_spec hb 63 4 7 (by decide) (by decide) (by decide) (by decide)) fun v8 μ8 hle8 hR => ?_
  obtain ⟨e8, y8, rfl, hy4, hy7⟩ := hR
  obtain rfl := e8.symm
  intro r2
  refine call_frz [1] ?_
  intro μ9 hle9 hno9 hat9
  have hraw : Sl μ9 2 (some ⟨r2, 0, none⟩) 2 (([Mk.mk x7 ⟨#[98]⟩, Mk.mk y8 ⟨#[97]⟩] : List Mk).map Mk.d) := by
   have := Rows.sl hat9 (ds := ([Mk.mk x7 ⟨#[98]⟩, Mk.mk y8 ⟨#[97]⟩] : List Mk).map Mk.d) (.cons ⟨_, rfl, RepS.int (RepS.str rfl)⟩ (Mk.d_n _) (.cons ⟨_, rfl, RepS.int (RepS.str rfl)⟩ (Mk.d_n _) .nil)) (show 2 ≤ maxLen by decide)
   have w_ := Rep.sl this
   obtain ⟨_, _, e, h⟩ := w_
   cases e
   exact h
  replace hss := hss.mono hle9
  replace hsg := hsg.mono hle9
  have hrk : marksOk [Mk.mk x7 ⟨#[98]⟩, Mk.mk y8 ⟨#[97]⟩] := by
   refine (marksOk_iff _).2 ⟨?_, fun c hc => ?_⟩
   ·refine List.pairwise_pair.2 (?_ : cMk _ _ < 0)
    have e : cInt x7 y8 = -1 := by unfold cInt sgn; rw [if_neg (by omega), decide_eq_true (show x7 < y8 by omega)]; rfl
    rw [cMk, e, lexI, if_neg (by decide)]; decide
   ·simp only [List.mem_cons, List.not_mem_nil, or_false] at hc
    rcases hc with rfl | rfl
    ·exact ⟨by show 0 ≤ x7 ∧ x7 ≤ 100000; omega, hnb⟩
    ·exact ⟨by show 0 ≤ y8 ∧ y8 ≤ 100000; omega, hna⟩
  have hrg2 : ∀ c ∈ [Mk.mk x7 ⟨#[98]⟩, Mk.mk y8 ⟨#[97]⟩], (asF g c.var).ok := fun c hc => hgo (((marksOk_iff _).1 hrk).2 c hc).1
  generalize hrawe : [Mk.mk x7 ⟨#[98]⟩, Mk.mk y8 ⟨#[97]⟩] = raw at *
  have hrl : raw.length = 2 := by rw [← hrawe]; rfl
  have href := impl_RefreshMarks_spec (s := s.map B.bd) (l := raw) (base := b1) (base2 := some ⟨r2, 0, none⟩) (cap := c1) (cap2 := 2) (by rw [List.length_map]; exact hss) (by rw [hrl]; exact hraw) (by omega)
  rw [List.length_map, hrl] at href
  have erk : ∀ l, marksOk l → refM (s.map B.bd) l = refMFrom s l [] := fun l hl => by rw [refM, if_pos ⟨(substOk_iff s).2 hS, hl⟩, B.map_b]
  rw [erk raw hrk] at href
  refine call_go href fun v10 μ10 hle10 hR10 => ?_
  replace hss := hss.mono hle10
  replace hsg := hsg.mono hle10
  replace hraw := hraw.mono hle10
  have hval : (∀ c ∈ raw, ¬ ((asF s c.var).ap (asF g)).hasSym c.tag) ↔ freeG raw (asF g) := by
   unfold freeG
   simp only [hab]
  cases hm : refMFrom s raw [] with
  | none =>
   rw [hm] at hR10
   obtain rfl := hR10
   have href2 := impl_RefreshMarks_spec (μ := μ10) (s := s.map B.bd) (l := []) (base := b1) (base2 := none) (cap := c1) (cap2 := 0) (by rw [List.length_map]; exact hss) ⟨rfl, Nat.zero_le _, fun i x h => by simp at h⟩ (Nat.zero_le _)
   rw [List.length_map] at href2
   refine cPl href2 fun v11 μ11 hle11 hR11 => ?_
   have w_ := optMk_fresh hR11
   obtain ⟨tv, rfl, _⟩ := w_
   refine iIn (fun _ => ?_) (fun q => nomatch q)
   have hks := free_spec (l := raw) (hok := hrg2) (base := some ⟨r2, 0, none⟩) (cap := 2) (cap2 := c2) (by rw [hrl]; exact hraw.mono hle11) (hsg.mono hle11)
   rw [hrl] at hks
   refine cPl hks fun v12 μ12 hle12 hR12 => ?_
   obtain rfl := hR12
   have hno := refM_none (θ := asF g) hm
   rw [hval] at hno
   refine rPl ?_
   rw [decide_eq_false hno]; rfl
  | some m =>
   rw [hm] at hR10
   obtain ⟨mv, rfl, hmv⟩ := hR10
   have w_ := Rep.sl hmv.rep
   obtain ⟨b5, c5, rfl, hsm⟩ := w_
   rw [List.length_map] at hsm ⊢
   have hmok : marksOk m := refMFrom_ok hS.vals.tok ((marksOk_iff raw).1 hrk).2 marksOk_nil hm
   have hmg : ∀ c ∈ m, (asF g c.var).ok := fun c hc => hgo (((marksOk_iff m).1 hmok).2 c hc).1
   have hml2 := refMFrom_len hS.vals.tok ((marksOk_iff raw).1 hrk).2 hm
   simp only [List.length_nil] at hml2
   have href2 := impl_RefreshMarks_spec (μ := μ10) (s := s.map B.bd) (l := m) (base := b1) (base2 := b5) (cap := c1) (cap2 := c5) (by rw [List.length_map]; exact hss) hsm (by omega)
   rw [List.length_map, erk m hmok] at href2
   rw [refM_same hS hm] at href2
   refine cPl href2 fun v11 μ11 hle11 hR11 => ?_
   obtain ⟨nv, rfl, hnv⟩ := hR11
   have w_ := Rep.sl hnv.rep
   obtain ⟨b6, c6, rfl, hsn⟩ := w_
   rw [List.length_map] at hsn ⊢
   refine iIn (fun q => nomatch q) (fun _ => ?_)
   refine cPl (free_spec (l := m) (hok := hmg) (cap := c5) (cap2 := c2) (hsm.mono hle11) (hsg.mono hle11)) fun v12 μ12 hle12 hR12 => ?_
   obtain rfl := hR12
   have hks := free_spec (μ := μ12) (l := raw) (hok := hrg2) (base := some ⟨r2, 0, none⟩) (cap := 2) (cap2 := c2) (by rw [hrl]; exact hraw.mono (hle11.trans hle12)) (hsg.mono (hle11.trans hle12))
   rw [hrl] at hks
   refine cPl hks fun v13 μ13 hle13 hR13 => ?_
   obtain rfl := hR13
   have hyes := refM_some (θ := asF g) hm
   rw [hval] at hyes
   have hyes : freeG m (asF g) ↔ freeG raw (asF g) := hyes.trans ⟨fun q => q.2, fun q => ⟨by simp [freeG], q⟩⟩
   have eb2 : (decide (freeG m (asF g)) == decide (freeG raw (asF g)) : Bool) = true := by
    simp only [hyes, beq_self_eq_true]
   refine iIn (fun _ => ?_) (fun q => absurd (eb2.symm.trans q) (by decide))
   refine iIn (fun _ => ?_) (fun q => nomatch q)
   refine rPl ?_
   rw [decide_eq_true rfl]
 | some l =>
  rw [ho] at hR4
  obtain ⟨lv, rfl, hlv⟩ := hR4
  have hyes := addM1_some (θ := asF g) ho
  rw [happ] at hyes
  have hyes : freeG l (asF g) ↔ ¬ (t.ap (asF g)).hasSym ⟨#[97]⟩ := hyes.trans ⟨fun q => q.2, fun q => ⟨by simp [freeG], q⟩⟩
  have hlok := addM1_ok marksOk_nil (hs.good_ap hdt) hna ho
  have hlg : ∀ c ∈ l, (asF g c.var).ok := fun c hc => hgo (((marksOk_iff l).1 hlok).2 c hc).1
  have w_ := Rep.sl hlv.rep
  obtain ⟨b4, c4, rfl, hsl⟩ := w_
  rw [List.length_map] at hsl ⊢
  refine cPl (MakeValue_spec hsg ht) fun v5 μ5 hle5 hR5 => ?_
  refine cGv (ContainsSymbol_spec ⟨#[97]⟩ (t.ap (asF g)) hR5 hto (T.good_wd hto.1)) ?_
  replace hss := hss.mono hle5
  replace hsg := hsg.mono hle5
  replace hb := hb.mono hle5
  replace hsl := hsl.mono hle5
  refine cGv (impl_MarksOk_spec hsl) ?_
  refine ifnd (fun q => absurd hlok q) (fun _ => ?_)
  refine iIn (fun _ => ?_) (fun q => nomatch q)
  refine cPl (free_spec (cap := c4) (cap2 := c2) hlg hsl hsg) fun v6 μ6 hle6 hR6 => ?_
  obtain rfl := hR6
  have eb : (!(decide (freeG l (asF g)) == !decide ((t.ap (asF g)).hasSym ⟨#[97]⟩)) : Bool) = false := by
   simp only [hyes, decide_not, beq_self_eq_true, Bool.not_true]
  refine iIn (fun q => absurd (eb.symm.trans q) (by decide)) (fun _ => ?_)
  refine iIn (fun q => nomatch q) (fun _ => ?_)
  replace hss := hss.mono hle6
  replace hsg := hsg.mono hle6
  replace hb := hb.mono hle6
  refine cPl (MakeSize_spec hb 62 0 3 (by decide) (by decide) (by decide) (by decide)) fun v7 μ7 hle7 hR => ?_
  obtain ⟨e7, x7, rfl, hx0, hx3⟩ := hR
  obtain rfl := e7.symm
  refine cPl (MakeSize_spec hb 63 4 7 (by decide) (by decide) (by decide) (by decide)) fun v8 μ8 hle8 hR => ?_
  obtain ⟨e8, y8, rfl, hy4, hy7⟩ := hR
  obtain rfl := e8.symm
  intro r2
  refine call_frz [1] ?_
  intro μ9 hle9 hno9 hat9
  have hraw : Sl μ9 2 (some ⟨r2, 0, none⟩) 2 (([Mk.mk x7 ⟨#[98]⟩, Mk.mk y8 ⟨#[97]⟩] : List Mk).map Mk.d) := by
   have := Rows.sl hat9 (ds := ([Mk.mk x7 ⟨#[98]⟩, Mk.mk y8 ⟨#[97]⟩] : List Mk).map Mk.d) (.cons ⟨_, rfl, RepS.int (RepS.str rfl)⟩ (Mk.d_n _) (.cons ⟨_, rfl, RepS.int (RepS.str rfl)⟩ (Mk.d_n _) .nil)) (show 2 ≤ maxLen by decide)
   have w_ := Rep.sl this
   obtain ⟨_, _, e, h⟩ := w_
   cases e
   exact h
  replace hss := hss.mono hle9
  replace hsg := hsg.mono hle9
  have hrk : marksOk [Mk.mk x7 ⟨#[98]⟩, Mk.mk y8 ⟨#[97]⟩] := by
   refine (marksOk_iff _).2 ⟨?_, fun c hc => ?_⟩
   ·refine List.pairwise_pair.2 (?_ : cMk _ _ < 0)
    have e : cInt x7 y8 = -1 := by unfold cInt sgn; rw [if_neg (by omega), decide_eq_true (show x7 < y8 by omega)]; rfl
    rw [cMk, e, lexI, if_neg (by decide)]; decide
   ·simp only [List.mem_cons, List.not_mem_nil, or_false] at hc
    rcases hc with rfl | rfl
    ·exact ⟨by show 0 ≤ x7 ∧ x7 ≤ 100000; omega, hnb⟩
    ·exact ⟨by show 0 ≤ y8 ∧ y8 ≤ 100000; omega, hna⟩
  have hrg2 : ∀ c ∈ [Mk.mk x7 ⟨#[98]⟩, Mk.mk y8 ⟨#[97]⟩], (asF g c.var).ok := fun c hc => hgo (((marksOk_iff _).1 hrk).2 c hc).1
  generalize hrawe : [Mk.mk x7 ⟨#[98]⟩, Mk.mk y8 ⟨#[97]⟩] = raw at *
  have hrl : raw.length = 2 := by rw [← hrawe]; rfl
  have href := impl_RefreshMarks_spec (s := s.map B.bd) (l := raw) (base := b1) (base2 := some ⟨r2, 0, none⟩) (cap := c1) (cap2 := 2) (by rw [List.length_map]; exact hss) (by rw [hrl]; exact hraw) (by omega)
  rw [List.length_map, hrl] at href
  have erk : ∀ l, marksOk l → refM (s.map B.bd) l = refMFrom s l [] := fun l hl => by rw [refM, if_pos ⟨(substOk_iff s).2 hS, hl⟩, B.map_b]
  rw [erk raw hrk] at href
  refine call_go href fun v10 μ10 hle10 hR10 => ?_
  replace hss := hss.mono hle10
  replace hsg := hsg.mono hle10
  replace hraw := hraw.mono hle10
  have hval : (∀ c ∈ raw, ¬ ((asF s c.var).ap (asF g)).hasSym c.tag) ↔ freeG raw (asF g) := by
   unfold freeG
   simp only [hab]
  cases hm : refMFrom s raw [] with
  | none =>
   rw [hm] at hR10
   obtain rfl := hR10
   have href2 := impl_RefreshMarks_spec (μ := μ10) (s := s.map B.bd) (l := []) (base := b1) (base2 := none) (cap := c1) (cap2 := 0) (by rw [List.length_map]; exact hss) ⟨rfl, Nat.zero_le _, fun i x h => by simp at h⟩ (Nat.zero_le _)
   rw [List.length_map] at href2
   refine cPl href2 fun v11 μ11 hle11 hR11 => ?_
   have w_ := optMk_fresh hR11
   obtain ⟨tv, rfl, _⟩ := w_
   refine iIn (fun _ => ?_) (fun q => nomatch q)
   have hks := free_spec (l := raw) (hok := hrg2) (base := some ⟨r2, 0, none⟩) (cap := 2) (cap2 := c2) (by rw [hrl]; exact hraw.mono hle11) (hsg.mono hle11)
   rw [hrl] at hks
   refine cPl hks fun v12 μ12 hle12 hR12 => ?_
   obtain rfl := hR12
   have hno := refM_none (θ := asF g) hm
   rw [hval] at hno
   refine rPl ?_
   rw [decide_eq_false hno]; rfl
  | some m =>
   rw [hm] at hR10
   obtain ⟨mv, rfl, hmv⟩ := hR10
   have w_ := Rep.sl hmv.rep
   obtain ⟨b5, c5, rfl, hsm⟩ := w_
   rw [List.length_map] at hsm ⊢
   have hmok : marksOk m := refMFrom_ok hS.vals.tok ((marksOk_iff raw).1 hrk).2 marksOk_nil hm
   have hmg : ∀ c ∈ m, (asF g c.var).ok := fun c hc => hgo (((marksOk_iff m).1 hmok).2 c hc).1
   have hml2 := refMFrom_len hS.vals.tok ((marksOk_iff raw).1 hrk).2 hm
   simp only [List.length_nil] at hml2
   have href2 := impl_RefreshMarks_spec (μ := μ10) (s := s.map B.bd) (l := m) (base := b1) (base2 := b5) (cap := c1) (cap2 := c5) (by rw [List.length_map]; exact hss) hsm (by omega)
   rw [List.length_map, erk m hmok] at href2
   rw [refM_same hS hm] at href2
   refine cPl href2 fun v11 μ11 hle11 hR11 => ?_
   obtain ⟨nv, rfl, hnv⟩ := hR11
   have w_ := Rep.sl hnv.rep
   obtain ⟨b6, c6, rfl, hsn⟩ := w_
   rw [List.length_map] at hsn ⊢
   refine iIn (fun q => nomatch q) (fun _ => ?_)
   refine cPl (free_spec (l := m) (hok := hmg) (cap := c5) (cap2 := c2) (hsm.mono hle11) (hsg.mono hle11)) fun v12 μ12 hle12 hR12 => ?_
   obtain rfl := hR12
   have hks := free_spec (μ := μ12) (l := raw) (hok := hrg2) (base := some ⟨r2, 0, none⟩) (cap := 2) (cap2 := c2) (by rw [hrl]; exact hraw.mono (hle11.trans hle12)) (hsg.mono (hle11.trans hle12))
   rw [hrl] at hks
   refine cPl hks fun v13 μ13 hle13 hR13 => ?_
   obtain rfl := hR13
   have hyes := refM_some (θ := asF g) hm
   rw [hval] at hyes
   have hyes : freeG m (asF g) ↔ freeG raw (asF g) := hyes.trans ⟨fun q => q.2, fun q => ⟨by simp [freeG], q⟩⟩
   have eb2 : (decide (freeG m (asF g)) == decide (freeG raw (asF g)) : Bool) = true := by
    simp only [hyes, beq_self_eq_true]
   refine iIn (fun _ => ?_) (fun q => absurd (eb2.symm.trans q) (by decide))
   refine iIn (fun _ => ?_) (fun q => nomatch q)
   refine rPl ?_
   rw [decide_eq_true rfl]
end
end Go.Vx
