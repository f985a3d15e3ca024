/- Texts of the proof, part M4. -/
import Derived.Test.YteomklpfifepdaaM3
namespace Go.Vx
open Go.Proofs Classical
def ClosedAt (c : Cl) (x r : Int) (S : List Int) : Prop := ∀ t, c.shp r = some t → ∀ u, t.occ u → c.rep u ≠ x ∧ (c.shp (c.rep u) ≠ none → c.rep u ∈ S)
theorem ClosedAt.mono {c : Cl} {x r : Int} {S S' : List Int} (h : ClosedAt c x r S) (k : ∀ n ∈ S, n ∈ S') : ClosedAt c x r S' := fun t ht u hu => ⟨(h t ht u hu).1, fun e => k _ ((h t ht u hu).2 e)⟩
structure GrownS (c : Cl) (x : Int) (K S S' : List Int) : Prop where
 sub : ∀ n ∈ S, n ∈ S'
 new : ∀ r ∈ S', r ∉ S → r ≠ x ∧ r ∈ K ∧ ClosedAt c x r S'
theorem GrownS.refl (c : Cl) (x : Int) (K S : List Int) : GrownS c x K S S := ⟨fun _ h => h, fun _ h k => absurd h k⟩
theorem GrownS.trans {c : Cl} {x : Int} {K S S' S'' : List Int} (h : GrownS c x K S S') (k : GrownS c x K S' S'') : GrownS c x K S S'' :=
 ⟨fun n hn => k.sub n (h.sub n hn), fun r hr hs => by
  by_cases e : r ∈ S'
  ·have := h.new r e hs; exact ⟨this.1, this.2.1, this.2.2.mono k.sub⟩
  ·exact k.new r hr e⟩
def CoverV (c : Cl) (x : Int) (S : List Int) (u : Int) : Prop := c.rep u ≠ x ∧ (c.shp (c.rep u) ≠ none → c.rep u ∈ S)
theorem CoverV.mono {c : Cl} {x u : Int} {S S' : List Int} (h : CoverV c x S u) (k : ∀ n ∈ S, n ∈ S') : CoverV c x S' u := ⟨h.1, fun e => k _ (h.2 e)⟩
def ReachR (c : Cl) (x : Int) (K S S' : List Int) (vs : List Int) (G : Prop) : Bool → Prop
 | true => G
 | false => GrownS c x K S S' ∧ ∀ u ∈ vs, CoverV c x S' u
theorem GrownS.add {c : Cl} {x r : Int} {K S S' : List Int} {t : T} (hr : r ≠ x) (hK : r ∈ K) (ht : c.shp r = some t) (h : GrownS c x K (S ++ [r]) S') (hc : ∀ u ∈ t.vars, CoverV c x S' u) : GrownS c x K S S' :=
 ⟨fun n hn => h.sub n (by simp [hn]), fun n hn hs => by
  by_cases e : n = r
  ·subst e
   refine ⟨hr, hK, fun t' ht' u hu => ?_⟩
   rw [ht] at ht'
   cases ht'
   exact hc u (T.occ_vars.1 hu)
  ·exact h.new n hn (by simp [hs, e])⟩
noncomputable def cntN (K S : List Int) : Nat := (K.filter fun n => decide (n ∉ S)).length
theorem cntN_le {K S S' : List Int} (h : ∀ n ∈ S, n ∈ S') : cntN K S' ≤ cntN K S := filter_le fun n _ k => by
 simp only [decide_eq_true_eq] at k ⊢
 exact fun e => k (h n e)
theorem cntN_lt {K S : List Int} {r : Int} (hK : r ∈ K) (hS : r ∉ S) : cntN K (S ++ [r]) < cntN K S := filter_lt (fun n _ k => by
 simp only [decide_eq_true_eq] at k ⊢
 exact fun e => k (by simp [e])) r hK (by simp) (by simpa using hS)
theorem Shut.of {c : Cl} {x : Int} {K S' : List Int} {t : T} (h : ReachR c x K [] S' t.vars (c.TReach x t) false) : c.Shut x t :=
 ⟨fun r => r ∈ S', fun r hr => (h.1.new r hr (by simp)).2.2, fun r hr => (h.1.new r hr (by simp)).1, fun u hu => h.2 u (T.occ_vars.1 hu)⟩
section
theorem eachVar_relM {S : Type} (J : S → Mem → Mem → Prop) (step : S → Int → S) (Q : S → Int → Prop) {k : FuncId} {caps : List Value} {μ : Mem}
  (hc : ∀ s μ' h n, μ.Le μ' → Q s n → J s μ' h → SpecH Try.prog k (.int .i64 n :: caps) μ' h fun r μ'' h' => r = .tuple #[] ∧ J (step s n) μ'' h') :
  ∀ (x : T) {v : Value} (s : S) (μ' h : Mem), μ.Le μ' → RepV μ' x.tm.d v → (∀ pre n post, x.vars = pre ++ n :: post → Q (pre.foldl step s) n) → J s μ' h → SpecH Try.prog 63 [v, .func (.func k) #[] caps.toArray] μ' h fun r μ'' h' => r = .tuple #[] ∧ J (x.vars.foldl step s) μ'' h'
 | .var n, v, s, μ', h, hm, hv, hq, hj => by
  have w_ := Tm.inv hv
  obtain ⟨base, cap, rfl, hsl⟩ := w_
  refine SpecH.mk [] Try.func63 (by kernel_rfl) ?_
  intro r
  refine ifd (fun _ => ?_) (fun h => absurd rfl h)
  refine cOw (hc s μ' h n hm (hq [] n [] rfl) hj) fun v μ'' h' hle hap hR => ?_
  obtain ⟨rfl, hj'⟩ := hR
  refine ifd (fun h => absurd h (by decide)) (fun _ => ?_)
  exact rPl ⟨rfl, hj'⟩
 | .nil, v, s, μ', h, hm, hv, hq, hj => by
  have w_ := Tm.inv hv
  obtain ⟨base, cap, rfl, hsl⟩ := w_
  refine SpecH.mk [] Try.func63 (by kernel_rfl) ?_
  intro r
  refine ifd (fun h => absurd h (by decide)) (fun _ => ?_)
  refine ifd (fun h => absurd h (by decide)) (fun _ => ?_)
  exact rPl ⟨rfl, hj⟩
 | .sym _, v, s, μ', h, hm, hv, hq, hj => by
  have w_ := Tm.inv hv
  obtain ⟨base, cap, rfl, hsl⟩ := w_
  refine SpecH.mk [] Try.func63 (by kernel_rfl) ?_
  intro r
  refine ifd (fun h => absurd h (by decide)) (fun _ => ?_)
  refine ifd (fun h => absurd h (by decide)) (fun _ => ?_)
  exact rPl ⟨rfl, hj⟩
 | .num _, v, s, μ', h, hm, hv, hq, hj => by
  have w_ := Tm.inv hv
  obtain ⟨base, cap, rfl, hsl⟩ := w_
  refine SpecH.mk [] Try.func63 (by kernel_rfl) ?_
  intro r
  refine ifd (fun h => absurd h (by decide)) (fun _ => ?_)
  refine ifd (fun h => absurd h (by decide)) (fun _ => ?_)
  exact rPl ⟨rfl, hj⟩
 | .pair a b, v, s, μ', h, hm, hv, hq, hj => by
  have w_ := Tm.inv hv
  obtain ⟨base, cap, rfl, hsl⟩ := w_
  have w_ := T.parts hsl
  obtain ⟨ad, ad', p, p', h1, h2, hra, hrb⟩ := w_
  refine SpecH.mk [] Try.func63 (by kernel_rfl) ?_
  intro r
  refine ifd (fun h => absurd h (by decide)) (fun _ => ?_)
  refine ifd (fun _ => ?_) (fun h => absurd rfl h)
  refine eIn h1 (cOw (eachVar_relM J step Q hc a s μ' h hm hra (fun pre n post e => hq pre n (post ++ b.vars) (by simp [T.vars, e])) hj) fun v μ1 h' hle hap hR => ?_)
  obtain ⟨rfl, hj'⟩ := hR
  refine eIn (h2.mono hle) (cOw (eachVar_relM J step Q hc b _ μ1 h' (hm.trans hle) (hrb.mono hle) (fun pre n post e => by
   have := hq (a.vars ++ pre) n post (by simp [T.vars, e])
   rwa [List.foldl_append] at this) hj') fun v μ2 h'' hle2 hap2 hR => ?_)
  obtain ⟨rfl, hj''⟩ := hR
  exact rPl ⟨rfl, by simpa [T.vars, List.foldl_append] using hj''⟩
end
theorem foldl_snoc' {α : Type} : ∀ (l s : List α), l.foldl (fun s n => s ++ [n]) s = s ++ l
 | [], s => by simp
 | a :: l, s => by rw [List.foldl_cons, foldl_snoc' l]; simp
structure SeenAt (lm : List (Value × Value)) (S : List Int) : Prop where
 ok : MapOk IntKey lm
 get : ∀ n, mget lm (.int .i64 n) = if n ∈ S then some (.bool true) else none
theorem SeenAt.nil : SeenAt [] [] := ⟨MapOk.nil, fun _ => rfl⟩
theorem SeenAt.add {lm : List (Value × Value)} {S : List Int} (h : SeenAt lm S) (r : Int) : SeenAt (mset lm (.int .i64 r) (.bool true)) (S ++ [r]) :=
 ⟨h.ok.int _, fun n => by
  rw [mget_int, h.get]
  by_cases e : n = r
  ·rw [if_pos e, if_pos (by simp [e])]
  ·rw [if_neg e]
   by_cases k : n ∈ S
   ·rw [if_pos k, if_pos (by simp [k])]
   ·rw [if_neg k, if_neg (by simp [k, e])]⟩
section
variable {R : ClRefs} {c : Cl} {K : List Int} {lk lz lf : List (Value × Value)} {P : T → Prop} {x : Int}
structure RchInv (μ : Mem) (R : ClRefs) (c : Cl) (K : List Int) (lk lz lf : List (Value × Value)) (x : Int) (rm rf : Nat) (G : Prop) (S : List Int) (h0 : Mem) (pre : List Int) (h : Mem) : Prop where
 cl : ClInv μ R c K lk lz lf h
 ex : ∃ b S' lm, h rm = some (mapO lm) ∧ SeenAt lm S' ∧ h rf = some (.cells #[.bool b] 4 (0, 0)) ∧ ReachR c x K S S' pre G b
 fr : Fr [R.u, rm, rf] h0 h
def RchSpec (R : ClRefs) (c : Cl) (K : List Int) (lk lz lf : List (Value × Value)) (x : Int) (m : Nat) (P : T → Prop) : Prop :=
 ∀ ⦃μ h : Mem⦄ ⦃t : T⦄ ⦃v : Value⦄ ⦃rm : Nat⦄ ⦃lm : List (Value × Value)⦄ ⦃S : List Int⦄, cntN K S < m → P t → RepV μ t.tm.d v → ClInv μ R c K lk lz lf h → h rm = some (mapO lm) → rm ∉ R.l → SeenAt lm S →
  SpecH Try.prog 133 [.pointer (some ⟨R.c, 0, none⟩), v, .int .i64 x, .map (some rm)] μ h fun r μ' h' => ∃ b S' lm', r = .bool b ∧ ClInv μ' R c K lk lz lf h' ∧ h' rm = some (mapO lm') ∧ SeenAt lm' S' ∧ Fr [R.u, rm] h h' ∧ ReachR c x K S S' t.vars (c.TReach x t) b
theorem reaches1_spec {μ h : Mem} {m bc bx bs rm rf : Nat} {v : Int} {G : Prop} {S : List Int} {h0 : Mem} {pre : List Int} (ih : RchSpec R c K lk lz lf x m P) (hS : cntN K S ≤ m) (hv : v ∈ K) (hG : c.Reach x (c.rep v) → G) (hin : c.In K P) (hle : ∀ v, c.rep v ≤ v) (hid : ∀ v, c.rep (c.rep v) = c.rep v)
  (hbc : μ bc = some (.cells #[.pointer (some ⟨R.c, 0, none⟩)] 124 (0, 0))) (hbx : μ bx = some (.cells #[.int .i64 x] 3 (0, 0))) (hbs : μ bs = some (.cells #[.map (some rm)] 109 (0, 0)))
  (hrm : rm ∉ R.l) (hrf : rf ∉ R.l) (hne : rm ≠ rf) (H : RchInv μ R c K lk lz lf x rm rf G S h0 pre h) :
  SpecH Try.prog 162 [.int .i64 v, .pointer (some ⟨bc, 0, none⟩), .pointer (some ⟨rf, 0, none⟩), .pointer (some ⟨bx, 0, none⟩), .pointer (some ⟨bs, 0, none⟩)] μ h fun r μ' h' => r = .tuple #[] ∧ RchInv μ' R c K lk lz lf x rm rf G S h0 (pre ++ [v]) h' := by
 obtain ⟨hcl, ⟨b, S1, lm, e1, e2, e3, e4⟩, hfr⟩ := H
 have hu : R.u ∈ R.l := by simp [ClRefs.l]
 have n1 : rm ≠ R.u := fun e => hrm (by rw [e]; exact hu)
 have n2 : rf ≠ R.u := fun e => hrf (by rw [e]; exact hu)
 refine SpecH.mk [] Try.func162 (by kernel_rfl) ?_
 refine ext_intro [.pointer (some ⟨R.c, 0, none⟩)] rfl (box_at hbc) ?_
 refine cOw (root_spec v hle hcl) fun r μ1 h1 hle1 hap1 hR => ?_
 obtain ⟨rfl, e, hcl1, hfr1⟩ := hR
 obtain rfl := e.symm
 rw [ord_of_mem hv] at hcl1
 have f1 : h1 rm = some (mapO lm) := hfr1.at e1 (by simpa using n1)
 have f3 : h1 rf = some (.cells #[.bool b] 4 (0, 0)) := hfr1.at e3 (by simpa using n2)
 have hfr1' : Fr [R.u, rm, rf] h0 h1 := hfr.trans (hfr1.weaken (by simp))
 have hrK := hin.rep v hv
 generalize hr : c.rep v = r at *
 have hrr : c.rep r = r := by rw [← hr]; exact hid v
 refine oIn [.bool b] rfl (box_at f3) ?_
 cases b with
 | true =>
  refine iIn (fun _ => ?_) (fun h => nomatch h)
  refine sIn [.bool true] 4 f3 rfl (Nat.le_refl _) ?_
  refine rPl ⟨rfl, ?_, ⟨true, S1, lm, ?_, e2, Mem.set_at _ _ _, e4⟩, hfr1'.trans (Fr.set (by simp))⟩
  ·exact hcl1.off (Fr.set (l := [rf]) (by simp)) (by simpa using hrf)
  ·show (Mem.set h1 rf _) rm = _
   rw [Mem.set_ne hne]; exact f1
 | false =>
  refine iIn (fun h => nomatch h) (fun _ => ?_)
  refine ext_intro [.int .i64 x] rfl (box_at hbx) ?_
  refine ifd (fun hx => ?_) (fun hx => ?_)
  ·refine sIn [.bool false] 4 f3 rfl (Nat.le_refl _) ?_
   refine rPl ⟨rfl, ?_, ⟨true, S1, lm, ?_, e2, Mem.set_at _ _ _, hG (by rw [hx]; exact .here)⟩, hfr1'.trans (Fr.set (by simp))⟩
   ·exact hcl1.off (Fr.set (l := [rf]) (by simp)) (by simpa using hrf)
   ·show (Mem.set h1 rf _) rm = _
    rw [Mem.set_ne hne]; exact f1
  refine ext_intro [.map (some rm)] rfl (box_at hbs) ?_
  have w_ := hcl1.ex
  obtain ⟨lu, ls, ld, hat, hup, hs, hd, hsh⟩ := w_
  by_cases hrS : r ∈ S1
  ·refine look_intro lm (some (.bool true)) f1 (e2.ok.weaken (by rintro _ ⟨n, rfl⟩; rfl)) rfl (by rw [e2.get, if_pos hrS]) ?_
   refine iIn (fun h => nomatch h) (fun _ => ?_)
   refine rPl ⟨rfl, hcl1, ⟨false, S1, lm, f1, e2, f3, e4.1, fun u hu => ?_⟩, hfr1'⟩
   rcases List.mem_append.1 hu with hu | hu
   ·exact e4.2 u hu
   ·rw [List.mem_singleton] at hu
    subst hu
    exact ⟨by rw [hr]; exact hx, fun _ => by rw [hr]; exact hrS⟩
  refine look_intro lm none f1 (e2.ok.weaken (by rintro _ ⟨n, rfl⟩; rfl)) rfl (by rw [e2.get, if_neg hrS]) ?_
  refine iIn (fun _ => ?_) (fun h => nomatch h)
  refine ext_intro [.pointer (some ⟨R.c, 0, none⟩)] rfl (box_at hbc) ?_
  refine oIn [.map (some R.d)] rfl (fld_at hat.c rfl) ?_
  cases hsr : c.shp r with
  | none =>
   refine look_intro ld none hat.d (hd.weaken (by rintro _ ⟨n, rfl⟩; rfl)) rfl (hsh.none hrr hsr) ?_
   refine iIn (fun h => nomatch h) (fun _ => ?_)
   refine rPl ⟨rfl, hcl1, ⟨false, S1, lm, f1, e2, f3, e4.1, fun u hu => ?_⟩, hfr1'⟩
   rcases List.mem_append.1 hu with hu | hu
   ·exact e4.2 u hu
   ·rw [List.mem_singleton] at hu
    subst hu
    exact ⟨by rw [hr]; exact hx, fun k => by rw [hr] at k; exact absurd hsr k⟩
  | some t =>
   have w_ := hsh.some hrr hsr
   obtain ⟨g1, tv, g2, g3⟩ := w_
   refine look_intro ld (some (.bool true)) hat.d (hd.weaken (by rintro _ ⟨n, rfl⟩; rfl)) rfl g1 ?_
   refine iIn (fun _ => ?_) (fun h => nomatch h)
   refine ext_intro [.map (some rm)] rfl (box_at hbs) ?_
   refine upd_intro lm f1 (e2.ok.weaken (by rintro _ ⟨n, rfl⟩; rfl)) rfl ?_
   have s2 := e2.add r
   have f1' : (h1.set rm (mapO (mset lm (.int .i64 r) (.bool true)))) rm = some (mapO (mset lm (.int .i64 r) (.bool true))) := Mem.set_at _ _ _
   have f3' : (h1.set rm (mapO (mset lm (.int .i64 r) (.bool true)))) rf = some (.cells #[.bool false] 4 (0, 0)) := by rw [Mem.set_ne hne.symm]; exact f3
   have hfr2 : Fr [R.u, rm, rf] h0 (h1.set rm (mapO (mset lm (.int .i64 r) (.bool true)))) := hfr1'.trans (Fr.set (by simp))
   have hcl2 := hcl1.off (h' := h1.set rm (mapO (mset lm (.int .i64 r) (.bool true)))) (Fr.set (l := [rm]) (by simp)) (by simpa using hrm)
   generalize hh2 : h1.set rm (mapO (mset lm (.int .i64 r) (.bool true))) = h2 at *
   have hat2 : ClAt R h2 lu ls ld lk lz lf := by
    subst hh2; exact hat.off (Fr.set (l := [rm]) (by simp)) (by simpa using hrm)
   have w_ := Tm.invV g3
   obtain ⟨q, rfl⟩ := w_
   refine ext_intro [.pointer (some ⟨R.c, 0, none⟩)] rfl (box_at hbc) ?_
   refine ext_intro [.pointer (some ⟨R.c, 0, none⟩)] rfl (box_at hbc) ?_
   refine oIn [.map (some R.s)] rfl (fld_at hat2.c rfl) ?_
   refine look_intro ls (some _) hat2.s (hs.weaken (by rintro _ ⟨n, rfl⟩; rfl)) rfl g2 ?_
   refine ext_intro [.int .i64 x] rfl (box_at hbx) ?_
   refine ext_intro [.map (some rm)] rfl (box_at hbs) ?_
   have hcnt : cntN K (S1 ++ [r]) < m := Nat.lt_of_lt_of_le (cntN_lt hrK hrS) (Nat.le_trans (cntN_le e4.1.sub) hS)
   refine cOw (ih hcnt (hin.shp r t hsr).2 g3 hcl2 f1' hrm s2) fun v3 μ3 h3 hle3 hap3 hR3 => ?_
   obtain ⟨b3, S3, lm3, rfl, k1, k2, k3, k4, k5⟩ := hR3
   have f5 : h3 rf = some (.cells #[.bool false] 4 (0, 0)) := k4.at f3' (by simp only [List.mem_cons, List.not_mem_nil, or_false, not_or]; exact ⟨n2, hne.symm⟩)
   refine sIn [.bool false] 4 f5 rfl (Nat.le_refl _) ?_
   refine rPl ⟨rfl, k1.off (Fr.set (l := [rf]) (by simp)) (by simpa using hrf), ⟨b3, S3, lm3, ?_, k3, Mem.set_at _ _ _, ?_⟩, (hfr2.trans (k4.weaken (by simp))).trans (Fr.set (by simp))⟩
   ·show (Mem.set h3 rf _) rm = _
    rw [Mem.set_ne hne]; exact k2
   ·cases b3 with
    | true =>
     obtain ⟨u, hu, hr3⟩ := k5
     exact hG (.step hx hsr hu hr3)
    | false =>
     have gr : GrownS c x K S1 S3 := k5.1.add hx hrK hsr k5.2
     refine ⟨e4.1.trans gr, fun u hu => ?_⟩
     rcases List.mem_append.1 hu with hu | hu
     ·exact (e4.2 u hu).mono gr.sub
     ·rw [List.mem_singleton] at hu
      subst hu
      exact ⟨by rw [hr]; exact hx, fun _ => by rw [hr]; exact k5.1.sub r (by simp)⟩
theorem reaches_spec (hin : c.In K P) (hP : ∀ t, P t → t.inN K) (hle : ∀ v, c.rep v ≤ v) (hid : ∀ v, c.rep (c.rep v) = c.rep v) : ∀ m, RchSpec R c K lk lz lf x m P
 | 0 => by
  intro μ h t v rm lm S hS
  exact absurd hS (Nat.not_lt_zero _)
 | m + 1 => by
  intro μ h t v rm lm S hS ht hv hcl hrm hrm2 hsn
  have w_ := Tm.invV hv
  obtain ⟨q, rfl⟩ := w_
  refine SpecH.mk [9] Try.func133 (by kernel_rfl) ?_
  intro r0 r1 r2 r3
  intro rf hmf hof
  replace hof : h rf = none := hof
  have n1 : rm ≠ rf := fun e => by subst e; rw [hrm] at hof; cases hof
  have hrf : rf ∉ R.l := fun e => hcl.dom rf e hof
  refine sIn [.bool false] 4 (Mem.set_at _ _ _) rfl (Nat.le_refl _) ?_
  generalize hh : Mem.set (Mem.set _ rf _) rf _ = h0
  have e0 : Fr [rf] h h0 := by subst hh; exact (Fr.set (by simp)).trans (Fr.set (by simp))
  have ef : h0 rf = some (.cells #[.bool false] 4 (0, 0)) := by subst hh; rw [Mem.set_at]; rfl
  have em : h0 rm = some (mapO lm) := e0.at hrm (by simpa using n1)
  refine call_gen [0, 2, 3] [] (fun _ => rfl) ?_
  intro μ1 hle1 _ hat0 μ2 hle2 _ hat2 μ3 hle3 _ hat3
  have hle13 := hle1.trans (hle2.trans hle3)
  replace hle13 : μ.Le μ3 := hle13
  have hbc := hle3 _ _ (hle2 _ _ hat0)
  have hbx := hle3 _ _ hat2
  have I0 : RchInv μ3 R c K lk lz lf x rm rf (c.TReach x t) S h0 [] h0 := ⟨(hcl.mono hle13).off e0 (by simpa using hrf), ⟨false, S, lm, em, hsn, ef, GrownS.refl _ _ _ _, fun u hu => by simp at hu⟩, Fr.refl _ _⟩
  refine own_go (eachVar_relM (μ := μ3) (fun pre μ' h' => RchInv μ' R c K lk lz lf x rm rf (c.TReach x t) S h0 pre h') (fun pre n => pre ++ [n]) (fun _ n => n ∈ t.vars)
   (fun pre μ' h' n hm hn hj => reaches1_spec (m := m) (reaches_spec hin hP hle hid m) (Nat.le_of_lt_succ hS) (hP t ht n (T.occ_vars.2 hn)) (fun k => ⟨n, T.occ_vars.2 hn, k⟩) hin hle hid (hm _ _ hbc) (hm _ _ hbx) (hm _ _ hat3) hrm2 hrf n1 hj)
   t [] μ3 h0 (Mem.Le.refl _) (hv.mono hle13) (fun pre n post e => by rw [e]; simp) I0) fun v4 μ4 h4 hle4 hap4 hR => ?_
  obtain ⟨rfl, hj⟩ := hR
  rw [foldl_snoc', List.nil_append] at hj
  obtain ⟨g1, ⟨b, S', lm', g2, g3, g4, g5⟩, g6⟩ := hj
  refine oIn [.bool b] rfl (box_at g4) ?_
  refine rPl ⟨b, S', lm', rfl, g1, g2, g3, fun y hy hl => ?_, g5⟩
  have hyf : y ≠ rf := fun e => hy (by rw [e]; exact hof)
  have e1 := e0 y hy (by simpa using hyf)
  show h4 y = h y
  rw [g6 y (by rw [e1]; exact hy) (by simp only [List.mem_cons, List.not_mem_nil, or_false, not_or] at hl ⊢; exact ⟨hl.1, hl.2, hyf⟩), e1]
end
end Go.Vx
namespace Go.Vx
open Go.Proofs Classical
theorem ShpAt.shape {μ : Mem} {c : Cl} {ls ld : List (Value × Value)} {x : Int} {t : T} {v : Value} (h : ShpAt μ c ls ld) (hv : RepV μ t.tm.d v) : ShpAt μ (c.shape x t) (mset ls (.int .i64 x) v) (mset ld (.int .i64 x) (.bool true)) := fun z hz => by
 have hz : c.rep z = z := hz
 by_cases e : z = x
 ·subst e
  have e2 : (c.shape z t).shp z = Option.some t := by simp [Cl.shape]
  rw [e2]
  exact ⟨by rw [mget_int, if_pos rfl], v, by rw [mget_int, if_pos rfl], hv⟩
 ·have e2 : (c.shape x t).shp z = c.shp z := by simp only [Cl.shape]; rw [if_neg e]
  rw [e2]
  cases k : c.shp z with
  | none => show mget _ _ = Option.none; rw [mget_int, if_neg e]; exact h.none hz k
  | some u =>
   have w_ := h.some hz k
   obtain ⟨h1, w, h2, h3⟩ := w_
   exact ⟨by rw [mget_int, if_neg e]; exact h1, w, by rw [mget_int, if_neg e]; exact h2, h3⟩
theorem UpAt.merge {c c' : Cl} {K : List Int} {lu : List (Value × Value)} {x y : Int} (h : UpAt c K lu) (hx : c.rep x = x) (hy : c.rep y = y) (hlt : x < y) (hxK : x ∈ K) (hyK : y ∈ K) (e : c'.rep = (c.merge x y).rep) : UpAt c' K (mset lu (.int .i64 y) (.int .i64 x)) := by
 obtain ⟨hok, p, hp, hget, hout, hin⟩ := h
 refine ⟨hok.int _, fun n => if n = y then x else p n, ⟨fun v => ?_, fun v => ?_, fun v k => ?_⟩, fun n => ?_, fun n hn => ?_, fun n hn => ?_⟩
 ·show (if v = y then x else p v) ≤ v
  split
  ·omega
  ·exact hp.le v
 ·show c'.rep (if v = y then x else p v) = c'.rep v
  rw [e]
  simp only [Cl.merge]
  by_cases k : v = y
  ·rw [if_pos k, hx, k, hy, if_pos rfl, if_neg (by omega)]
  ·rw [if_neg k, hp.up]
 ·have k : (if v = y then x else p v) = v := k
  rw [e]
  simp only [Cl.merge]
  by_cases k2 : v = y
  ·rw [if_pos k2] at k; omega
  ·rw [if_neg k2] at k
   rw [hp.top v k, if_neg k2]
 ·show _ = if n ∈ K then some (Value.int .i64 (if n = y then x else p n)) else none
  rw [mget_int, hget]
  by_cases k : n = y
  ·subst k; rw [if_pos rfl, if_pos hyK, if_pos rfl]
  ·rw [if_neg k, if_neg k]
 ·show (if n = y then x else p n) = n
  rw [if_neg fun k => hn (by rw [k]; exact hyK)]; exact hout n hn
 ·show (if n = y then x else p n) ∈ K
  split
  ·exact hxK
  ·exact hin n hn
theorem ShpAt.merge {μ : Mem} {c c' : Cl} {ls ld : List (Value × Value)} {x y : Int} (h : ShpAt μ c ls ld) (hy : c.rep y = y) (hlt : x < y) (e : c'.rep = (c.merge x y).rep) (e2 : ∀ z, z ≠ y → c'.shp z = c.shp z) (hx : c.rep x = x) : ShpAt μ c' ls ld := fun z hz => by
 rw [e] at hz
 have hz : (if c.rep z = y then x else c.rep z) = z := hz
 have hzy : z ≠ y := fun k => by
  rw [k, hy, if_pos rfl] at hz; omega
 have hzr : c.rep z = z := by
  split at hz
  ·rw [← hz]; exact hx
  ·exact hz
 rw [e2 z hzy]
 exact h z hzr
section
variable {μ : Mem} {R : ClRefs} {c : Cl} {K : List Int} {lk lz lf : List (Value × Value)} {P : T → Prop} {x : Int}
def FoundR (c : Cl) (x : Int) (t : T) : Bool → Prop
 | true => c.TReach x t
 | false => c.Shut x t
theorem search_spec {h : Mem} {t : T} {v : Value} {rm : Nat} (hin : c.In K P) (hP : ∀ t, P t → t.inN K) (hle : ∀ v, c.rep v ≤ v) (hid : ∀ v, c.rep (c.rep v) = c.rep v) (ht : P t) (hv : RepV μ t.tm.d v) (H : ClInv μ R c K lk lz lf h) (hrm : h rm = some (mapO [])) (hrm2 : rm ∉ R.l) :
  SpecH Try.prog 133 [.pointer (some ⟨R.c, 0, none⟩), v, .int .i64 x, .map (some rm)] μ h fun r μ' h' => ∃ b, r = .bool b ∧ ClInv μ' R c K lk lz lf h' ∧ FoundR c x t b :=
 (reaches_spec (x := x) hin hP hle hid _ (Nat.lt_succ_self _) ht hv H hrm hrm2 SeenAt.nil).weaken fun r μ' h' _ _ hR => by
  obtain ⟨b, S', lm', rfl, g1, g2, g3, g4, g5⟩ := hR
  refine ⟨b, rfl, g1, ?_⟩
  cases b with
  | true => exact g5
  | false => exact Shut.of g5
theorem know_spec {h : Mem} {t : T} {v : Value} (hin : (c.shape x t).In K P) (hP : ∀ t, P t → t.inN K) (hle : ∀ v, c.rep v ≤ v) (hid : ∀ v, c.rep (c.rep v) = c.rep v) (ht : P t) (hv : RepV μ t.tm.d v) (H : ClInv μ R c K lk lz lf h) :
  SpecH Try.prog 134 [.pointer (some ⟨R.c, 0, none⟩), .int .i64 x, v] μ h fun r μ' h' => ∃ b, r = .bool (!b) ∧ ClInv μ' R (c.shape x t) K lk lz lf h' ∧ FoundR (c.shape x t) x t b := by
 have w_ := Tm.invV hv
 obtain ⟨q, rfl⟩ := w_
 have w_ := H.ex
 obtain ⟨lu, ls, ld, hat, hup, hs, hd, hsh⟩ := w_
 refine SpecH.mk [21] Try.func134 (by kernel_rfl) ?_
 intro r0
 refine oIn [.map (some R.s)] rfl (fld_at hat.c rfl) ?_
 refine upd_intro ls hat.s (hs.weaken (by rintro _ ⟨n, rfl⟩; rfl)) rfl ?_
 have b1 := hat.setS (l := mset ls (.int .i64 x) (.agg #[.int .i64 t.tm.kind, .int .i64 t.tm.num, .string t.tm.name, .slice q.1 t.tm.args.length q.2]))
 refine oIn [.map (some R.d)] rfl (fld_at b1.c rfl) ?_
 refine upd_intro ld b1.d (hd.weaken (by rintro _ ⟨n, rfl⟩; rfl)) rfl ?_
 have b2 := b1.setD (l := mset ld (.int .i64 x) (.bool true))
 generalize hh : Mem.set (Mem.set _ R.s _) R.d _ = h2 at *
 intro rm hm ho
 replace ho : h2 rm = none := ho
 have hrm : rm ∉ R.l := fun e => b2.dom rm e ho
 have e2 : Fr [rm] h2 (h2.set rm (mapO [])) := Fr.set (by simp)
 have H2 : ClInv μ R (c.shape x t) K lk lz lf (h2.set rm (mapO [])) := ⟨_, _, _, b2.off e2 (by simpa using hrm), ⟨hup.ok, hup.at_⟩, hs.int _, hd.int _, hsh.shape hv⟩
 refine cOw (search_spec (x := x) hin hP hle hid ht hv H2 (Mem.set_at _ _ _) hrm) fun r μ3 h3 hle3 hap3 hR => ?_
 obtain ⟨b, rfl, g1, g2⟩ := hR
 exact rPl ⟨b, rfl, g1, g2⟩
end
end Go.Vx
namespace Go.Vx
open Go.Proofs Classical
theorem T.var_or (a : T) : (∃ n, a = .var n) ∨ ∀ m, a ≠ .var m := by
 cases a with
 | var n => exact .inl ⟨n, rfl⟩
 | _ => exact .inr (fun m h => nomatch h)
theorem T.pair_or (a : T) : (∃ p q, a = .pair p q) ∨ a.tm.kind ≠ 4 := by
 cases a with
 | pair p q => exact .inl ⟨p, q, rfl⟩
 | _ => exact .inr (by simp [T.tm, Tm.kind])
theorem T.atom_eq {a b : T} (h : a.tm.kind ≠ 4) (h1 : a.tm.kind = b.tm.kind) (h2 : a.tm.num = b.tm.num) (h3 : a.tm.name = b.tm.name) : a = b := by
 cases a <;> cases b <;> simp_all [T.tm, Tm.kind, Tm.num, Tm.name]
theorem T.kind_nv {a : T} (h : ∀ m, a ≠ .var m) : a.tm.kind ≠ 1 := by
 cases a with
 | var n => exact absurd rfl (h n)
 | _ => simp [T.tm, Tm.kind]
def vk : T → T → Nat
 | .var _, .var _ => 0
 | .var _, _ => 1
 | _, .var _ => 2
 | _, _ => 0
theorem vk_vn {n : Int} {b : T} (h : ∀ m, b ≠ .var m) : vk (.var n) b = 1 := by
 cases b with
 | var m => exact absurd rfl (h m)
 | _ => rfl
theorem vk_nv {n : Int} {a : T} (h : ∀ m, a ≠ .var m) : vk a (.var n) = 2 := by
 cases a with
 | var m => exact absurd rfl (h m)
 | _ => rfl
theorem vk_nn {a b : T} (h : ∀ m, a ≠ .var m) (k : ∀ m, b ≠ .var m) : vk a b = 0 := by
 cases a with
 | var m => exact absurd rfl (h m)
 | _ =>
  cases b with
  | var m => exact absurd rfl (k m)
  | _ => rfl
theorem vk_le (a b : T) : vk a b ≤ 2 := by
 cases a <;> cases b <;> simp [vk]
noncomputable def eqMeas (val : Int → T) (a b : T) : Nat := 3 * ((a.ap val).size + (b.ap val).size) + vk a b
section
variable {R : ClRefs} {K : List Int} {lk lz lf : List (Value × Value)} {P : T → Prop}
def EqSpec (R : ClRefs) (K : List Int) (lk lz lf : List (Value × Value)) (P : T → Prop) (M s : Nat) : Prop :=
 ∀ ⦃μ h : Mem⦄ ⦃c : Cl⦄ ⦃a b : T⦄ ⦃va vb : Value⦄ ⦃val : Int → T⦄, c.M K ≤ M → c.IsVal val → eqMeas val a b ≤ s → c.Good → c.In K P → P a → P b → RepV μ a.tm.d va → RepV μ b.tm.d vb → ClInv μ R c K lk lz lf h →
  SpecH Try.prog 108 [.pointer (some ⟨R.c, 0, none⟩), va, vb] μ h fun r μ' h' => ∃ o c', r = .bool o ∧ EqR K P c a b o c' ∧ (o = true → ClInv μ' R c' K lk lz lf h')
set_option maxHeartbeats 4000000 in
theorem equal_all (hP : ∀ t, P t → t.inN K) (hPp : ∀ a b, P (.pair a b) → P a ∧ P b) : ∀ M s, EqSpec R K lk lz lf P M s := by
 intro M
 induction M using Nat.strongRecOn with
 | _ M ihM =>
 intro s
 induction s using Nat.strongRecOn with
 | _ s ihs =>
 intro μ h c a b va vb val hM hval hs hg hi ha hb hva hvb H
 have hg0 := hg
 obtain ⟨rank, hok⟩ := hg0
 have hle := hok.le
 have hid := hok.idem
 rcases T.var_or a with ⟨n, rfl⟩ | han
 ·have w_ := Tm.invV hva
  obtain ⟨qa, rfl⟩ := w_
  have w_ := Tm.invV hvb
  obtain ⟨qb, rfl⟩ := w_
  have hn : n ∈ K := hP _ ha n rfl
  rcases T.var_or b with ⟨m, rfl⟩ | hbn
  ·have hm : m ∈ K := hP _ hb m rfl
   refine SpecH.mk [65, 89, 101] Try.func108 (by kernel_rfl) ?_
   intro r4 r5
   refine ifd (fun _ => ?_) (fun h => absurd rfl h)
   refine ifd (fun _ => ?_) (fun h => absurd rfl h)
   refine cOw (root_spec n hle H) fun r μ1 h1 hle1 hap1 hR => ?_
   obtain ⟨rfl, e, H1, hfr1⟩ := hR
   obtain rfl := e.symm
   rw [ord_of_mem hn] at H1
   refine cOw (root_spec m hle H1) fun r μ1 h2 hle1 hap1 hR => ?_
   obtain ⟨rfl, e, H2, hfr2⟩ := hR
   obtain rfl := e.symm
   rw [ord_of_mem hm] at H2
   refine ifd (fun he => ?_) (fun he => ?_)
   ·exact rPl ⟨true, c, rfl, hg.same hi fun θ k => by show θ n = θ m; rw [← k.1 n, ← k.1 m, he], fun _ => H2⟩
   have hx2 := hid n
   have hy2 := hid m
   have hxK := hi.rep n hn
   have hyK := hi.rep m hm
   generalize hxe : c.rep n = x at hx2 hxK he ⊢
   generalize hye : c.rep m = y at hy2 hyK he ⊢
   refine ifd (fun hlt => ?_) (fun hlt => ?_)
   ·replace H2 : ClInv μ R c K lk lz lf h2 := H2
    have w_ := H2.ex
    obtain ⟨lu, ls, ld, hat, hup, hs, hd, hsh⟩ := w_
    have hmok := Cl.merge_ok hok hy2 hx2 hlt
    have hmin := Cl.merge_in hi hyK hxK hx2
    refine oIn [.map (some R.u)] rfl (fld_at hat.c rfl) ?_
    refine upd_intro lu hat.u (hup.ok.weaken (by rintro _ ⟨n, rfl⟩; rfl)) rfl ?_
    have b1 := hat.setU (l := mset lu (.int .i64 x) (.int .i64 y))
    generalize Mem.set h2 R.u _ = h3 at *
    refine oIn [.map (some R.d)] rfl (fld_at b1.c rfl) ?_
    cases hsy : c.shp x with
    | none =>
     refine look_intro ld none b1.d (hd.weaken (by rintro _ ⟨n, rfl⟩; rfl)) rfl (hsh.none hx2 hsy) ?_
     refine iIn (fun _ => ?_) (fun h => nomatch h)
     refine oIn [.map (some R.d)] rfl (fld_at b1.c rfl) ?_
     cases hsx : c.shp y with
     | none =>
      refine look_intro ld none b1.d (hd.weaken (by rintro _ ⟨n, rfl⟩; rfl)) rfl (hsh.none hy2 hsx) ?_
      refine iIn (fun _ => ?_) (fun h => nomatch h)
      refine rPl ⟨true, c.merge y x, rfl, EqR.merge hg hi hn hm (.inr ⟨hxe, hye⟩) hlt hsx hsy, fun _ => ⟨_, ls, ld, b1, hup.merge hy2 hx2 hlt hyK hxK rfl, hs, hd, hsh.merge hx2 hlt rfl (fun z hz => ?_) hy2⟩⟩
      simp only [Cl.merge]
      by_cases k : z = y
      ·rw [if_pos (.inl k), k, hsx]
      ·rw [if_neg (fun e => e.elim k hz)]
     | some t =>
      have w_ := hsh.some hy2 hsx
      obtain ⟨g1, tv, g2, g3⟩ := w_
      have ht := (hi.shp _ _ hsx).2
      refine look_intro ld (some (.bool true)) b1.d (hd.weaken (by rintro _ ⟨n, rfl⟩; rfl)) rfl g1 ?_
      refine iIn (fun h => nomatch h) (fun _ => ?_)
      refine oIn [.map (some R.s)] rfl (fld_at b1.c rfl) ?_
      have w_ := Tm.invV g3
      obtain ⟨q, rfl⟩ := w_
      refine look_intro ls (some _) b1.s (hs.weaken (by rintro _ ⟨n, rfl⟩; rfl)) rfl g2 ?_
      intro rm hrm ho
      replace ho : h3 rm = none := ho
      have hrl : rm ∉ R.l := fun e => b1.dom rm e ho
      have H3 : ClInv μ R ((c.merge y x).shape y t) K lk lz lf (h3.set rm (mapO [])) := ⟨_, ls, ld, b1.off (L := [rm]) (Fr.set (by simp)) (by simpa using hrl), hup.merge hy2 hx2 hlt hyK hxK rfl, hs, hd, hsh.merge hx2 hlt rfl (fun z hz => by
       show (if z = y then some t else (c.merge y x).shp z) = c.shp z
       simp only [Cl.merge]
       by_cases k : z = y
       ·rw [if_pos k, k, hsx]
       ·rw [if_neg k, if_neg (fun e => e.elim k hz)]) hy2⟩
      refine cOw (search_spec (x := y) (Cl.shape_in hmin hyK ht) hP hmok.le hmok.idem ht g3 H3 (Mem.set_at _ _ _) hrl) fun r μ4 h4 hle4 hap4 hR => ?_
      obtain ⟨b, rfl, k1, k2⟩ := hR
      have hm1 := Cl.merge1 (c2 := c) hg hi hn hm (.inr ⟨hxe, hye⟩) hlt ⟨.inl ⟨hsx, hsy⟩⟩
      cases b with
      | true => exact rPl ⟨false, c, rfl, hm1.1 k2, fun h => nomatch h⟩
      | false => exact rPl ⟨true, _, rfl, hm1.2 k2, fun _ => k1⟩
    | some u =>
     have w_ := hsh.some hx2 hsy
     obtain ⟨g1, tv, g2, g3⟩ := w_
     have hu := (hi.shp _ _ hsy).2
     refine look_intro ld (some (.bool true)) b1.d (hd.weaken (by rintro _ ⟨n, rfl⟩; rfl)) rfl g1 ?_
     refine iIn (fun h => nomatch h) (fun _ => ?_)
     refine oIn [.map (some R.s)] rfl (fld_at b1.c rfl) ?_
     have w_ := Tm.invV g3
     obtain ⟨q, rfl⟩ := w_
     refine look_intro ls (some _) b1.s (hs.weaken (by rintro _ ⟨n, rfl⟩; rfl)) rfl g2 ?_
     intro r9
     refine oIn [.map (some R.d)] rfl (fld_at b1.c rfl) ?_
     cases hsx : c.shp y with
     | none =>
      refine look_intro ld none b1.d (hd.weaken (by rintro _ ⟨n, rfl⟩; rfl)) rfl (hsh.none hy2 hsx) ?_
      refine iIn (fun _ => ?_) (fun h => nomatch h)
      have H3 : ClInv μ R (c.merge y x) K lk lz lf h3 := ⟨_, ls, ld, b1, hup.merge hy2 hx2 hlt hyK hxK rfl, hs, hd, hsh.merge hx2 hlt rfl (fun z hz => by
       simp only [Cl.merge]
       by_cases k : z = y
       ·rw [if_pos (.inl k), k, hsx]
       ·rw [if_neg (fun e => e.elim k hz)]) hy2⟩
      refine cOw (know_spec (x := y) (t := u) (Cl.shape_in hmin hyK hu) hP hmok.le hmok.idem hu g3 H3) fun r μ4 h4 hle4 hap4 hR => ?_
      obtain ⟨b, rfl, k1, k2⟩ := hR
      have hm1 := Cl.merge1 (c2 := c) hg hi hn hm (.inr ⟨hxe, hye⟩) hlt ⟨.inr ⟨hsx, hsy⟩⟩
      cases b with
      | true => exact rPl ⟨false, c, rfl, hm1.1 k2, fun h => nomatch h⟩
      | false => exact rPl ⟨true, _, rfl, hm1.2 k2, fun _ => k1⟩
     | some t =>
      have w_ := hsh.some hy2 hsx
      obtain ⟨g1', tv', g2', g3'⟩ := w_
      have ht := (hi.shp _ _ hsx).2
      refine look_intro ld (some (.bool true)) b1.d (hd.weaken (by rintro _ ⟨n, rfl⟩; rfl)) rfl g1' ?_
      refine iIn (fun h => nomatch h) (fun _ => ?_)
      have H3 : ClInv μ R ((c.merge y x).shape y t) K lk lz lf h3 := ⟨_, ls, ld, b1, hup.merge hy2 hx2 hlt hyK hxK rfl, hs, hd, hsh.merge hx2 hlt rfl (fun z hz => by
       show (if z = y then some t else (c.merge y x).shp z) = c.shp z
       simp only [Cl.merge]
       by_cases k : z = y
       ·rw [if_pos k, k, hsx]
       ·rw [if_neg k, if_neg (fun e => e.elim k hz)]) hy2⟩
      have hm2 := Cl.merge2 (c2 := c) hg hi hn hm (.inr ⟨hxe, hye⟩) hlt hsx hsy
      refine fun rm hrm ho => ?_
      replace ho : h3 rm = none := ho
      have hrl : rm ∉ R.l := fun e => b1.dom rm e ho
      have H4 := H3.off (L := [rm]) (h' := h3.set rm (mapO [])) (Fr.set (by simp)) (by simpa using hrl)
      refine cOw (search_spec (x := y) (Cl.shape_in hmin hyK ht) hP hmok.le hmok.idem hu g3 H4 (Mem.set_at _ _ _) hrl) fun r μ4 h4 hle4 hap4 hR => ?_
      obtain ⟨b, rfl, k1, k2⟩ := hR
      cases b with
      | true =>
       refine iIn (fun h => nomatch h) (fun _ => ?_)
       refine And.intro (And.intro ?_ (And.intro ?_ trivial)) (And.intro ?_ trivial)
       ·exact rPl ⟨false, c, rfl, hm2.1 k2, fun h => nomatch h⟩
       ·exact rPl ⟨false, c, rfl, hm2.1 k2, fun h => nomatch h⟩
       ·exact rPl ⟨false, c, rfl, hm2.1 k2, fun h => nomatch h⟩
      | false =>
       refine iIn (fun _ => ?_) (fun h => nomatch h)
       replace k1 : ClInv μ4 R ((c.merge y x).shape y t) K lk lz lf h4 := k1
       have hle4' : μ.Le μ4 := hle4
       have w_ := k1.ex
       obtain ⟨lu2, ls2, ld2, at2, up2, s2, d2, sh2⟩ := w_
       have hxs : ((c.merge y x).shape y t).rep y = y := by
        show (if c.rep y = x then y else c.rep y) = y
        rw [hy2, if_neg (by omega)]
       have w_ := sh2.some hxs (t := t) (by simp [Cl.shape])
       obtain ⟨f1, tv2, f2, f3⟩ := w_
       have w_ := Tm.invV f3
       obtain ⟨q2, rfl⟩ := w_
       refine And.intro ?_ (And.intro ?_ trivial)
       ·refine oIn [.map (some R.s)] rfl (fld_at at2.c rfl) ?_
        refine And.intro ?_ (And.intro ?_ trivial)
        ·refine look_intro ls2 (some _) at2.s (s2.weaken (by rintro _ ⟨n, rfl⟩; rfl)) rfl f2 ?_
         refine fun rm2 hrm2 ho2 => ?_
         replace ho2 : h4 rm2 = none := ho2
         have hrl2' : rm2 ∉ R.l := fun e => at2.dom rm2 e ho2
         have k1' := k1.off (L := [rm2]) (h' := h4.set rm2 (mapO [])) (Fr.set (by simp)) (by simpa using hrl2')
         refine cOw (search_spec (x := y) (Cl.shape_in hmin hyK ht) hP hmok.le hmok.idem ht f3 k1' (Mem.set_at _ _ _) hrl2') fun r μ5 h5 hle5 hap5 hR => ?_
         obtain ⟨b, rfl, j1, j2⟩ := hR
         cases b with
         | true =>
          refine iIn (fun h => nomatch h) (fun _ => ?_)
          exact rPl ⟨false, c, rfl, hm2.2.1 j2, fun h => nomatch h⟩
         | false =>
          refine iIn (fun _ => ?_) (fun h => nomatch h)
          replace j1 : ClInv μ5 R ((c.merge y x).shape y t) K lk lz lf h5 := j1
          have hle5' : μ4.Le μ5 := hle5
          have w_ := j1.ex
          obtain ⟨lu5, ls5, ld5, at5, up5, s5, d5, sh5⟩ := w_
          have w_ := sh5.some hxs (t := t) (by simp [Cl.shape])
          obtain ⟨f1', tv5, f2', f3'⟩ := w_
          have w_ := Tm.invV f3'
          obtain ⟨q5, rfl⟩ := w_
          have hm3 := hm2.2.2 j2
          refine oIn [.map (some R.s)] rfl (fld_at at5.c rfl) ?_
          refine look_intro ls5 (some _) at5.s (s5.weaken (by rintro _ ⟨n, rfl⟩; rfl)) rfl f2' ?_
          obtain ⟨rank2, hok2⟩ := hm3.1
          have w_ := hok2.has_val
          obtain ⟨val2, hval2⟩ := w_
          refine cOw (ihM _ (Nat.lt_of_lt_of_le hm3.2.2.1 hM) _ (Nat.le_refl _) hval2 (Nat.le_refl _) hm3.1 hm3.2.1 ht hu f3' (RepV.mono (hle4'.trans hle5') g3) j1) fun r μ6 h6 hle6 hap6 hR => ?_
          obtain ⟨o, c6, rfl, l1, l2⟩ := hR
          exact rPl ⟨o, c6, rfl, hm3.2.2.2 o c6 l1, l2⟩
        ·refine fun rm2 hrm2 ho2 => ?_
         replace ho2 : h4 rm2 = none := ho2
         have e2 := Fr.set (l := [rm2]) (h := h4) (r := rm2) (o := mapO []) (by simp)
         have hrl2 : rm2 ∉ R.l := fun e => at2.dom rm2 e ho2
         have at3 := at2.off e2 (by simpa using hrl2)
         refine look_intro ls2 (some _) at3.s (s2.weaken (by rintro _ ⟨n, rfl⟩; rfl)) rfl f2 ?_
         replace ho2 : h4 rm2 = none := ho2
         have hrl2' : rm2 ∉ R.l := fun e => at2.dom rm2 e ho2
         have k1' := k1.off (L := [rm2]) (h' := h4.set rm2 (mapO [])) (Fr.set (by simp)) (by simpa using hrl2')
         refine cOw (search_spec (x := y) (Cl.shape_in hmin hyK ht) hP hmok.le hmok.idem ht f3 k1' (Mem.set_at _ _ _) hrl2') fun r μ5 h5 hle5 hap5 hR => ?_
         obtain ⟨b, rfl, j1, j2⟩ := hR
         cases b with
         | true =>
          refine iIn (fun h => nomatch h) (fun _ => ?_)
          exact rPl ⟨false, c, rfl, hm2.2.1 j2, fun h => nomatch h⟩
         | false =>
          refine iIn (fun _ => ?_) (fun h => nomatch h)
          replace j1 : ClInv μ5 R ((c.merge y x).shape y t) K lk lz lf h5 := j1
          have hle5' : μ4.Le μ5 := hle5
          have w_ := j1.ex
          obtain ⟨lu5, ls5, ld5, at5, up5, s5, d5, sh5⟩ := w_
          have w_ := sh5.some hxs (t := t) (by simp [Cl.shape])
          obtain ⟨f1', tv5, f2', f3'⟩ := w_
          have w_ := Tm.invV f3'
          obtain ⟨q5, rfl⟩ := w_
          have hm3 := hm2.2.2 j2
          refine oIn [.map (some R.s)] rfl (fld_at at5.c rfl) ?_
          refine look_intro ls5 (some _) at5.s (s5.weaken (by rintro _ ⟨n, rfl⟩; rfl)) rfl f2' ?_
          obtain ⟨rank2, hok2⟩ := hm3.1
          have w_ := hok2.has_val
          obtain ⟨val2, hval2⟩ := w_
          refine cOw (ihM _ (Nat.lt_of_lt_of_le hm3.2.2.1 hM) _ (Nat.le_refl _) hval2 (Nat.le_refl _) hm3.1 hm3.2.1 ht hu f3' (RepV.mono (hle4'.trans hle5') g3) j1) fun r μ6 h6 hle6 hap6 hR => ?_
          obtain ⟨o, c6, rfl, l1, l2⟩ := hR
          exact rPl ⟨o, c6, rfl, hm3.2.2.2 o c6 l1, l2⟩
       ·refine fun rm2 hrm2 ho2 => ?_
        replace ho2 : h4 rm2 = none := ho2
        have e2 := Fr.set (l := [rm2]) (h := h4) (r := rm2) (o := mapO []) (by simp)
        have hrl2 : rm2 ∉ R.l := fun e => at2.dom rm2 e ho2
        have at3 := at2.off e2 (by simpa using hrl2)
        refine oIn [.map (some R.s)] rfl (fld_at at3.c rfl) ?_
        refine look_intro ls2 (some _) at3.s (s2.weaken (by rintro _ ⟨n, rfl⟩; rfl)) rfl f2 ?_
        replace ho2 : h4 rm2 = none := ho2
        have hrl2' : rm2 ∉ R.l := fun e => at2.dom rm2 e ho2
        have k1' := k1.off (L := [rm2]) (h' := h4.set rm2 (mapO [])) (Fr.set (by simp)) (by simpa using hrl2')
        refine cOw (search_spec (x := y) (Cl.shape_in hmin hyK ht) hP hmok.le hmok.idem ht f3 k1' (Mem.set_at _ _ _) hrl2') fun r μ5 h5 hle5 hap5 hR => ?_
        obtain ⟨b, rfl, j1, j2⟩ := hR
        cases b with
        | true =>
         refine iIn (fun h => nomatch h) (fun _ => ?_)
         exact rPl ⟨false, c, rfl, hm2.2.1 j2, fun h => nomatch h⟩
        | false =>
         refine iIn (fun _ => ?_) (fun h => nomatch h)
         replace j1 : ClInv μ5 R ((c.merge y x).shape y t) K lk lz lf h5 := j1
         have hle5' : μ4.Le μ5 := hle5
         have w_ := j1.ex
         obtain ⟨lu5, ls5, ld5, at5, up5, s5, d5, sh5⟩ := w_
         have w_ := sh5.some hxs (t := t) (by simp [Cl.shape])
         obtain ⟨f1', tv5, f2', f3'⟩ := w_
         have w_ := Tm.invV f3'
         obtain ⟨q5, rfl⟩ := w_
         have hm3 := hm2.2.2 j2
         refine oIn [.map (some R.s)] rfl (fld_at at5.c rfl) ?_
         refine look_intro ls5 (some _) at5.s (s5.weaken (by rintro _ ⟨n, rfl⟩; rfl)) rfl f2' ?_
         obtain ⟨rank2, hok2⟩ := hm3.1
         have w_ := hok2.has_val
         obtain ⟨val2, hval2⟩ := w_
         refine cOw (ihM _ (Nat.lt_of_lt_of_le hm3.2.2.1 hM) _ (Nat.le_refl _) hval2 (Nat.le_refl _) hm3.1 hm3.2.1 ht hu f3' (RepV.mono (hle4'.trans hle5') g3) j1) fun r μ6 h6 hle6 hap6 hR => ?_
         obtain ⟨o, c6, rfl, l1, l2⟩ := hR
         exact rPl ⟨o, c6, rfl, hm3.2.2.2 o c6 l1, l2⟩
   ·replace hlt : x < y := by omega
    replace H2 : ClInv μ R c K lk lz lf h2 := H2
    have w_ := H2.ex
    obtain ⟨lu, ls, ld, hat, hup, hs, hd, hsh⟩ := w_
    have hmok := Cl.merge_ok hok hx2 hy2 hlt
    have hmin := Cl.merge_in hi hxK hyK hy2
    refine oIn [.map (some R.u)] rfl (fld_at hat.c rfl) ?_
    refine upd_intro lu hat.u (hup.ok.weaken (by rintro _ ⟨n, rfl⟩; rfl)) rfl ?_
    have b1 := hat.setU (l := mset lu (.int .i64 y) (.int .i64 x))
    generalize Mem.set h2 R.u _ = h3 at *
    refine oIn [.map (some R.d)] rfl (fld_at b1.c rfl) ?_
    cases hsy : c.shp y with
    | none =>
     refine look_intro ld none b1.d (hd.weaken (by rintro _ ⟨n, rfl⟩; rfl)) rfl (hsh.none hy2 hsy) ?_
     refine iIn (fun _ => ?_) (fun h => nomatch h)
     refine oIn [.map (some R.d)] rfl (fld_at b1.c rfl) ?_
     cases hsx : c.shp x with
     | none =>
      refine look_intro ld none b1.d (hd.weaken (by rintro _ ⟨n, rfl⟩; rfl)) rfl (hsh.none hx2 hsx) ?_
      refine iIn (fun _ => ?_) (fun h => nomatch h)
      refine rPl ⟨true, c.merge x y, rfl, EqR.merge hg hi hn hm (.inl ⟨hxe, hye⟩) hlt hsx hsy, fun _ => ⟨_, ls, ld, b1, hup.merge hx2 hy2 hlt hxK hyK rfl, hs, hd, hsh.merge hy2 hlt rfl (fun z hz => ?_) hx2⟩⟩
      simp only [Cl.merge]
      by_cases k : z = x
      ·rw [if_pos (.inl k), k, hsx]
      ·rw [if_neg (fun e => e.elim k hz)]
     | some t =>
      have w_ := hsh.some hx2 hsx
      obtain ⟨g1, tv, g2, g3⟩ := w_
      have ht := (hi.shp _ _ hsx).2
      refine look_intro ld (some (.bool true)) b1.d (hd.weaken (by rintro _ ⟨n, rfl⟩; rfl)) rfl g1 ?_
      refine iIn (fun h => nomatch h) (fun _ => ?_)
      refine oIn [.map (some R.s)] rfl (fld_at b1.c rfl) ?_
      have w_ := Tm.invV g3
      obtain ⟨q, rfl⟩ := w_
      refine look_intro ls (some _) b1.s (hs.weaken (by rintro _ ⟨n, rfl⟩; rfl)) rfl g2 ?_
      intro rm hrm ho
      replace ho : h3 rm = none := ho
      have hrl : rm ∉ R.l := fun e => b1.dom rm e ho
      have H3 : ClInv μ R ((c.merge x y).shape x t) K lk lz lf (h3.set rm (mapO [])) := ⟨_, ls, ld, b1.off (L := [rm]) (Fr.set (by simp)) (by simpa using hrl), hup.merge hx2 hy2 hlt hxK hyK rfl, hs, hd, hsh.merge hy2 hlt rfl (fun z hz => by
       show (if z = x then some t else (c.merge x y).shp z) = c.shp z
       simp only [Cl.merge]
       by_cases k : z = x
       ·rw [if_pos k, k, hsx]
       ·rw [if_neg k, if_neg (fun e => e.elim k hz)]) hx2⟩
      refine cOw (search_spec (x := x) (Cl.shape_in hmin hxK ht) hP hmok.le hmok.idem ht g3 H3 (Mem.set_at _ _ _) hrl) fun r μ4 h4 hle4 hap4 hR => ?_
      obtain ⟨b, rfl, k1, k2⟩ := hR
      have hm1 := Cl.merge1 (c2 := c) hg hi hn hm (.inl ⟨hxe, hye⟩) hlt ⟨.inl ⟨hsx, hsy⟩⟩
      cases b with
      | true => exact rPl ⟨false, c, rfl, hm1.1 k2, fun h => nomatch h⟩
      | false => exact rPl ⟨true, _, rfl, hm1.2 k2, fun _ => k1⟩
    | some u =>
     have w_ := hsh.some hy2 hsy
     obtain ⟨g1, tv, g2, g3⟩ := w_
     have hu := (hi.shp _ _ hsy).2
     refine look_intro ld (some (.bool true)) b1.d (hd.weaken (by rintro _ ⟨n, rfl⟩; rfl)) rfl g1 ?_
     refine iIn (fun h => nomatch h) (fun _ => ?_)
     refine oIn [.map (some R.s)] rfl (fld_at b1.c rfl) ?_
     have w_ := Tm.invV g3
     obtain ⟨q, rfl⟩ := w_
     refine look_intro ls (some _) b1.s (hs.weaken (by rintro _ ⟨n, rfl⟩; rfl)) rfl g2 ?_
     intro r9
     refine oIn [.map (some R.d)] rfl (fld_at b1.c rfl) ?_
     cases hsx : c.shp x with
     | none =>
      refine look_intro ld none b1.d (hd.weaken (by rintro _ ⟨n, rfl⟩; rfl)) rfl (hsh.none hx2 hsx) ?_
      refine iIn (fun _ => ?_) (fun h => nomatch h)
      have H3 : ClInv μ R (c.merge x y) K lk lz lf h3 := ⟨_, ls, ld, b1, hup.merge hx2 hy2 hlt hxK hyK rfl, hs, hd, hsh.merge hy2 hlt rfl (fun z hz => by
       simp only [Cl.merge]
       by_cases k : z = x
       ·rw [if_pos (.inl k), k, hsx]
       ·rw [if_neg (fun e => e.elim k hz)]) hx2⟩
      refine cOw (know_spec (x := x) (t := u) (Cl.shape_in hmin hxK hu) hP hmok.le hmok.idem hu g3 H3) fun r μ4 h4 hle4 hap4 hR => ?_
      obtain ⟨b, rfl, k1, k2⟩ := hR
      have hm1 := Cl.merge1 (c2 := c) hg hi hn hm (.inl ⟨hxe, hye⟩) hlt ⟨.inr ⟨hsx, hsy⟩⟩
      cases b with
      | true => exact rPl ⟨false, c, rfl, hm1.1 k2, fun h => nomatch h⟩
      | false => exact rPl ⟨true, _, rfl, hm1.2 k2, fun _ => k1⟩
     | some t =>
      have w_ := hsh.some hx2 hsx
      obtain ⟨g1', tv', g2', g3'⟩ := w_
      have ht := (hi.shp _ _ hsx).2
      refine look_intro ld (some (.bool true)) b1.d (hd.weaken (by rintro _ ⟨n, rfl⟩; rfl)) rfl g1' ?_
      refine iIn (fun h => nomatch h) (fun _ => ?_)
      have H3 : ClInv μ R ((c.merge x y).shape x t) K lk lz lf h3 := ⟨_, ls, ld, b1, hup.merge hx2 hy2 hlt hxK hyK rfl, hs, hd, hsh.merge hy2 hlt rfl (fun z hz => by
       show (if z = x then some t else (c.merge x y).shp z) = c.shp z
       simp only [Cl.merge]
       by_cases k : z = x
       ·rw [if_pos k, k, hsx]
       ·rw [if_neg k, if_neg (fun e => e.elim k hz)]) hx2⟩
      have hm2 := Cl.merge2 (c2 := c) hg hi hn hm (.inl ⟨hxe, hye⟩) hlt hsx hsy
      refine fun rm hrm ho => ?_
      replace ho : h3 rm = none := ho
      have hrl : rm ∉ R.l := fun e => b1.dom rm e ho
      have H4 := H3.off (L := [rm]) (h' := h3.set rm (mapO [])) (Fr.set (by simp)) (by simpa using hrl)
      refine cOw (search_spec (x := x) (Cl.shape_in hmin hxK ht) hP hmok.le hmok.idem hu g3 H4 (Mem.set_at _ _ _) hrl) fun r μ4 h4 hle4 hap4 hR => ?_
      obtain ⟨b, rfl, k1, k2⟩ := hR
      cases b with
      | true =>
       refine iIn (fun h => nomatch h) (fun _ => ?_)
       refine And.intro (And.intro ?_ (And.intro ?_ trivial)) (And.intro ?_ trivial)
       ·exact rPl ⟨false, c, rfl, hm2.1 k2, fun h => nomatch h⟩
       ·exact rPl ⟨false, c, rfl, hm2.1 k2, fun h => nomatch h⟩
       ·exact rPl ⟨false, c, rfl, hm2.1 k2, fun h => nomatch h⟩
      | false =>
       refine iIn (fun _ => ?_) (fun h => nomatch h)
       replace k1 : ClInv μ4 R ((c.merge x y).shape x t) K lk lz lf h4 := k1
       have hle4' : μ.Le μ4 := hle4
       have w_ := k1.ex
       obtain ⟨lu2, ls2, ld2, at2, up2, s2, d2, sh2⟩ := w_
       have hxs : ((c.merge x y).shape x t).rep x = x := by
        show (if c.rep x = y then x else c.rep x) = x
        rw [hx2, if_neg (by omega)]
       have w_ := sh2.some hxs (t := t) (by simp [Cl.shape])
       obtain ⟨f1, tv2, f2, f3⟩ := w_
       have w_ := Tm.invV f3
       obtain ⟨q2, rfl⟩ := w_
       refine And.intro ?_ (And.intro ?_ trivial)
       ·refine oIn [.map (some R.s)] rfl (fld_at at2.c rfl) ?_
        refine And.intro ?_ (And.intro ?_ trivial)
        ·refine look_intro ls2 (some _) at2.s (s2.weaken (by rintro _ ⟨n, rfl⟩; rfl)) rfl f2 ?_
         refine fun rm2 hrm2 ho2 => ?_
         replace ho2 : h4 rm2 = none := ho2
         have hrl2' : rm2 ∉ R.l := fun e => at2.dom rm2 e ho2
         have k1' := k1.off (L := [rm2]) (h' := h4.set rm2 (mapO [])) (Fr.set (by simp)) (by simpa using hrl2')
         refine cOw (search_spec (x := x) (Cl.shape_in hmin hxK ht) hP hmok.le hmok.idem ht f3 k1' (Mem.set_at _ _ _) hrl2') fun r μ5 h5 hle5 hap5 hR => ?_
         obtain ⟨b, rfl, j1, j2⟩ := hR
         cases b with
         | true =>
          refine iIn (fun h => nomatch h) (fun _ => ?_)
          exact rPl ⟨false, c, rfl, hm2.2.1 j2, fun h => nomatch h⟩
         | false =>
          refine iIn (fun _ => ?_) (fun h => nomatch h)
          replace j1 : ClInv μ5 R ((c.merge x y).shape x t) K lk lz lf h5 := j1
          have hle5' : μ4.Le μ5 := hle5
          have w_ := j1.ex
          obtain ⟨lu5, ls5, ld5, at5, up5, s5, d5, sh5⟩ := w_
          have w_ := sh5.some hxs (t := t) (by simp [Cl.shape])
          obtain ⟨f1', tv5, f2', f3'⟩ := w_
          have w_ := Tm.invV f3'
          obtain ⟨q5, rfl⟩ := w_
          have hm3 := hm2.2.2 j2
          refine oIn [.map (some R.s)] rfl (fld_at at5.c rfl) ?_
          refine look_intro ls5 (some _) at5.s (s5.weaken (by rintro _ ⟨n, rfl⟩; rfl)) rfl f2' ?_
          obtain ⟨rank2, hok2⟩ := hm3.1
          have w_ := hok2.has_val
          obtain ⟨val2, hval2⟩ := w_
          refine cOw (ihM _ (Nat.lt_of_lt_of_le hm3.2.2.1 hM) _ (Nat.le_refl _) hval2 (Nat.le_refl _) hm3.1 hm3.2.1 ht hu f3' (RepV.mono (hle4'.trans hle5') g3) j1) fun r μ6 h6 hle6 hap6 hR => ?_
          obtain ⟨o, c6, rfl, l1, l2⟩ := hR
          exact rPl ⟨o, c6, rfl, hm3.2.2.2 o c6 l1, l2⟩
        ·refine fun rm2 hrm2 ho2 => ?_
         replace ho2 : h4 rm2 = none := ho2
         have e2 := Fr.set (l := [rm2]) (h := h4) (r := rm2) (o := mapO []) (by simp)
         have hrl2 : rm2 ∉ R.l := fun e => at2.dom rm2 e ho2
         have at3 := at2.off e2 (by simpa using hrl2)
         refine look_intro ls2 (some _) at3.s (s2.weaken (by rintro _ ⟨n, rfl⟩; rfl)) rfl f2 ?_
         replace ho2 : h4 rm2 = none := ho2
         have hrl2' : rm2 ∉ R.l := fun e => at2.dom rm2 e ho2
         have k1' := k1.off (L := [rm2]) (h' := h4.set rm2 (mapO [])) (Fr.set (by simp)) (by simpa using hrl2')
         refine cOw (search_spec (x := x) (Cl.shape_in hmin hxK ht) hP hmok.le hmok.idem ht f3 k1' (Mem.set_at _ _ _) hrl2') fun r μ5 h5 hle5 hap5 hR => ?_
         obtain ⟨b, rfl, j1, j2⟩ := hR
         cases b with
         | true =>
          refine iIn (fun h => nomatch h) (fun _ => ?_)
          exact rPl ⟨false, c, rfl, hm2.2.1 j2, fun h => nomatch h⟩
         | false =>
          refine iIn (fun _ => ?_) (fun h => nomatch h)
          replace j1 : ClInv μ5 R ((c.merge x y).shape x t) K lk lz lf h5 := j1
          have hle5' : μ4.Le μ5 := hle5
          have w_ := j1.ex
          obtain ⟨lu5, ls5, ld5, at5, up5, s5, d5, sh5⟩ := w_
          have w_ := sh5.some hxs (t := t) (by simp [Cl.shape])
          obtain ⟨f1', tv5, f2', f3'⟩ := w_
          have w_ := Tm.invV f3'
          obtain ⟨q5, rfl⟩ := w_
          have hm3 := hm2.2.2 j2
          refine oIn [.map (some R.s)] rfl (fld_at at5.c rfl) ?_
          refine look_intro ls5 (some _) at5.s (s5.weaken (by rintro _ ⟨n, rfl⟩; rfl)) rfl f2' ?_
          obtain ⟨rank2, hok2⟩ := hm3.1
          have w_ := hok2.has_val
          obtain ⟨val2, hval2⟩ := w_
          refine cOw (ihM _ (Nat.lt_of_lt_of_le hm3.2.2.1 hM) _ (Nat.le_refl _) hval2 (Nat.le_refl _) hm3.1 hm3.2.1 ht hu f3' (RepV.mono (hle4'.trans hle5') g3) j1) fun r μ6 h6 hle6 hap6 hR => ?_
          obtain ⟨o, c6, rfl, l1, l2⟩ := hR
          exact rPl ⟨o, c6, rfl, hm3.2.2.2 o c6 l1, l2⟩
       ·refine fun rm2 hrm2 ho2 => ?_
        replace ho2 : h4 rm2 = none := ho2
        have e2 := Fr.set (l := [rm2]) (h := h4) (r := rm2) (o := mapO []) (by simp)
        have hrl2 : rm2 ∉ R.l := fun e => at2.dom rm2 e ho2
        have at3 := at2.off e2 (by simpa using hrl2)
        refine oIn [.map (some R.s)] rfl (fld_at at3.c rfl) ?_
        refine look_intro ls2 (some _) at3.s (s2.weaken (by rintro _ ⟨n, rfl⟩; rfl)) rfl f2 ?_
        replace ho2 : h4 rm2 = none := ho2
        have hrl2' : rm2 ∉ R.l := fun e => at2.dom rm2 e ho2
        have k1' := k1.off (L := [rm2]) (h' := h4.set rm2 (mapO [])) (Fr.set (by simp)) (by simpa using hrl2')
        refine cOw (search_spec (x := x) (Cl.shape_in hmin hxK ht) hP hmok.le hmok.idem ht f3 k1' (Mem.set_at _ _ _) hrl2') fun r μ5 h5 hle5 hap5 hR => ?_
        obtain ⟨b, rfl, j1, j2⟩ := hR
        cases b with
        | true =>
         refine iIn (fun h => nomatch h) (fun _ => ?_)
         exact rPl ⟨false, c, rfl, hm2.2.1 j2, fun h => nomatch h⟩
        | false =>
         refine iIn (fun _ => ?_) (fun h => nomatch h)
         replace j1 : ClInv μ5 R ((c.merge x y).shape x t) K lk lz lf h5 := j1
         have hle5' : μ4.Le μ5 := hle5
         have w_ := j1.ex
         obtain ⟨lu5, ls5, ld5, at5, up5, s5, d5, sh5⟩ := w_
         have w_ := sh5.some hxs (t := t) (by simp [Cl.shape])
         obtain ⟨f1', tv5, f2', f3'⟩ := w_
         have w_ := Tm.invV f3'
         obtain ⟨q5, rfl⟩ := w_
         have hm3 := hm2.2.2 j2
         refine oIn [.map (some R.s)] rfl (fld_at at5.c rfl) ?_
         refine look_intro ls5 (some _) at5.s (s5.weaken (by rintro _ ⟨n, rfl⟩; rfl)) rfl f2' ?_
         obtain ⟨rank2, hok2⟩ := hm3.1
         have w_ := hok2.has_val
         obtain ⟨val2, hval2⟩ := w_
         refine cOw (ihM _ (Nat.lt_of_lt_of_le hm3.2.2.1 hM) _ (Nat.le_refl _) hval2 (Nat.le_refl _) hm3.1 hm3.2.1 ht hu f3' (RepV.mono (hle4'.trans hle5') g3) j1) fun r μ6 h6 hle6 hap6 hR => ?_
         obtain ⟨o, c6, rfl, l1, l2⟩ := hR
         exact rPl ⟨o, c6, rfl, hm3.2.2.2 o c6 l1, l2⟩
  ·have hbk := T.kind_nv hbn
   refine SpecH.mk [65, 89, 101] Try.func108 (by kernel_rfl) ?_
   intro r4 r5
   refine ifd (fun _ => ?_) (fun h => absurd rfl h)
   refine ifd (fun h => absurd h hbk) (fun _ => ?_)
   refine ifd (fun _ => ?_) (fun h => absurd rfl h)
   refine cOw (root_spec n hle H) fun r μ1 h1 hle1 hap1 hR => ?_
   obtain ⟨rfl, e, H1, hfr1⟩ := hR
   obtain rfl := e.symm
   rw [ord_of_mem hn] at H1
   replace H1 : ClInv μ R c K lk lz lf h1 := H1
   have hx2 := hid n
   have hxK := hi.rep n hn
   generalize hxe : c.rep n = x at hx2 hxK ⊢
   have w_ := H1.ex
   obtain ⟨lu, ls, ld, hat, hup, hs', hd, hsh⟩ := w_
   refine oIn [.map (some R.d)] rfl (fld_at hat.c rfl) ?_
   cases hsx : c.shp x with
   | none =>
    refine look_intro ld none hat.d (hd.weaken (by rintro _ ⟨n, rfl⟩; rfl)) rfl (hsh.none hx2 hsx) ?_
    refine iIn (fun _ => ?_) (fun h => nomatch h)
    refine cOw (know_spec (x := x) (t := b) (Cl.shape_in hi hxK hb) hP hle hid hb hvb H1) fun r μ4 h4 hle4 hap4 hR => ?_
    obtain ⟨b', rfl, k1, k2⟩ := hR
    have hm1 := Cl.shape1 (c2 := c) hg hi hn hxe hsx hbn hb
    cases b' with
    | true => exact rPl ⟨false, c, rfl, hm1.1 k2, fun h => nomatch h⟩
    | false => exact rPl ⟨true, _, rfl, hm1.2 k2, fun _ => k1⟩
   | some t =>
    have w_ := hsh.some hx2 hsx
    obtain ⟨g1, tv, g2, g3⟩ := w_
    have w_ := Tm.invV g3
    obtain ⟨q, rfl⟩ := w_
    have ht := (hi.shp _ _ hsx).2
    refine look_intro ld (some (.bool true)) hat.d (hd.weaken (by rintro _ ⟨n, rfl⟩; rfl)) rfl g1 ?_
    refine iIn (fun h => nomatch h) (fun _ => ?_)
    refine oIn [.map (some R.s)] rfl (fld_at hat.c rfl) ?_
    refine look_intro ls (some _) hat.s (hs'.weaken (by rintro _ ⟨n, rfl⟩; rfl)) rfl g2 ?_
    have hsx' : c.shp (c.rep n) = some t := by rw [hxe]; exact hsx
    have hms : eqMeas val t b < s := by
     have e1 : (T.var n).ap val = t.ap val := hval.shaped hsx'
     have e2 := vk_nn (hok.nv _ _ hsx) hbn
     have e3 := vk_vn (n := n) hbn
     unfold eqMeas at hs ⊢
     rw [e1] at hs
     omega
    refine cOw (ihs _ hms hM hval (Nat.le_refl _) hg hi ht hb g3 hvb H1) fun r μ6 h6 hle6 hap6 hR => ?_
    obtain ⟨o, c6, rfl, l1, l2⟩ := hR
    exact rPl ⟨o, c6, rfl, l1.walk hsx', l2⟩
 ·have hak := T.kind_nv han
  rcases T.var_or b with ⟨m, rfl⟩ | hbn
  ·have w_ := Tm.invV hva
   obtain ⟨qa, rfl⟩ := w_
   have w_ := Tm.invV hvb
   obtain ⟨qb, rfl⟩ := w_
   refine SpecH.mk [65, 89, 101] Try.func108 (by kernel_rfl) ?_
   intro r4 r5
   refine ifd (fun h => absurd h hak) (fun _ => ?_)
   refine ifd (fun h => absurd h hak) (fun _ => ?_)
   refine ifd (fun _ => ?_) (fun h => absurd rfl h)
   have hms : eqMeas val (.var m) a < s := by
    have e2 := vk_vn (n := m) han
    have e3 := vk_nv (n := m) han
    unfold eqMeas at hs ⊢
    omega
   refine cOw (ihs _ hms hM hval (Nat.le_refl _) hg hi hb ha hvb hva H) fun r μ6 h6 hle6 hap6 hR => ?_
   obtain ⟨o, c6, rfl, l1, l2⟩ := hR
   exact rPl ⟨o, c6, rfl, l1.swap, l2⟩
  ·have hbk := T.kind_nv hbn
   rcases T.pair_or a with ⟨a1, a2, rfl⟩ | hap
   ·rcases T.pair_or b with ⟨b1, b2, rfl⟩ | hbp
    ·have w_ := Tm.inv hva
     obtain ⟨ba, ca, rfl, hsa⟩ := w_
     have w_ := Tm.inv hvb
     obtain ⟨bb, cb, rfl, hsb⟩ := w_
     have w_ := T.parts hsa
     obtain ⟨ad1, ad2, pa1, pa2, ea1, ea2, ra1, ra2⟩ := w_
     have w_ := T.parts hsb
     obtain ⟨bd1, bd2, pb1, pb2, eb1, eb2, rb1, rb2⟩ := w_
     have hPa := hPp _ _ ha
     have hPb := hPp _ _ hb
     refine SpecH.mk [65, 89, 101] Try.func108 (by kernel_rfl) ?_
     intro r4 r5
     refine ifd (fun h => absurd h hak) (fun _ => ?_)
     refine ifd (fun h => absurd h hak) (fun _ => ?_)
     refine ifd (fun h => absurd h hbk) (fun _ => ?_)
     refine ifnd (fun h => absurd rfl h) (fun _ => ?_)
     refine ifnd (fun h => absurd rfl h) (fun _ => ?_)
     refine ifnd (fun h => absurd rfl h) (fun _ => ?_)
     refine ifd (fun _ => ?_) (fun h => absurd rfl h)
     refine eIn ea1 ?_
     refine eIn eb1 ?_
     have hms : eqMeas val a1 b1 < s := by
      have e1 := vk_le a1 b1
      have e2 := T.size_pos1 (a2.ap val)
      unfold eqMeas at hs ⊢
      simp only [T.ap, T.size] at hs
      omega
     refine cOw (ihs _ hms hM hval (Nat.le_refl _) hg hi hPa.1 hPb.1 ra1 rb1 H) fun r μ6 h6 hle6 hap6 hR => ?_
     obtain ⟨o, c6, rfl, l1, l2⟩ := hR
     cases o with
     | false =>
      refine iIn (fun h => nomatch h) (fun _ => ?_)
      exact rPl ⟨false, c, rfl, l1.pair_false, fun h => nomatch h⟩
     | true =>
      refine iIn (fun _ => ?_) (fun h => nomatch h)
      replace hle6 : μ.Le μ6 := hle6
      refine eIn ea2 ?_
      refine eIn eb2 ?_
      have hrec : ∃ val6, (c6.M K ≤ M ∧ c6.IsVal val6 ∧ EqSpec R K lk lz lf P M (eqMeas val6 a2 b2)) ∨ (c6.IsVal val6 ∧ c6.M K < M) := by
       rcases l1.2.2.2 with e | e
       ·subst e
        refine ⟨val, .inl ⟨hM, hval, ihs _ ?_⟩⟩
        have e1 := vk_le a2 b2
        have e2 := T.size_pos1 (a1.ap val)
        unfold eqMeas at hs ⊢
        simp only [T.ap, T.size] at hs
        omega
       ·have hok6 := l1.1
        obtain ⟨rank6, hok6⟩ := hok6
        have w_ := hok6.has_val
        obtain ⟨val6, hval6⟩ := w_
        exact ⟨val6, .inr ⟨hval6, Nat.lt_of_lt_of_le e hM⟩⟩
      have key : SpecH Try.prog 108 [.pointer (some ⟨R.c, 0, none⟩), .agg (a2.tm.cs pa2).toArray, .agg (b2.tm.cs pb2).toArray] μ6 h6 fun r μ' h' => ∃ o c', r = .bool o ∧ EqR K P c6 a2 b2 o c' ∧ (o = true → ClInv μ' R c' K lk lz lf h') := by
       obtain ⟨val6, hr⟩ := hrec
       rcases hr with ⟨m1, m2, m3⟩ | ⟨m2, m1⟩
       ·exact m3 m1 m2 (Nat.le_refl _) l1.1 l1.2.1 hPa.2 hPb.2 (ra2.mono hle6) (rb2.mono hle6) (l2 rfl)
       ·exact ihM _ m1 _ (Nat.le_refl _) m2 (Nat.le_refl _) l1.1 l1.2.1 hPa.2 hPb.2 (ra2.mono hle6) (rb2.mono hle6) (l2 rfl)
      refine cOw key fun r μ7 h7 hle7 hap7 hR => ?_
      obtain ⟨o, c7, rfl, j1, j2⟩ := hR
      exact rPl ⟨o, c7, rfl, l1.pair j1, j2⟩
    ·have w_ := Tm.invV hva
     obtain ⟨qa, rfl⟩ := w_
     have w_ := Tm.invV hvb
     obtain ⟨qb, rfl⟩ := w_
     refine SpecH.mk [65, 89, 101] Try.func108 (by kernel_rfl) ?_
     intro r4 r5
     refine ifd (fun h => absurd h hak) (fun _ => ?_)
     refine ifd (fun h => absurd h hak) (fun _ => ?_)
     refine ifd (fun h => absurd h hbk) (fun _ => ?_)
     refine ifnd (fun h => ?_) (fun h1 => absurd h1.symm hbp)
     exact rPl ⟨false, c, rfl, EqR.clash (.inl h) hak hbk, fun h => nomatch h⟩
   ·have w_ := Tm.invV hva
    obtain ⟨qa, rfl⟩ := w_
    have w_ := Tm.invV hvb
    obtain ⟨qb, rfl⟩ := w_
    refine SpecH.mk [65, 89, 101] Try.func108 (by kernel_rfl) ?_
    intro r4 r5
    refine ifd (fun h => absurd h hak) (fun _ => ?_)
    refine ifd (fun h => absurd h hak) (fun _ => ?_)
    refine ifd (fun h => absurd h hbk) (fun _ => ?_)
    refine ifnd (fun h => ?_) (fun h1 => ?_)
    ·exact rPl ⟨false, c, rfl, EqR.clash (.inl h) hak hbk, fun h => nomatch h⟩
    refine ifnd (fun h => ?_) (fun h2 => ?_)
    ·exact rPl ⟨false, c, rfl, EqR.clash (.inr (.inl h)) hak hbk, fun h => nomatch h⟩
    refine ifnd (fun h => ?_) (fun h3 => ?_)
    ·exact rPl ⟨false, c, rfl, EqR.clash (.inr (.inr h)) hak hbk, fun h => nomatch h⟩
    refine ifd (fun h => absurd h hap) (fun _ => ?_)
    refine rPl ⟨true, c, rfl, hg.same hi fun θ k => ?_, fun _ => H⟩
    rw [T.atom_eq hap h1 h2 h3]
end
end Go.Vx
namespace Go.Vx
open Go.Proofs Classical
def PK (Q : T → Prop) (K : List Int) (t : T) : Prop := t.inN K ∧ Q t
theorem PK.pair {Q : T → Prop} (hQ : ∀ a b, Q (.pair a b) → Q a ∧ Q b) {K : List Int} (a b : T) (h : PK Q K (.pair a b)) : PK Q K a ∧ PK Q K b :=
 ⟨⟨(T.inN_pair.1 h.1).1, (hQ a b h.2).1⟩, (T.inN_pair.1 h.1).2, (hQ a b h.2).2⟩
theorem T.inN_mono {N N' : List Int} {x : T} (h : x.inN N) (k : ∀ n ∈ N, n ∈ N') : x.inN N' := fun n hn => k n (h n hn)
theorem Cl.In.mono {c : Cl} {Q : T → Prop} {K K' : List Int} (h : c.In K (PK Q K)) (k : ∀ n ∈ K, n ∈ K') : c.In K' (PK Q K') where
 rep v hv := by
  by_cases e : v ∈ K
  ·exact k _ (h.rep v e)
  ·rw [h.out v e]; exact hv
 out v hv := h.out v fun e => hv (k v e)
 shp x t e := ⟨k x (h.shp x t e).1, T.inN_mono (h.shp x t e).2.1 k, (h.shp x t e).2.2⟩
theorem Cl.start_in (Q : T → Prop) : Cl.start.In [] (PK Q []) := ⟨fun _ h => by simp at h, fun _ _ => rfl, fun _ _ h => nomatch h⟩
section
variable {μ : Mem} {R : ClRefs} {c : Cl} {K : List Int} {lk lz lf : List (Value × Value)}
theorem newClasses_spec {h : Mem} : SpecH Try.prog 105 [] μ h fun r μ' h' => ∃ R : ClRefs, r = .pointer (some ⟨R.c, 0, none⟩) ∧ μ' = μ ∧ ClInv μ R Cl.start [] [] [] [] h' := by
 refine SpecH.mk [1, 2, 3, 4, 5, 6, 8] Try.func105 (by kernel_rfl) ?_
 intro ru hm1 ho1 rs hm2 ho2 rd hm3 ho3 rk hm4 ho4 rz hm5 ho5 rf hm6 ho6 rc hm7 ho7
 have w_ : ∃ x, x = h.set ru (mapO []) := ⟨_, rfl⟩
 obtain ⟨h1, e1⟩ := w_
 have w_ : ∃ x, x = h1.set rs (mapO []) := ⟨_, rfl⟩
 obtain ⟨h2, e2⟩ := w_
 have w_ : ∃ x, x = h2.set rd (mapO []) := ⟨_, rfl⟩
 obtain ⟨h3, e3⟩ := w_
 have w_ : ∃ x, x = h3.set rk (mapO []) := ⟨_, rfl⟩
 obtain ⟨h4, e4⟩ := w_
 have w_ : ∃ x, x = h4.set rz (mapO []) := ⟨_, rfl⟩
 obtain ⟨h5, e5⟩ := w_
 have w_ : ∃ x, x = h5.set rf (mapO []) := ⟨_, rfl⟩
 obtain ⟨h6, e6⟩ := w_
 replace ho2 : h1 rs = none := by rw [e1]; exact ho2
 replace ho3 : h2 rd = none := by rw [e2, e1]; exact ho3
 replace ho4 : h3 rk = none := by rw [e3, e2, e1]; exact ho4
 replace ho5 : h4 rz = none := by rw [e4, e3, e2, e1]; exact ho5
 replace ho6 : h5 rf = none := by rw [e5, e4, e3, e2, e1]; exact ho6
 replace ho7 : h6 rc = none := by rw [e6, e5, e4, e3, e2, e1]; exact ho7
 have w_ : ∃ x, x = h6.set rc (.cells #[.map (some ru), .map (some rs), .map (some rd), .map (some rk), .map (some rz), .map (some rf)] 153 (0, 0)) := ⟨_, rfl⟩
 obtain ⟨h7, e7⟩ := w_
 have step : ∀ {h h' : Mem} {r b : Nat} {o x : Obj}, h' = h.set r o → h b = some x → h r = none → h' b = some x ∧ b ≠ r := fun {h h' r b o x} e hb hr => by
  have hne : b ≠ r := ne_of_none hb hr
  exact ⟨by rw [e, Mem.set_ne hne]; exact hb, hne⟩
 have u1 : h1 ru = some (mapO []) := by rw [e1, Mem.set_at]
 have s2 : h2 rs = some (mapO []) := by rw [e2, Mem.set_at]
 have d3 : h3 rd = some (mapO []) := by rw [e3, Mem.set_at]
 have k4 : h4 rk = some (mapO []) := by rw [e4, Mem.set_at]
 have z5 : h5 rz = some (mapO []) := by rw [e5, Mem.set_at]
 have f6 : h6 rf = some (mapO []) := by rw [e6, Mem.set_at]
 have c7 : h7 rc = some (.cells #[.map (some ru), .map (some rs), .map (some rd), .map (some rk), .map (some rz), .map (some rf)] 153 (0, 0)) := by rw [e7, Mem.set_at]
 have u2 := step e2 u1 ho2
 have u3 := step e3 u2.1 ho3
 have s3 := step e3 s2 ho3
 have u4 := step e4 u3.1 ho4
 have s4 := step e4 s3.1 ho4
 have d4 := step e4 d3 ho4
 have u5 := step e5 u4.1 ho5
 have s5 := step e5 s4.1 ho5
 have d5 := step e5 d4.1 ho5
 have k5 := step e5 k4 ho5
 have u6 := step e6 u5.1 ho6
 have s6 := step e6 s5.1 ho6
 have d6 := step e6 d5.1 ho6
 have k6 := step e6 k5.1 ho6
 have z6 := step e6 z5 ho6
 have u7 := step e7 u6.1 ho7
 have s7 := step e7 s6.1 ho7
 have d7 := step e7 d6.1 ho7
 have k7 := step e7 k6.1 ho7
 have z7 := step e7 z6.1 ho7
 have f7 := step e7 f6 ho7
 have hnd : (ClRefs.mk rc ru rs rd rk rz rf).l.Nodup := by
  simp only [ClRefs.l, List.nodup_cons, List.mem_cons, List.not_mem_nil, or_false, not_or, List.nodup_nil, not_false_eq_true, and_true]
  exact ⟨⟨u7.2.symm, s7.2.symm, d7.2.symm, k7.2.symm, z7.2.symm, f7.2.symm⟩, ⟨u2.2, u3.2, u4.2, u5.2, u6.2⟩, ⟨s3.2, s4.2, s5.2, s6.2⟩, ⟨d4.2, d5.2, d6.2⟩, ⟨k5.2, k6.2⟩, z6.2⟩
 have C : ClInv μ ⟨rc, ru, rs, rd, rk, rz, rf⟩ Cl.start [] [] [] [] h7 := by
  refine ⟨[], [], [], ⟨hnd, c7, u7.1, s7.1, d7.1, k7.1, z7.1, f7.1⟩, ⟨MapOk.nil, id, ⟨fun v => Int.le_refl _, fun v => rfl, fun v _ => rfl⟩, fun n => rfl, fun n _ => rfl, fun n hn => by simp at hn⟩, MapOk.nil, MapOk.nil, fun x _ => rfl⟩
 refine rPl ⟨⟨rc, ru, rs, rd, rk, rz, rf⟩, rfl, rfl, ?_⟩
 rw [e7, e6, e5, e4, e3, e2, e1] at C
 exact C
theorem meet1_spec {h : Mem} {bc : Nat} (n : Int) (hle : ∀ v, c.rep v ≤ v) (hbc : μ bc = some (.cells #[.pointer (some ⟨R.c, 0, none⟩)] 124 (0, 0))) (H : ClInv μ R c K lk lz lf h) :
  SpecH Try.prog 132 [.int .i64 n, .pointer (some ⟨bc, 0, none⟩)] μ h fun r μ' h' => r = .tuple #[] ∧ ClInv μ' R c (ord K n) lk lz lf h' := by
 refine SpecH.mk [] Try.func132 (by kernel_rfl) ?_
 refine ext_intro [.pointer (some ⟨R.c, 0, none⟩)] rfl (box_at hbc) ?_
 refine cOw (root_spec n hle H) fun r μ1 h1 hle1 hap1 hR => ?_
 obtain ⟨rfl, e, H1, hfr1⟩ := hR
 obtain rfl := e.symm
 exact rPl ⟨rfl, H1⟩
theorem meet_spec {h : Mem} {t : T} {v : Value} (hle : ∀ v, c.rep v ≤ v) (hv : RepV μ t.tm.d v) (H : ClInv μ R c K lk lz lf h) :
  SpecH Try.prog 107 [.pointer (some ⟨R.c, 0, none⟩), v] μ h fun r μ' h' => r = .tuple #[] ∧ ClInv μ' R c (ordAll K t.vars) lk lz lf h' := by
 have w_ := Tm.invV hv
 obtain ⟨q, rfl⟩ := w_
 refine SpecH.mk [] Try.func107 (by kernel_rfl) ?_
 intro r2 r3
 refine call_gen [0] [] (fun _ => rfl) ?_
 intro μ1 hle1 _ hat
 replace hle1 : μ.Le μ1 := hle1
 refine own_go (eachVar_relM (μ := μ1) (fun K' μ' h' => ClInv μ' R c K' lk lz lf h') ord (fun _ _ => True) (fun K' μ' h' n hm _ hj => meet1_spec n hle (hm _ _ hat) hj) t K μ1 h (Mem.Le.refl _) (hv.mono hle1) (fun _ _ _ _ => trivial) (H.mono hle1)) fun v4 μ4 h4 hle4 hap4 hR => ?_
 obtain ⟨rfl, hj⟩ := hR
 exact rPl ⟨rfl, hj⟩
end
end Go.Vx
namespace Go.Vx
open Go.Proofs Classical
def szc (t : T) : Int := ((min t.size 5001 : Nat) : Int)
theorem szc_le (t : T) : szc t ≤ 5001 := by unfold szc; omega
theorem szc_nn (t : T) : 0 ≤ szc t := by unfold szc; omega
section
theorem sizeWith_rel {k : FuncId} {caps : List Value} {f : Int → T} (J : Mem → Mem → Prop) : ∀ (x : T) {μ h : Mem} {v : Value},
  (∀ μ' h', μ.Le μ' → J μ' h' → ∀ n ∈ x.vars, SpecH Try.prog k (.int .i64 n :: caps) μ' h' fun v μ'' h'' => v = .int .i64 (szc (f n)) ∧ J μ'' h'') → J μ h → RepV μ x.tm.d v →
  SpecH Try.prog 148 [v, .func (.func k) #[] caps.toArray] μ h fun v μ' h' => v = .int .i64 (szc (x.ap f)) ∧ J μ' h' := by
 intro x
 induction x with
 | var n =>
  intro μ h v hk hj hv
  have w_ := Tm.invV hv
  obtain ⟨p, rfl⟩ := w_
  refine SpecH.mk [] Try.func148 (by kernel_rfl) ?_
  intro r1
  refine ifd (fun _ => ?_) (fun h => absurd rfl h)
  refine cOw (hk μ h (Mem.Le.refl μ) hj n (by simp [T.vars])) fun v' μ' h' hle hap hR => ?_
  obtain ⟨rfl, hj'⟩ := hR
  refine rPl ⟨?_, hj'⟩
  rw [if_neg (by have := szc_le (f n); omega)]; rfl
 | pair a b iha ihb =>
  intro μ h v hk hj hv
  have w_ := Tm.inv hv
  obtain ⟨base', cap', rfl, hsa⟩ := w_
  have w_ := T.parts hsa
  obtain ⟨ad, ad', p, p', h1, h2, hra, hrb⟩ := w_
  refine SpecH.mk [] Try.func148 (by kernel_rfl) ?_
  intro r1
  refine ifd (fun h => absurd h (by simp)) (fun _ => ?_)
  refine ifd (fun _ => ?_) (fun h => absurd rfl h)
  refine eIn h1 ?_
  refine cOw (iha (fun μ' h' g1 g2 n hn => hk μ' h' g1 g2 n (by simp [T.vars, hn])) hj hra) fun v1 μ1 h1' hle1 hap1 hR1 => ?_
  obtain ⟨rfl, hj1⟩ := hR1
  have l1 := szc_le (a.ap f)
  have l2 := szc_nn (a.ap f)
  refine ifd (fun hgt => ?_) (fun hgt => ?_)
  ·refine rPl ⟨?_, hj1⟩
   unfold szc at hgt ⊢
   rw [T.ap]
   simp only [T.size]
   congr 2
   omega
  ·refine num64 (by omega) (by omega) ?_
   refine eIn (h2.mono hle1) ?_
   refine cOw (ihb (fun μ' h' g1 g2 n hn => hk μ' h' (hle1.trans g1) g2 n (by simp [T.vars, hn])) hj1 (hrb.mono hle1)) fun v2 μ2 h2' hle2 hap2 hR2 => ?_
   obtain ⟨rfl, hj2⟩ := hR2
   have l3 := szc_le (b.ap f)
   have l4 := szc_nn (b.ap f)
   refine num64 (by omega) (by omega) ?_
   refine rPl ⟨?_, hj2⟩
   unfold szc at hgt ⊢
   rw [T.ap]
   simp only [T.size]
   congr 1
   omega
 | _ =>
  intro μ h v hk hj hv
  have w_ := Tm.invV hv
  obtain ⟨p, rfl⟩ := w_
  refine SpecH.mk [] Try.func148 (by kernel_rfl) ?_
  intro r1
  refine ifd (fun h => absurd h (by simp [T.tm, Tm.kind])) (fun _ => ?_)
  refine ifd (fun h => absurd h (by simp [T.tm, Tm.kind])) (fun _ => ?_)
  exact rPl ⟨rfl, hj⟩
end
structure Wt (val : Int → T) (col : Int → Nat) (lk lz : List (Value × Value)) : Prop where
 okk : MapOk IntKey lk
 okz : MapOk IntKey lz
 le : ∀ n, col n ≤ 2
 get : ∀ n, mget lk (.int .i64 n) = if col n = 0 then none else some (.int .i64 (col n))
 siz : ∀ n, col n = 2 → mget lz (.int .i64 n) = some (.int .i64 (szc (val n)))
theorem Wt.nil (val : Int → T) : Wt val (fun _ => 0) [] [] := ⟨MapOk.nil, MapOk.nil, fun _ => Nat.zero_le _, fun _ => rfl, fun n h => by simp at h⟩
def colSet (col : Int → Nat) (x : Int) (k : Nat) (n : Int) : Nat := if n = x then k else col n
theorem Wt.paint {val : Int → T} {col : Int → Nat} {lk lz : List (Value × Value)} (h : Wt val col lk lz) (x : Int) (k : Nat) (hk : k ≤ 2) (hk0 : k ≠ 0) (hs : k = 2 → mget lz (.int .i64 x) = some (.int .i64 (szc (val x)))) : Wt val (colSet col x k) (mset lk (.int .i64 x) (.int .i64 k)) lz :=
 ⟨h.okk.int _, h.okz, fun n => by unfold colSet; split; exact hk; exact h.le n, fun n => by
  rw [mget_int, h.get]
  unfold colSet
  by_cases e : n = x
  ·rw [if_pos e, if_pos e, if_neg hk0]
  ·rw [if_neg e, if_neg e], fun n hn => by
  unfold colSet at hn
  by_cases e : n = x
  ·subst e; rw [if_pos rfl] at hn; exact hs hn
  ·rw [if_neg e] at hn; exact h.siz n hn⟩
theorem Wt.size {val : Int → T} {col : Int → Nat} {lk lz : List (Value × Value)} (h : Wt val col lk lz) {x : Int} (hx : col x ≠ 2) (v : Value) : Wt val col lk (mset lz (.int .i64 x) v) :=
 ⟨h.okk, h.okz.int _, h.le, h.get, fun n hn => by
  rw [mget_int, if_neg (fun e => by subst e; exact hx hn)]; exact h.siz n hn⟩
section
variable {R : ClRefs} {c : Cl} {K : List Int} {lf : List (Value × Value)} {Q : T → Prop} {rank : Int → Nat} {val : Int → T}
structure WOut (R : ClRefs) (c : Cl) (K : List Int) (lf : List (Value × Value)) (val : Int → T) (col : Int → Nat) (μ h : Mem) (col' : Int → Nat) (L : List Nat) (h0 : Mem) : Prop where
 ex : ∃ lk lz, ClInv μ R c K lk lz lf h ∧ Wt val col' lk lz
 keep : ∀ z, col z ≠ 0 → col' z = col z
 grey : ∀ z, col' z = 1 → col z = 1
 fr : Fr L h0 h
def WSpec (R : ClRefs) (c : Cl) (K : List Int) (lf : List (Value × Value)) (val : Int → T) (rank : Int → Nat) (m : Nat) : Prop :=
 ∀ ⦃μ h : Mem⦄ ⦃x : Int⦄ ⦃col : Int → Nat⦄ ⦃lk lz : List (Value × Value)⦄, rank x < m → x ∈ K → c.rep x = x → (∀ z, col z = 1 → rank x < rank z) → Wt val col lk lz → ClInv μ R c K lk lz lf h →
  SpecH Try.prog 135 [.pointer (some ⟨R.c, 0, none⟩), .int .i64 x] μ h fun r μ' h' => r = .bool true ∧ ∃ col', WOut R c K lf val col μ' h' col' [R.u, R.k, R.z] h ∧ col' x = 2
theorem weigh1_spec {μ h h0 : Mem} {m bc rf : Nat} {n : Int} {col1 col : Int → Nat} (hok : c.Ok rank) (hin : c.In K (PK Q K)) (ih : WSpec R c K lf val rank m) (hn : n ∈ K) (hr : rank (c.rep n) < m) (hg : ∀ z, col1 z = 1 → rank (c.rep n) < rank z)
  (hbc : μ bc = some (.cells #[.pointer (some ⟨R.c, 0, none⟩)] 124 (0, 0))) (hrf : rf ∉ R.l) (hf : h rf = some (.cells #[.bool true] 4 (0, 0))) (H : WOut R c K lf val col1 μ h col [R.u, R.k, R.z, rf] h0) :
  SpecH Try.prog 163 [.int .i64 n, .pointer (some ⟨rf, 0, none⟩), .pointer (some ⟨bc, 0, none⟩)] μ h fun r μ' h' => r = .tuple #[] ∧ h' rf = some (.cells #[.bool true] 4 (0, 0)) ∧ ∃ col', WOut R c K lf val col1 μ' h' col' [R.u, R.k, R.z, rf] h0 ∧ (∀ z, col z ≠ 0 → col' z = col z) ∧ col' (c.rep n) = 2 := by
 obtain ⟨⟨lk, lz, hcl, hw⟩, h2, h3, h4⟩ := H
 have hl : R.u ∈ R.l ∧ R.k ∈ R.l ∧ R.z ∈ R.l := by simp [ClRefs.l]
 have n1 : rf ≠ R.u := fun e => hrf (by rw [e]; exact hl.1)
 have n2 : rf ≠ R.k := fun e => hrf (by rw [e]; exact hl.2.1)
 have n3 : rf ≠ R.z := fun e => hrf (by rw [e]; exact hl.2.2)
 refine SpecH.mk [] Try.func163 (by kernel_rfl) ?_
 refine oIn [.bool true] rfl (box_at hf) ?_
 refine iIn (fun _ => ?_) (fun h => nomatch h)
 refine ext_intro [.pointer (some ⟨R.c, 0, none⟩)] rfl (box_at hbc) ?_
 refine ext_intro [.pointer (some ⟨R.c, 0, none⟩)] rfl (box_at hbc) ?_
 refine cOw (root_spec n hok.le hcl) fun r μ1 h1 hle1 hap1 hR => ?_
 obtain ⟨rfl, e, H1, hfr1⟩ := hR
 obtain rfl := e.symm
 rw [ord_of_mem hn] at H1
 refine cOw (ih hr (hin.rep n hn) (hok.idem n) (fun z hz => hg z (h3 z hz)) hw H1) fun r μ2 h2' hle2 hap2 hR => ?_
 obtain ⟨rfl, col', ⟨ex, w2, w3, w4⟩, w5⟩ := hR
 refine iIn (fun h => nomatch h) (fun _ => ?_)
 have f1 : h1 rf = some (.cells #[.bool true] 4 (0, 0)) := hfr1.at hf (by simpa using n1)
 have f2 : h2' rf = some (.cells #[.bool true] 4 (0, 0)) := w4.at f1 (by simp [n1, n2, n3])
 exact rPl ⟨rfl, f2, col', ⟨ex, fun z hz => by rw [w2 z (by rw [h2 z hz]; exact hz), h2 z hz], fun z hz => h3 z (w3 z hz), (h4.trans (hfr1.weaken (by simp))).trans (w4.weaken (by simp))⟩, w2, w5⟩
theorem weigh2_spec {μ h h0 : Mem} {bc : Nat} {n : Int} {col : Int → Nat} {lk lz : List (Value × Value)} (hok : c.Ok rank) (hval : c.IsVal val) (hn : n ∈ K) (hw : Wt val col lk lz) (h2 : col (c.rep n) = 2)
  (hbc : μ bc = some (.cells #[.pointer (some ⟨R.c, 0, none⟩)] 124 (0, 0))) (H : ClInv μ R c K lk lz lf h) (hfr : Fr [R.u] h0 h) :
  SpecH Try.prog 164 [.int .i64 n, .pointer (some ⟨bc, 0, none⟩)] μ h fun r μ' h' => r = .int .i64 (szc (val n)) ∧ ClInv μ' R c K lk lz lf h' ∧ Fr [R.u] h0 h' := by
 have w_ := H.ex
 obtain ⟨lu, ls, ld, hat, hup, hs, hd, hsh⟩ := w_
 have hz := hw.siz _ h2
 rw [hval.rep hok] at hz
 refine SpecH.mk [] Try.func164 (by kernel_rfl) ?_
 refine ext_intro [.pointer (some ⟨R.c, 0, none⟩)] rfl (box_at hbc) ?_
 refine ext_intro [.pointer (some ⟨R.c, 0, none⟩)] rfl (box_at hbc) ?_
 refine And.intro ?_ (And.intro ?_ trivial)
 ·refine oIn [.map (some R.z)] rfl (fld_at hat.c rfl) ?_
  refine cOw (root_spec n hok.le H) fun r μ1 h1 hle1 hap1 hR => ?_
  obtain ⟨rfl, e, H1, hfr1⟩ := hR
  obtain rfl := e.symm
  rw [ord_of_mem hn] at H1
  have w_ := H1.ex
  obtain ⟨lu1, ls1, ld1, hat1, hup1, hs1, hd1, hsh1⟩ := w_
  refine look_intro lz (some _) hat1.z (hw.okz.weaken (by rintro _ ⟨n, rfl⟩; rfl)) rfl hz ?_
  exact rPl ⟨rfl, H1, hfr.trans hfr1⟩
 ·refine cOw (root_spec n hok.le H) fun r μ1 h1 hle1 hap1 hR => ?_
  obtain ⟨rfl, e, H1, hfr1⟩ := hR
  obtain rfl := e.symm
  rw [ord_of_mem hn] at H1
  have w_ := H1.ex
  obtain ⟨lu1, ls1, ld1, hat1, hup1, hs1, hd1, hsh1⟩ := w_
  refine oIn [.map (some R.z)] rfl (fld_at hat1.c rfl) ?_
  refine look_intro lz (some _) hat1.z (hw.okz.weaken (by rintro _ ⟨n, rfl⟩; rfl)) rfl hz ?_
  exact rPl ⟨rfl, H1, hfr.trans hfr1⟩
theorem ClInv.setK {μ h : Mem} {lk lz lk' : List (Value × Value)} (H : ClInv μ R c K lk lz lf h) : ClInv μ R c K lk' lz lf (h.set R.k (mapO lk')) := by
 have w_ := H.ex
 obtain ⟨lu, ls, ld, hat, hup, hs, hd, hsh⟩ := w_
 exact ⟨lu, ls, ld, hat.setK, hup, hs, hd, hsh⟩
theorem ClInv.setZ {μ h : Mem} {lk lz lz' : List (Value × Value)} (H : ClInv μ R c K lk lz lf h) : ClInv μ R c K lk lz' lf (h.set R.z (mapO lz')) := by
 have w_ := H.ex
 obtain ⟨lu, ls, ld, hat, hup, hs, hd, hsh⟩ := w_
 exact ⟨lu, ls, ld, hat.setZ, hup, hs, hd, hsh⟩
theorem ClInv.setF {μ h : Mem} {lk lz lf' : List (Value × Value)} (H : ClInv μ R c K lk lz lf h) : ClInv μ R c K lk lz lf' (h.set R.f (mapO lf')) := by
 have w_ := H.ex
 obtain ⟨lu, ls, ld, hat, hup, hs, hd, hsh⟩ := w_
 exact ⟨lu, ls, ld, hat.setF, hup, hs, hd, hsh⟩
set_option maxHeartbeats 4000000 in
theorem weigh_spec (hok : c.Ok rank) (hval : c.IsVal val) (hin : c.In K (PK Q K)) : ∀ m, WSpec R c K lf val rank m
 | 0 => by
  intro μ h x col lk lz hm
  exact absurd hm (Nat.not_lt_zero _)
 | m + 1 => by
  intro μ h x col lk lz hm hx hxr hgr hw H
  have w_ := H.ex
  obtain ⟨lu, ls, ld, hat, hup, hs, hd, hsh⟩ := w_
  refine SpecH.mk [5] Try.func135 (by kernel_rfl) ?_
  intro r0
  refine oIn [.map (some R.k)] rfl (fld_at hat.c rfl) ?_
  have hne1 : col x ≠ 1 := fun e => Nat.lt_irrefl _ (hgr x e)
  by_cases hc2 : col x = 2
  ·refine look_intro lk (some (.int .i64 (2 : Nat))) hat.k (hw.okk.weaken (by rintro _ ⟨n, rfl⟩; rfl)) rfl (by rw [hw.get, if_neg (by omega), hc2]) ?_
   refine ifd (fun _ => ?_) (fun h => absurd rfl h)
   exact rPl ⟨rfl, col, ⟨⟨lk, lz, H, hw⟩, fun _ _ => rfl, fun _ h => h, Fr.refl _ _⟩, hc2⟩
  have hc0 : col x = 0 := by have := hw.le x; omega
  refine look_intro lk none hat.k (hw.okk.weaken (by rintro _ ⟨n, rfl⟩; rfl)) rfl (by rw [hw.get, if_pos hc0]) ?_
  refine ifd (fun h => absurd h (by decide)) (fun _ => ?_)
  refine oIn [.map (some R.k)] rfl (fld_at hat.c rfl) ?_
  refine look_intro lk none hat.k (hw.okk.weaken (by rintro _ ⟨n, rfl⟩; rfl)) rfl (by rw [hw.get, if_pos hc0]) ?_
  refine ifd (fun h => absurd h (by decide)) (fun _ => ?_)
  refine oIn [.map (some R.k)] rfl (fld_at hat.c rfl) ?_
  refine upd_intro lk hat.k (hw.okk.weaken (by rintro _ ⟨n, rfl⟩; rfl)) rfl ?_
  have hw1 := hw.paint x 1 (by decide) (by decide) (fun e => absurd e (by decide))
  have H1 := H.setK (lk' := mset lk (.int .i64 x) (.int .i64 (1 : Nat)))
  have a1 := hat.setK (l := mset lk (.int .i64 x) (.int .i64 (1 : Nat)))
  refine oIn [.map (some R.z)] rfl (fld_at a1.c rfl) ?_
  refine upd_intro lz a1.z (hw.okz.weaken (by rintro _ ⟨n, rfl⟩; rfl)) rfl ?_
  have hw2 := hw1.size (x := x) (by unfold colSet; rw [if_pos rfl]; decide) (.int .i64 1)
  have H2 := H1.setZ (lz' := mset lz (.int .i64 x) (.int .i64 1))
  have a2 := a1.setZ (l := mset lz (.int .i64 x) (.int .i64 1))
  have fr2 : Fr [R.u, R.k, R.z] h ((h.set R.k (mapO (mset lk (.int .i64 x) (.int .i64 (1 : Nat))))).set R.z (mapO (mset lz (.int .i64 x) (.int .i64 1)))) := (Fr.set (by simp)).trans (Fr.set (by simp))
  generalize hh2 : Mem.set (Mem.set h R.k (mapO (mset lk (.int .i64 x) (.int .i64 (1 : Nat))))) R.z (mapO (mset lz (.int .i64 x) (.int .i64 1))) = h2 at *
  generalize hlk1 : mset lk (.int .i64 x) (.int .i64 (1 : Nat)) = lk1 at *
  generalize hlz1 : mset lz (.int .i64 x) (.int .i64 1) = lz1 at *
  have hx1 : colSet col x 1 x = 1 := by unfold colSet; rw [if_pos rfl]
  have hk1 : ∀ z, col z ≠ 0 → colSet col x 1 z = col z := fun z hz => by
   unfold colSet; rw [if_neg (fun e => hz (by rw [e]; exact hc0))]
  have hg1 : ∀ z, colSet col x 1 z = 1 → z = x ∨ col z = 1 := fun z hz => by
   unfold colSet at hz
   by_cases e : z = x
   ·exact .inl e
   ·rw [if_neg e] at hz; exact .inr hz
  refine oIn [.map (some R.d)] rfl (fld_at a2.c rfl) ?_
  cases hsx : c.shp x with
  | none =>
   refine look_intro ld none a2.d (hd.weaken (by rintro _ ⟨n, rfl⟩; rfl)) rfl (hsh.none hxr hsx) ?_
   refine iIn (fun h => nomatch h) (fun _ => ?_)
   refine oIn [.map (some R.k)] rfl (fld_at a2.c rfl) ?_
   refine upd_intro lk1 a2.k (hw2.okk.weaken (by rintro _ ⟨n, rfl⟩; rfl)) rfl ?_
   have hv : szc (val x) = 1 := by rw [hval.plain (by rw [hxr]; exact hsx)]; rfl
   have hw3 := hw2.paint x 2 (by decide) (by decide) (fun _ => by rw [hv, ← hlz1, mget_int, if_pos rfl])
   refine rPl ⟨rfl, _, ⟨⟨_, lz1, H2.setK, hw3⟩, fun z hz => ?_, fun z hz => ?_, fr2.trans (Fr.set (by simp))⟩, by unfold colSet; rw [if_pos rfl]⟩
   ·have : z ≠ x := fun e => hz (by rw [e]; exact hc0)
    unfold colSet; rw [if_neg this, if_neg this]
   ·unfold colSet at hz
    by_cases e : z = x
    ·rw [if_pos e] at hz; exact absurd hz (by decide)
    ·rw [if_neg e, if_neg e] at hz; exact hz
  | some t =>
   have w_ := hsh.some hxr hsx
   obtain ⟨g1, tv, g2, g3⟩ := w_
   have w_ := Tm.invV g3
   obtain ⟨q, rfl⟩ := w_
   have htK := (hin.shp x t hsx).2.1
   refine look_intro ld (some (.bool true)) a2.d (hd.weaken (by rintro _ ⟨n, rfl⟩; rfl)) rfl g1 ?_
   refine iIn (fun _ => ?_) (fun h => nomatch h)
   intro rf hmf hof
   replace hof : h2 rf = none := hof
   have hrf : rf ∉ R.l := fun e => a2.dom rf e hof
   refine sIn [.bool false] 4 (Mem.set_at _ _ _) rfl (Nat.le_refl _) ?_
   generalize hh : Mem.set (Mem.set _ rf _) rf _ = h3
   have e3 : Fr [rf] h2 h3 := by subst hh; exact (Fr.set (by simp)).trans (Fr.set (by simp))
   have ef : h3 rf = some (.cells #[.bool true] 4 (0, 0)) := by subst hh; rw [Mem.set_at]; rfl
   have H3 := H2.off e3 (by simpa using hrf)
   have a3 := a2.off e3 (by simpa using hrf)
   refine oIn [.map (some R.s)] rfl (fld_at a3.c rfl) ?_
   refine look_intro ls (some _) a3.s (hs.weaken (by rintro _ ⟨n, rfl⟩; rfl)) rfl g2 ?_
   refine call_gen [0] [] (fun _ => rfl) ?_
   intro μ1 hle1 _ hat1
   replace hle1 : μ.Le μ1 := hle1
   refine own_go (eachVar_relM (μ := μ1) (fun pre μ' h' => h' rf = some (.cells #[.bool true] 4 (0, 0)) ∧ ∃ col', WOut R c K lf val (colSet col x 1) μ' h' col' [R.u, R.k, R.z, rf] h3 ∧ ∀ u ∈ pre, col' (c.rep u) = 2) (fun pre n => pre ++ [n]) (fun _ n => n ∈ t.vars)
    (fun pre μ' h' n hm' hn hj => ?_) t [] μ1 h3 (Mem.Le.refl _) (g3.mono hle1) (fun pre n post e => by rw [e]; simp) ⟨ef, _, ⟨⟨_, _, H3.mono hle1, hw2⟩, fun _ _ => rfl, fun _ h => h, Fr.refl _ _⟩, fun u hu => by simp at hu⟩) fun v4 μ4 h4 hle4 hap4 hR => ?_
   ·obtain ⟨j1, col', j2, j3⟩ := hj
    have hocc := T.occ_vars.2 hn
    have hrk := hok.acy x t hsx n hocc
    refine (weigh1_spec (m := m) hok hin (weigh_spec hok hval hin m) (htK n hocc) (by omega) (fun z hz => ?_) (hm' _ _ hat1) hrf j1 j2).weaken fun r μ'' h'' _ _ hR => ?_
    ·rcases hg1 z hz with e | e
     ·rw [e]; exact hrk
     ·have := hgr z e; omega
    ·obtain ⟨rfl, k1, col2, k2, k3, k4⟩ := hR
     refine ⟨rfl, k1, col2, k2, fun u hu => ?_⟩
     rcases List.mem_append.1 hu with hu | hu
     ·rw [k3 _ (by rw [j3 u hu]; decide)]; exact j3 u hu
     ·rw [List.mem_singleton] at hu
      subst hu; exact k4
   ·obtain ⟨rfl, j1, col', ⟨⟨lk4, lz4, H4, hw4⟩, j3, j4, j5⟩, j6⟩ := hR
    rw [foldl_snoc', List.nil_append] at j6
    replace H4 : ClInv μ4 R c K lk4 lz4 lf h4 := H4
    refine oIn [.bool true] rfl (box_at j1) ?_
    refine iIn (fun h => nomatch h) (fun _ => ?_)
    have w_ := H4.ex
    obtain ⟨lu4, ls4, ld4, a4, hup4, hs4, hd4, hsh4⟩ := w_
    have hat4 := hle4 _ _ hat1
    replace hat4 : μ4 r0 = some (.cells #[.pointer (some ⟨R.c, 0, none⟩)] 124 (0, 0)) := hat4
    have w_ := hsh4.some hxr hsx
    obtain ⟨g1', tv', g2', g3'⟩ := w_
    have w_ := Tm.invV g3'
    obtain ⟨q', rfl⟩ := w_
    have hcx : col' x = 1 := by rw [j3 x (by rw [hx1]; decide), hx1]
    have hvx : t.ap val = val x := (hval.shaped (by rw [hxr]; exact hsx)).symm
    have hn1 : rf ≠ R.u ∧ rf ≠ R.k ∧ rf ≠ R.z := ⟨fun e => hrf (by rw [e]; simp [ClRefs.l]), fun e => hrf (by rw [e]; simp [ClRefs.l]), fun e => hrf (by rw [e]; simp [ClRefs.l])⟩
    have frh : Fr [R.u, R.k, R.z] h h4 := fr2.trans fun y hy hl => by
     have hyf : y ≠ rf := fun e => hy (by rw [e]; exact hof)
     have e1 := e3 y hy (by simpa using hyf)
     rw [j5 y (by rw [e1]; exact hy) (by simp only [List.mem_cons, List.not_mem_nil, or_false, not_or] at hl ⊢; exact ⟨hl.1, hl.2.1, hl.2.2, hyf⟩), e1]
    refine ext_intro [.pointer (some ⟨R.c, 0, none⟩)] rfl (box_at hat4) ?_
    refine ext_intro [.pointer (some ⟨R.c, 0, none⟩)] rfl (box_at hat4) ?_
    refine oIn [.map (some R.s)] rfl (fld_at a4.c rfl) ?_
    refine look_intro ls4 (some _) a4.s (hs4.weaken (by rintro _ ⟨n, rfl⟩; rfl)) rfl g2' ?_
    have key : SpecH Try.prog 148 [.agg #[.int .i64 t.tm.kind, .int .i64 t.tm.num, .string t.tm.name, .slice q'.1 t.tm.args.length q'.2], .func (.func 164) #[] #[.pointer (some ⟨r0, 0, none⟩)]] μ4 h4 fun r μ' h' => r = .int .i64 (szc (val x)) ∧ ClInv μ' R c K lk4 lz4 lf h' ∧ Fr [R.u] h4 h' := by
     have := sizeWith_rel (f := val) (k := 164) (caps := [.pointer (some ⟨r0, 0, none⟩)]) (fun μ' h' => ClInv μ' R c K lk4 lz4 lf h' ∧ Fr [R.u] h4 h') t (fun μ' h' hm' hj n hn => weigh2_spec hok hval (htK n (T.occ_vars.2 hn)) hw4 (j6 n hn) (hm' _ _ hat4) hj.1 hj.2) ⟨H4, Fr.refl _ _⟩ g3'
     rwa [hvx] at this
    refine And.intro ?_ (And.intro ?_ trivial)
    ·refine oIn [.map (some R.z)] rfl (fld_at a4.c rfl) ?_
     refine cOw key fun r μ5 h5 hle5 hap5 hR => ?_
     obtain ⟨rfl, H5, fr5⟩ := hR
     replace H5 : ClInv μ5 R c K lk4 lz4 lf h5 := H5
     have w_ := H5.ex
     obtain ⟨lu6, ls6, ld6, a6, hup6, hs6, hd6, hsh6⟩ := w_
     have hle5' : μ4.Le μ5 := hle5
     refine upd_intro lz4 a6.z (hw4.okz.weaken (by rintro _ ⟨n, rfl⟩; rfl)) rfl ?_
     have H7 := H5.setZ (lz' := mset lz4 (.int .i64 x) (.int .i64 (szc (val x))))
     have hw7 := hw4.size (x := x) (by rw [hcx]; decide) (.int .i64 (szc (val x)))
     have a7 := a6.setZ (l := mset lz4 (.int .i64 x) (.int .i64 (szc (val x))))
     refine ext_intro [.pointer (some ⟨R.c, 0, none⟩)] rfl (box_at (hle5' _ _ hat4)) ?_
     refine oIn [.map (some R.k)] rfl (fld_at a7.c rfl) ?_
     refine upd_intro lk4 a7.k (hw7.okk.weaken (by rintro _ ⟨n, rfl⟩; rfl)) rfl ?_
     have hw8 := hw7.paint x 2 (by decide) (by decide) (fun _ => by rw [mget_int, if_pos rfl])
     refine rPl ⟨rfl, _, ⟨⟨_, _, H7.setK, hw8⟩, fun z hz => ?_, fun z hz => ?_, ((frh.trans (fr5.weaken (by simp))).trans (Fr.set (by simp))).trans (Fr.set (by simp))⟩, by unfold colSet; rw [if_pos rfl]⟩
     ·have : z ≠ x := fun e => hz (by rw [e]; exact hc0)
      rw [show colSet col' x 2 z = col' z from if_neg this, j3 z (by rw [hk1 z hz]; exact hz), hk1 z hz]
     ·unfold colSet at hz
      by_cases e : z = x
      ·rw [if_pos e] at hz; exact absurd hz (by decide)
      ·rw [if_neg e] at hz
       rcases hg1 z (j4 z hz) with k | k
       ·exact absurd k e
       ·exact k
    ·refine cOw key fun r μ5 h5 hle5 hap5 hR => ?_
     obtain ⟨rfl, H5, fr5⟩ := hR
     replace H5 : ClInv μ5 R c K lk4 lz4 lf h5 := H5
     have w_ := H5.ex
     obtain ⟨lu5, ls5, ld5, a5, hup5, hs5, hd5, hsh5⟩ := w_
     refine oIn [.map (some R.z)] rfl (fld_at a5.c rfl) ?_
     have w_ := H5.ex
     obtain ⟨lu6, ls6, ld6, a6, hup6, hs6, hd6, hsh6⟩ := w_
     have hle5' : μ4.Le μ5 := hle5
     refine upd_intro lz4 a6.z (hw4.okz.weaken (by rintro _ ⟨n, rfl⟩; rfl)) rfl ?_
     have H7 := H5.setZ (lz' := mset lz4 (.int .i64 x) (.int .i64 (szc (val x))))
     have hw7 := hw4.size (x := x) (by rw [hcx]; decide) (.int .i64 (szc (val x)))
     have a7 := a6.setZ (l := mset lz4 (.int .i64 x) (.int .i64 (szc (val x))))
     refine ext_intro [.pointer (some ⟨R.c, 0, none⟩)] rfl (box_at (hle5' _ _ hat4)) ?_
     refine oIn [.map (some R.k)] rfl (fld_at a7.c rfl) ?_
     refine upd_intro lk4 a7.k (hw7.okk.weaken (by rintro _ ⟨n, rfl⟩; rfl)) rfl ?_
     have hw8 := hw7.paint x 2 (by decide) (by decide) (fun _ => by rw [mget_int, if_pos rfl])
     refine rPl ⟨rfl, _, ⟨⟨_, _, H7.setK, hw8⟩, fun z hz => ?_, fun z hz => ?_, ((frh.trans (fr5.weaken (by simp))).trans (Fr.set (by simp))).trans (Fr.set (by simp))⟩, by unfold colSet; rw [if_pos rfl]⟩
     ·have : z ≠ x := fun e => hz (by rw [e]; exact hc0)
      rw [show colSet col' x 2 z = col' z from if_neg this, j3 z (by rw [hk1 z hz]; exact hz), hk1 z hz]
     ·unfold colSet at hz
      by_cases e : z = x
      ·rw [if_pos e] at hz; exact absurd hz (by decide)
      ·rw [if_neg e] at hz
       rcases hg1 z (j4 z hz) with k | k
       ·exact absurd k e
       ·exact k
end
end Go.Vx
namespace Go.Vx
open Go.Proofs Classical
structure FAt (μ : Mem) (val : Int → T) (lf : List (Value × Value)) : Prop where
 ok : MapOk IntKey lf
 rep : ∀ z v, mget lf (.int .i64 z) = some v → RepV μ (val z).tm.d v
theorem FAt.nil (μ : Mem) (val : Int → T) : FAt μ val [] := ⟨MapOk.nil, fun _ _ h => nomatch h⟩
theorem FAt.mono {μ μ' : Mem} {val : Int → T} {lf : List (Value × Value)} (h : FAt μ val lf) (hle : μ.Le μ') : FAt μ' val lf := ⟨h.ok, fun z v e => (h.rep z v e).mono hle⟩
theorem FAt.add {μ : Mem} {val : Int → T} {lf : List (Value × Value)} (h : FAt μ val lf) {x : Int} {v : Value} (hv : RepV μ (val x).tm.d v) : FAt μ val (mset lf (.int .i64 x) v) := ⟨h.ok.int _, fun z w e => by
 rw [mget_int] at e
 by_cases k : z = x
 ·subst k; rw [if_pos rfl] at e; cases e; exact hv
 ·rw [if_neg k] at e; exact h.rep z w e⟩
section
variable {R : ClRefs} {c : Cl} {K : List Int} {lk lz : List (Value × Value)} {Q : T → Prop} {rank : Int → Nat} {val : Int → T}
def VSpec (R : ClRefs) (c : Cl) (K : List Int) (lk lz : List (Value × Value)) (val : Int → T) (rank : Int → Nat) (m : Nat) : Prop :=
 ∀ ⦃μ h : Mem⦄ ⦃x : Int⦄ ⦃lf : List (Value × Value)⦄, rank x < m → x ∈ K → c.rep x = x → FAt μ val lf → ClInv μ R c K lk lz lf h →
  SpecH Try.prog 136 [.pointer (some ⟨R.c, 0, none⟩), .int .i64 x] μ h fun r μ' h' => RepV μ' (val x).tm.d r ∧ ∃ lf', FAt μ' val lf' ∧ ClInv μ' R c K lk lz lf' h' ∧ Fr [R.u, R.f] h h'
theorem value1_spec {μ h h0 : Mem} {m bc : Nat} {n : Int} {lf : List (Value × Value)} (hok : c.Ok rank) (hval : c.IsVal val) (hin : c.In K (PK Q K)) (ih : VSpec R c K lk lz val rank m) (hn : n ∈ K) (hr : rank (c.rep n) < m)
  (hbc : μ bc = some (.cells #[.pointer (some ⟨R.c, 0, none⟩)] 124 (0, 0))) (hf : FAt μ val lf) (H : ClInv μ R c K lk lz lf h) (hfr : Fr [R.u, R.f] h0 h) :
  SpecH Try.prog 165 [.int .i64 n, .pointer (some ⟨bc, 0, none⟩)] μ h fun r μ' h' => optV (fun y tv => RepV μ' y.tm.d tv) (some (val n)) r ∧ ∃ lf', FAt μ' val lf' ∧ ClInv μ' R c K lk lz lf' h' ∧ Fr [R.u, R.f] h0 h' := by
 refine SpecH.mk [] Try.func165 (by kernel_rfl) ?_
 intro r3
 refine ext_intro [.pointer (some ⟨R.c, 0, none⟩)] rfl (box_at hbc) ?_
 refine ext_intro [.pointer (some ⟨R.c, 0, none⟩)] rfl (box_at hbc) ?_
 refine cOw (root_spec n hok.le H) fun r μ1 h1 hle1 hap1 hR => ?_
 obtain ⟨rfl, e, H1, hfr1⟩ := hR
 obtain rfl := e.symm
 rw [ord_of_mem hn] at H1
 refine cOw (ih hr (hin.rep n hn) (hok.idem n) hf H1) fun r μ2 h2 hle2 hap2 hR => ?_
 obtain ⟨hv, lf', g1, g2, g3⟩ := hR
 rw [hval.rep hok] at hv
 have w_ := Tm.invV hv
 obtain ⟨q, rfl⟩ := w_
 exact rPl ⟨⟨_, rfl, hv⟩, lf', g1, g2, (hfr.trans (hfr1.weaken (by simp))).trans g3⟩
set_option maxHeartbeats 4000000 in
theorem value_spec (hok : c.Ok rank) (hval : c.IsVal val) (hin : c.In K (PK Q K)) : ∀ m, VSpec R c K lk lz val rank m
 | 0 => by
  intro μ h x lf hm
  exact absurd hm (Nat.not_lt_zero _)
 | m + 1 => by
  intro μ h x lf hm hx hxr hf H
  have w_ := H.ex
  obtain ⟨lu, ls, ld, hat, hup, hs, hd, hsh⟩ := w_
  refine SpecH.mk [] Try.func136 (by kernel_rfl) ?_
  intro r0 r4
  refine oIn [.map (some R.f)] rfl (fld_at hat.c rfl) ?_
  cases hfx : mget lf (.int .i64 x) with
  | some v =>
   have hv := hf.rep x v hfx
   have w_ := Tm.invV hv
   obtain ⟨q, rfl⟩ := w_
   refine look_intro lf (some _) hat.f (hf.ok.weaken (by rintro _ ⟨n, rfl⟩; rfl)) rfl hfx ?_
   intro r5
   refine iIn (fun _ => ?_) (fun h => nomatch h)
   exact rPl ⟨hv, lf, hf, H, Fr.refl _ _⟩
  | none =>
   refine look_intro lf none hat.f (hf.ok.weaken (by rintro _ ⟨n, rfl⟩; rfl)) rfl hfx ?_
   intro r5
   refine iIn (fun h => nomatch h) (fun _ => ?_)
   refine cGv (variable_spec x) ?_
   intro r7
   refine oIn [.map (some R.d)] rfl (fld_at hat.c rfl) ?_
   cases hsx : c.shp x with
   | none =>
    refine look_intro ld none hat.d (hd.weaken (by rintro _ ⟨n, rfl⟩; rfl)) rfl (hsh.none hxr hsx) ?_
    refine iIn (fun h => nomatch h) (fun _ => ?_)
    refine oIn [.map (some R.f)] rfl (fld_at hat.c rfl) ?_
    have hv : RepV μ (val x).tm.d (varV x) := by rw [hval.plain (by rw [hxr]; exact hsx), hxr]; exact varV_rep x
    refine upd_intro lf hat.f (hf.ok.weaken (by rintro _ ⟨n, rfl⟩; rfl)) rfl ?_
    exact rPl ⟨hv, _, hf.add hv, H.setF, Fr.set (by simp)⟩
   | some t =>
    have w_ := hsh.some hxr hsx
    obtain ⟨g1, tv, g2, g3⟩ := w_
    have w_ := Tm.invV g3
    obtain ⟨q, rfl⟩ := w_
    have htK := (hin.shp x t hsx).2.1
    have hvx : t.subst (fun n => some (val n)) = val x := by
     rw [subst_ap]; exact (hval.shaped (by rw [hxr]; exact hsx)).symm
    refine look_intro ld (some (.bool true)) hat.d (hd.weaken (by rintro _ ⟨n, rfl⟩; rfl)) rfl g1 ?_
    refine iIn (fun _ => ?_) (fun h => nomatch h)
    refine oIn [.map (some R.s)] rfl (fld_at hat.c rfl) ?_
    refine look_intro ls (some _) hat.s (hs.weaken (by rintro _ ⟨n, rfl⟩; rfl)) rfl g2 ?_
    refine call_gen [0] [] (fun _ => rfl) ?_
    intro μ1 hle1 _ hat1
    replace hle1 : μ.Le μ1 := hle1
    refine own_go (mapVars_rel (f := fun n => some (val n)) (fun μ' h' => ∃ lf', FAt μ' val lf' ∧ ClInv μ' R c K lk lz lf' h' ∧ Fr [R.u, R.f] h h') (fun hle ⟨lf', k1, k2, k3⟩ => ⟨lf', k1.mono hle, k2.mono hle, k3⟩) t
     (fun μ' h' hm' hj n hn => ?_) ⟨lf, hf.mono hle1, H.mono hle1, Fr.refl _ _⟩ (g3.mono hle1)) fun v4 μ4 h4 hle4 hap4 hR => ?_
    ·obtain ⟨lf', k1, k2, k3⟩ := hj
     exact value1_spec (m := m) hok hval hin (value_spec hok hval hin m) (htK n (T.occ_vars.2 hn)) (by have := hok.acy x t hsx n (T.occ_vars.2 hn); omega) (hm' _ _ hat1) k1 k2 k3
    ·obtain ⟨hv, lf', k1, k2, k3⟩ := hR
     rw [hvx] at hv
     have w_ := Tm.invV hv
     obtain ⟨q4, rfl⟩ := w_
     replace k2 : ClInv μ4 R c K lk lz lf' h4 := k2
     have w_ := k2.ex
     obtain ⟨lu4, ls4, ld4, a4, _⟩ := w_
     have hat4 := hle4 _ _ hat1
     replace hat4 : μ4 r0 = some (.cells #[.pointer (some ⟨R.c, 0, none⟩)] 124 (0, 0)) := hat4
     refine ext_intro [.pointer (some ⟨R.c, 0, none⟩)] rfl (box_at hat4) ?_
     refine oIn [.map (some R.f)] rfl (fld_at a4.c rfl) ?_
     refine upd_intro lf' a4.f (k1.ok.weaken (by rintro _ ⟨n, rfl⟩; rfl)) rfl ?_
     exact rPl ⟨hv, _, k1.add hv, k2.setF, k3.trans (Fr.set (by simp))⟩
end
end Go.Vx
namespace Go.Vx
open Go.Proofs Classical
noncomputable def bv (val : Int → T) (l : List Int) : List Int := l.filter fun v => decide (val v ≠ .var v)
theorem valL_bv (val : Int → T) (l : List Int) : valL val l = (bv val l).map fun v => ⟨v, val v⟩ := by
 unfold valL bv
 induction l with
 | nil => rfl
 | cons v l ih =>
  by_cases h : val v = .var v
  ·rw [List.filterMap_cons, List.filter_cons, if_pos h, if_neg (by simp [h])]; exact ih
  ·rw [List.filterMap_cons, List.filter_cons, if_neg h, if_pos (by simp [h])]
   simp only [List.map_cons]
   rw [ih]
theorem bv_take {val : Int → T} {l : List Int} {i : Nat} {v : Int} (h : l[i]? = some v) : bv val (l.take (i + 1)) = bv val (l.take i) ++ (if val v = .var v then [] else [v]) := by
 unfold bv
 rw [List.take_add_one, h, Option.toList_some, List.filter_append]
 congr 1
 by_cases k : val v = .var v <;> simp [k]
theorem bv_sub {val : Int → T} {l : List Int} (i : Nat) : (bv val (l.take i)).length ≤ (bv val l).length := ((List.take_sublist i l).filter _).length_le
theorem bv_mem {val : Int → T} {l : List Int} {v : Int} : v ∈ bv val l ↔ v ∈ l ∧ val v ≠ .var v := by
 unfold bv
 rw [List.mem_filter, decide_eq_true_eq]
theorem fits_bv {val : Int → T} {l : List Int} : FitsL (valL val l) ↔ (∀ v ∈ bv val l, (val v).size ≤ 5000) ∧ (bv val l).length ≤ 400 := by
 unfold FitsL
 rw [valL_bv, List.length_map]
 constructor
 ·rintro ⟨h1, h2⟩
  exact ⟨fun v hv => h1 ⟨v, val v⟩ (List.mem_map.2 ⟨v, hv, rfl⟩), h2⟩
 ·rintro ⟨h1, h2⟩
  refine ⟨fun b hb => ?_, h2⟩
  have w_ := List.mem_map.1 hb
  obtain ⟨v, hv, rfl⟩ := w_
  exact h1 v hv
def zB (v : Int) : Value := .agg #[.int .i64 v, .int .i64 0, .int .i64 0, .string ⟨#[]⟩, .slice none 0 0]
theorem szc_gt {t : T} : szc t > 5000 ↔ ¬ t.size ≤ 5000 := by unfold szc; omega
section
variable {μ : Mem} {R : ClRefs} {c : Cl} {K : List Int} {Q : T → Prop} {rank : Int → Nat} {val : Int → T}
set_option maxHeartbeats 4000000 in
theorem solved_spec {h : Mem} (hok : c.Ok rank) (hval : c.IsVal val) (hin : c.In K (PK Q K)) (hK : ∀ n ∈ K, 0 ≤ n ∧ n ≤ 100000) (H : ClInv μ R c K [] [] [] h) :
  SpecH Try.prog 109 [.pointer (some ⟨R.c, 0, none⟩)] μ h fun r μ' _ => ∃ l : List Int, l.Pairwise (· < ·) ∧ (∀ n, n ∈ l ↔ n ∈ K) ∧ optB (fun y tv => RepV μ' (.sl 5 ((y.map B.bd).map Bd.d)) tv) (if FitsL (valL val l) then some (valL val l) else none) r := by
 have w_ := H.ex
 obtain ⟨lu, ls, ld, hat, hup, hs, hd, hsh⟩ := w_
 have w_ := keys_ints hup.ok
 obtain ⟨ks, hks, hnd⟩ := w_
 have hkK : ∀ n, n ∈ ks ↔ n ∈ K := fun n => by
  rw [← mget_keys hks n]
  have w_ := hup.at_
  obtain ⟨p, hp, hget, _⟩ := w_
  rw [hget]
  by_cases e : n ∈ K
  ·rw [if_pos e]; simp [e]
  ·rw [if_neg e]; simp [e]
 have hkl : ks.length = lu.length := by
  have := congrArg List.length hks
  simpa [ints] using this.symm
 have hkn : ks.length ≤ 100001 := nodup_range hnd fun n hn => by have := hK n ((hkK n).1 hn); omega
 refine SpecH.mk [12, 26] Try.func109 (by kernel_rfl) ?_
 intro ra hma hoa
 replace hoa : h ra = none := hoa
 have hra : ra ∉ R.l := fun e => hat.dom ra e hoa
 have H1 := H.off (L := [ra]) (h' := h.set ra (mapO [])) (Fr.set (by simp)) (by simpa using hra)
 have a1 := hat.off (L := [ra]) (h' := h.set ra (mapO [])) (Fr.set (by simp)) (by simpa using hra)
 have ea : (h.set ra (mapO [])) ra = some (mapO []) := Mem.set_at _ _ _
 generalize hh1 : h.set ra (mapO []) = h1 at *
 refine oIn [.map (some R.u)] rfl (fld_at a1.c rfl) ?_
 refine mlen_intro lu a1.u ?_
 intro ri hmi hoi
 replace hoi : h1 ri = none := hoi
 have hne : R.u ≠ ri := fun e => by subst e; rw [a1.u] at hoi; cases hoi
 have hai : ra ≠ ri := fun e => by subst e; rw [ea] at hoi; cases hoi
 have hri : ri ∉ R.l := fun e => a1.dom ri e hoi
 have hla0 : ∃ la, (h1.set ri (iterO R.u lu.length [] lu.length)) ra = some (mapO la) ∧ MapOk IntKey la ∧ (∀ n, (mget la (.int .i64 n)).isSome ↔ n ∈ ([] : List Nat).map fun j => ks.getD j 0) := ⟨[], by rw [Mem.set_ne hai]; exact ea, MapOk.nil, fun n => by simp [mget]⟩
 refine lIn (fun p : List Nat × Mem => p.1.Nodup ∧ (∀ j ∈ p.1, j < lu.length) ∧ p.2 ri = some (iterO R.u lu.length p.1 lu.length) ∧ (∃ la, p.2 ra = some (mapO la) ∧ MapOk IntKey la ∧ ∀ n, (mget la (.int .i64 n)).isSome ↔ n ∈ p.1.map fun j => ks.getD j 0) ∧ Fr [ra, ri] h1 p.2)
  (fun (seen, h') => ⟨[(0, .val (.pointer (some ⟨R.c, 0, none⟩))), (4, .val (.map (some ra))), (17, .val (.pointer (some ⟨ri, 0, none⟩)))], [], 0, μ, h'⟩) (fun p => lu.length - p.1.length)
  ([], _) ⟨by simp, by simp, Mem.set_at _ _ _, hla0, Fr.set (by simp)⟩ (fun (_, _) => ⟨rfl, rfl⟩) ⟨⟨rfl, rfl, rfl, trivial⟩, trivial, rfl, rfl⟩ ?_
 rintro ⟨seen, h2⟩ ⟨hsn, hsl, hit, ⟨la, hla, hka, hma2⟩, hfr⟩
 dsimp only at hsn hsl hit hla hma2 hfr
 have hslen := nodup_len hsn hsl
 have hat2 := a1.off hfr (by simpa using ⟨hra, hri⟩)
 refine next_intro R.u seen lu.length lu hit hat2.u (Nat.le_refl _) (fun hall => ?_) (fun j k v hj hns => ?_)
 rotate_left
 ·have hjl := (List.getElem?_eq_some_iff.1 hj).1
  have hkj : k = .int .i64 (ks.getD j 0) := by
   have h1 : (lu.map Prod.fst)[j]? = some k := by simp [hj]
   rw [hks, ints, List.getElem?_map] at h1
   have h2 : j < ks.length := by omega
   rw [List.getElem?_eq_getElem h2] at h1
   simp only [Option.map_some, Option.some.injEq] at h1
   rw [← h1, List.getD_eq_getElem?_getD, List.getElem?_eq_getElem h2]; rfl
  subst hkj
  refine iIn (fun _ => ?_) (fun h => nomatch h)
  refine ent_intro R.u lu.length seen j lu _ v (Mem.set_at _ _ _) ((Mem.set_ne hne).trans hat2.u) hj ?_
  refine upd_intro la ((Mem.set_ne hai).trans hla) (hka.weaken (by rintro _ ⟨n, rfl⟩; rfl)) rfl ?_
  have hsl2 : ∀ i ∈ seen ++ [j], i < lu.length := fun i hi => by
   rcases List.mem_append.1 hi with hi | hi
   ·exact hsl i hi
   ·rw [List.mem_singleton] at hi; subst hi; exact hjl
  have hsn2 : (seen ++ [j]).Nodup := by
   rw [List.nodup_append]
   refine ⟨hsn, by simp, fun a ha b hb e => ?_⟩
   rw [List.mem_singleton] at hb
   subst hb; subst e; exact hns ha
  have hs3 := nodup_len hsn2 hsl2
  rw [List.length_append, List.length_singleton] at hs3
  refine ⟨(seen ++ [j], _), ⟨hsn2, hsl2, ?_, ⟨_, Mem.set_at _ _ _, hka.int _, fun n => ?_⟩, (hfr.trans (Fr.set (by simp))).trans (Fr.set (by simp))⟩, by dsimp only; rw [List.length_append, List.length_singleton]; omega, ⟨⟨rfl, rfl, rfl, trivial⟩, trivial, rfl, rfl⟩⟩
  ·show (Mem.set (Mem.set h2 ri _) ra _) ri = _
   rw [Mem.set_ne hai.symm, Mem.set_at]
  ·rw [mget_int, List.map_append, List.mem_append]
   by_cases e : n = ks.getD j 0
   ·rw [if_pos e]; simp [e]
   ·rw [if_neg e, hma2]
    simp only [List.map_cons, List.map_nil, List.mem_singleton]
    exact ⟨.inl, fun k => k.elim id fun k => absurd k e⟩
 ·refine iIn (fun h => nomatch h) (fun _ => ?_)
  have hp := picked hnd hsn (by rw [hkl]; exact hsl)
  have hpm := picked_mem (by rw [hkl]; exact hsl) (by rw [hkl]; exact hall) (ks := ks) (seen := seen)
  have hn : la.length ≤ 1000000 := by
   have w_ := keys_ints hka
   obtain ⟨ka, h3, h4⟩ := w_
   have h5 : ka.length = la.length := by
    have := congrArg List.length h3
    simpa [ints] using this.symm
   have := nodup_range (N := 100001) h4 fun n hn => by
    have := hK n ((hkK n).1 ((hpm n).1 ((hma2 n).1 ((mget_keys h3 n).2 hn)))); omega
   omega
  refine cOw (sortedInts_spec hla hka hn) fun v μ1 h3 hle1 hap1 hR => ?_
  obtain ⟨e, xs, hxm, hxp, hxf⟩ := hR
  obtain rfl := e
  have hxK : ∀ n, n ∈ xs ↔ n ∈ K := fun n => by rw [hxm, hma2, hpm, hkK]
  replace hap1 : Apart μ1 h3 := hap1
  have w_ := Rep.sl hxf.rep
  obtain ⟨xb, xc, rfl, hsl1⟩ := w_
  rw [List.length_map] at hsl1 ⊢
  have hxl : xs.length ≤ 100001 := nodup_range (hxp.imp fun h e => by omega) fun n hn => by have := hK n ((hxK n).1 hn); omega
  have H3 : ClInv μ1 R c K [] [] [] h3 := (H1.off hfr (by simpa using ⟨hra, hri⟩)).mono hle1
  have a3 := a1.off hfr (by simpa using ⟨hra, hri⟩)
  intro rb hmb hob
  replace hob : h3 rb = none := hob
  replace hmb : μ1 rb = none := hmb
  have hrb : rb ∉ R.l := fun e => a3.dom rb e hob
  have H4 := H3.off (L := [rb]) (h' := h3.set rb (.cells #[] 56 (0, 0))) (Fr.set (by simp)) (by simpa using hrb)
  have I0 : ∃ col lk lz, ClInv μ1 R c K lk lz [] (h3.set rb (.cells #[] 56 (0, 0))) ∧ Wt val col lk lz ∧ ∀ z, col z ≠ 1 := ⟨_, _, _, H4, Wt.nil val, fun z => by decide⟩
  refine lIn (fun p : Nat × Nat × Nat × Mem × Mem => p.1 ≤ xs.length ∧ RowO p.2.2.2.2 p.2.1 p.2.2.1 56 5 ((bv val (xs.take p.1)).map zB) ∧ p.2.1 ∉ R.l ∧ Apart p.2.2.2.1 p.2.2.2.2 ∧ μ1.Le p.2.2.2.1 ∧ (∃ col lk lz, ClInv p.2.2.2.1 R c K lk lz [] p.2.2.2.2 ∧ Wt val col lk lz ∧ ∀ z, col z ≠ 1) ∧ (∀ v ∈ bv val (xs.take p.1), (val v).size ≤ 5000) ∧ (bv val (xs.take p.1)).length ≤ 400)
   (fun (i, b, cp, μ', h') => ⟨[(0, .val (.pointer (some ⟨R.c, 0, none⟩))), (7, .val (.slice (some ⟨b, 0, none⟩) (bv val (xs.take i)).length cp)), (27, .val (.slice xb xs.length xc)), (28, .val (.int .i64 xs.length)), (29, .val (.int .i64 i))], [], 0, μ', h'⟩) (fun p => xs.length - p.1)
   (0, rb, 0, μ1, _) ⟨by simp, RowO.mk_nil _ _ _ _, hrb, hap1.set hmb, Mem.Le.refl _, I0, by simp [bv], by simp [bv]⟩ (fun (_, _, _, _, _) => ⟨rfl, rfl⟩) ⟨⟨rfl, rfl, rfl, rfl, rfl, trivial⟩, trivial, rfl, rfl⟩ ?_
  clear I0 H4 hob hmb hap1 H3 a3 hrb
  rintro ⟨i, b, cp, μ2, h4⟩ ⟨hi, hrow, hb, hap2, hle2, ⟨col, lk, lz, H5, hw, hng⟩, hsz, hln⟩
  dsimp only at hi hrow hb hap2 hle2 H5 hsz hln
  refine ifd (fun hlt => ?_) (fun hlt => ?_)
  ·have w_ := aSo (l := xs) (i := i) (by omega)
   obtain ⟨w, hxi⟩ := w_
   have hwx := mAt hxi
   have hwK := (hxK w).1 hwx
   have w_ := Ints.elem (hsl1.mono hle2) hxi
   obtain ⟨ad, hel⟩ := w_
   have htk := bv_take (val := val) hxi
   refine eIn hel ?_
   refine cOw (root_spec w hok.le H5) fun r μ3 h5 hle3 hap3 hR => ?_
   obtain ⟨rfl, e, H6, fr6⟩ := hR
   obtain rfl := e.symm
   rw [ord_of_mem hwK] at H6
   replace H6 : ClInv μ2 R c K lk lz [] h5 := H6
   refine cOw (weigh_spec hok hval hin _ (Nat.lt_succ_self _) (hin.rep w hwK) (hok.idem w) (fun z hz => absurd hz (hng z)) hw H6) fun r μ3 h6 hle4 hap4 hR => ?_
   obtain ⟨rfl, col2, ⟨⟨lk2, lz2, H7, hw2⟩, k1, k2, fr7⟩, k3⟩ := hR
   replace H7 : ClInv μ3 R c K lk2 lz2 [] h6 := H7
   replace hap4 : Apart μ3 h6 := hap4
   have hle23 : μ2.Le μ3 := hle4
   have hng2 : ∀ z, col2 z ≠ 1 := fun z hz => hng z (k2 z hz)
   refine iIn (fun h => nomatch h) (fun _ => ?_)
   have hbu : b ≠ R.u := fun e => hb (by rw [e]; simp [ClRefs.l])
   have hbk : b ≠ R.k := fun e => hb (by rw [e]; simp [ClRefs.l])
   have hbz : b ≠ R.z := fun e => hb (by rw [e]; simp [ClRefs.l])
   have hrow2 : RowO h6 b cp 56 5 ((bv val (xs.take i)).map zB) := by
    obtain ⟨cs, hc, rest⟩ := hrow
    exact ⟨cs, fr7.at (fr6.at hc (by simpa using hbu)) (by simp [hbu, hbk, hbz]), rest⟩
   have w_ := H7.ex
   obtain ⟨lu7, ls7, ld7, a7, hup7, hs7, hd7, hsh7⟩ := w_
   have hself := Cl.val_self hok hval w
   have hlen2 : ((bv val (xs.take i)).map zB).length = (bv val (xs.take i)).length := List.length_map _
   refine ifd (fun hrw => ?_) (fun hrw => ?_)
   ·refine oIn [.map (some R.d)] rfl (fld_at a7.c rfl) ?_
    cases hsw : c.shp w with
    | none =>
     have hvw := hself.2 ⟨hrw, hsw⟩
     rw [if_pos hvw, List.append_nil] at htk
     refine look_intro ld7 none a7.d (hd7.weaken (by rintro _ ⟨n, rfl⟩; rfl)) rfl (by rw [hrw]; exact hsh7.none hrw hsw) ?_
     refine iIn (fun _ => ?_) (fun h => nomatch h)
     refine num64 (by omega) (by omega) ⟨(i + 1, b, cp, μ3, h6), ⟨by dsimp only; omega, by dsimp only; rw [htk]; exact hrow2, hb, hap4, hle2.trans hle23, ⟨col2, lk2, lz2, H7, hw2, hng2⟩, by dsimp only; rw [htk]; exact hsz, by dsimp only; rw [htk]; exact hln⟩, by dsimp only; omega, ?_⟩
     exact ⟨⟨rfl, by dsimp only; rw [htk]; rfl, rfl, rfl, rfl, trivial⟩, trivial, rfl, rfl⟩
    | some t =>
     have hvw : val w ≠ .var w := fun e => by rw [(hself.1 e).2] at hsw; cases hsw
     refine look_intro ld7 (some (.bool true)) a7.d (hd7.weaken (by rintro _ ⟨n, rfl⟩; rfl)) rfl (by rw [hrw]; exact (hsh7.some hrw hsw).1) ?_
     refine iIn (fun h => nomatch h) (fun _ => ?_)
     rw [if_neg hvw] at htk
     have hwb : w ∈ bv val xs := bv_mem.2 ⟨hwx, hvw⟩
     have hsub := bv_sub (val := val) (l := xs) (i + 1)
     rw [htk, List.length_append, List.length_singleton] at hsub
     intro r55
     refine app_intro ((bv val (xs.take i)).map zB) hlen2 hrow2 ?_ ?_ fun b' c' o hrow3 hor => ?_
     ·show ((bv val (xs.take i)).length + 1) * 64 ≤ _; omega
     ·exact Nat.le_trans (m := 100000000) (show (bv val (xs.take i)).length + 1 ≤ _ by omega) (by decide)
     have hb' : b' ∉ R.l := by
      rcases hor with e | ⟨e, _⟩
      ·rw [e]; exact hb
      ·exact fun k => a7.dom b' k e
     have hap5 := hap4.set (o := o) (apartO hrow2 hap4 hor)
     have a8 := a7.off (L := [b']) (h' := h6.set b' o) (Fr.set (by simp)) (by simpa using hb')
     have H8 := H7.off (L := [b']) (h' := h6.set b' o) (Fr.set (by simp)) (by simpa using hb')
     have hz := hw2.siz _ k3
     rw [hval.rep hok] at hz
     refine oIn [.map (some R.z)] rfl (fld_at a8.c rfl) ?_
     refine look_intro lz2 (some _) a8.z (hw2.okz.weaken (by rintro _ ⟨n, rfl⟩; rfl)) rfl hz ?_
     refine ifd (fun hgt => ?_) (fun hgt => ?_)
     ·refine rPl ⟨xs, hxp, hxK, ?_⟩
      rw [if_neg fun hf => szc_gt.1 hgt ((fits_bv.1 hf).1 w hwb)]
      rfl
     refine ifd (fun hgt2 => ?_) (fun hgt2 => ?_)
     ·replace hgt2 : (((bv val (xs.take i)).length + 1 : Nat) : Int) > 400 := hgt2
      refine rPl ⟨xs, hxp, hxK, ?_⟩
      rw [if_neg fun hf => by have := (fits_bv.1 hf).2; omega]
      rfl
     replace hgt2 : ¬ (((bv val (xs.take i)).length + 1 : Nat) : Int) > 400 := hgt2
     have hsize : (val w).size ≤ 5000 := Classical.byContradiction fun e => hgt (szc_gt.2 e)
     refine num64 (by omega) (by omega) ⟨(i + 1, b', c', μ3, h6.set b' o), ⟨by dsimp only; omega, ?_, hb', hap5, hle2.trans hle23, ⟨col2, lk2, lz2, H8, hw2, hng2⟩, ?_, ?_⟩, by dsimp only; omega, ?_⟩
     ·dsimp only
      rw [htk, List.map_append]
      exact hrow3
     ·dsimp only
      rw [htk]
      intro v hv
      rcases List.mem_append.1 hv with hv | hv
      ·exact hsz v hv
      ·rw [List.mem_singleton] at hv; subst hv; exact hsize
     ·dsimp only
      rw [htk, List.length_append, List.length_singleton]; omega
     ·exact ⟨⟨rfl, by dsimp only; rw [htk, List.length_append, List.length_singleton]; rfl, rfl, rfl, rfl, trivial⟩, trivial, rfl, rfl⟩
   ·have hvw : val w ≠ .var w := fun e => hrw (hself.1 e).1
    rw [if_neg hvw] at htk
    have hwb : w ∈ bv val xs := bv_mem.2 ⟨hwx, hvw⟩
    have hsub := bv_sub (val := val) (l := xs) (i + 1)
    rw [htk, List.length_append, List.length_singleton] at hsub
    intro r55
    refine app_intro ((bv val (xs.take i)).map zB) hlen2 hrow2 ?_ ?_ fun b' c' o hrow3 hor => ?_
    ·show ((bv val (xs.take i)).length + 1) * 64 ≤ _; omega
    ·exact Nat.le_trans (m := 100000000) (show (bv val (xs.take i)).length + 1 ≤ _ by omega) (by decide)
    have hb' : b' ∉ R.l := by
     rcases hor with e | ⟨e, _⟩
     ·rw [e]; exact hb
     ·exact fun k => a7.dom b' k e
    have hap5 := hap4.set (o := o) (apartO hrow2 hap4 hor)
    have a8 := a7.off (L := [b']) (h' := h6.set b' o) (Fr.set (by simp)) (by simpa using hb')
    have H8 := H7.off (L := [b']) (h' := h6.set b' o) (Fr.set (by simp)) (by simpa using hb')
    have hz := hw2.siz _ k3
    rw [hval.rep hok] at hz
    refine oIn [.map (some R.z)] rfl (fld_at a8.c rfl) ?_
    refine look_intro lz2 (some _) a8.z (hw2.okz.weaken (by rintro _ ⟨n, rfl⟩; rfl)) rfl hz ?_
    refine ifd (fun hgt => ?_) (fun hgt => ?_)
    ·refine rPl ⟨xs, hxp, hxK, ?_⟩
     rw [if_neg fun hf => szc_gt.1 hgt ((fits_bv.1 hf).1 w hwb)]
     rfl
    refine ifd (fun hgt2 => ?_) (fun hgt2 => ?_)
    ·replace hgt2 : (((bv val (xs.take i)).length + 1 : Nat) : Int) > 400 := hgt2
     refine rPl ⟨xs, hxp, hxK, ?_⟩
     rw [if_neg fun hf => by have := (fits_bv.1 hf).2; omega]
     rfl
    replace hgt2 : ¬ (((bv val (xs.take i)).length + 1 : Nat) : Int) > 400 := hgt2
    have hsize : (val w).size ≤ 5000 := Classical.byContradiction fun e => hgt (szc_gt.2 e)
    refine num64 (by omega) (by omega) ⟨(i + 1, b', c', μ3, h6.set b' o), ⟨by dsimp only; omega, ?_, hb', hap5, hle2.trans hle23, ⟨col2, lk2, lz2, H8, hw2, hng2⟩, ?_, ?_⟩, by dsimp only; omega, ?_⟩
    ·dsimp only
     rw [htk, List.map_append]
     exact hrow3
    ·dsimp only
     rw [htk]
     intro v hv
     rcases List.mem_append.1 hv with hv | hv
     ·exact hsz v hv
     ·rw [List.mem_singleton] at hv; subst hv; exact hsize
    ·dsimp only
     rw [htk, List.length_append, List.length_singleton]; omega
    ·exact ⟨⟨rfl, by dsimp only; rw [htk, List.length_append, List.length_singleton]; rfl, rfl, rfl, rfl, trivial⟩, trivial, rfl, rfl⟩
  ·obtain rfl : i = xs.length := by omega
   rw [List.take_length] at hrow hsz hln ⊢
   have hfit : FitsL (valL val xs) := fits_bv.2 ⟨hsz, hln⟩
   have hb0 : ∀ v ∈ bv val xs, v ∈ K := fun v hv => (hxK v).1 (bv_mem.1 hv).1
   generalize hL : bv val xs = L at hrow hln hb0
   have hLl : (L.map zB).length = L.length := List.length_map _
   refine lIn (fun p : Nat × List Value × Mem × Mem => p.1 ≤ L.length ∧ p.2.1.length = L.length ∧ RowO p.2.2.2 b cp 56 5 p.2.1 ∧ Apart p.2.2.1 p.2.2.2 ∧ μ1.Le p.2.2.1 ∧ (∃ lf, FAt p.2.2.1 val lf ∧ ClInv p.2.2.1 R c K lk lz lf p.2.2.2) ∧ ∀ (j : Nat) v, L[j]? = some v → (j < p.1 → ∃ w, p.2.1[j]? = some w ∧ RepV p.2.2.1 (B.bd ⟨v, val v⟩).d w) ∧ (p.1 ≤ j → p.2.1[j]? = some (zB v)))
    (fun (i, ys, μ', h') => ⟨[(0, .val (.pointer (some ⟨R.c, 0, none⟩))), (7, .val (.slice (some ⟨b, 0, none⟩) L.length cp)), (71, .val (.int .i64 L.length)), (72, .val (.int .i64 i))], [], 0, μ', h'⟩) (fun p => L.length - p.1)
    (0, L.map zB, μ2, h4) ⟨by simp, hLl, hrow, hap2, hle2, ⟨[], FAt.nil _ _, H5⟩, fun j v hj => ⟨fun h => absurd h (Nat.not_lt_zero _), fun _ => by simp [hj]⟩⟩ (fun (_, _, _, _) => ⟨rfl, rfl⟩) ⟨⟨rfl, rfl, rfl, rfl, trivial⟩, trivial, rfl, rfl⟩ ?_
   clear hrow hap2 H5 hw hle2
   rintro ⟨i, ys, μ3, h5⟩ ⟨hi, hyl, hrow, hap3, hle3, ⟨lf, hf, H6⟩, hel⟩
   dsimp only at hi hyl hrow hap3 hle3 hf H6 hel
   refine ifd (fun hlt => ?_) (fun hlt => ?_)
   ·have w_ := aSo (l := L) (i := i) (by omega)
    obtain ⟨v, hLi⟩ := w_
    have hvK := hb0 v (mAt hLi)
    have hyi := (hel i v hLi).2 (Nat.le_refl _)
    refine ptr_intro ⟨b, 0, none⟩ rfl (by omega) (by omega) ?_
    refine oIn [.int .i64 v] rfl (hrow.own1 (k := i) (j := 0) hyi rfl (by simp [Addr.add_lit'])) ?_
    refine cOw (root_spec v hok.le H6) fun r μ4 h6 hle4 hap4 hR => ?_
    obtain ⟨rfl, e, H7, fr7⟩ := hR
    obtain rfl := e.symm
    rw [ord_of_mem hvK] at H7
    replace H7 : ClInv μ3 R c K lk lz lf h6 := H7
    refine cOw (value_spec hok hval hin _ (Nat.lt_succ_self _) (hin.rep v hvK) (hok.idem v) hf H7) fun r μ4 h7 hle4 hap5 hR => ?_
    obtain ⟨hrv, lf2, hf2, H8, fr8⟩ := hR
    replace H8 : ClInv μ4 R c K lk lz lf2 h7 := H8
    replace hap5 : Apart μ4 h7 := hap5
    have hle34 : μ3.Le μ4 := hle4
    rw [hval.rep hok] at hrv
    have w_ := Tm.invV hrv
    obtain ⟨q, rfl⟩ := w_
    have hbu : b ≠ R.u := fun e => hb (by rw [e]; simp [ClRefs.l])
    have hbf : b ≠ R.f := fun e => hb (by rw [e]; simp [ClRefs.l])
    have hrow2 : RowO h7 b cp 56 5 ys := by
     obtain ⟨cs, hc, rest⟩ := hrow
     exact ⟨cs, fr8.at (fr7.at hc (by simpa using hbu)) (by simp [hbu, hbf]), rest⟩
    refine cDa hap5 (copyTerm_spec (val v) hrv) fun w μ5 hle5 hap6 hR => ?_
    have w_ := Tm.invV hR.rep
    obtain ⟨q2, rfl⟩ := w_
    refine ptr_intro ⟨b, 0, none⟩ rfl (by omega) (by omega) ?_
    refine sto_row (k := i) (j := 1) (x := zB v) (.agg (Value.int .i64 v :: (val v).tm.cs q2).toArray) hrow2 hyi (by simp [Addr.add_lit']) rfl (show 1 + 4 ≤ 5 by decide) (by simp [Value.oneCell']) fun o hrow3 => ?_
    have hle35 := hle34.trans hle5
    refine num64 (by omega) (by omega) ⟨(i + 1, ys.set i (.agg (Value.int .i64 v :: (val v).tm.cs q2).toArray), μ5, h7.set b o), ⟨by dsimp only; omega, by dsimp only; rw [List.length_set]; exact hyl, hrow3, hap6.set (apartO hrow2 hap6 (.inl rfl)), hle3.trans hle35, ⟨lf2, hf2.mono hle5, (H8.mono hle5).off (L := [b]) (Fr.set (by simp)) (by simpa using hb)⟩, fun j u hj => ⟨fun hji => ?_, fun hji => ?_⟩⟩, by dsimp only; omega, ⟨⟨rfl, rfl, rfl, rfl, trivial⟩, trivial, rfl, rfl⟩⟩
    ·dsimp only
     by_cases e : j = i
     ·subst e
      rw [hLi] at hj
      cases hj
      exact ⟨_, List.getElem?_set_self (by omega), RepV.bd hR.rep⟩
     ·have w_ := (hel j u hj).1 (by dsimp only at hji; omega)
      obtain ⟨w', hw1, hw2⟩ := w_
      exact ⟨w', by rw [List.getElem?_set_ne (fun k => e k.symm)]; exact hw1, hw2.mono hle35⟩
    ·dsimp only at hji ⊢
     rw [List.getElem?_set_ne (by omega)]
     exact (hel j u hj).2 (by omega)
   ·obtain rfl : i = L.length := by omega
    refine ret_own _ Mem.nil (Parts.nil_right _) ⟨xs, hxp, hxK, ?_⟩
    rw [if_pos hfit]
    refine ⟨_, rfl, ?_⟩
    have hrows : Rows μ3 5 (((valL val xs).map B.bd).map Bd.d) ys := by
     refine Rows.of_at' (by rw [List.length_map, List.length_map, valL_bv, hL, List.length_map]; exact hyl.symm) fun j d w hd hw' => ?_
     have hjl : j < L.length := by
      have := (List.getElem?_eq_some_iff.1 hw').1; omega
     have w_ := aSo (l := L) (i := j) hjl
     obtain ⟨v, hLj⟩ := w_
     have w_ := (hel j v hLj).1 hjl
     obtain ⟨w2, hw2, hw3⟩ := w_
     rw [hw'] at hw2
     cases hw2
     rw [valL_bv, hL] at hd
     simp only [List.map_map, List.getElem?_map, hLj, Option.map_some, Option.some.injEq] at hd
     subst hd
     exact ⟨hw3, Bd.d_n _⟩
    rw [← hyl]
    obtain ⟨cs, hcell, hlen0, hcap, hone, hcs, htake⟩ := hrow
    have hb2 : μ3 b = none := by
     cases e : μ3 b with
     | none => rfl
     | some o => have := hap3 b (by simp [e]); rw [hcell] at this; cases this
    have hrowA : RowAt (μ3.join h5) (some b) cp 5 ys := ⟨hlen0, hone, _, _, by rw [Mem.join_get, hb2]; exact hcell, by simpa using hcs, by simpa using htake⟩
    exact Rows.sl hrowA (hrows.mono (Mem.le_join _ _)) hcap
end
end Go.Vx
namespace Go.Vx
open Go.Proofs Classical
noncomputable def evars (E : List (T × T)) : List Int := E.flatMap fun e => e.1.vars ++ e.2.vars
theorem evars_append (E F : List (T × T)) : evars (E ++ F) = evars E ++ evars F := List.flatMap_append
def BuiltOf (Q : T → Prop) (y : List B) : Prop := ∀ n, (∃ m, asF y n = .var m) ∨ ∃ s, Q s ∧ (∀ m, s ≠ .var m) ∧ asF y n = s.ap (asF y)
structure SolI (Q : T → Prop) (E : List (T × T)) (y : List B) : Prop where
 sol : SolL y E
 built : BuiltOf Q y
 vars : ∀ b ∈ y, b.var ∈ evars E
 good : ∀ b ∈ y, b.to.good ∧ 0 ≤ b.var ∧ b.var ≤ 100000
def SolO (Q : T → Prop) (E : List (T × T)) : Option (List B) → Prop
 | some y => SolI Q E y ∧ FitsL y
 | none => (∀ θ, ¬ SolvesE θ E) ∨ ∃ y, SolI Q E y ∧ ¬ FitsL y
theorem T.good_ap {s : Int → T} : ∀ {t : T}, (∀ n, t.occ n → (s n).good) → t.good → (t.ap s).good
 | .var n, h, _ => h n rfl
 | .pair _ _, h, k => ⟨T.good_ap (fun n hn => h n (.inl hn)) k.1, T.good_ap (fun n hn => h n (.inr hn)) k.2⟩
 | .nil, _, _ => trivial
 | .sym _, _, k => k
 | .num _, _, k => k
theorem Cl.val_good {c : Cl} {rank : Int → Nat} {val : Int → T} {K : List Int} {Q : T → Prop} (hok : c.Ok rank) (hval : c.IsVal val) (hin : c.In K (PK Q K)) (hK : ∀ n ∈ K, 0 ≤ n ∧ n ≤ 100000) (hQ : ∀ t, Q t → t.good) : ∀ (m : Nat) (n : Int), rank (c.rep n) < m → n ∈ K → (val n).good
 | 0, _, h, _ => absurd h (Nat.not_lt_zero _)
 | m + 1, n, h, hn => by
  cases e : c.shp (c.rep n) with
  | none => rw [hval.plain e]; exact hK _ (hin.rep n hn)
  | some t =>
   have ht := (hin.shp _ _ e).2
   rw [hval.shaped e]
   exact T.good_ap (fun u hu => Cl.val_good hok hval hin hK hQ m u (by have := hok.acy _ _ e u hu; omega) (ht.1 u hu)) (hQ t ht.2)
theorem Cl.solI {c : Cl} {rank : Int → Nat} {val : Int → T} {K l : List Int} {Q : T → Prop} {E : List (T × T)} (hok : c.Ok rank) (hval : c.IsVal val) (hin : c.In K (PK Q K)) (hK : ∀ n ∈ K, 0 ≤ n ∧ n ≤ 100000) (hQ : ∀ t, Q t → t.good) (hE : ∀ θ, c.Sol θ ↔ SolvesE θ E) (hKE : ∀ n, n ∈ K ↔ n ∈ evars E) (hl : l.Pairwise (· < ·)) (hlK : ∀ n, n ∈ l ↔ n ∈ K) : SolI Q E (valL val l) := by
 have hout : ∀ v, v ∉ l → val v = .var v := fun v hn => (Cl.val_self hok hval v).2 ⟨hin.out v fun k => hn ((hlK v).2 k), by
  cases e : c.shp v with
  | none => rfl
  | some t => exact absurd ((hlK v).2 (hin.shp _ _ e).1) hn⟩
 have hF := valL_asF hl hout
 refine ⟨valL_sol (hval.solved hok hE) hl hout, fun n => ?_, fun b hb => ?_, fun b hb => ?_⟩
 ·rw [hF]
  cases e : c.shp (c.rep n) with
  | none => exact .inl ⟨_, hval.plain e⟩
  | some t => exact .inr ⟨t, (hin.shp _ _ e).2.2, hok.nv _ _ e, hval.shaped e⟩
 ·have := mem_valL.1 hb
  exact (hKE _).1 ((hlK _).1 this.1)
 ·have w_ := mem_valL.1 hb
  obtain ⟨h1, h2, h3⟩ := w_
  have hbK := (hlK _).1 h1
  rw [h2]
  exact ⟨Cl.val_good hok hval hin hK hQ _ _ (Nat.lt_succ_self _) hbK, hK _ hbK⟩
section
variable {μ : Mem} {Q : T → Prop}
structure SolSt (Q : T → Prop) (R : ClRefs) (E : List (T × T)) (μ h : Mem) : Prop where
 ex : ∃ c K, ClInv μ R c K [] [] [] h ∧ c.Good ∧ c.In K (PK Q K) ∧ (∀ θ, c.Sol θ ↔ SolvesE θ E) ∧ (∀ n, n ∈ K ↔ n ∈ evars E) ∧ ∀ n ∈ K, 0 ≤ n ∧ n ≤ 100000
theorem equal_step {R : ClRefs} {E : List (T × T)} {h : Mem} {c : Cl} {K : List Int} {a b : T} {va vb : Value} (hQ : ∀ a b, Q (.pair a b) → Q a ∧ Q b) (hg : c.Good) (hin : c.In K (PK Q K)) (hE : ∀ θ, c.Sol θ ↔ SolvesE θ E) (hKE : ∀ n, n ∈ K ↔ n ∈ evars (E ++ [(a, b)])) (hK : ∀ n ∈ K, 0 ≤ n ∧ n ≤ 100000)
  (ha : Q a) (hb : Q b) (hva : RepV μ a.tm.d va) (hvb : RepV μ b.tm.d vb) (H : ClInv μ R c K [] [] [] h) :
  SpecH Try.prog 108 [.pointer (some ⟨R.c, 0, none⟩), va, vb] μ h fun r μ' h' => ∃ o, r = .bool o ∧ (o = true → SolSt Q R (E ++ [(a, b)]) μ' h') ∧ (o = false → ∀ θ, ¬ SolvesE θ (E ++ [(a, b)])) := by
 have w_ := hg
 obtain ⟨rank, hok⟩ := w_
 have w_ := hok.has_val
 obtain ⟨val, hval⟩ := w_
 have hKa : ∀ n, n ∈ K ↔ n ∈ evars E ∨ n ∈ a.vars ∨ n ∈ b.vars := fun n => by
  rw [hKE, evars_append]; simp [evars]
 have hE2 : ∀ θ, SolvesE θ (E ++ [(a, b)]) ↔ SolvesE θ E ∧ a.ap θ = b.ap θ := fun θ => by
  rw [solves_append, solves_cons]
  exact ⟨fun k => ⟨k.1, k.2.1⟩, fun k => ⟨k.1, k.2, fun e he => by simp at he⟩⟩
 refine (equal_all (P := PK Q K) (fun _ h => h.1) (fun a b h => PK.pair hQ a b h) _ _ (Nat.le_refl _) hval (Nat.le_refl _) hg hin ⟨fun n hn => (hKa n).2 (.inr (.inl (T.occ_vars.1 hn))), ha⟩ ⟨fun n hn => (hKa n).2 (.inr (.inr (T.occ_vars.1 hn))), hb⟩ hva hvb H).weaken fun r μ' h' _ _ hR => ?_
 obtain ⟨o, c', rfl, k1, k2⟩ := hR
 refine ⟨o, rfl, fun e => ?_, fun e θ k => ?_⟩
 ·subst e
  exact ⟨c', K, k2 rfl, k1.1, k1.2.1, fun θ => by rw [k1.2.2.1 θ, hE2, hE], hKE, hK⟩
 ·subst e
  have := (hE2 θ).1 k
  exact k1 θ ⟨(hE θ).2 this.1, this.2⟩
set_option maxHeartbeats 4000000 in
theorem solution_spec {bs : List B} {xs ys : List T} {b0 b1 b2 : Option Addr} {c0 c1 c2 : Nat} (hQ : ∀ a b, Q (.pair a b) → Q a ∧ Q b) (hQg : ∀ t, Q t → t.good) (hb : ∀ b ∈ bs, Q (.var b.var) ∧ Q b.to) (hx : ∀ x ∈ xs, Q x) (hy : ∀ y ∈ ys, Q y) (hl : xs.length = ys.length)
  (hsb : Sl μ 5 b0 bs.length ((bs.map B.bd).map Bd.d)) (hsx : Sl μ 4 b1 xs.length ((xs.map T.tm).map Tm.d)) (hsy : Sl μ 4 b2 ys.length ((ys.map T.tm).map Tm.d)) (hbl : bs.length ≤ 1000000000) (hxl : xs.length ≤ 1000000000) :
  Spec Try.prog 61 [.slice b0 bs.length c0, .slice b1 xs.length c1, .slice b2 ys.length c2] μ fun r μ' => ∃ o, optB (fun y tv => RepV μ' (.sl 5 ((y.map B.bd).map Bd.d)) tv) o r ∧ SolO Q (eqsB bs ++ xs.zip ys) o := by
 refine Spec.mk Try.func61 (by kernel_rfl) ?_
 refine cOw newClasses_spec fun r μ1 h1 hle1 hap1 hR => ?_
 obtain ⟨R, rfl, e, H1⟩ := hR
 obtain rfl := e.symm
 have S0 : SolSt Q R (eqsB (bs.take 0)) μ h1 := ⟨Cl.start, [], H1, ⟨_, Cl.start_ok⟩, Cl.start_in Q, fun θ => Cl.start_sol θ, fun n => by simp [eqsB, evars], fun n hn => by simp at hn⟩
 have hrange : ∀ t, Q t → ∀ n ∈ t.vars, 0 ≤ n ∧ n ≤ 100000 := fun t ht n hn => T.vars_range (hQg t ht) n hn
 refine lIn (fun p : Nat × Mem × Mem => p.1 ≤ bs.length ∧ μ.Le p.2.1 ∧ SolSt Q R (eqsB (bs.take p.1)) p.2.1 p.2.2)
  (fun (i, μ', h') => ⟨[(1, .val (.slice b1 xs.length c1)), (2, .val (.slice b2 ys.length c2)), (8, .val (.pointer (some ⟨R.c, 0, none⟩))), (13, .val (.slice b0 bs.length c0)), (14, .val (.int .i64 bs.length)), (15, .val (.int .i64 i))], [], 0, μ', h'⟩) (fun p => bs.length - p.1)
  (0, μ, h1) ⟨by simp, Mem.Le.refl _, S0⟩ (fun (_, _, _) => ⟨rfl, rfl⟩) ⟨⟨rfl, rfl, rfl, rfl, rfl, rfl, trivial⟩, trivial, rfl, rfl⟩ ?_
 clear S0 H1 hap1
 rintro ⟨i, μ2, h2⟩ ⟨hi, hle2, ⟨c, K, H2, hg, hin, hE, hKE, hK⟩⟩
 dsimp only at hi hle2 H2 hE hKE
 refine ifd (fun hlt => ?_) (fun hlt => ?_)
 ·have w_ := aSo (l := bs) (i := i) (by omega)
  obtain ⟨b, hbi⟩ := w_
  have hbm := hb b (mAt hbi)
  have w_ := B.elem (hsb.mono hle2) hbi
  obtain ⟨ad, p, hel, hto⟩ := w_
  have hg0 := hg
  obtain ⟨rank, hok⟩ := hg0
  have htk : eqsB (bs.take (i + 1)) = eqsB (bs.take i) ++ [(.var b.var, b.to)] := by
   unfold eqsB
   rw [List.take_add_one, hbi, Option.toList_some, List.map_append]; rfl
  refine eIn hel ?_
  intro r10
  refine cOw (root_spec b.var hok.le H2) fun r μ3 h3 hle3 hap3 hR => ?_
  obtain ⟨rfl, e, H3, fr3⟩ := hR
  obtain rfl := e.symm
  replace H3 : ClInv μ2 R c (ord K b.var) [] [] [] h3 := H3
  refine cOw (meet_spec hok.le hto H3) fun r μ3 h4 hle4 hap4 hR => ?_
  obtain ⟨rfl, H4⟩ := hR
  replace H4 : ClInv μ3 R c (ordAll (ord K b.var) b.to.vars) [] [] [] h4 := H4
  have hle23 : μ2.Le μ3 := hle4
  have hKm : ∀ n, n ∈ ordAll (ord K b.var) b.to.vars ↔ n ∈ b.to.vars ∨ n = b.var ∨ n ∈ K := fun n => by rw [ordAll_mem, ord_mem]
  have hin4 : c.In (ordAll (ord K b.var) b.to.vars) (PK Q (ordAll (ord K b.var) b.to.vars)) := hin.mono fun n hn => (hKm n).2 (.inr (.inr hn))
  refine cGv (variable_spec b.var) ?_
  refine cOw (equal_step hQ hg hin4 hE (fun n => ?_) (fun n hn => ?_) hbm.1 hbm.2 (varV_rep b.var) (hto.mono hle23) H4) fun r μ4 h5 hle5 hap5 hR => ?_
  ·rw [hKm, evars_append, List.mem_append, ← hKE]
   simp only [evars, List.flatMap_cons, List.flatMap_nil, List.append_nil, T.vars, List.mem_append, List.mem_singleton]
   exact ⟨fun k => k.elim (fun k => .inr (.inr k)) fun k => k.elim (fun k => .inr (.inl k)) .inl, fun k => k.elim (fun k => .inr (.inr k)) fun k => k.elim (fun k => .inr (.inl k)) .inl⟩
  ·rcases (hKm n).1 hn with k | k | k
   ·exact hrange _ hbm.2 n k
   ·subst k; exact hQg _ hbm.1
   ·exact hK n k
  obtain ⟨o, rfl, k1, k2⟩ := hR
  cases o with
  | false =>
   refine iIn (fun _ => ?_) (fun h => nomatch h)
   refine rPl ⟨none, rfl, .inl fun θ k => k2 rfl θ ?_⟩
   rw [← htk]
   exact fun e he => k e (List.mem_append_left _ (by
    unfold eqsB at he ⊢
    have w_ := List.mem_map.1 he
    obtain ⟨b', hb', rfl⟩ := w_
    exact List.mem_map.2 ⟨b', List.mem_of_mem_take hb', rfl⟩))
  | true =>
   refine iIn (fun h => nomatch h) (fun _ => ?_)
   refine num64 (by omega) (by omega) ⟨(i + 1, μ4, h5), ⟨by dsimp only; omega, (hle2.trans hle23).trans hle5, by dsimp only; rw [htk]; exact k1 rfl⟩, by dsimp only; omega, ⟨⟨rfl, rfl, rfl, rfl, rfl, rfl, trivial⟩, trivial, rfl, rfl⟩⟩
 ·obtain rfl : i = bs.length := by omega
  rw [List.take_length] at hE hKE
  have htk0 : (xs.zip ys).take 0 = [] := rfl
  have S0 : SolSt Q R (eqsB bs ++ (xs.zip ys).take 0) μ2 h2 := ⟨c, K, H2, hg, hin, by rw [htk0, List.append_nil]; exact hE, by rw [htk0, List.append_nil]; exact hKE, hK⟩
  have hzl : (xs.zip ys).length = xs.length := by rw [List.length_zip]; omega
  refine lIn (fun p : Nat × Mem × Mem => p.1 ≤ xs.length ∧ μ.Le p.2.1 ∧ SolSt Q R (eqsB bs ++ (xs.zip ys).take p.1) p.2.1 p.2.2)
   (fun (i, μ', h') => ⟨[(1, .val (.slice b1 xs.length c1)), (2, .val (.slice b2 ys.length c2)), (8, .val (.pointer (some ⟨R.c, 0, none⟩))), (37, .val (.int .i64 xs.length)), (38, .val (.int .i64 i))], [], 0, μ', h'⟩) (fun p => xs.length - p.1)
   (0, μ2, h2) ⟨by simp, hle2, S0⟩ (fun (_, _, _) => ⟨rfl, rfl⟩) ⟨⟨rfl, rfl, rfl, rfl, rfl, trivial⟩, trivial, rfl, rfl⟩ ?_
  clear S0 H2 hE hKE hK hin hg hlt hle2
  rintro ⟨i, μ3, h3⟩ ⟨hi, hle3, ⟨c, K, H3, hg, hin, hE, hKE, hK⟩⟩
  dsimp only at hi hle3 H3 hE hKE
  have hg0 := hg
  obtain ⟨rank, hok⟩ := hg0
  refine ifd (fun hlt => ?_) (fun hlt => ?_)
  ·have w_ := aSo (l := xs) (i := i) (by omega)
   obtain ⟨x, hxi⟩ := w_
   have w_ := aSo (l := ys) (i := i) (by omega)
   obtain ⟨y, hyi⟩ := w_
   have hQx := hx x (mAt hxi)
   have hQy := hy y (mAt hyi)
   have w_ := Tm.elem (i := i) (t := x.tm) hsx (by simp [hxi])
   obtain ⟨ad, p, hel, hto⟩ := w_
   have w_ := Tm.elem (i := i) (t := y.tm) hsy (by simp [hyi])
   obtain ⟨ad2, p2, hel2, hto2⟩ := w_
   have htk : (xs.zip ys).take (i + 1) = (xs.zip ys).take i ++ [(x, y)] := by
    rw [List.take_add_one, show (xs.zip ys)[i]? = some (x, y) from List.getElem?_zip_eq_some.2 ⟨hxi, hyi⟩]; rfl
   refine eIn (hel.mono hle3) ?_
   refine cOw (meet_spec hok.le (hto.mono hle3) H3) fun r μ4 h4 hle4 hap4 hR => ?_
   obtain ⟨rfl, H4⟩ := hR
   replace H4 : ClInv μ4 R c (ordAll K x.vars) [] [] [] h4 := H4
   have hle34 : μ3.Le μ4 := hle4
   refine eIn (hel2.mono (hle3.trans hle34)) ?_
   refine cOw (meet_spec hok.le (hto2.mono (hle3.trans hle34)) H4) fun r μ5 h5 hle5 hap5 hR => ?_
   obtain ⟨rfl, H5⟩ := hR
   replace H5 : ClInv μ5 R c (ordAll (ordAll K x.vars) y.vars) [] [] [] h5 := H5
   have hle45 : μ4.Le μ5 := hle5
   have hle05 := hle3.trans (hle34.trans hle45)
   have hKm : ∀ n, n ∈ ordAll (ordAll K x.vars) y.vars ↔ n ∈ y.vars ∨ n ∈ x.vars ∨ n ∈ K := fun n => by rw [ordAll_mem, ordAll_mem]
   have hin5 : c.In (ordAll (ordAll K x.vars) y.vars) (PK Q (ordAll (ordAll K x.vars) y.vars)) := hin.mono fun n hn => (hKm n).2 (.inr (.inr hn))
   refine eIn (hel.mono hle05) ?_
   refine eIn (hel2.mono hle05) ?_
   refine cOw (equal_step hQ hg hin5 hE (fun n => ?_) (fun n hn => ?_) hQx hQy (hto.mono hle05) (hto2.mono hle05) H5) fun r μ6 h6 hle6 hap6 hR => ?_
   ·rw [hKm, evars_append, List.mem_append, ← hKE]
    simp only [evars, List.flatMap_cons, List.flatMap_nil, List.append_nil, List.mem_append]
    exact ⟨fun k => k.elim (fun k => .inr (.inr k)) fun k => k.elim (fun k => .inr (.inl k)) .inl, fun k => k.elim (fun k => .inr (.inr k)) fun k => k.elim (fun k => .inr (.inl k)) .inl⟩
   ·rcases (hKm n).1 hn with k | k | k
    ·exact hrange _ hQy n k
    ·exact hrange _ hQx n k
    ·exact hK n k
   obtain ⟨o, rfl, k1, k2⟩ := hR
   rw [List.append_assoc, ← htk] at k1 k2
   cases o with
   | false =>
    refine iIn (fun _ => ?_) (fun h => nomatch h)
    refine rPl ⟨none, rfl, .inl fun θ k => k2 rfl θ ?_⟩
    rw [solves_append] at k ⊢
    exact ⟨k.1, fun e he => k.2 e (List.mem_of_mem_take he)⟩
   | true =>
    refine iIn (fun h => nomatch h) (fun _ => ?_)
    refine num64 (by omega) (by omega) ⟨(i + 1, μ6, h6), ⟨by dsimp only; omega, hle05.trans hle6, k1 rfl⟩, by dsimp only; omega, ⟨⟨rfl, rfl, rfl, rfl, rfl, trivial⟩, trivial, rfl, rfl⟩⟩
  ·obtain rfl : i = xs.length := by omega
   rw [← hzl, List.take_length] at hE hKE
   have w_ := hok.has_val
   obtain ⟨val, hval⟩ := w_
   refine cOw (solved_spec hok hval hin hK H3) fun r μ4 h4 hle4 hap4 hR => ?_
   obtain ⟨l, hl1, hl2, hR⟩ := hR
   have hI := Cl.solI hok hval hin hK hQg hE hKE hl1 hl2
   by_cases hf : FitsL (valL val l)
   ·rw [if_pos hf] at hR
    obtain ⟨tv, rfl, htv⟩ := hR
    exact rPl ⟨some _, ⟨tv, rfl, htv⟩, hI, hf⟩
   ·rw [if_neg hf] at hR
    obtain rfl := hR
    exact rPl ⟨none, rfl, .inr ⟨_, hI, hf⟩⟩
end
end Go.Vx
namespace Go.Vx
open Go.Proofs Classical
def genF (d e : List B) : Prop := SolvesE (asF e) (eqsB d)
theorem genF_iff {d e : List B} : genF d e ↔ ∀ b ∈ d, asF e b.var = b.to.ap (asF e) := solves_eqsB
def failF (d : List B) (θ : Int → T) : Prop := ¬ SolvesE θ (eqsB d)
section
variable {d e f : List B}
theorem genF.solves (he : Subst e) (h : genF d e) {θ : Int → T} (k : SolvesE θ (eqsB e)) : SolvesE θ (eqsB d) := by
 rw [solves_eqsB] at *
 have hg := he.solL.sol.gen θ (solves_eqsB.2 k)
 intro b hb
 have h1 := genF_iff.1 h b hb
 rw [← hg b.var, h1, T.ap_ap]
 exact T.ap_congr fun n _ => hg n
theorem genF.trans (he : Subst e) (h : genF d e) (k : genF e f) : genF d f := h.solves he k
theorem genF.refl (he : Subst e) : genF e e := he.solL.sol.sol
theorem genF.anti (hd : Subst d) (he : Subst e) (h : genF d e) (k : genF e d) : d = e :=
 hd.solL.uniq ⟨he.solL.srt, he.solL.proper, he.solL.sol.same fun _ => ⟨fun q => h.solves he q, fun q => k.solves hd q⟩⟩
theorem genF.fail (he : Subst e) (h : genF d e) {θ : Int → T} (k : failF d θ) : failF e θ := fun q => k (h.solves he q)
end
structure LeastOf (L M : List (List B)) : Prop where
 asc : Asc3 cmpB M
 mem : ∀ x, x ∈ M ↔ x ∈ L ∧ ∀ d ∈ L, d = x ∨ ¬ genF d x
section
variable {L M : List (List B)}
theorem LeastOf.below (h : LeastOf L M) (hL : ∀ d ∈ L, Subst d) {e : List B} (he : e ∈ L) : ∃ m ∈ M, genF m e := by
 have key : ∀ (n : Nat) (K : List (List B)), K.length ≤ n → (∀ d ∈ K, d ∈ L) → (∀ d ∈ L, ∀ k ∈ K, genF d k → d ∈ K) → ∀ e ∈ K, ∃ m ∈ M, genF m e := fun n => by
  induction n with
  | zero => intro K hK _ _ e he; rw [List.length_eq_zero_iff.1 (Nat.le_zero.1 hK)] at he; simp at he
  | succ n ih =>
   intro K hK hKL hdown e he
   by_cases hm : ∀ d ∈ L, d = e ∨ ¬ genF d e
   ·exact ⟨e, (h.mem e).2 ⟨hKL e he, hm⟩, genF.refl (hL e (hKL e he))⟩
   ·have ⟨d, hd⟩ := Classical.not_forall.1 hm
    have ⟨hdL, hd2⟩ := Classical.not_imp.1 hd
    have ⟨hne, hde⟩ := not_or.1 hd2
    have hde := Classical.not_not.1 hde
    have heS := hL e (hKL e he)
    have hlt : (K.filter fun x => decide (¬ genF e x)).length < K.length := by
     have := filter_lt (l := K) (p := fun x => decide (¬ genF e x)) (q := fun _ => true) (fun _ _ _ => rfl) e he (decide_eq_false fun k => k (genF.refl heS)) rfl
     rwa [List.filter_eq_self.2 (fun _ _ => rfl)] at this
    have hdK : d ∈ K.filter fun x => decide (¬ genF e x) := List.mem_filter.2 ⟨hdown d hdL e he hde, decide_eq_true fun k => hne (genF.anti (hL d hdL) heS hde k)⟩
    obtain ⟨m, hm1, hm2⟩ := ih _ (by omega) (fun x hx => hKL x (List.mem_filter.1 hx).1) (fun x hx k hk hxk => by
     have hk' := List.mem_filter.1 hk
     refine List.mem_filter.2 ⟨hdown x hx k hk'.1 hxk, decide_eq_true fun q => ?_⟩
     exact of_decide_eq_true hk'.2 (q.trans (hL x hx) hxk)) d hdK
    exact ⟨m, hm1, hm2.trans (hL d hdL) hde⟩
 exact key L.length L (Nat.le_refl _) (fun _ h => h) (fun d hd _ _ _ => hd) e he
theorem LeastOf.all (h : LeastOf L M) (hL : ∀ d ∈ L, Subst d) (θ : Int → T) : (∀ d ∈ L, failF d θ) ↔ ∀ d ∈ M, failF d θ := by
 constructor
 ·intro k d hd; exact k d ((h.mem d).1 hd).1
 ·intro k e he
  have w_ := h.below hL he
  obtain ⟨m, hm, hme⟩ := w_
  exact hme.fail (hL e he) (k m hm)
theorem LeastOf.apart (h : LeastOf L M) {d e : List B} (hd : d ∈ M) (he : e ∈ M) (hne : d ≠ e) : ¬ genF d e := by
 rcases ((h.mem e).1 he).2 d ((h.mem d).1 hd).1 with k | k
 ·exact absurd k hne
 ·exact k
theorem LeastOf.nodup (h : LeastOf L M) : M.Nodup := h.asc.nodup cmpB_ord
theorem LeastOf.len (h : LeastOf L M) : M.length ≤ L.length := by
 have key : ∀ {M L : List (List B)}, M.Nodup → (∀ x ∈ M, x ∈ L) → M.length ≤ L.length := fun {M L} => by
  induction M generalizing L with
  | nil => intro _ _; exact Nat.zero_le _
  | cons a M ih =>
   intro hn hs
   have w_ := List.nodup_cons.1 hn
   obtain ⟨h1, h2⟩ := w_
   have ha := hs a (by simp)
   have := ih (L := L.erase a) h2 fun x hx => (List.mem_erase_of_ne fun e => by subst e; exact h1 hx).2 (hs x (by simp [hx]))
   have hl := List.length_erase_of_mem ha
   have := List.length_pos_of_mem ha
   rw [List.length_cons]; omega
 exact key h.nodup fun x hx => ((h.mem x).1 hx).1
end
end Go.Vx
namespace Go.Vx
open Go.Proofs Classical
def T.prs : T → List T
 | .pair a b => .pair a b :: (a.prs ++ b.prs)
 | _ => []
def T.lvs : T → Nat
 | .pair a b => a.lvs + b.lvs
 | _ => 1
theorem T.size_lvs : ∀ t : T, t.size + 1 = 2 * t.lvs
 | .pair a b => by
  have h1 := a.size_lvs
  have h2 := b.size_lvs
  simp only [T.size, T.lvs]; omega
 | .nil => rfl
 | .var _ => rfl
 | .sym _ => rfl
 | .num _ => rfl
theorem lvs_ap {s : Int → T} {M : Nat} (hM : 1 ≤ M) : ∀ t : T, (∀ m, t.occ m → (s m).lvs ≤ M) → (t.ap s).lvs ≤ t.lvs * M
 | .pair a b, h => by
  have h1 := lvs_ap hM a fun m k => h m (.inl k)
  have h2 := lvs_ap hM b fun m k => h m (.inr k)
  show (a.ap s).lvs + (b.ap s).lvs ≤ (a.lvs + b.lvs) * M
  rw [Nat.add_mul]; omega
 | .nil, _ => by show 1 ≤ 1 * M; omega
 | .var n, h => by
  have := h n rfl
  show (s n).lvs ≤ 1 * M
  omega
 | .sym _, _ => by show 1 ≤ 1 * M; omega
 | .num _, _ => by show 1 ≤ 1 * M; omega
theorem sol_small {Q : T → Prop} {E : List (T × T)} {y : List B} {θ : Int → T} {N : Nat} (h : SolI Q E y) (hθ : SolvesE θ E) (hN : ∀ v ∈ evars E, (θ v).size ≤ N) : ∀ b ∈ y, b.to.size ≤ N := fun b hb => by
 have h1 := h.sol.sol.gen θ hθ b.var
 have h2 : asF y b.var = b.to := by rw [asF, sub_of_mem h.sol.srt.pw hb]; rfl
 rw [h2] at h1
 have h3 := T.size_ap θ b.to
 rw [h1] at h3
 exact Nat.le_trans h3 (hN _ (h.vars b hb))
theorem nodup_le3 {α : Type} : ∀ {a b : List α}, a.Nodup → (∀ x ∈ a, x ∈ b) → a.length ≤ b.length
 | [], _, _, _ => Nat.zero_le _
 | x :: a, b, hn, h => by
  have w_ := List.nodup_cons.1 hn
  obtain ⟨h1, h2⟩ := w_
  have w_ := List.append_of_mem (h x (by simp))
  obtain ⟨s, t, rfl⟩ := w_
  have := nodup_le3 (a := a) (b := s ++ t) h2 fun y hy => by
   have h3 := h y (by simp [hy])
   rcases List.mem_append.1 h3 with h3 | h3
   ·simp [h3]
   ·rcases List.mem_cons.1 h3 with rfl | h3
    ·exact absurd hy h1
    ·simp [h3]
  simp only [List.length_append, List.length_cons] at *
  omega
theorem sol_len {Q : T → Prop} {E : List (T × T)} {y : List B} (h : SolI Q E y) : y.length ≤ (evars E).length := by
 have hn : (y.map B.var).Nodup := by
  have := h.sol.srt.pw
  rw [List.Nodup, List.pairwise_map]
  exact this.imp fun k e => by omega
 have := nodup_le3 hn fun v hv => by
  have w_ := List.mem_map.1 hv
  obtain ⟨b, hb, rfl⟩ := w_
  exact h.vars b hb
 simpa using this
theorem sol_none {Q : T → Prop} {E : List (T × T)} {θ : Int → T} (h : SolO Q E none) (hN : ∀ v ∈ evars E, (θ v).size ≤ 5000) (hl : (evars E).length ≤ 400) : ¬ SolvesE θ E := fun hθ => by
 rcases h with h | ⟨y, h1, h2⟩
 ·exact h θ hθ
 ·exact h2 ⟨sol_small h1 hθ hN, Nat.le_trans (sol_len h1) hl⟩
end Go.Vx
namespace Go.Vx
open Go.Proofs Classical
def PrsIn (P : List T) (t : T) : Prop := (∀ p ∈ t.prs, p ∈ P) ∧ t.good
theorem PrsIn.pair {P : List T} (_hP : ∀ a b, T.pair a b ∈ P → (∀ p ∈ a.prs, p ∈ P) ∧ ∀ p ∈ b.prs, p ∈ P) {a b : T} (h : PrsIn P (.pair a b)) : PrsIn P a ∧ PrsIn P b :=
 ⟨⟨fun p hp => h.1 p (by simp [T.prs, hp]), h.2.1⟩, ⟨fun p hp => h.1 p (by simp [T.prs, hp]), h.2.2⟩⟩
end Go.Vx
namespace Go.Vx
open Go.Proofs Classical
noncomputable def newB (s x : List B) : List B := x.filter fun c => decide (∀ b ∈ s, b.var ≠ c.var)
theorem asF_of_mem {x : List B} (h : Srt x) {b : B} (hb : b ∈ x) : asF x b.var = b.to := by rw [asF, sub_of_mem h.pw hb]; rfl
theorem Subst.free {s : List B} (hs : Subst s) {b : B} (hb : b ∈ s) {n : Int} (hn : b.to.occ n) : ∀ c ∈ s, c.var ≠ n := fun c hc e => by
 have h1 := (hs.bnd b hb).2 n (T.occ_vars.1 hn)
 rw [← e, sub_of_mem hs.vals.srt.pw hc] at h1
 cases h1
theorem Srt.filter {x : List B} (h : x.Pairwise fun a b => a.var < b.var) (p : B → Bool) : (x.filter p).Pairwise fun a b => a.var < b.var := h.sublist (List.filter_sublist (l := x))
end Go.Vx
namespace Go.Vx
open Go.Proofs Classical
theorem kind_one {t : T} (h : t.tm.kind = 1) : t = .var t.tm.num := by
 cases t with
 | var n => rfl
 | nil => cases h
 | sym _ => cases h
 | num _ => cases h
 | pair _ _ => cases h
def lvB (n : Nat) : Nat := if 2 < n then 2 * lvB (n / 2) else 1
termination_by n
decreasing_by omega
theorem lvB_3 : lvB 3 = 2 := by rw [lvB, if_pos (by decide), lvB, if_neg (by decide)]
theorem lvB_pos : ∀ n, 1 ≤ lvB n := fun n => by
 induction n using Nat.strongRecOn with
 | ind n ih =>
  rw [lvB]
  split
  ·have := ih (n / 2) (by omega); omega
  ·exact Nat.le_refl _
structure Drawn (k : Nat) (vars : Int) (t : T) : Prop where
 good : t.good
 low : ∀ n, t.occ n → 0 ≤ n ∧ n < vars
 lvs : t.lvs ≤ k
theorem Drawn.pair {k l : Nat} {vars : Int} {a b : T} (h : Drawn k vars a) (h2 : Drawn l vars b) : Drawn (k + l) vars (.pair a b) :=
 ⟨⟨h.good, h2.good⟩, fun n hn => hn.elim (h.low n) (h2.low n), by have := h.lvs; have := h2.lvs; simp only [T.lvs]; omega⟩
theorem Drawn.mono {k l : Nat} {vars : Int} {a : T} (h : Drawn k vars a) (hl : k ≤ l) : Drawn l vars a := ⟨h.good, h.low, Nat.le_trans h.lvs hl⟩
theorem Drawn.size {k : Nat} {vars : Int} {a : T} (h : Drawn k vars a) : a.size ≤ 2 * k := by
 have h1 := a.size_lvs
 have h2 := h.lvs
 omega
theorem Drawn.ok {k : Nat} {vars : Int} {a : T} (h : Drawn k vars a) (hk : k ≤ 2500) : a.ok := ⟨h.good, by have := h.size; omega⟩
end Go.Vx
namespace Go.Vx
open Go.Proofs Classical
open Go.ChangeShapes Go.WideShapes Go.ChangeAt Go.RowKit
structure Bytes (μ : Mem) (base : Option Addr) (n : Nat) : Prop where
 max : n ≤ maxLen
 get : ∀ i : Nat, i < n → ∃ (a : Addr) (b : Int), ElemAt μ base n 1 (i : Int) a [.int .u8 b]
theorem Bytes.mono {μ μ' : Mem} {base : Option Addr} {n : Nat} (h : Bytes μ base n) (hle : μ.Le μ') : Bytes μ' base n :=
 ⟨h.max, fun i hi => by
  have w_ := h.get i hi
  obtain ⟨a, b, e⟩ := w_
  exact ⟨a, b, e.mono hle⟩⟩
theorem read_bytes {P : Program} {H : Type} {enc : TypeId × Value → H} {w : World} {sp : Nat → Bool} {hd : Bool} {b : Nat} {t e : TypeId} {v : Value} {x : DataW H} {p : List MemPlace} (ht : P.underlying t = some (.slice e)) (he : P.underlying e = some (.int .u8)) (hc : P.cellsOf e = 1)
  (hv : Value.okWide P w .any b t v) (h : DataW.Trod enc P w 0 sp hd t v x p) : ∃ base n cap, v = .slice base n cap ∧ Bytes (wmem w) base n := by
 obtain ⟨fuel, h⟩ := h
 have hcs : ∀ cs, v ≠ .agg cs := fun cs k => okWide_slice ht cs (k ▸ hv)
 rcases DataW.trod_slice ht h with ⟨h1, _⟩ | ⟨a, len, cap, elems, rest, m, hm, h1, _, _, _, h2, h3, h4, _⟩
 ·cases v with
  | agg cs => exact absurd rfl (hcs cs)
  | _ =>
   have h1 := List.cons.inj h1
   rw [h1.1]
   exact ⟨none, 0, 0, rfl, ⟨Nat.zero_le _, fun i hi => absurd hi (Nat.not_lt_zero _)⟩⟩
 ·have hsl : v = .slice (some a) len cap := by
   cases v with
   | agg cs => exact absurd rfl (hcs cs)
   | _ =>
    have h1 := List.cons.inj h1
    exact h1.1
  subst hsl
  refine ⟨some a, len, cap, rfl, ⟨by omega, fun i hi => ?_⟩⟩
  have := h4 i hi
  rw [List.getElem?_eq_getElem (by omega)] at this
  obtain ⟨cs', k1, k2⟩ := Option.bind_eq_some_iff.1 this
  obtain ⟨n, rfl, _, _⟩ := DataW.trod_int he k2
  rw [hc] at k1
  obtain ⟨g1, g2⟩ := cells?_at k1
  exact ⟨a.add (i * 1), n, ⟨by omega, by omega, ⟨a, rfl, by simp⟩, rfl, fun j u hj => g2 j u hj⟩⟩
theorem and255 (x : Int) : ∃ k : Nat, bits .and .i64 x 255 = (k : Int) ∧ k < 256 := by
 have e : (BitVec.ofInt 64 x &&& BitVec.ofInt 64 255).toNat ≤ 255 := by
  rw [BitVec.toNat_and]
  have : (BitVec.ofInt 64 255).toNat = 255 := by decide
  rw [this]
  exact Nat.and_le_right
 refine ⟨(BitVec.ofInt 64 x &&& BitVec.ofInt 64 255).toNat, ?_, by omega⟩
 show IntKind.i64.wrap ((BitVec.ofInt 64 x &&& BitVec.ofInt 64 255).toNat : Nat) = _
 exact wrap64 (by omega) (by omega)
def curO (base : Option Addr) (n cap : Nat) (i h : Int) : Obj := .cells #[.slice base n cap, .int .i64 i, .int .i64 h] 121 (0, 0)
def CurO (μ : Mem) (o : Obj) : Prop := ∃ base n cap, ∃ (i : Nat) (hh : Int), o = curO base n cap i hh ∧ Bytes μ base n ∧ i ≤ n
theorem CurO.mono {μ μ' : Mem} {o : Obj} (h : CurO μ o) (hle : μ.Le μ') : CurO μ' o := by
 obtain ⟨base, n, cap, i, hh, e, k1, k2⟩ := h
 exact ⟨base, n, cap, i, hh, e, k1.mono hle, k2⟩
structure Cur (μ h : Mem) (r : Nat) (h' : Mem) : Prop where
 ex : ∃ o, CurO μ o ∧ h' = h.set r o
theorem Mem.set_self {h : Mem} {r : Nat} {o : Obj} (e : h r = some o) : h.set r o = h := funext fun b => by
 by_cases k : b = r
 ·subst k; rw [Mem.set_at, e]
 ·rw [Mem.set_ne k]
theorem Cur.at {μ h h' : Mem} {r : Nat} (k : Cur μ h r h') : Cur μ h' r h' := by
 obtain ⟨o, h1, h2⟩ := k.ex
 subst h2
 exact ⟨o, h1, (Mem.set_self (Mem.set_at _ _ _)).symm⟩
theorem Cur.trans {μ μ' h h' h'' : Mem} {r : Nat} (k : Cur μ h r h') (k2 : Cur μ' h' r h'') : Cur μ' h r h'' := by
 obtain ⟨o, h1, rfl⟩ := k.ex
 obtain ⟨o', h3, rfl⟩ := k2.ex
 exact ⟨o', h3, Mem.set_set _ _ _ _⟩
theorem Cur.mono {μ μ' h h' : Mem} {r : Nat} (k : Cur μ h r h') (hle : μ.Le μ') : Cur μ' h r h' := by
 obtain ⟨o, h1, h2⟩ := k.ex
 exact ⟨o, h1.mono hle, h2⟩
section
variable {μ : Mem}
theorem l01Byte_spec {h : Mem} {r : Nat} (hc : Cur μ h r h) :
  SpecH Try.prog 56 [.pointer (some ⟨r, 0, none⟩)] μ h fun v μ' h' => μ' = μ ∧ Cur μ h r h' ∧ ∃ k : Nat, v = .int .i64 k ∧ k < 256 := by
 obtain ⟨o, ⟨base, n, cap, i, hh, rfl, hb, hi⟩, e⟩ := hc.ex
 have hr : h r = some (curO base n cap i hh) := by rw [e, Mem.set_at]
 clear e hc
 refine SpecH.mk [] Try.func56 (by kernel_rfl) ?_
 refine oIn [.int .i64 hh] rfl (fld_at hr rfl) ?_
 refine num_intro fun x1 _ => ?_
 refine num_intro fun x2 _ => ?_
 refine sIn [.slice base n cap, .int .i64 i, .int .i64 hh] 121 hr rfl (by show 2 + 1 ≤ 3; decide) ?_
 have h1 : (h.set r (curO base n cap i x2)) r = some (curO base n cap i x2) := Mem.set_at _ _ _
 refine oIn [.int .i64 x2] rfl (fld_at h1 rfl) ?_
 refine need_intro (by decide) ?_
 refine num_intro fun x3 _ => ?_
 refine oIn [.int .i64 x2] rfl (fld_at h1 rfl) ?_
 refine need_intro (by decide) ?_
 refine num_intro fun x4 _ => ?_
 refine num_intro fun x5 _ => ?_
 have w_ := and255 x5
 obtain ⟨k, ek, hk⟩ := w_
 refine nEq ek ?_
 refine oIn [.int .i64 (i : Int)] rfl (fld_at h1 rfl) ?_
 refine oIn [.slice base n cap] rfl (fld_at h1 rfl) ?_
 refine ifd (fun hlt => ?_) (fun hlt => ?_)
 ·have w_ := hb.get i (by omega)
  obtain ⟨a, b, hel⟩ := w_
  refine oIn [.slice base n cap] rfl (fld_at h1 rfl) ?_
  refine oIn [.int .i64 (i : Int)] rfl (fld_at h1 rfl) ?_
  refine eIn hel ?_
  refine num_intro fun x6 _ => ?_
  refine num_intro fun x7 _ => ?_
  have w_ := and255 x7
  obtain ⟨k2, ek2, hk2⟩ := w_
  refine nEq ek2 ?_
  refine oIn [.int .i64 (i : Int)] rfl (fld_at h1 rfl) ?_
  have := maxLen_le hb.max
  refine num64 (by omega) (by omega) ?_
  refine sIn [.slice base n cap, .int .i64 i, .int .i64 x2] 121 h1 rfl (by show 1 + 1 ≤ 3; decide) ?_
  refine rPl ⟨rfl, ⟨curO base n cap ((i + 1 : Nat) : Int) x2, ⟨base, n, cap, i + 1, x2, rfl, hb, by omega⟩, ?_⟩, k2, rfl, hk2⟩
  show (h.set r (curO base n cap i x2)).set r _ = _
  rw [Mem.set_set]
  rfl
 ·exact rPl ⟨rfl, ⟨curO base n cap i x2, ⟨base, n, cap, i, x2, rfl, hb, hi⟩, rfl⟩, k, rfl, hk⟩
theorem l01New_spec {h : Mem} {base : Option Addr} {n cap : Nat} (hb : Bytes μ base n) :
  SpecH Try.prog 100 [.slice base n cap] μ h fun v μ' h' => μ' = μ ∧ ∃ r, v = .pointer (some ⟨r, 0, none⟩) ∧ h r = none ∧ Cur μ h r h' := by
 have hmax := maxLen_le hb.max
 refine SpecH.mk [31] Try.func100 (by kernel_rfl) ?_
 refine num_intro fun x0 _ => ?_
 refine lIn (fun p : Nat × Int => p.1 ≤ n ∧ p.1 ≤ 4000) (fun (i, x) => ⟨[(0, .val (.slice base n cap)), (3, .val (.int .i64 x)), (4, .val (.int .i64 i))], [], 0, μ, h⟩) (fun p => n - p.1)
  (0, x0) ⟨Nat.zero_le _, Nat.zero_le _⟩ (fun (_, _) => ⟨rfl, rfl⟩) ⟨⟨rfl, rfl, rfl, trivial⟩, trivial, rfl, rfl⟩ ?_
 rintro ⟨i, x⟩ ⟨hi, hi2⟩
 dsimp only at hi hi2
 refine ifd (fun hlt => ?_) (fun hlt => ?_)
 ·refine ifd (fun hlt2 => ?_) (fun hlt2 => ?_)
  ·have w_ := hb.get i (by omega)
   obtain ⟨a, b, hel⟩ := w_
   refine num_intro fun x1 _ => ?_
   refine eIn hel ?_
   refine num_intro fun x2 _ => ?_
   refine num_intro fun x3 _ => ?_
   refine num_intro fun x4 _ => ?_
   refine num_intro fun x5 _ => ?_
   refine num64 (by omega) (by omega) ⟨(i + 1, x5), ⟨by dsimp only; omega, by dsimp only; omega⟩, by dsimp only; omega, ⟨⟨rfl, rfl, rfl, trivial⟩, trivial, rfl, rfl⟩⟩
  ·intro r hm ho
   exact rPl ⟨rfl, r, rfl, ho, ⟨_, ⟨base, n, cap, 0, x, rfl, hb, Nat.zero_le _⟩, rfl⟩⟩
 ·intro r hm ho
  exact rPl ⟨rfl, r, rfl, ho, ⟨_, ⟨base, n, cap, 0, x, rfl, hb, Nat.zero_le _⟩, rfl⟩⟩
theorem l01Below_spec {h : Mem} {r : Nat} (hc : Cur μ h r h) (n : Int) :
  SpecH Try.prog 59 [.pointer (some ⟨r, 0, none⟩), .int .i64 n] μ h fun v μ' h' => μ' = μ ∧ Cur μ h r h' ∧ ∃ k : Nat, v = .int .i64 k ∧ k < 256 ∧ (0 < n → (k : Int) < n) ∧ (n ≤ 0 → k = 0) := by
 refine SpecH.mk [] Try.func59 (by kernel_rfl) ?_
 refine ifd (fun hn => ?_) (fun hn => ?_)
 ·exact rPl ⟨rfl, hc, 0, rfl, by decide, fun h => absurd hn (by omega), fun _ => rfl⟩
 ·refine cOw (l01Byte_spec hc) fun v μ1 h1 hle1 hap1 hR => ?_
  obtain ⟨e, hc1, k, rfl, hk⟩ := hR
  obtain rfl := e.symm
  refine need_intro (by omega) ?_
  have e1 : (k : Int).tmod n = ((k % n.toNat : Nat) : Int) := by
   have hn2 : n = ((n.toNat : Nat) : Int) := by omega
   conv => lhs; rw [hn2]
   rw [Int.ofNat_tmod]
  have hlt := Nat.mod_lt k (show 0 < n.toNat by omega)
  have hle := Nat.mod_le k n.toNat
  refine nEq e1 ?_
  exact rPl ⟨rfl, hc1, _, rfl, by omega, fun _ => by omega, fun h => absurd h (by omega)⟩
theorem l01Once_spec {h : Mem} {r : Nat} (hc : Cur μ h r h) (n : Int) :
  SpecH Try.prog 69 [.pointer (some ⟨r, 0, none⟩), .int .i64 n] μ h fun v μ' h' => μ' = μ ∧ Cur μ h r h' ∧ ∃ b : Bool, v = .bool b := by
 refine SpecH.mk [] Try.func69 (by kernel_rfl) ?_
 refine cOw (l01Below_spec hc n) fun v μ1 h1 hle1 hap1 hR => ?_
 obtain ⟨e, hc1, k, rfl, hk⟩ := hR
 obtain rfl := e.symm
 exact rPl ⟨rfl, hc1, _, rfl⟩
theorem l43New_spec {h : Mem} {base : Option Addr} {n cap : Nat} (hb : Bytes μ base n) (m : Int) (hm : m ≤ 1000000) :
  SpecH Try.prog 53 [.slice base n cap, .int .i64 m] μ h fun v μ' h' => μ' = μ ∧ ∃ r, v = .pointer (some ⟨r, 0, none⟩) ∧ h r = none ∧ Cur μ h r h' := by
 refine SpecH.mk [] Try.func53 (by kernel_rfl) ?_
 refine cOw (l01New_spec hb) fun v μ1 h1 hle1 hap1 hR => ?_
 obtain ⟨e, r, rfl, ho, hc1⟩ := hR
 obtain rfl := e.symm
 refine lIn (fun p : Int × Mem => 0 ≤ p.1 ∧ Cur μ h r p.2) (fun (i, h') => ⟨[(1, .val (.int .i64 m)), (5, .val (.pointer (some ⟨r, 0, none⟩))), (6, .val (.int .i64 i))], [], 0, μ, h'⟩) (fun p => (m - p.1).toNat)
  (0, h1) ⟨Int.le_refl 0, hc1⟩ (fun (_, _) => ⟨rfl, rfl⟩) ⟨⟨rfl, rfl, rfl, trivial⟩, trivial, rfl, rfl⟩ ?_
 clear hc1 hap1
 rintro ⟨i, h2⟩ ⟨hi, hc2⟩
 dsimp only at hi hc2
 refine ifd (fun hlt => ?_) (fun hlt => ?_)
 ·refine cOw (l01Byte_spec hc2.at) fun v μ2 h3 hle2 hap2 hR => ?_
  obtain ⟨e, hc3, k, rfl, hk⟩ := hR
  obtain rfl := e.symm
  refine num64 (by omega) (by omega) ⟨(i + 1, h3), ⟨by dsimp only; omega, hc2.trans hc3⟩, by dsimp only; omega, ⟨⟨rfl, rfl, rfl, trivial⟩, trivial, rfl, rfl⟩⟩
 ·exact rPl ⟨rfl, r, rfl, ho, hc2⟩
end
end Go.Vx
namespace Go.Vx
open Go.Proofs Classical
theorem isNm_one {b : UInt8} (h : 97 ≤ b.toNat ∧ b.toNat ≤ 122) : IsNm ⟨#[b]⟩ := by
 refine ⟨by show 1 ≤ 1; decide, by show 1 ≤ 12; decide, fun i c hc => ?_⟩
 have hi := (List.getElem?_eq_some_iff.1 hc).1
 have hi : i < 1 := hi
 obtain rfl : i = 0 := by omega
 cases hc
 exact .inl h
theorem Drawn.atom {t : T} (hg : t.good) (hl : t.lvs = 1) (ho : ∀ n, ¬ t.occ n) (vars : Int) : Drawn 1 vars t := ⟨hg, fun n hn => absurd hn (ho n), by omega⟩
theorem Drawn.wide {k : Nat} {v w : Int} {t : T} (h : Drawn k v t) (hw : v ≤ w) : Drawn k w t := ⟨h.good, fun n hn => by have := h.low n hn; omega, h.lvs⟩
section
variable {μ : Mem}
theorem l02Num_spec (n : Int) : Spec Try.prog 130 [.int .i64 n] μ fun v μ' => RepV μ' (T.num n).tm.d v := by
 refine Spec.mk Try.func130 (by kernel_rfl) ?_
 intro r1
 refine rPl ?_
 rw [T.tm, Tm.d_mk]
 exact ⟨_, rfl, RepS.int (RepS.int (RepS.str (RepS.last (Rep.nilSl 4))))⟩
theorem l02Sym_spec (s : ByteArray) : Spec Try.prog 131 [.string s] μ fun v μ' => RepV μ' (T.sym s).tm.d v := by
 refine Spec.mk Try.func131 (by kernel_rfl) ?_
 intro r1
 refine rPl ?_
 rw [T.tm, Tm.d_mk]
 exact ⟨_, rfl, RepS.int (RepS.int (RepS.str (RepS.last (Rep.nilSl 4))))⟩
def DrawnAt (h : Mem) (r k : Nat) (vars : Int) (v : Value) (μ' h' : Mem) : Prop := Cur μ' h r h' ∧ ∃ t : T, RepV μ' t.tm.d v ∧ Drawn k vars t
theorem l02Atom_spec {h : Mem} {r : Nat} (hc : Cur μ h r h) : SpecH Try.prog 103 [.pointer (some ⟨r, 0, none⟩)] μ h fun v μ' h' => DrawnAt h r 1 0 v μ' h' := by
 refine SpecH.mk [] Try.func103 (by kernel_rfl) ?_
 intro r1
 refine cOw (l01Below_spec hc 7) fun v μ1 h1 hle1 hap1 hR => ?_
 obtain ⟨e, hc1, k, rfl, hk, hk7, _⟩ := hR
 obtain rfl := e.symm
 have hk7 := hk7 (by decide)
 refine ifd (fun h2 => ?_) (fun h2 => ?_)
 ·refine cPl (l02Num_spec k) fun v μ2 hle2 hR => ?_
  have w_ := Tm.invV hR
  obtain ⟨p, rfl⟩ := w_
  exact rPl ⟨hc1.mono hle2, .num k, hR, Drawn.atom (t := .num k) (by show -1000000000 ≤ (k : Int) ∧ (k : Int) ≤ 1000000000; omega) rfl (fun _ h => h) 0⟩
 ·refine ifd (fun h5 => ?_) (fun h5 => ?_)
  ·intro r2
   refine num64 (by omega) (by omega) ?_
   have w_ : k = 2 ∨ k = 3 ∨ k = 4 := by omega
   rcases w_ with rfl | rfl | rfl
   ·refine rel_intro 0 rfl (by decide) ?_
    refine get_intro (.string ⟨#[97]⟩) rfl ?_
    refine cPl (l02Sym_spec ⟨#[97]⟩) fun v μ2 hle2 hR => ?_
    have w_ := Tm.invV hR
    obtain ⟨p, rfl⟩ := w_
    exact rPl ⟨hc1.mono hle2, .sym ⟨#[97]⟩, hR, Drawn.atom (t := .sym ⟨#[97]⟩) (isNm_one (by decide)) rfl (fun _ h => h) 0⟩
   ·refine rel_intro 1 rfl (by decide) ?_
    refine get_intro (.string ⟨#[98]⟩) rfl ?_
    refine cPl (l02Sym_spec ⟨#[98]⟩) fun v μ2 hle2 hR => ?_
    have w_ := Tm.invV hR
    obtain ⟨p, rfl⟩ := w_
    exact rPl ⟨hc1.mono hle2, .sym ⟨#[98]⟩, hR, Drawn.atom (t := .sym ⟨#[98]⟩) (isNm_one (by decide)) rfl (fun _ h => h) 0⟩
   ·refine rel_intro 2 rfl (by decide) ?_
    refine get_intro (.string ⟨#[99]⟩) rfl ?_
    refine cPl (l02Sym_spec ⟨#[99]⟩) fun v μ2 hle2 hR => ?_
    have w_ := Tm.invV hR
    obtain ⟨p, rfl⟩ := w_
    exact rPl ⟨hc1.mono hle2, .sym ⟨#[99]⟩, hR, Drawn.atom (t := .sym ⟨#[99]⟩) (isNm_one (by decide)) rfl (fun _ h => h) 0⟩
  ·refine rPl ⟨hc1, .nil, ?_, Drawn.atom (t := .nil) trivial rfl (fun _ h => h) 0⟩
   rw [T.tm, Tm.d_mk]
   exact ⟨_, rfl, RepS.int (RepS.int (RepS.str (RepS.last (Rep.nilSl 4))))⟩
theorem l02Draw_spec (vars : Nat) (hv : vars ≤ 1000) : ∀ (size : Nat) {μ h : Mem} {r : Nat}, size ≤ 1000 → Cur μ h r h → SpecH Try.prog 54 [.pointer (some ⟨r, 0, none⟩), .int .i64 size, .int .i64 vars] μ h fun v μ' h' => DrawnAt h r (lvB size) vars v μ' h' := fun size => by
 induction size using Nat.strongRecOn with
 | ind size ih =>
  intro μ h r hs hc
  refine SpecH.mk [] Try.func54 (by kernel_rfl) ?_
  intro r1
  refine cOw (l01Below_spec hc 8) fun v μ1 h1 hle1 hap1 hR => ?_
  obtain ⟨e, hc1, k, rfl, hk, hk8, _⟩ := hR
  obtain rfl := e.symm
  have hk8 := hk8 (by decide)
  refine ifd (fun h2 => ?_) (fun h2 => ?_)
  ·refine ifd (fun h3 => ?_) (fun h3 => ?_)
   ·have hq : IntKind.i64.wrap ((size : Int).tdiv 2) = ((size / 2 : Nat) : Int) := by
     rw [Int.tdiv_eq_ediv_of_nonneg (by omega), wrap64 (by omega) (by omega)]; omega
    refine need_intro (by decide) (nEq hq ?_)
    refine cOw (ih (size / 2) (by omega) (by omega) hc1.at) fun v μ2 h4 hle2 hap2 hR => ?_
    obtain ⟨hc2, a, ha, hda⟩ := hR
    have w_ := Tm.invV ha
    obtain ⟨p, rfl⟩ := w_
    intro r2
    refine need_intro (by decide) (nEq hq ?_)
    refine cOw (ih (size / 2) (by omega) (by omega) hc2.at) fun v μ3 h5 hle3 hap3 hR => ?_
    obtain ⟨hc3, b, hb, hdb⟩ := hR
    refine cPl (l02Pair_spec (ha.mono hle3) hb) fun v μ4 hle4 hR => ?_
    have w_ := Tm.invV hR
    obtain ⟨p, rfl⟩ := w_
    refine rPl ⟨(hc1.trans (hc2.trans hc3)).mono hle4, .pair a b, hR, ?_⟩
    have h2 : 2 < size := by omega
    rw [lvB, if_pos h2, Nat.two_mul]
    exact hda.pair hdb
   ·refine ifd (fun h6 => ?_) (fun h6 => ?_)
    ·refine need_intro (by decide) ?_
     refine num_intro fun x _ => ?_
     refine ifd (fun h7 => ?_) (fun h7 => ?_)
     ·refine cOw (l01Below_spec hc1.at vars) fun v μ2 h4 hle2 hap2 hR => ?_
      obtain ⟨e, hc2, j, rfl, hj, hj2, _⟩ := hR
      obtain rfl := e.symm
      have hj2 := hj2 (by omega)
      refine cGv (l02Var_spec _) ?_
      refine rPl ⟨hc1.trans hc2, .var j, varV_rep _, ⟨by show 0 ≤ (j : Int) ∧ (j : Int) ≤ 100000; omega, fun n hn => ?_, lvB_pos _⟩⟩
      have hn : (j : Int) = n := hn
      omega
     ·refine cOw (l02Atom_spec hc1.at) fun v μ2 h4 hle2 hap2 hR => ?_
      obtain ⟨hc2, a, ha, hda⟩ := hR
      have w_ := Tm.invV ha
      obtain ⟨p, rfl⟩ := w_
      exact rPl ⟨hc1.trans hc2, a, ha, (hda.wide (by omega)).mono (lvB_pos _)⟩
    ·refine cOw (l02Atom_spec hc1.at) fun v μ2 h4 hle2 hap2 hR => ?_
     obtain ⟨hc2, a, ha, hda⟩ := hR
     have w_ := Tm.invV ha
     obtain ⟨p, rfl⟩ := w_
     exact rPl ⟨hc1.trans hc2, a, ha, (hda.wide (by omega)).mono (lvB_pos _)⟩
  ·refine ifd (fun h6 => ?_) (fun h6 => ?_)
   ·refine need_intro (by decide) ?_
    refine num_intro fun x _ => ?_
    refine ifd (fun h7 => ?_) (fun h7 => ?_)
    ·refine cOw (l01Below_spec hc1.at vars) fun v μ2 h4 hle2 hap2 hR => ?_
     obtain ⟨e, hc2, j, rfl, hj, hj2, _⟩ := hR
     obtain rfl := e.symm
     have hj2 := hj2 (by omega)
     refine cGv (l02Var_spec _) ?_
     refine rPl ⟨hc1.trans hc2, .var j, varV_rep _, ⟨by show 0 ≤ (j : Int) ∧ (j : Int) ≤ 100000; omega, fun n hn => ?_, lvB_pos _⟩⟩
     have hn : (j : Int) = n := hn
     omega
    ·refine cOw (l02Atom_spec hc1.at) fun v μ2 h4 hle2 hap2 hR => ?_
     obtain ⟨hc2, a, ha, hda⟩ := hR
     have w_ := Tm.invV ha
     obtain ⟨p, rfl⟩ := w_
     exact rPl ⟨hc1.trans hc2, a, ha, (hda.wide (by omega)).mono (lvB_pos _)⟩
   ·refine cOw (l02Atom_spec hc1.at) fun v μ2 h4 hle2 hap2 hR => ?_
    obtain ⟨hc2, a, ha, hda⟩ := hR
    have w_ := Tm.invV ha
    obtain ⟨p, rfl⟩ := w_
    exact rPl ⟨hc1.trans hc2, a, ha, (hda.wide (by omega)).mono (lvB_pos _)⟩
structure GVals (n k : Nat) (g : List B) : Prop where
 len : g.length = n
 get : ∀ (i : Nat) b, g[i]? = some b → b.var = (i : Int) ∧ Drawn k 0 b.to
theorem GVals.nil (k : Nat) : GVals 0 k [] := ⟨rfl, fun i b h => by simp at h⟩
theorem GVals.snoc {n k : Nat} {g : List B} (h : GVals n k g) {t : T} (ht : Drawn k 0 t) : GVals (n + 1) k (g ++ [⟨n, t⟩]) := by
 refine ⟨by rw [List.length_append, h.len]; rfl, fun i b hb => ?_⟩
 rcases Nat.lt_or_ge i g.length with hi | hi
 ·rw [List.getElem?_append_left hi] at hb
  exact h.get i b hb
 ·rw [List.getElem?_append_right hi] at hb
  have := (List.getElem?_eq_some_iff.1 hb).1
  have hi2 : i = g.length := by simp at this; omega
  subst hi2
  rw [Nat.sub_self] at hb
  cases hb
  exact ⟨by rw [h.len], ht⟩
theorem l12Ground_spec {h : Mem} {r : Nat} (hc : Cur μ h r h) (n : Nat) (hn : n ≤ 1000) : SpecH Try.prog 52 [.pointer (some ⟨r, 0, none⟩), .int .i64 n] μ h fun v μ' h' => Cur μ' h r h' ∧ ∃ g : List B, GVals n 2 g ∧ RepV μ' (.sl 5 ((g.map B.bd).map Bd.d)) v := by
 refine SpecH.mk [] Try.func52 (by kernel_rfl) ?_
 intro r0
 refine lIn (fun p : Nat × Option Nat × Nat × List Value × List B × Mem × Mem => p.1 ≤ n ∧ μ.Le p.2.2.2.2.2.1 ∧ Cur p.2.2.2.2.2.1 h r p.2.2.2.2.2.2 ∧ GVals p.1 2 p.2.2.2.2.1 ∧ Rows p.2.2.2.2.2.1 5 ((p.2.2.2.2.1.map B.bd).map Bd.d) p.2.2.2.1)
  (fun (i, b, c, ys, _, μ', h') => ⟨[(0, .val (.pointer (some ⟨r, 0, none⟩))), (1, .val (.int .i64 n)), (5, .row 0 b ys.length c), (6, .val (.int .i64 i))], [(0, some (.row b c 56 5 ys))], 1, μ', h'⟩) (fun p => n - p.1)
  (0, some r0, 0, [], [], μ, h) ⟨Nat.zero_le _, Mem.Le.refl _, hc, GVals.nil 2, .nil⟩ (fun (_, _, _, _, _, _, _) => ⟨rfl, rfl⟩) ⟨⟨rfl, rfl, rfl, rfl, trivial⟩, ⟨rfl, trivial⟩, rfl, rfl⟩ ?_
 rintro ⟨i, b, c, ys, g, μ1, h1⟩ ⟨hi, hle1, hc1, hg, hrows⟩
 dsimp only at hi hle1 hc1 hg hrows
 have hyl := hrows.len
 rw [List.length_map, List.length_map, hg.len] at hyl
 refine ifd (fun hlt => ?_) (fun hlt => ?_)
 ·refine cOw (l02Draw_spec 0 (by decide) 3 (by decide) hc1.at) fun v μ2 h2 hle2 hap2 hR => ?_
  obtain ⟨hc2, t, ht, hd⟩ := hR
  have w_ := Tm.invV ht
  obtain ⟨q, rfl⟩ := w_
  intro r52
  refine gIn ?_ ?_ fun b' c' hb' => ?_
  ·show (ys.length + 1) * 64 ≤ _; omega
  ·exact Nat.le_trans (m := 100000000) (show ys.length + 1 ≤ _ by omega) (by decide)
  refine num64 (by omega) (by omega) ⟨(i + 1, b', c', _, g ++ [⟨i, t⟩], μ2, h2), ⟨by dsimp only; omega, hle1.trans hle2, hc1.trans hc2, hg.snoc (hd.mono (Nat.le_of_eq lvB_3)), ?_⟩, by dsimp only; omega, ⟨⟨rfl, rfl, rfl, rfl, trivial⟩, ⟨rfl, trivial⟩, rfl, rfl⟩⟩
  dsimp only
  rw [List.map_append, List.map_append]
  exact (hrows.mono hle2).append (Rows.one (RepV.bd ht) (Bd.d_n _))
 ·obtain rfl : i = n := by omega
  refine rFz [0] fun μ2 hle2 hno hat => .inl ⟨hc1.mono hle2, g, hg, ?_⟩
  exact Rows.sl hat (hrows.mono hle2) (Nat.le_trans (m := 1000) (by omega) (by decide))
structure DSub (lo hi : Int) (k : Nat) (vars : Int) (s : List B) : Prop where
 srt : s.Pairwise fun a b => a.var < b.var
 rng : ∀ b ∈ s, lo ≤ b.var ∧ b.var < hi ∧ Drawn k vars b.to
theorem DSub.nil (lo hi : Int) (k : Nat) (vars : Int) : DSub lo hi k vars [] := ⟨List.Pairwise.nil, fun b hb => by simp at hb⟩
theorem DSub.snoc {lo i : Int} {k : Nat} {vars : Int} {s : List B} (h : DSub lo i k vars s) {t : T} (hl : lo ≤ i) (ht : Drawn k vars t) : DSub lo (i + 1) k vars (s ++ [⟨i, t⟩]) := by
 refine ⟨List.pairwise_append.2 ⟨h.srt, by simp, fun a ha b hb => ?_⟩, fun b hb => ?_⟩
 ·rw [List.mem_singleton.1 hb]
  exact (h.rng a ha).2.1
 ·rcases List.mem_append.1 hb with hb | hb
  ·have := h.rng b hb
   exact ⟨this.1, by omega, this.2.2⟩
  ·rw [List.mem_singleton.1 hb]
   exact ⟨hl, by show i < i + 1; omega, ht⟩
theorem DSub.up {lo i j : Int} {k : Nat} {vars : Int} {s : List B} (h : DSub lo i k vars s) (hj : i ≤ j) : DSub lo j k vars s := ⟨h.srt, fun b hb => by
 have := h.rng b hb
 exact ⟨this.1, by omega, this.2.2⟩⟩
theorem DSub.len {lo hi : Int} {k : Nat} {vars : Int} : ∀ {s : List B}, DSub lo hi k vars s → (s.length : Int) ≤ max 0 (hi - lo)
 | [], _ => by simp; omega
 | b :: s, h => by
  have h1 := h.rng b (by simp)
  have hp := List.pairwise_cons.1 h.srt
  have := DSub.len (lo := b.var + 1) (hi := hi) (k := k) (vars := vars) (s := s) ⟨hp.2, fun c hc => ⟨by have := hp.1 c hc; omega, (h.rng c (by simp [hc])).2⟩⟩
  rw [List.length_cons]
  omega
end
end Go.Vx
namespace Go.Vx
open Go.Proofs Classical
theorem T.ext_args {x y : T} (h1 : x.tm.kind = y.tm.kind) (h2 : x.tm.num = y.tm.num) (h3 : x.tm.name = y.tm.name) (h4 : x.args = y.args) : x = y := by
 cases x <;> cases y <;> simp_all [T.tm, Tm.kind, Tm.num, Tm.name, T.args]
theorem list_eq_of {α : Type} {l m : List α} (hl : l.length = m.length) (h : ∀ (j : Nat) x y, l[j]? = some x → m[j]? = some y → x = y) : l = m :=
 List.ext_getElem? fun j => by
  rcases Nat.lt_or_ge j l.length with k | k
  ·have w_ := aSo (l := l) (i := j) k
   obtain ⟨x, hx⟩ := w_
   have w_ := aSo (l := m) (i := j) (by omega)
   obtain ⟨y, hy⟩ := w_
   rw [hx, hy, h j x y hx hy]
  ·rw [List.getElem?_eq_none k, List.getElem?_eq_none (by omega)]
section
variable {μ : Mem}
theorem same_spec : ∀ (x y : T) {v w : Value}, RepV μ x.tm.d v → RepV μ y.tm.d w → Gives Try.prog 17 [v, w] μ (.bool (decide (x = y))) :=
 T.ind fun x ih y v w hv hw => by
  have w_ := T.inv hv
  obtain ⟨base, cap, rfl, hsl⟩ := w_
  have w_ := T.inv hw
  obtain ⟨base2, cap2, rfl, hsl2⟩ := w_
  have hn := maxLen_le hsl.max
  refine Spec.mk Try.func17 (by kernel_rfl) ?_
  intro r1 r2
  refine ifnd (fun h1 => rGv (isF fun e => h1 (by rw [e])) rfl) (fun h1 => ?_)
  refine ifnd (fun h2 => rGv (isF fun e => h2 (by rw [e])) rfl) (fun h2 => ?_)
  refine ifnd (fun h3 => rGv (isF fun e => h3 (by rw [e])) rfl) (fun h3 => ?_)
  refine ifnd (fun h4 => rGv (isF fun e => h4 (by rw [e])) rfl) (fun h4 => ?_)
  have h4 : x.args.length = y.args.length := by omega
  refine lIn (fun i : Nat => i ≤ x.args.length ∧ ∀ j a b, j < i → x.args[j]? = some a → y.args[j]? = some b → a = b)
   (fun i => ⟨[(3, .loc 1 r2 0), (36, .val (.slice base x.args.length cap)), (37, .val (.int .i64 x.args.length)), (38, .val (.int .i64 i))], [(1, some (.cells r2 [.val (.int .i64 y.tm.kind), .val (.int .i64 y.tm.num), .val (.string y.tm.name), .val (.slice base2 y.args.length cap2)] 27))], 2, μ, Mem.nil⟩) (fun i => x.args.length - i)
   0 ⟨Nat.zero_le _, fun j a b hj => absurd hj (Nat.not_lt_zero _)⟩ (fun _ => ⟨rfl, rfl⟩) ⟨⟨rfl, rfl, rfl, rfl, trivial⟩, ⟨rfl, trivial⟩, rfl, rfl⟩ ?_
  rintro i ⟨hi, heq⟩
  refine ifd (fun h => ?_) (fun h => ?_)
  ·have w_ := aSo (l := x.args) (i := i) (by omega)
   obtain ⟨a, ha⟩ := w_
   have w_ := aSo (l := y.args) (i := i) (by omega)
   obtain ⟨b, hb⟩ := w_
   have w_ := T.arg hsl ha
   obtain ⟨ad, p, hel, hto⟩ := w_
   have w_ := T.arg hsl2 hb
   obtain ⟨ad2, p2, hel2, hto2⟩ := w_
   refine eIn hel ?_
   intro r3
   refine eIn hel2 ?_
   refine cGv (ih a (mAt ha) b hto hto2) ?_
   refine ifnd (fun h5 => rGv (isF fun e => h5 ?_) rfl) (fun h5 => ?_)
   ·subst e
    rw [ha] at hb
    exact Option.some.inj hb
   ·refine num64 (by omega) (by omega) ⟨i + 1, ⟨by omega, fun j c d hj hc hd => ?_⟩, by omega, ⟨⟨rfl, rfl, rfl, rfl, trivial⟩, ⟨rfl, trivial⟩, rfl, rfl⟩⟩
    rcases Nat.lt_or_ge j i with h6 | h6
    ·exact heq j c d h6 hc hd
    ·obtain rfl : j = i := by omega
     rw [ha] at hc
     rw [hb] at hd
     cases hc; cases hd
     exact h5
  ·obtain rfl : i = x.args.length := by omega
   refine rGv (isT (T.ext_args h1 h2 h3 (list_eq_of h4 fun j a b ha hb => ?_))) rfl
   exact heq j a b (List.getElem?_eq_some_iff.1 ha).1 ha hb
theorem MakeValue_spec {bs : List B} {base : Option Addr} {cap : Nat} {x : T} {v : Value} (hsl : Sl μ 5 base bs.length ((bs.map B.bd).map Bd.d)) (hv : RepV μ x.tm.d v) :
  Spec Try.prog 14 [v, .slice base bs.length cap] μ fun v μ' => RepV μ' (x.ap (asF bs)).tm.d v := by
 have w_ := Tm.invV hv
 obtain ⟨p, rfl⟩ := w_
 refine Spec.mk Try.func14 (by kernel_rfl) ?_
 intro r1 r2
 refine cPl (l04Put_spec x hsl hv) fun v1 μ1 hle1 hR => ?_
 refine cPl (l02Copy_spec _ hR) fun v2 μ2 hle2 hR2 => ?_
 have w_ := Tm.invV hR2
 obtain ⟨q, rfl⟩ := w_
 refine rPl ?_
 rw [← subst_asF]
 exact hR2
end
end Go.Vx
namespace Go.Vx
open Go.Proofs Classical
theorem DSub.subst {lo hi : Int} {k : Nat} {vars : Int} {s : List B} (h : DSub lo hi k vars s) (h0 : 0 ≤ lo) (h1 : hi ≤ 100) (h2 : vars ≤ lo) (hk : k ≤ 2500) : Subst s := by
 have hs : Srt s := srt_of_pw h.srt
 have hl := h.len
 refine ⟨⟨valsOk_of hs (by omega) fun b hb => ?_⟩, fun b hb => ⟨?_, fun n hn => ?_⟩⟩
 ·have k := h.rng b hb
  have := k.2.2.size
  exact ⟨by omega, k.2.2.good, by omega⟩
 ·rintro ⟨e1, e2⟩
  have k := h.rng b hb
  rw [kind_one e1] at k
  have := k.2.2.low _ rfl
  omega
 ·have k := h.rng b hb
  have := k.2.2.low n (T.occ_vars.2 hn)
  cases e : sub s n with
  | none => rfl
  | some t =>
   have := h.rng _ (sub_in e)
   simp only at this
   omega
theorem GVals.mem {n k : Nat} {g : List B} (h : GVals n k g) {b : B} (hb : b ∈ g) : 0 ≤ b.var ∧ b.var < n ∧ Drawn k 0 b.to := by
 have w_ := List.mem_iff_getElem?.1 hb
 obtain ⟨i, hi⟩ := w_
 have := h.get i b hi
 have h2 := (List.getElem?_eq_some_iff.1 hi).1
 rw [h.len] at h2
 exact ⟨by omega, by omega, this.2⟩
theorem GVals.srt {n k : Nat} {g : List B} (h : GVals n k g) : Srt g := fun i j b c hij hb hc => by
 have h1 := (h.get i b hb).1
 have h2 := (h.get j c hc).1
 omega
theorem GVals.asF {n k : Nat} {g : List B} (h : GVals n k g) {m : Int} (h0 : 0 ≤ m) (h1 : m < n) : Drawn k 0 (asF g m) := by
 have w_ := aSo (l := g) (i := m.toNat) (by rw [h.len]; omega)
 obtain ⟨b, hb⟩ := w_
 have k1 := h.get _ b hb
 have e : b.var = m := by rw [k1.1]; omega
 rw [← e, asF_of_mem h.srt (mAt hb)]
 exact k1.2
theorem GVals.out {n k : Nat} {g : List B} (h : GVals n k g) {m : Int} (h1 : (n : Int) ≤ m) : Go.Vx.asF g m = .var m := by
 cases e : sub g m with
 | none => rw [Go.Vx.asF, e]; rfl
 | some t =>
  have := h.mem (sub_in e)
  simp only at this
  omega
theorem Drawn.ap {k l : Nat} {vars w : Int} {t : T} {θ : Int → T} (h : Drawn k vars t) (hl : 1 ≤ l) (hθ : ∀ m, 0 ≤ m → m < vars → Drawn l w (θ m)) : Drawn (k * l) w (t.ap θ) := by
 refine ⟨T.good_ap (fun n hn => (hθ n (h.low n hn).1 (h.low n hn).2).good) h.good, fun n hn => ?_, ?_⟩
 ·have w_ := T.occ_ap hn
  obtain ⟨m, hm, hn⟩ := w_
  exact (hθ m (h.low m hm).1 (h.low m hm).2).low n hn
 ·exact Nat.le_trans (lvs_ap hl t fun m hm => (hθ m (h.low m hm).1 (h.low m hm).2).lvs) (Nat.mul_le_mul_right _ h.lvs)
theorem GVals.vals {n k : Nat} {g : List B} (h : GVals n k g) (hn : n ≤ 400) (hk : k ≤ 2500) : Vals g :=
 ⟨valsOk_of h.srt (by rw [h.len]; exact hn) fun b hb => by
  have := h.mem hb
  have h2 := this.2.2.size
  exact ⟨by omega, this.2.2.good, by omega⟩⟩
noncomputable def solved (s free : List B) : List B := free.map fun b => ⟨b.var, match sub s b.var with | some t => t.ap (asF free) | none => b.to⟩
section
variable {μ : Mem}
end
end Go.Vx
namespace Go.Vx
open Go.Proofs Classical
theorem GVals.take {n k : Nat} {g : List B} (h : GVals n k g) {m : Nat} (hm : m ≤ n) : GVals m k (g.take m) := by
 refine ⟨by rw [List.length_take, h.len]; omega, fun i b hb => ?_⟩
 have hi := (List.getElem?_eq_some_iff.1 hb).1
 rw [List.length_take] at hi
 rw [List.getElem?_take_of_lt (by omega)] at hb
 exact h.get i b hb
theorem T.vars_lvs : ∀ t : T, t.vars.length ≤ t.lvs
 | .pair a b => by
  have h1 := a.vars_lvs
  have h2 := b.vars_lvs
  simp only [T.vars, T.lvs, List.length_append]; omega
 | .nil => Nat.zero_le _
 | .var _ => Nat.le_refl _
 | .sym _ => Nat.zero_le _
 | .num _ => Nat.zero_le _
section
variable {μ : Mem}
end
end Go.Vx
