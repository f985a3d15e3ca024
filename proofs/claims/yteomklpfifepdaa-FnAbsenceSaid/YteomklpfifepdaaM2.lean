/- Texts of the proof, part M2. -/
import Derived.Carry
import Derived.ChangeArms
import Derived.ChangeOld
import Derived.Deep.RegionHeld3
import Derived.Handed
import Derived.JoinedOf
import Derived.KernelRfl
import Derived.OpenShut
import Derived.ProofKit
import Derived.RowKit3
import Derived.Test.YteomklpfifepdaaChecked
import Derived.WalkKit
import Derived.Test.YteomklpfifepdaaM1
namespace Go.Vx
section
variable {C : Cx} {E : Ent} {s : St} {a : Act} {w : World}
theorem wp_loop_ix {P : Program} {c : Code} {Q : Exit → Act → World → Prop} {ι : Type} (I : ι → Act → World → Prop) (m : ι → Nat)
  (round : ∀ i a w, I i a w → c.wp P (Exit.then (fun a' w' => ∃ i', m i' < m i ∧ I i' a' w') Q) a w) : ∀ i a w, I i a w → (Code.loop c).wp P Q a w := by
 intro i0 a0 w0 h0 b k cs
 have key : ∀ n i a w, m i = n → I i a w →
   ∃ e a' w', Q e a' w' ∧ Arrives P (lone (b.at a (.code c :: .inLoop c :: k)) cs w) b k cs e a' w' := by
  intro n
  induction n using Nat.strongRecOn with
  | _ n ih =>
   intro i a w hn hI
   obtain ⟨e, a₁, w₁, hq, harr⟩ := round i a w hI b (.inLoop c :: k) cs
   cases e with
   | normal =>
    obtain ⟨i', hlt, hI₁⟩ := hq
    obtain ⟨e₂, a₂, w₂, hq₂, harr₂⟩ := ih (m i') (hn ▸ hlt) i' a₁ w₁ rfl hI₁
    exact ⟨e₂, a₂, w₂, hq₂, .of_steps (Steps.trans harr (.one step_inLoop)) harr₂⟩
   | exit id => exact ⟨_, a₁, w₁, hq, .pass (x := .inLoop c) rfl (fun _ _ => .inl (by simp)) harr⟩
   | goto l => exact ⟨_, a₁, w₁, hq, .pass (x := .inLoop c) rfl (fun _ _ => .inl (by simp)) harr⟩
   | ret => exact ⟨_, a₁, w₁, hq, .pass (x := .inLoop c) rfl (fun _ _ => .inl (by simp)) harr⟩
   | panic ch => exact ⟨_, a₁, w₁, hq, .pass (x := .inLoop c) rfl (fun _ _ => .inl (by simp)) harr⟩
   | outgrown => exact ⟨_, a₁, w₁, hq, .pass (x := .inLoop c) rfl (fun _ _ => .inl (by simp)) harr⟩
 obtain ⟨e, a', w', hq, harr⟩ := key _ i0 a0 w0 rfl h0
 exact ⟨e, a', w', hq, .of_steps (.one step_loop) harr⟩
theorem SV.gen_cases {x y : SV} (h : x.gen = y.gen) : x = y ∨ ((∃ b, x = .val (.bool b) ∨ x = .kn b) ∧ (∃ b, y = .val (.bool b) ∨ y = .kn b) ∧ x.conc = y.conc) := by
 cases x <;> cases y <;> simp only [SV.gen] at h <;> first
  | exact .inl h
  | (cases h; exact .inr ⟨⟨_, .inl rfl⟩, ⟨_, .inr rfl⟩, rfl⟩)
  | (cases h; exact .inr ⟨⟨_, .inr rfl⟩, ⟨_, .inl rfl⟩, rfl⟩)
  | (cases h; exact .inl rfl)
  | cases h
theorem SV.gen_conc {x y : SV} (h : x.gen = y.gen) : x.conc = y.conc := by
 rcases SV.gen_cases h with rfl | ⟨_, _, h⟩
 ·rfl
 ·exact h
theorem gens_conc : ∀ {l r : List SV}, l.map SV.gen = r.map SV.gen → l.map SV.conc = r.map SV.conc
 | [], [], _ => rfl
 | a :: l, b :: r, h => by
  simp only [List.map_cons, List.cons.injEq] at h ⊢
  exact ⟨SV.gen_conc h.1, gens_conc h.2⟩
 | [], _ :: _, h => by simp at h
 | _ :: _, [], h => by simp at h
theorem gens_mem : ∀ {l r : List SV}, l.map SV.gen = r.map SV.gen → ∀ sv ∈ r, ∃ sv' ∈ l, sv'.gen = sv.gen
 | [], [], _, sv, h => by cases h
 | a :: l, b :: r, h, sv, hm => by
  simp only [List.map_cons, List.cons.injEq] at h
  rcases List.mem_cons.1 hm with rfl | hm
  ·exact ⟨a, by simp, h.1⟩
  ·obtain ⟨x, hx, hx'⟩ := gens_mem h.2 sv hm
   exact ⟨x, by simp [hx], hx'⟩
 | [], _ :: _, h, _, _ => by simp at h
 | _ :: _, [], _, sv, hm => by cases hm
theorem LB.gen_cases {x y : LB} (h : x.gen = y.gen) : x = y ∨ ∃ r cs cs' ty, x = .cells r cs ty ∧ y = .cells r cs' ty ∧ cs.map SV.gen = cs'.map SV.gen := by
 cases x <;> cases y <;> simp only [LB.gen] at h <;> first
  | exact .inl h
  | (cases h; done)
  | (simp only [LB.cells.injEq] at h; obtain ⟨rfl, h2, rfl⟩ := h; exact .inr ⟨_, _, _, _, rfl, rfl, h2⟩)
theorem SubE.get : ∀ {l' l : List (Nat × SV)}, SubE l' l → ∀ {i sv}, look l i = some sv → ∃ sv', look l' i = some sv' ∧ sv'.gen = sv.gen
 | _, [], _, _, _, h => by cases h
 | l', (j, x) :: r, ⟨h1, h2⟩, i, sv, h => by
  rw [look_cons] at h
  split at h
  ·rename_i e; subst e; cases h; exact Option.map_eq_some_iff.1 h1
  ·exact h2.get h
theorem SubB.get {s' : St} : ∀ {l : List (Nat × Option LB)}, SubB s' l → ∀ {t lb}, look l t = some (some lb) → ∃ lb', s'.lb t = some lb' ∧ lb'.gen = lb.gen
 | [], _, _, _, h => by cases h
 | (j, some x) :: r, ⟨h1, h2⟩, t, lb, h => by
  rw [look_cons] at h
  split at h
  ·rename_i e; subst e; cases h; exact Option.map_eq_some_iff.1 h1
  ·exact h2.get h
 | (j, none) :: r, h2, t, lb, h => by
  rw [look_cons] at h
  split at h
  ·cases h
  ·exact SubB.get (l := r) h2 h
theorem scopedE_get : ∀ {n : Nat} {l : List (Nat × SV)}, scopedE n l = true → ∀ {i sv}, look l i = some sv → tagsBelow n sv = true
 | _, [], _, _, _, h => by cases h
 | n, (j, x) :: r, hs, i, sv, h => by
  simp only [scopedE] at hs
  split at hs
  ·rename_i hx
   rw [look_cons] at h
   split at h
   ·cases h; exact hx
   ·exact scopedE_get hs h
  ·cases hs
theorem scopedC_get : ∀ {n : Nat} {l : List SV}, scopedC n l = true → ∀ sv ∈ l, tagsBelow n sv = true
 | _, [], _, _, h => by cases h
 | n, x :: r, hs, sv, h => by
  simp only [scopedC] at hs
  split at hs
  ·rename_i hx
   rcases List.mem_cons.1 h with rfl | h
   ·exact hx
   ·exact scopedC_get hs sv h
  ·cases hs
theorem scopedB_get : ∀ {n : Nat} {l : List (Nat × Option LB)}, scopedB n l = true → ∀ {t lb}, look l t = some (some lb) → t < n ∧ ∀ r cs ty, lb = .cells r cs ty → ∀ sv ∈ cs, tagsBelow n sv = true
 | _, [], _, _, _, h => by cases h
 | n, (j, x) :: l, hs, t, lb, h => by
  rw [look_cons] at h
  cases x with
  | none =>
   simp only [scopedB] at hs
   split at hs
   ·split at h
    ·cases h
    ·exact scopedB_get hs h
   ·cases hs
  | some y =>
   cases y with
   | cells r cs ty =>
    simp only [scopedB] at hs
    split at hs
    ·rename_i h1 h2
     split at h
     ·rename_i e
      cases h
      refine ⟨by rw [e]; simpa [Nat.blt_eq] using h1, fun r' cs' ty' e => ?_⟩
      cases e
      exact scopedC_get h2
     ·exact scopedB_get hs h
    ·cases hs
   | row b c t' es xs =>
    simp only [scopedB] at hs
    split at hs
    ·rename_i h1
     split at h
     ·rename_i e
      cases h
      exact ⟨by rw [e]; simpa [Nat.blt_eq] using h1, fun _ _ _ e => by cases e⟩
     ·exact scopedB_get hs h
    ·cases hs
   | map r en ck =>
    simp only [scopedB] at hs
    split at hs
    ·rename_i h1
     split at h
     ·rename_i e
      cases h
      exact ⟨by rw [e]; simpa [Nat.blt_eq] using h1, fun _ _ _ e => by cases e⟩
     ·exact scopedB_get hs h
    ·cases hs
theorem Rel.sub {s' : St} (hR : Rel E a w s') (hs : s'.Sub s) (h1 : scopedE s.nxt s.env = true) (h2 : scopedB s.nxt s.blk = true) : Rel E a w s := by
 have hl : ∀ {t lb}, s.lb t = some lb → ∃ lb', s'.lb t = some lb' ∧ lb'.gen = lb.gen := fun h => hs.blk.get (lb_look h)
 have hok : ∀ sv' sv, sv'.gen = sv.gen → tagsBelow s.nxt sv = true → svOk s' sv' → svOk s sv := fun sv' sv hg ht h => by
  rcases SV.gen_cases hg with rfl | ⟨_, ⟨b, rfl | rfl⟩, _⟩
  ·cases sv' with
   | loc t r off =>
    refine ⟨by simpa [tagsBelow, Nat.blt_eq] using ht, fun lb hlb => ?_⟩
    obtain ⟨lb', g1, g2⟩ := hl hlb
    obtain ⟨cs, ty, rfl⟩ := h.2 lb' g1
    rcases LB.gen_cases g2 with rfl | ⟨_, _, _, _, e1, rfl, _⟩
    ·exact ⟨_, _, rfl⟩
    ·cases e1; exact ⟨_, _, rfl⟩
   | row t b n c =>
    refine ⟨by simpa [tagsBelow, Nat.blt_eq] using ht, fun lb hlb => ?_⟩
    obtain ⟨lb', g1, g2⟩ := hl hlb
    obtain ⟨ty, es, xs, rfl, e⟩ := h.2 lb' g1
    rcases LB.gen_cases g2 with rfl | ⟨_, _, _, _, e1, _, _⟩
    ·exact ⟨_, _, _, rfl, e⟩
    ·cases e1
   | rel t b e i o =>
    refine ⟨by simpa [tagsBelow, Nat.blt_eq] using ht, fun lb hlb => ?_⟩
    obtain ⟨lb', g1, g2⟩ := hl hlb
    obtain ⟨cap, ty, xs, rfl, e⟩ := h.2 lb' g1
    rcases LB.gen_cases g2 with rfl | ⟨_, _, _, _, e1, _, _⟩
    ·exact ⟨_, _, _, rfl, e⟩
    ·cases e1
   | elem ad cs off => intro j v hj; rw [← hs.mem]; exact h j v hj
   | val v => trivial
   | kn b => trivial
  ·trivial
  ·trivial
 have hblk : ∀ {t lb}, s.lb t = some lb → ∃ lb', s'.lb t = some lb' ∧ lb'.blk? = lb.blk? ∧ (lb'.fits (fun b => w.heap[b]?) → lb.fits (fun b => w.heap[b]?)) := fun {t lb} h => by
  obtain ⟨lb', g1, g2⟩ := hl h
  rcases LB.gen_cases g2 with rfl | ⟨r, cs, cs', ty, rfl, rfl, g⟩
  ·exact ⟨_, g1, rfl, id⟩
  ·refine ⟨_, g1, rfl, fun hf => ?_⟩
   simp only [LB.fits, gens_conc g] at hf ⊢
   exact hf
 refine ⟨hR.defers, hR.size, fun i sv h => ?_, fun t r cs ty h sv hsv => ?_, ⟨by rw [← hs.mem]; exact hR.sees.1, fun t lb h => ?_⟩, fun t lb h => (scopedB_get h2 (lb_look h)).1, fun t lb r h hr => ?_, fun t t' lb lb' r h h' hr hr' => ?_, by rw [← hs.own, ← hs.mem]; exact hR.own, by rw [← hs.mem]; exact hR.mono, by rw [← hs.mem]; exact hR.fresh, hR.grow, hR.keep, hR.os, hR.tape, hR.output⟩
 ·obtain ⟨sv', g1, g2⟩ := hs.env.get h
  obtain ⟨h3, h4⟩ := hR.env i sv' g1
  exact ⟨by rw [← SV.gen_conc g2]; exact h3, hok sv' sv g2 (scopedE_get h1 h) h4⟩
 ·have hb := (scopedB_get h2 (lb_look h)).2 r cs ty rfl sv hsv
  obtain ⟨lb', g1, g2⟩ := hl h
  rcases LB.gen_cases g2 with rfl | ⟨_, cs', _, _, rfl, e, g⟩
  ·exact hok sv sv rfl hb (hR.cells t r cs ty g1 sv hsv)
  ·cases e
   obtain ⟨sv', hm, hn⟩ := gens_mem g sv hsv
   exact hok sv' sv hn hb (hR.cells t _ cs' _ g1 sv' hm)
 ·obtain ⟨lb', g1, _, g3⟩ := hblk h
  exact g3 (hR.sees.2 t lb' g1)
 ·rw [← hs.mem, ← hs.own]
  obtain ⟨lb', g1, g2, _⟩ := hblk h
  exact hR.place t lb' r g1 (by rw [g2]; exact hr)
 ·obtain ⟨l1, g1, g2, _⟩ := hblk h
  obtain ⟨l3, g3, g4, _⟩ := hblk h'
  exact hR.sep t t' l1 l3 r g1 g3 (by rw [g2]; exact hr) (by rw [g4]; exact hr')
theorem SubEN.get {n : Nat} : ∀ {l' l : List (Nat × SV)}, SubEN n l' l → ∀ {i sv}, look l i = some sv → ∃ sv', look l' i = some sv' ∧ NilAs n sv' sv
 | _, [], _, _, _, h => by cases h
 | l', (j, x) :: r, ⟨h1, h2⟩, i, sv, h => by
  rw [look_cons] at h
  split at h
  ·rename_i e; subst e; cases h; exact h1
  ·exact h2.get h
theorem SubBN.get {s' : St} : ∀ {l : List (Nat × Option LB)}, SubBN s' l → ∀ {t lb}, look l t = some (some lb) →
  s'.lb t = some lb ∨ (∃ ty es, lb = .row none 0 ty es [] ∧ s'.nxt ≤ t) ∨ ∃ b cs cs' ty, lb = .cells b cs ty ∧ s'.lb t = some (.cells b cs' ty) ∧ NilC s'.nxt cs' cs
 | [], _, _, _, h => by cases h
 | (j, some x) :: r, ⟨h1, h2⟩, t, lb, h => by
  rw [look_cons] at h
  split at h
  ·rename_i e; subst e; cases h; exact h1
  ·exact h2.get h
 | (j, none) :: r, h2, t, lb, h => by
  rw [look_cons] at h
  split at h
  ·cases h
  ·exact SubBN.get (l := r) h2 h
theorem NilAs.conc {n : Nat} {sv' sv : SV} (h : NilAs n sv' sv) : sv'.conc = sv.conc := by
 rcases h with h | ⟨t, rfl, rfl, _⟩
 ·exact SV.gen_conc h
 ·rfl
theorem NilC.conc {n : Nat} : ∀ {l r : List SV}, NilC n l r → l.map SV.conc = r.map SV.conc
 | [], [], _ => rfl
 | a :: l, b :: r, h => by simp [h.1.conc, NilC.conc h.2]
theorem NilC.mem {n : Nat} : ∀ {l r : List SV}, NilC n l r → ∀ sv ∈ r, ∃ sv' ∈ l, NilAs n sv' sv
 | [], [], _, sv, h => by cases h
 | a :: l, b :: r, h, sv, hm => by
  rcases List.mem_cons.1 hm with rfl | hm
  ·exact ⟨a, by simp, h.1⟩
  ·obtain ⟨x, hx, hx'⟩ := NilC.mem h.2 sv hm
   exact ⟨x, by simp [hx], hx'⟩
theorem Rel.subN {s' : St} (hR : Rel E a w s') (hs : s'.SubN s) (h1 : scopedE s.nxt s.env = true) (h2 : scopedB s.nxt s.blk = true) : Rel E a w s := by
 have hl : ∀ {t lb}, s.lb t = some lb → _ := fun {t lb} h => hs.blk.get (lb_look h)
 have hok : ∀ sv' sv, NilAs s'.nxt sv' sv → tagsBelow s.nxt sv = true → svOk s' sv' → svOk s sv := fun sv' sv hn ht h => by
  rcases hn with hn | ⟨t, rfl, rfl, hge⟩
  ·rcases SV.gen_cases hn with rfl | ⟨_, ⟨b, rfl | rfl⟩, _⟩
   rotate_left
   ·trivial
   ·trivial
   cases sv' with
   | loc t r off =>
    refine ⟨by simpa [tagsBelow, Nat.blt_eq] using ht, fun lb hlb => ?_⟩
    rcases hl hlb with g | ⟨ty, es, rfl, hge⟩ | ⟨b, cs, cs', ty, rfl, g, _⟩
    ·exact h.2 lb g
    ·have := h.1; omega
    ·obtain ⟨_, _, e⟩ := h.2 _ g
     cases e
     exact ⟨_, _, rfl⟩
   | row t b n c =>
    refine ⟨by simpa [tagsBelow, Nat.blt_eq] using ht, fun lb hlb => ?_⟩
    rcases hl hlb with g | ⟨ty, es, rfl, hge⟩ | ⟨b, cs, cs', ty, rfl, g, _⟩
    ·exact h.2 lb g
    ·have := h.1; omega
    ·obtain ⟨_, _, _, e, _⟩ := h.2 _ g
     cases e
   | rel t b e i o =>
    refine ⟨by simpa [tagsBelow, Nat.blt_eq] using ht, fun lb hlb => ?_⟩
    rcases hl hlb with g | ⟨ty, es, rfl, hge⟩ | ⟨b, cs, cs', ty, rfl, g, _⟩
    ·exact h.2 lb g
    ·have := h.1; omega
    ·obtain ⟨_, _, _, e, _⟩ := h.2 _ g
     cases e
   | elem ad cs off => intro j v hj; rw [← hs.mem]; exact h j v hj
   | val v => trivial
   | kn b => trivial
  ·refine ⟨by simpa [tagsBelow, Nat.blt_eq] using ht, fun lb hlb => ?_⟩
   rcases hl hlb with g | ⟨ty, es, rfl, _⟩ | ⟨b, cs, cs', ty, rfl, g, _⟩
   ·have := hR.nxt _ _ g; omega
   ·exact ⟨_, _, _, rfl, rfl⟩
   ·have := hR.nxt _ _ g; omega
 have hblk : ∀ {t lb}, s.lb t = some lb → (∃ lb', s'.lb t = some lb' ∧ lb'.blk? = lb.blk? ∧ (lb'.fits (fun b => w.heap[b]?) → lb.fits (fun b => w.heap[b]?))) ∨ (lb.blk? = none ∧ lb.fits (fun b => w.heap[b]?)) := fun {t lb} h => by
  rcases hl h with g | ⟨ty, es, rfl, hge⟩ | ⟨b, cs, cs', ty, rfl, g, hc⟩
  ·exact .inl ⟨lb, g, rfl, id⟩
  ·exact .inr ⟨rfl, rfl, rfl⟩
  ·refine .inl ⟨_, g, rfl, fun hf => ?_⟩
   simp only [LB.fits, hc.conc] at hf ⊢
   exact hf
 refine ⟨hR.defers, hR.size, fun i sv h => ?_, fun t r cs ty h sv hsv => ?_, ⟨by rw [← hs.mem]; exact hR.sees.1, fun t lb h => ?_⟩, fun t lb h => (scopedB_get h2 (lb_look h)).1, fun t lb r h hr => ?_, fun t t' lb lb' r h h' hr hr' => ?_, by rw [← hs.own, ← hs.mem]; exact hR.own, by rw [← hs.mem]; exact hR.mono, by rw [← hs.mem]; exact hR.fresh, hR.grow, hR.keep, hR.os, hR.tape, hR.output⟩
 ·obtain ⟨sv', g1, g2⟩ := hs.env.get h
  obtain ⟨h3, h4⟩ := hR.env i sv' g1
  exact ⟨by rw [← g2.conc]; exact h3, hok sv' sv g2 (scopedE_get h1 h) h4⟩
 ·have hb := (scopedB_get h2 (lb_look h)).2 r cs ty rfl sv hsv
  rcases hl h with g | ⟨_, _, e, _⟩ | ⟨b, cs1, cs', ty', e, g, hc⟩
  ·exact hok sv sv (.inl rfl) hb (hR.cells t r cs ty g sv hsv)
  ·cases e
  ·cases e
   obtain ⟨sv', hm, hn⟩ := hc.mem sv hsv
   exact hok sv' sv hn hb (hR.cells t _ cs' _ g sv' hm)
 ·rcases hblk h with ⟨lb', g1, _, g3⟩ | ⟨_, g⟩
  ·exact g3 (hR.sees.2 t lb' g1)
  ·exact g
 ·rw [← hs.mem, ← hs.own]
  rcases hblk h with ⟨lb', g1, g2, _⟩ | ⟨g, _⟩
  ·exact hR.place t lb' r g1 (by rw [g2]; exact hr)
  ·rw [g] at hr; cases hr
 ·rcases hblk h with ⟨l1, g1, g2, _⟩ | ⟨g, _⟩
  ·rcases hblk h' with ⟨l3, g3, g4, _⟩ | ⟨g, _⟩
   ·exact hR.sep t t' l1 l3 r g1 g3 (by rw [g2]; exact hr) (by rw [g4]; exact hr')
   ·rw [g] at hr'; cases hr'
  ·rw [g] at hr; cases hr
def Ex.out : Ex → Exit
 | .normal => .normal
 | .ret => .ret
 | .exit id => .exit id
theorem fades_sound : ∀ (fz : List Nat) {s : St} {K : St → Prop}, Rel E a w s → fadesK fz s K → ∃ s', K s' ∧ Rel E a w s'
 | [], s, K, hR, h => ⟨s, h, hR⟩
 | t :: ts, s, K, hR, h => by
  simp only [fadesK, fadeK_eq] at h
  exact fades_sound ts (hR.fade t) h
theorem frzs_sound (fz : List Nat) {s : St} {K : St → Prop} (hR : Rel E a w s) (h : frzVC fz s fun s => fadesK fz s K) : ∃ s', K s' ∧ Rel E a w s' := by
 obtain ⟨s1, g1, g2, _⟩ := frz_sound fz s _ hR h
 exact fades_sound fz g2 g1
theorem vcCode_sound (htt : TTok C.P C.tt) (hn : C.n = E.n) (hos : C.dr = true → C.os = [])
  (draws : ∀ {ops : Array Oper} {id : Nat} {s : St} {a : Act} {w : World} {K : St → Prop} {Q : Exit → Act → World → Prop}, Rel E a w s → vcDraw C ops.toList s K → (∀ a' w' s', K s' → Rel E a' w' s' → Q .normal a' w') → (Code.region id ops true).wp C.P Q a w) :
  ∀ (c : Code) {s : St} {a : Act} {w : World} {K : Ex → St → Prop} {Q : Exit → Act → World → Prop}, Rel E a w s → vcCode C c s K → (∀ e s' a' w', K e s' → Rel E a' w' s' → Q e.out a' w') → c.wp C.P Q a w := by
 intro c
 induction c with
 | skip => intro s a w K Q hR h hK; exact wp_skip (hK .normal s a w h hR)
 | ret => intro s a w K Q hR h hK; exact wp_ret (hK .ret s a w h hR)
 | exit id => intro s a w K Q hR h hK; exact wp_exit (hK (.exit id) s a w h hR)
 | label l => intro s a w K Q hR h hK; exact wp_label (hK .normal s a w h hR)
 | region id ops draw =>
  intro s a w K Q hR h hK
  cases draw
  ·exact wp_region_list (vcList_sound htt hn hos ops.toList hR h fun a' w' s' hk hR' => hK .normal s' a' w' hk hR')
  ·exact draws hR h fun a' w' s' hk hR' => hK .normal s' a' w' hk hR'
 | seq x y ihx ihy =>
  intro s a w K Q hR h hK
  refine wp_seq (ihx hR h fun e s' a' w' hk hR' => ?_)
  cases e with
  | normal => exact ihy hR' hk hK
  | ret => exact hK .ret s' a' w' hk hR'
  | exit id => exact hK (.exit id) s' a' w' hk hR'
 | cond x t e iht ihe =>
  intro s a w K Q hR h hK
  have h : evK s x fun c => condVC c s (fun s => vcCode C t s K) (fun s => vcCode C e s K) := h
  obtain ⟨sv, h1, h2⟩ := evK_spec h
  obtain ⟨e1, -⟩ := ev_sound hR.env h1
  unfold condVC at h2
  split at h2
  ·exact wp_cond_true e1 (iht hR h2 hK)
  ·exact wp_cond_false e1 (ihe hR h2 hK)
  ·rcases if_elimF h2 with ⟨h3, h4⟩ | ⟨fz, h3⟩
   ·exact wp_cond_split e1 (fun hb => iht hR (h3 hb) hK) (fun hb => ihe hR (h4 hb) hK)
   ·obtain ⟨s', ⟨h4, h5⟩, hR', _⟩ := frz_sound fz s _ hR h3
    exact wp_cond_split e1 (fun hb => iht hR' (h4 hb) hK) (fun hb => ihe hR' (h5 hb) hK)
  ·exact h2.elim
 | block id c ih =>
  intro s a w K Q hR h hK
  refine wp_block (ih hR h fun e s' a' w' hk hR' => ?_)
  cases e with
  | normal => exact hK .normal s' a' w' hk hR'
  | ret => exact hK .ret s' a' w' hk hR'
  | exit j =>
   simp only at hk
   simp only [Ex.out, Exit.inBlock]
   split at hk
   ·rename_i hb
    rw [if_pos (Nat.eq_of_beq_eq_true hb)]
    exact hK .normal s' a' w' hk hR'
   ·rename_i hb
    rw [if_neg (fun e => by subst e; simp at hb)]
    exact hK (.exit j) s' a' w' hk hR'
 | loop c ih =>
  intro s a w K Q hR h hK
  have h : loopVC (fun s K => vcCode C c s K) s K := h
  rcases loop_elim h with ⟨ι, I, σ, m, i0, h0, h1, h2, h3⟩ | ⟨ι, I, σ, m, fz, h2, h1, h3⟩ | ⟨ι, I, σ, m, fz, h2, h1, h3⟩
  ·refine wp_loop_ix (fun i a w => I i ∧ Rel E a w (σ i)) m (fun i a w hR' => ?_) i0 a w ⟨h0, h2.elim (fun h => hR.sub h (h1 i0).1 (h1 i0).2) fun h => hR.subN h (h1 i0).1 (h1 i0).2⟩
   refine ih hR'.2 (h3 i hR'.1) fun e s' a' w' hk hR'' => ?_
   cases e with
   | normal =>
    obtain ⟨i', hi, hm, hs⟩ := hk
    exact ⟨i', hm, hi, hR''.sub hs (h1 i').1 (h1 i').2⟩
   | ret => exact hK .ret s' a' w' hk hR''
   | exit id => exact hK (.exit id) s' a' w' hk hR''
  ·obtain ⟨s1, g1, hR1⟩ := frzs_sound fz hR h2
   obtain ⟨i0, h0, g2⟩ := g1
   refine wp_loop_ix (fun i a w => I i ∧ Rel E a w (σ i)) m (fun i a w hR' => ?_) i0 a w ⟨h0, hR1.sub g2 (h1 i0).1 (h1 i0).2⟩
   refine ih hR'.2 (h3 i hR'.1) fun e s' a' w' hk hR'' => ?_
   cases e with
   | normal =>
    obtain ⟨fz2, hk⟩ := hk
    obtain ⟨s2, ⟨i', hi, hm, hs⟩, hR2⟩ := frzs_sound fz2 hR'' hk
    exact ⟨i', hm, hi, hR2.sub hs (h1 i').1 (h1 i').2⟩
   | ret => exact hK .ret s' a' w' hk hR''
   | exit id => exact hK (.exit id) s' a' w' hk hR''
  ·obtain ⟨s1, g1, hR1⟩ := frzs_sound fz hR h2
   obtain ⟨i0, h0, g2⟩ := g1
   refine wp_loop_ix (fun i a w => I i ∧ Rel E a w (σ i)) m (fun i a w hR' => ?_) i0 a w ⟨h0, hR1.subN g2 (h1 i0).1 (h1 i0).2⟩
   refine ih hR'.2 (h3 i hR'.1) fun e s' a' w' hk hR'' => ?_
   cases e with
   | normal =>
    obtain ⟨fz2, hk⟩ := hk
    obtain ⟨s2, ⟨i', hi, hm, hs⟩, hR2⟩ := frzs_sound fz2 hR'' hk
    exact ⟨i', hm, hi, hR2.sub hs (h1 i').1 (h1 i').2⟩
   | ret => exact hK .ret s' a' w' hk hR''
   | exit id => exact hK (.exit id) s' a' w' hk hR''
 | rangeFunc => intro s a w K Q hR h hK; exact h.elim
 | scope => intro s a w K Q hR h hK; exact h.elim
 | goto => intro s a w K Q hR h hK; exact h.elim
 | refuse => intro s a w K Q hR h hK; exact h.elim
end
end Go.Vx
namespace Go.Vx
section
variable {P : Program} {ops : Array Oper} {Q : Exit → Act → World → Prop} {S : Array Bool → World → Prop}
def Closed (ops : Array Oper) (L : Array Bool) : Prop := ∀ x o, ops[x]? = some o → L.getD x true = true → ∀ e ∈ o.after, Region.binds .any e = true → L.getD e.on true = true
def anyG (P : Program) (ops : Array Oper) (Q : Exit → Act → World → Prop) (S : Array Bool → World → Prop) : Nat → Array Bool → Act → World → Prop
 | 0, L, a, w => Region.ready .any ops L = [] ∧ Q .normal a w
 | n + 1, L, a, w => (Region.ready .any ops L = [] → Q .normal a w) ∧ ∀ i ∈ Region.ready .any ops L, wpOp P ops Q i (fun a' w' => S (L.setIfInBounds i true) w' ∧ anyG P ops Q S n (L.setIfInBounds i true) a' w') a w
theorem any_of_G : ∀ (n : Nat) (L : Array Bool) (a : Act) (w : World), anyG P ops Q S n L a w → wpAny P .any ops Q n L a w
 | 0, _, _, _, h => h
 | n + 1, _, _, _, h => ⟨h.1, fun i hi => wpOp_mono (fun a' w' h' => any_of_G n _ a' w' h'.2) (h.2 i hi)⟩
def Pend (ops : Array Oper) (S : Array Bool → World → Prop) (i : Nat) (w : World) : Prop := ∃ L : Array Bool, Closed ops L ∧ L.getD i true = false ∧ S L w
theorem Closed.set {L : Array Bool} (h : Closed ops L) {i : Nat} (hi : i ∈ Region.ready .any ops L) : Closed ops (L.setIfInBounds i true) := by
 obtain ⟨h0, o, ho, hall⟩ := mem_ready.1 hi
 have up : ∀ k, L.getD k true = true → (L.setIfInBounds i true).getD k true = true := fun k hk => by
  by_cases e : i = k
  ·subst e; rw [h0] at hk; cases hk
  ·rw [getD_set_ne true e]; exact hk
 intro x ox hx hl e he hb
 by_cases hxi : i = x
 ·subst hxi
  rw [ho] at hx
  cases hx
  have h1 := hall e he hb
  refine up _ ?_
  rcases Nat.lt_or_ge e.on L.size with h' | h'
  ·simp [h'] at h1 ⊢; exact h1
  ·simp [Array.getElem?_eq_none h'] at h1
 ·rw [getD_set_ne true hxi] at hl
  exact up _ (h x ox hx hl e he hb)
theorem anyG_first {i : Nat} {oi : Oper} {v : Value} (hi : ops[i]? = some oi) (hsel : ∀ (j : Nat) (o : Oper) cs b, ops[j]? = some o → o.op ≠ .select cs b)
  (hQ : ∀ c a w, Q (.panic c) (a.put oi.dst v) w → Q (.panic c) a w) (hS : ∀ L w, S (L.setIfInBounds i true) w ↔ S L w) :
  ∀ (n : Nat) (L : Array Bool) (a : Act) (w : World),
   (∀ j oj, ops[j]? = some oj → j ≠ i → L.getD j true = false → (∀ e ∈ oj.after, Region.binds .any e = true → e.on ≠ i) → oi.apart ops oj = true) →
   Closed ops L → i ∈ Region.ready .any ops L → YieldsIf P ops (Pend ops S i) oi v a → S L w →
   anyG P ops Q S n (L.setIfInBounds i true) (a.put oi.dst v) w → anyG P ops Q S (n + 1) L a w := by
 intro n
 induction n with
 | zero =>
  intro L a w _ hc hr hy hs H
  have hp : Pend ops S i w := ⟨L, hc, (mem_ready.1 hr).1, hs⟩
  refine ⟨fun h => (by rw [h] at hr; cases hr), fun j hj => ?_⟩
  by_cases hji : j = i
  ·subst hji; exact hy.wpOp hi hp ⟨(hS L w).2 hs, H⟩
  ·have := ready_mono hj hji
   rw [H.1] at this
   cases this
 | succ n ih =>
  intro L a w hfree hc hr hy hs H
  have hp : Pend ops S i w := ⟨L, hc, (mem_ready.1 hr).1, hs⟩
  refine ⟨fun h => (by rw [h] at hr; cases hr), fun j hj => ?_⟩
  by_cases hji : j = i
  ·subst hji; exact hy.wpOp hi hp ⟨(hS L w).2 hs, H⟩
  ·have h1 := H.2 j (ready_mono hj hji)
   obtain ⟨hjun, oj, hoj, hall⟩ := mem_ready.1 hj
   have hnot : ∀ e ∈ oj.after, Region.binds .any e = true → e.on ≠ i := fun e he hb heq => by
    have h1 := hall e he hb
    have h0 := (mem_ready.1 hr).1
    rw [heq] at h1
    rcases Nat.lt_or_ge i L.size with h' | h'
    ·simp [h'] at h0 h1; rw [h0] at h1; cases h1
    ·simp [Array.getElem?_eq_none h'] at h1
   have h2 := wpOp_putIf hoj (hfree j oj hoj hji hjun hnot) (fun cs b => hsel i oi cs b hi) (fun cs b => hsel j oj cs b hoj) hQ hy h1
   refine wpOp_mono (fun a' w' h3 => ?_) h2
   obtain ⟨hy', hs', hg⟩ := h3
   rw [Array.setIfInBounds_comm _ _ (Ne.symm hji)] at hs' hg
   have hs'' := (hS _ _).1 hs'
   refine ⟨hs'', ih _ a' w' (fun k ok hk hki hun hno => hfree k ok hk hki ?_ hno) (hc.set hj) (ready_mono hr (Ne.symm hji)) hy' hs'' hg⟩
   by_cases hjk : j = k
   ·subst hjk; exact hjun
   ·rw [getD_set_ne true hjk] at hun; exact hun
end
end Go.Vx
namespace Go.Vx
section
variable {C : Cx} {E : Ent} {s : St} {a : Act} {w : World}
def resOne (tmps : Array Value) : ResultVar → Sem Value
 | .tmp t => pure (tmps.getD t undef)
 | .cell a t => do loadVar t (← asAddr (tmps.getD a undef))
theorem resK_sound (htt : TTok C.P C.tt) (hR : Rel E a w s) : ∀ (l : List ResultVar) (K : List Value → Prop), resK C s l K →
  ∃ vs, K vs ∧ vs.length = l.length ∧ (l.mapM (resOne a.tmps)).run C.P w = .ok vs w
 | [], K, h => ⟨[], h, rfl, rfl⟩
 | .tmp t :: r, K, h => by
  have h : evK s (.tmp t) fun sv => concK sv fun v => resK C s r fun vs => K (v :: vs) := h
  obtain ⟨sv, h1, h2⟩ := evK_spec h
  obtain ⟨e1, -⟩ := ev_sound hR.env h1
  rw [concK_eq] at h2
  obtain ⟨vs, h3, h4, h5⟩ := resK_sound htt hR r _ h2
  refine ⟨sv.conc :: vs, h3, by simp [h4], ?_⟩
  have e1 : a.tmps.getD t undef = sv.conc := e1
  simp only [List.mapM_cons, resOne, Sem.run_bind, Sem.run_pure, Result.andThen_ok, h5, e1]
 | .cell x t :: r, K, h => by
  obtain ⟨sv, h1, h2⟩ := evK_spec h
  obtain ⟨e1, o1⟩ := ev_sound hR.env h1
  have fin : ∀ (sx : SV) (ad : Addr), svOk s sx → sx.conc = .pointer (some ad) → a.tmps.getD x undef = sx.conc → loadK C s t sx (fun sv => concK sv fun v => resK C s r fun vs => K (v :: vs)) →
    ∃ vs, K vs ∧ vs.length = (ResultVar.cell x t :: r).length ∧ ((ResultVar.cell x t :: r).mapM (resOne a.tmps)).run C.P w = .ok vs w := by
   intro sx ad o1 hc e1 h2
   obtain ⟨sv2, h3, h4, h5⟩ := loadK_sound htt hR.cells o1 h2
   rw [concK_eq] at h3
   obtain ⟨vs, h6, h7, h8⟩ := resK_sound htt hR r _ h3
   refine ⟨sv2.conc :: vs, h6, by simp [h7], ?_⟩
   have h9 := h5 w ⟨hR.sees, hR.own.1⟩
   have h9 : (loadVar t ad).run C.P w = .ok sv2.conc w := by
    rw [← h9, hc]
    simp [Instr.loadAt, Instr.sureAddr]
   simp only [List.mapM_cons, resOne, Sem.run_bind, Sem.run_pure, Result.andThen_ok, h8, e1, hc, asAddr, h9]
  split at h2
  ·exact fin _ _ o1 rfl e1 h2
  ·exact fin _ _ o1 rfl e1 h2
  ·exact h2.elim
def DrawsOk (C : Cx) : Prop := ∀ {E : Ent} (_ : C.n = E.n) {ops : Array Oper} {id : Nat} {s : St} {a : Act} {w : World} {K : St → Prop} {Q : Exit → Act → World → Prop}, Rel E a w s → vcDraw C ops.toList s K → (∀ a' w' s', K s' → Rel E a' w' s' → Q .normal a' w') → (Code.region id ops true).wp C.P Q a w
theorem Mem.join_get (μ g : Mem) (b : Nat) : μ.join g b = match μ b with | some o => some o | none => g b := rfl
theorem retVC_sound (hR : Rel E a w s) {v : Value} {R : Value → Mem → Mem → Prop} (h : retVC s v R) : ∃ μ' h', R v μ' h' ∧ Step E.μ0 E.h0 E.w0 μ' h' w := by
 obtain ⟨s', h2, hR'⟩ : ∃ s', (R v s'.mem s'.own ∨ ∃ g k, Parts s'.own g k ∧ R v (s'.mem.join g) k) ∧ Rel E a w s' := by
  rcases ret_elim h with ⟨fz, h1⟩ | ⟨fz, h1⟩
  ·obtain ⟨s', h2, hR', _⟩ := frz_sound fz s _ hR h1
   exact ⟨s', h2, hR'⟩
  ·obtain ⟨s', h2, hR', _⟩ := frz_sound fz s _ hR h1
   exact ⟨s', h2 fun b hb => hR'.own_none hb, hR'⟩
 rcases h2 with h2 | ⟨g, k, hp, h2⟩
 ·exact ⟨s'.mem, s'.own, h2, ⟨hR'.mono, hR'.sees.1, hR'.own.1, fun b hb => hR'.own_none hb, hR'.fresh, fun b hb => (hR'.own.2 b hb).2, hR'.grow, hR'.keep, hR'.os, hR'.tape, hR'.output⟩⟩
 ·have hg : ∀ b, g b ≠ none → s'.own b = g b := fun b hb => by
   rcases hp b with ⟨h, _⟩ | ⟨_, h⟩
   ·exact h
   ·exact absurd h hb
  have hk : ∀ b, k b ≠ none → s'.own b = k b := fun b hb => by
   rcases hp b with ⟨_, h⟩ | ⟨h, _⟩
   ·exact absurd h hb
   ·exact h
  have hj : ∀ b, (s'.mem.join g) b ≠ none → s'.mem b ≠ none ∨ g b ≠ none := fun b hb => by
   rw [Mem.join_get] at hb
   cases hm : s'.mem b with
   | none => rw [hm] at hb; exact .inr hb
   | some o => exact .inl (by simp)
  refine ⟨_, _, h2, ⟨fun b o hb => ?_, fun b o hb => ?_, fun b o hb => hR'.own.1 b o (by rw [hk b (by simp [hb])]; exact hb), fun b hb => ?_, fun b h0 hb => ?_, fun b hb => (hR'.own.2 b (by rw [hk b hb]; exact hb)).2, hR'.grow, hR'.keep, hR'.os, hR'.tape, hR'.output⟩⟩
  ·rw [Mem.join_get, hR'.mono b o hb]
  ·rw [Mem.join_get] at hb
   split at hb
   ·rename_i x hx; cases hb; exact hR'.sees.1 b _ hx
   ·exact hR'.own.1 b o (by rw [hg b (by simp [hb])]; exact hb)
  ·rcases hj b hb with h | h
   ·cases hkb : k b with
    | none => rfl
    | some o =>
     have h1 := hk b (by simp [hkb])
     rw [hkb, hR'.own_none h] at h1
     cases h1
   ·rcases hp b with ⟨_, h'⟩ | ⟨_, h'⟩
    ·exact h'
    ·exact absurd h' h
  ·rcases hj b hb with h | h
   ·exact hR'.fresh b h0 h
   ·exact (hR'.own.2 b (by rw [hg b h]; exact h)).2
theorem SpecH.of_vc {P : Program} {tt : List (Nat × TI)} {os : List Nat} {f : FuncId} {fn : Func} {args : List Value} {μ h0 : Mem} {R : Value → Mem → Mem → Prop} (htt : TTok P tt) (hdr : ∀ n, DrawsOk ⟨P, tt, n, os, false⟩)
  (hf : P.funcs[f]? = some fn) (hname : (fn.name == "runtime.NumGoroutine") = false) (h : vcFun P tt os fn args μ h0 R) : SpecH P f args μ h0 R := by
 unfold vcFun at h
 split at h
 case h_1 => exact h.elim
 rename_i c hc
 obtain ⟨hle, h⟩ := leK_spec h
 obtain ⟨hlen, h⟩ := lenIs_spec _ _ _ h
 obtain ⟨e, h, he⟩ := argsK_spec _ _ _ h
 refine ⟨trivial, fun w hm hh hap => .inl ⟨⟨fn, hf, by simp [hc], hname⟩, calls_of_wp hf hc ?_⟩⟩
 let E : Ent := ⟨w, μ, h0, fn.ntmps⟩
 have hap' : ∀ b, h0 b ≠ none → μ b = none := fun b hb => by
  cases hm : μ b with
  | none => rfl
  | some o => exact absurd (hap b (by simp [hm])) hb
 have hR : Rel E { tmps := args.toArray ++ Array.replicate (fn.ntmps - args.toArray.size) undef, defers := [] } w ⟨e, [], 0, μ, h0⟩ := by
  refine ⟨rfl, by simp [E]; omega, fun i sv hi => ?_, fun t r cs ty h => by simp [St.lb, look] at h, ⟨hm, fun t lb h => by simp [St.lb, look] at h⟩, fun t lb h => by simp [St.lb, look] at h, fun t lb r h => by simp [St.lb, look] at h, fun t t' lb lb' r h => by simp [St.lb, look] at h, ⟨hh, fun b hb => ⟨hap' b hb, .inr hb⟩⟩, Mem.Le.refl _, fun b h h' => absurd h h', Nat.le_refl _, fun b _ _ => rfl, rfl, rfl, rfl⟩
  obtain ⟨v, rfl, _, hv⟩ := he i sv hi
  refine ⟨?_, trivial⟩
  simp only [Nat.sub_zero] at hv
  have hi : i < args.length := by
   rcases Nat.lt_or_ge i args.length with h | h
   ·exact h
   ·rw [List.getElem?_eq_none h] at hv; cases hv
  simp only [SV.conc]
  rw [Array.getElem?_append_left (by simpa using hi)]
  simpa using hv
 have fin : ∀ (s' : St) (a' : Act) (w' : World), Rel E a' w' s' → (resK ⟨P, tt, fn.ntmps, os, false⟩ s' fn.results.toList fun vs => (match vs with | [v] => retVC s' v R | vs => retVC s' (.tuple vs.toArray) R)) →
   a'.defers = [] ∧ ∃ v, (results fn a'.tmps).run P w' = .ok v w' ∧ ∃ v' μ' h', Ending.returned v = .returned v' ∧ R v' μ' h' ∧ Step μ h0 w μ' h' w' := by
  intro s' a' w' hR' hk
  refine ⟨hR'.defers, ?_⟩
  obtain ⟨vs, h1, h2, h3⟩ := resK_sound (C := ⟨P, tt, fn.ntmps, os, false⟩) htt hR' fn.results.toList _ hk
  have hres : (results fn a'.tmps).run P w' = .ok (if h : vs.toArray.size = 1 then vs.toArray[0] else .tuple vs.toArray) w' := by
   have e : results fn a'.tmps = (do let vs ← fn.results.mapM (resOne a'.tmps); pure (if h : vs.size = 1 then vs[0] else .tuple vs)) := by
    unfold results
    congr 1
   rw [e, Array.mapM_eq_mapM_toList]
   simp [h3]
  split at h1
  ·obtain ⟨μ', h', g1, g2⟩ := retVC_sound hR' h1
   exact ⟨_, hres, _, μ', h', rfl, by simpa using g1, g2⟩
  ·rename_i hne
   obtain ⟨μ', h', g1, g2⟩ := retVC_sound hR' h1
   refine ⟨_, hres, _, μ', h', rfl, ?_, g2⟩
   have : ¬ vs.toArray.size = 1 := fun h => by
    match vs, h with
    | [v], _ => exact hne v rfl
    | [], h => simp at h
    | _ :: _ :: _, h => simp at h
   rw [dif_neg this]
   exact g1
 refine vcCode_sound (C := ⟨P, tt, fn.ntmps, os, false⟩) htt rfl (fun h => nomatch h) (hdr fn.ntmps rfl) c hR h fun e s' a' w' hk hR' => ?_
 cases e with
 | normal => exact fin s' a' w' hR' hk
 | ret => exact fin s' a' w' hR' hk
 | exit id => exact hk.elim
end
end Go.Vx
namespace Go.Vx
inductive Orig (s : St) : SV → Prop
 | val (v : Value) : Orig s (.val v)
 | kn (b : Bool) : Orig s (.kn b)
 | env {i : Nat} {sv : SV} (h : look s.env i = some sv) : Orig s sv
 | cell {t r : Nat} {cs : List SV} {ty : TypeId} {sv : SV} (h : s.lb t = some (.cells r cs ty)) (hm : sv ∈ cs) : Orig s sv
 | locOff {t r o o' : Nat} (h : Orig s (.loc t r o)) : Orig s (.loc t r o')
 | elemOff {a : Addr} {cs : List Value} {o o' : Nat} (h : Orig s (.elem a cs o)) : Orig s (.elem a cs o')
 | relOff {t : Nat} {b : Option Nat} {e i o o' : Nat} (h : Orig s (.rel t b e i o)) : Orig s (.rel t b e i o')
 | elem {a : Addr} {cs : List Value} {o : Nat} (h : ∀ j v, cs[j]? = some v → s.mem.cell (a.add j) = some v) : Orig s (.elem a cs o)
 | rel {t : Nat} {b b' : Option Nat} {n c e i o c' e' : Nat} {ty : TypeId} {xs : List Value} (h : Orig s (.row t b n c)) (hl : s.lb t = some (.row b' c' ty e' xs)) : Orig s (.rel t b e i o)
section
variable {C : Cx} {s : St}
theorem ev_orig {x : Operand} {sv : SV} (h : ev s x = some sv) : Orig s sv := by
 cases x with
 | tmp t => exact .env h
 | const v => simp only [ev] at h; split at h <;> (cases h; first | exact .kn _ | exact .val _)
 | global g => cases h; exact .val _
 | func f => cases h; exact .val _
theorem evK_orig {x : Operand} {K : SV → Prop} (h : evK s x K) : evK s x fun sv => K sv ∧ Orig s sv := by
 obtain ⟨sv, h1, h2⟩ := evK_spec h
 unfold evK
 rw [h1]
 exact ⟨h2, ev_orig h1⟩
theorem evK_mono {x : Operand} {K K' : SV → Prop} (hk : ∀ sv, Orig s sv → K sv → K' sv) (h : evK s x K) : evK s x K' := by
 obtain ⟨sv, h1, h2⟩ := evK_spec h
 unfold evK
 rw [h1]
 exact hk _ (ev_orig h1) h2
theorem tyK_mono {t : TypeId} {K K' : TI → Prop} (hk : ∀ i, K i → K' i) (h : tyK C t K) : tyK C t K' := by
 obtain ⟨i, h1, h2⟩ := tyK_spec h
 unfold tyK
 rw [h1]
 exact hk _ h2
theorem fldK_mono {t f : Nat} {K K' : Nat → TI → Prop} (hk : ∀ o i, K o i → K' o i) (h : fldK C t f K) : fldK C t f K' := by
 unfold fldK at *
 refine tyK_mono (fun i h => ?_) h
 split at h
 ·split at h
  ·exact tyK_mono (fun j h => hk _ _ h) h
  ·exact h
 ·exact h
theorem numVC_mono {r : Int} {K K' : Int → Prop} (hk : ∀ x, K x → K' x) (h : numVC r K) : numVC r K' := num_intro fun x e => by subst e; exact hk _ (num_elim h)
theorem unK_mono {op : UnOp} {x : SV} {K K' : SV → Prop} (h1 : ∀ v, K (.val v) → K' (.val v)) (h2 : ∀ b, K (.kn b) → K' (.kn b)) (h : unK op x K) : unK op x K' := by
 unfold unK at *
 split at h
 ·exact h2 _ h
 ·exact h1 _ h
 ·exact numVC_mono (fun _ h => h1 _ h) h
 ·exact h
theorem intK_mono {op : BinOp} {k : IntKind} {a b : Int} {K K' : SV → Prop} (h1 : ∀ v, K (.val v) → K' (.val v)) (h : intK op k a b K) : intK op k a b K' := by
 unfold intK at *
 split at h <;> first
  | exact h1 _ h
  | exact numVC_mono (fun _ h => h1 _ h) h
  | (obtain ⟨g1, g2⟩ := need_elim h; exact need_intro g1 (numVC_mono (fun _ h => h1 _ h) g2))
  | exact h
theorem strK_mono {op : BinOp} {a b : ByteArray} {K K' : SV → Prop} (h1 : ∀ v, K (.val v) → K' (.val v)) (h : strK op a b K) : strK op a b K' := by
 unfold strK at *
 split at h <;> first
  | exact h1 _ h
  | (obtain ⟨g1, g2⟩ := need_elim h; exact need_intro g1 (h1 _ g2))
  | exact h
theorem eqbK_mono {op : BinOp} {a b : Bool} {K K' : SV → Prop} (h1 : ∀ v, K (.val v) → K' (.val v)) (h : eqbK op a b K) : eqbK op a b K' := by
 unfold eqbK at *
 split at h <;> first
  | exact h1 _ h
  | exact h
theorem nilK_mono {op : BinOp} {b : Bool} {K K' : SV → Prop} (h1 : ∀ v, K (.val v) → K' (.val v)) (h : nilK op b K) : nilK op b K' := by
 unfold nilK at *
 split at h <;> first
  | exact h1 _ h
  | exact h
theorem shiftK_mono {op : BinOp} {k : IntKind} {a b : Int} {K K' : SV → Prop} (h1 : ∀ v, K (.val v) → K' (.val v)) (h : shiftK op k a b K) : shiftK op k a b K' := by
 unfold shiftK at *
 split at h <;> first
  | (obtain ⟨g1, g2⟩ := need_elim h; exact need_intro g1 (numVC_mono (fun _ h => h1 _ h) g2))
  | exact h
theorem binK_mono {op : BinOp} {t : TypeId} {x y : SV} {K K' : SV → Prop} (h1 : ∀ v, K (.val v) → K' (.val v)) (h : binK C op t x y K) : binK C op t x y K' := by
 unfold binK at *
 split at h
 ·split at h
  ·cases hs : isShift op <;> simp only [hs] at h ⊢
   ·split at h
    ·exact intK_mono h1 h
    ·exact h
   ·exact shiftK_mono h1 h
  ·exact h
 ·split at h
  ·exact strK_mono h1 h
  ·exact h
 ·refine tyK_mono (fun i h => ?_) h
  split at h <;> first | exact eqbK_mono h1 h | exact h
 ·refine tyK_mono (fun i h => ?_) h
  split at h <;> first | exact eqbK_mono h1 h | exact h
 ·refine tyK_mono (fun i h => ?_) h
  split at h
  ·exact nilK_mono h1 h
  ·exact h
 ·exact h
theorem cutK_mono {α : Type} : ∀ {l : List α} {m n : Nat} {K K' : List α → Prop}, (∀ r, (∀ x ∈ r, x ∈ l) → K r → K' r) → cutK l m n K → cutK l m n K'
 | l, m, 0, K, K', hk, h => by
  have : ∀ (K : List α → Prop), cutK l m 0 K = K [] := fun K => by cases l <;> rfl
  rw [this] at h ⊢
  exact hk [] (by simp) h
 | x :: l, 0, n + 1, K, K', hk, h => by
  simp only [cutK] at *
  exact cutK_mono (fun r hr h => hk _ (fun y hy => by
   rcases List.mem_cons.1 hy with rfl | hy
   ·simp
   ·simp [hr y hy]) h) h
 | x :: l, m + 1, n + 1, K, K', hk, h => by
  simp only [cutK] at *
  exact cutK_mono (fun r hr h => hk _ (fun y hy => by simp [hr y hy]) h) h
 | [], m, n + 1, K, K', _, h => by cases m <;> exact h.elim
theorem oneK_mono {α : Type} {l : List α} {K K' : α → Prop} (hk : ∀ x ∈ l, K x → K' x) (h : oneK l K) : oneK l K' := by
 unfold oneK at *
 split at h
 ·exact hk _ (by simp) h
 ·exact h
theorem partK_mono {i : TI} {cs : List SV} {off : Nat} {K K' : SV → Prop} (h1 : ∀ v, K (.val v) → K' (.val v)) (h2 : ∀ x ∈ cs, K x → K' x) (h : partK i cs off K) : partK i cs off K' := by
 unfold partK at *
 split at h
 ·exact cutK_mono (fun r _ h => by rw [concsK_eq] at *; exact h1 _ h) h
 ·exact cutK_mono (fun r hr h => oneK_mono (fun x hx h => h2 x (hr x hx) h) h) h
theorem partV_mono {i : TI} {cs : List Value} {off : Nat} {K K' : SV → Prop} (h1 : ∀ v, K (.val v) → K' (.val v)) (h : partV i cs off K) : partV i cs off K' := by
 unfold partV at *
 split at h
 ·exact cutK_mono (fun r _ h => h1 _ h) h
 ·exact cutK_mono (fun r hr h => oneK_mono (fun x hx h => h1 _ h) h) h
theorem extVC_mono {μ h0 : Mem} {a : Addr} {n : Nat} {K K' : List Value → Prop} (hk : ∀ cs, K cs → K' cs) (h : extVC μ h0 a n K) : extVC μ h0 a n K' := by
 obtain ⟨cs, h1, h2, h3⟩ := ext_elim h
 rcases h2 with h2 | h2
 ·exact ext_intro cs h1 h2 (hk _ h3)
 ·exact oIn cs h1 h2 (hk _ h3)
theorem elemVC_mono {μ : Mem} {base : Option Addr} {n es : Nat} {i : Int} {K K2 : Addr → List Value → Prop} {K' K2' : Addr → Prop} (hk : ∀ a cs, ElemAt μ base n es i a cs → K a cs → K2 a cs) (hk' : ∀ a, K' a → K2' a) (h : elemVC μ base n es i K K') : elemVC μ base n es i K2 K2' := by
 rcases elem_elim h with ⟨a, cs, h1, h2⟩ | ⟨a0, h1, h2, h3, h4⟩
 ·exact eIn h1 (hk _ _ h1 h2)
 ·exact ptr_intro a0 h1 h2 h3 (hk' _ h4)
theorem loadK_orig {t : TypeId} {a : SV} {K : SV → Prop} (h : loadK C s t a K) : loadK C s t a fun sv => K sv ∧ Orig s sv := by
 unfold loadK at *
 refine tyK_mono (fun i h => ?_) h
 split at h
 ·split at h
  ·rename_i hlb
   exact partK_mono (fun v h => ⟨h, .val v⟩) (fun x hx h => ⟨h, .cell hlb hx⟩) h
  ·exact h.elim
  ·exact extVC_mono (fun cs h => partV_mono (fun v h => ⟨h, .val v⟩) h) h
 ·exact partV_mono (fun v h => ⟨h, .val v⟩) h
 ·split at h
  ·rename_i hlb
   obtain ⟨v, h1, h2⟩ := get_elim h
   exact get_intro v h1 (partV_mono (fun v h => ⟨h, .val v⟩) h2)
  ·exact h.elim
 ·exact extVC_mono (fun cs h => partV_mono (fun v h => ⟨h, .val v⟩) h) h
 ·exact h
theorem idxK_orig {t : TypeId} {x i : SV} (hx : Orig s x) {K : SV → Prop} (h : idxK C s t x i K) : idxK C s t x i fun sv => K sv ∧ Orig s sv := by
 unfold idxK at *
 split at h
 ·refine tyK_mono (fun ti h => ?_) h
  split at h
  ·refine tyK_mono (fun te h => ?_) h
   split at h
   ·exact elemVC_mono (fun a cs h1 h2 => ⟨h2, .elem h1.cell⟩) (fun a h => ⟨h, .val _⟩) h
   ·split at h
    ·rename_i hlb
     simp only []
     split at h
     ·rename_i he
      obtain ⟨j, h1, h2, h3⟩ := rel_elim h
      exact rel_intro j h1 h2 ⟨h3, .rel hx hlb⟩
     ·exact h.elim
    ·exact h.elim
    ·rename_i hlb
     simp only []
     exact elemVC_mono (fun a cs h1 h2 => ⟨h2, .elem h1.cell⟩) (fun a h => ⟨h, .val _⟩) h
   ·exact h
  ·exact h
 ·exact h
theorem lenK_mono {t : TypeId} {x : SV} {K K' : SV → Prop} (h1 : ∀ v, K (.val v) → K' (.val v)) (h : lenK C s t x K) : lenK C s t x K' := by
 unfold lenK at *
 refine tyK_mono (fun i h => ?_) h
 split at h <;> first | exact h1 _ h | exact h | (obtain ⟨l, hm, h2⟩ := mlen_elim h; exact ⟨⟨l, hm, h1 _ h2⟩⟩)
theorem pickK_orig {c x y : Operand} {K : SV → Prop} (h : pickK s c x y K) : pickK s c x y fun sv => K sv ∧ Orig s sv := by
 unfold pickK at *
 refine evK_mono (fun sc _ h => ?_) h
 split at h
 ·exact evK_orig h
 ·exact evK_orig h
 ·refine evK_mono (fun sx _ h => evK_mono (fun sy _ h => ?_) h) h
  split at h <;> first | exact ⟨h, .val _⟩ | exact h
 ·exact h
theorem setK_mono {α : Type} : ∀ {l : List α} {m : Nat} {vs : List α} {K K' : List α → Prop}, (∀ r, K r → K' r) → setK l m vs K → setK l m vs K'
 | l, 0, [], K, K', hk, h => by
  have : ∀ (K : List α → Prop), setK l 0 [] K = K l := fun K => by cases l <;> simp only [setK]
  rw [this] at h ⊢
  exact hk _ h
 | x :: l, 0, v :: vs, K, K', hk, h => by simp only [setK] at *; exact setK_mono (fun r h => hk _ h) h
 | x :: l, m + 1, vs, K, K', hk, h => by
  have : ∀ (K : List α → Prop), setK (x :: l) (m + 1) vs K = setK l m vs fun r => K (x :: r) := fun K => by cases vs <;> simp only [setK]
  rw [this] at h ⊢
  exact setK_mono (fun r h => hk _ h) h
 | [], 0, v :: vs, K, K', _, h => h.elim
 | [], m + 1, vs, K, K', _, h => by cases vs <;> exact h.elim
theorem needLen_mono : ∀ {n : Nat} {l : List Value} {A B : Prop}, (A → B) → fillK.needLen n l A → fillK.needLen n l B
 | 0, [], _, _, hk, h => hk h
 | n + 1, _ :: l, _, _, hk, h => needLen_mono (n := n) (l := l) hk h
 | 0, _ :: _, _, _, _, h => h.elim
 | _ + 1, [], _, _, _, h => h.elim
theorem needOne_mono {sv : SV} {n : Nat} {A B : Prop} (hk : A → B) (h : fillK.needOne sv n A) : fillK.needOne sv n B := by
 unfold fillK.needOne at *
 split at h
 ·exact h
 ·exact hk h
 ·exact h
theorem fillK_mono {fs : List (Nat × TypeId)} : ∀ {ps : List (Nat × Operand)} {cs : List SV} {K K' : List SV → Prop}, (∀ r, K r → K' r) → fillK C s fs ps cs K → fillK C s fs ps cs K'
 | [], cs, K, K', hk, h => hk _ h
 | (f, x) :: r, cs, K, K', hk, h => by
  simp only [fillK] at *
  split at h
  ·refine tyK_mono (fun ti h => evK_mono (fun sv _ h => ?_) h) h
   split at h
   ·split at h
    ·exact needLen_mono (fun h => setK_mono (fun _ h => fillK_mono hk h) h) h
    ·exact h
   ·exact needOne_mono (fun h => setK_mono (fun _ h => fillK_mono hk h) h) h
  ·exact h
theorem evsK_mono : ∀ {l : List Operand} {K K' : List Value → Prop}, (∀ r, K r → K' r) → evsK s l K → evsK s l K'
 | [], _, _, hk, h => hk _ h
 | x :: l, K, K', hk, h => by
  simp only [evsK] at *
  refine evK_mono (fun sv _ h => ?_) h
  rw [concK_eq] at *
  exact evsK_mono (fun r h => hk _ h) h
theorem convK_mono {src dst : TypeId} {x : SV} {K K' : SV → Prop} (hK : ∀ v, K (.val v) → K' (.val v)) (h : convK C s src dst x K) : convK C s src dst x K' := by
 unfold convK at *
 refine tyK_mono (fun ts h => tyK_mono (fun td h => ?_) h) h
 split at h
 ·refine tyK_mono (fun te h => ?_) h
  split at h
  ·obtain ⟨bs, h1, h2⟩ := bytes_elim h
   exact bytes_intro bs h1 (hK _ h2)
  ·exact h.elim
 ·exact num_intro fun r hr => hK _ (by subst hr; exact num_elim h)
 ·exact hK _ h
 ·exact h
theorem optK_mono {x : Option Operand} {K K' : Option SV → Prop} (hk : ∀ sv, K sv → K' sv) (h : optK s x K) : optK s x K' := by
 unfold optK at *
 split at h
 ·exact hk _ h
 ·exact evK_mono (fun _ _ h => hk _ h) h
theorem boundK_mono {o : Option SV} {d : Int} {K K' : Int → Prop} (hk : ∀ i, K i → K' i) (h : sliceK.boundK o d K) : sliceK.boundK o d K' := by
 unfold sliceK.boundK at *
 split at h
 ·exact hk _ h
 ·exact hk _ h
 ·exact h
theorem cutVC_mono {lo hi cap : Int} {K K' : Nat → Nat → Prop} (hk : ∀ i j, K i j → K' i j) (h : cutVC lo hi cap K) : cutVC lo hi cap K' := by
 obtain ⟨l, k, h1, h2, h3, h4, h5⟩ := cut_elim h
 exact cut_intro l k h1 h2 h3 h4 (hk _ _ h5)
theorem sliceK_mono {es : Nat} {base : Option Addr} {n c : Nat} {lo hi : Option SV} {K K' : SV → Prop} (hK : ∀ v, K (.val v) → K' (.val v)) (h : sliceK es base n c lo hi K) : sliceK es base n c lo hi K' := by
 unfold sliceK at *
 exact boundK_mono (fun i h => boundK_mono (fun j h => cutVC_mono (fun l k h => hK _ h) h) h) h
theorem maxK_mono {big : Bool} {x y : SV} {K K' : SV → Prop} (hK : ∀ v, K (.val v) → K' (.val v)) (h : maxK big x y K) : maxK big x y K' := by
 unfold maxK at *
 split at h
 ·split at h <;> exact hK _ h
 ·exact h
theorem vcVal_orig {o : Op} {K : SV → Prop} (h : vcVal C s o K) : vcVal C s o fun sv => K sv ∧ Orig s sv := by
 unfold vcVal at *
 split at h
 ·exact evK_mono (fun x _ h => convK_mono (fun v h => ⟨h, .val v⟩) h) h
 ·exact evK_orig h
 ·exact evK_orig h
 ·refine evK_mono (fun x ho h => ?_) h
  split at h
  ·exact ⟨h, ho⟩
  ·exact ⟨h, ho⟩
  ·exact h.elim
 ·exact pickK_orig h
 ·exact evK_mono (fun x _ h => unK_mono (fun v h => ⟨h, .val v⟩) (fun b h => ⟨h, .kn b⟩) h) h
 ·exact evK_mono (fun x _ h => evK_mono (fun y _ h => binK_mono (fun v h => ⟨h, .val v⟩) h) h) h
 ·refine fldK_mono (fun off ti h => evK_mono (fun x _ h => ?_) h) h
  split at h
  ·exact partV_mono (fun v h => ⟨h, .val v⟩) h
  ·exact h
 ·refine fldK_mono (fun off ti h => ?_) h
  unfold posK at *
  split at h
  ·exact h
  ·refine evK_mono (fun x ho h => ?_) h
   split at h
   ·exact ⟨h, .locOff ho⟩
   ·exact ⟨h, .elemOff ho⟩
   ·split at h
    ·rename_i hlb
     exact ⟨h, .relOff ho⟩
    ·exact h.elim
   ·exact ⟨h, .val _⟩
   ·exact h
 ·exact evK_mono (fun x hx h => evK_mono (fun y _ h => idxK_orig hx h) h) h
 ·refine tyK_mono (fun ti h => evK_mono (fun x _ h => optK_mono (fun lo h => optK_mono (fun hi h => ?_) h) h) h) h
  split at h
  ·exact tyK_mono (fun te h => sliceK_mono (fun v h => ⟨h, .val v⟩) h) h
  ·exact tyK_mono (fun te h => sliceK_mono (fun v h => ⟨h, .val v⟩) h) h
  ·exact boundK_mono (fun i h => boundK_mono (fun j h => cutVC_mono (fun l k h => ⟨h, .val _⟩) h) h) h
  ·exact h
 ·refine tyK_mono (fun ti h => evK_mono (fun x _ h => evK_mono (fun y _ h => ?_) h) h) h
  split at h
  ·obtain ⟨j, b, h1, h2, h3⟩ := byte_elim h
   exact byte_intro j b h1 h2 ⟨h3, .val _⟩
  ·exact h
 ·refine tyK_mono (fun ti h => ?_) h
  split at h
  ·refine tyK_mono (fun tk h => tyK_mono (fun te h => evK_mono (fun x _ h => evK_mono (fun i _ h => ?_) h) h) h) h
   rw [concK_eq] at *
   split at h
   ·obtain ⟨hok, l, hm, hl, h2⟩ := look_elim h
    refine ⟨⟨hok, l, hm, hl, ?_⟩⟩
    split at h2 <;> exact ⟨h2, .val _⟩
   ·exact h
  ·exact h
 ·exact evK_mono (fun x _ h => loadK_orig h) h
 ·refine evK_mono (fun x _ h => ?_) h
  split at h
  ·split at h
   ·rename_i hv
    exact ⟨h, .val _⟩
   ·exact h.elim
  ·exact h
 ·refine tyK_mono (fun ti h => ?_) h
  split at h
  ·exact fillK_mono (fun cs h => by rw [concsK_eq] at *; exact ⟨h, .val _⟩) h
  ·exact h
 ·exact evsK_mono (fun f h => evsK_mono (fun c h => ⟨h, .val _⟩) h) h
 ·refine tyK_mono (fun ti h => evK_mono (fun x _ h => ?_) h) h
  split at h
  ·exact ⟨h, .val _⟩
  ·exact h
 ·split at h
  ·rename_i hc
   split at h
   ·rename_i h1 h2
    exact evK_mono (fun x _ h => lenK_mono (fun v h => ⟨h, .val v⟩) h) h
   ·exact h.elim
  ·split at h
   ·exact evK_mono (fun x _ h => evK_mono (fun y _ h => maxK_mono (fun v h => ⟨h, .val v⟩) h) h) h
   ·exact h.elim
  ·split at h
   ·exact evK_mono (fun x _ h => evK_mono (fun y _ h => maxK_mono (fun v h => ⟨h, .val v⟩) h) h) h
   ·exact h.elim
  ·exact h.elim
 ·exact h
end
end Go.Vx
namespace Go.Vx
theorem memN_iff {n : Nat} : ∀ {l : List Nat}, memN n l = true ↔ n ∈ l
 | [] => by simp [memN]
 | m :: r => by
  simp only [memN]
  split
  ·rename_i h; have := Nat.eq_of_beq_eq_true h; simp [this]
  ·rename_i h
   have : n ≠ m := fun e => by subst e; simp at h
   rw [memN_iff]
   simp [this]
theorem memN_false {n : Nat} {l : List Nat} : memN n l = false ↔ n ∉ l := by
 rw [← memN_iff]; cases memN n l <;> simp
theorem depsIn_iff {done : List Nat} : ∀ {es : List Edge}, depsIn done es = true ↔ ∀ e ∈ es, Region.binds .any e = true → e.on ∈ done
 | [] => by simp [depsIn]
 | e :: r => by
  simp only [depsIn]
  split
  ·rename_i h1 h2
   rw [memN_false] at h2
   simp [h1, h2]
  ·rename_i h
   rw [depsIn_iff]
   refine ⟨fun g x hx hb => ?_, fun g x hx hb => g x (by simp [hx]) hb⟩
   rcases List.mem_cons.1 hx with rfl | hx
   ·cases hm : memN x.on done with
    | true => exact memN_iff.1 hm
    | false => exact absurd hm (h hb)
   ·exact g x hx hb
theorem onEdge_iff {i : Nat} : ∀ {es : List Edge}, onEdge i es = true ↔ ∃ e ∈ es, Region.binds .any e = true ∧ e.on = i
 | [] => by simp [onEdge]
 | e :: r => by
  simp only [onEdge]
  split
  ·rename_i h1 h2
   have h2 := Nat.eq_of_beq_eq_true h2
   simp only [true_iff]
   exact ⟨e, by simp, h1, h2⟩
  ·rename_i h
   rw [onEdge_iff]
   constructor
   ·rintro ⟨x, hx, h1, h2⟩; exact ⟨x, by simp [hx], h1, h2⟩
   ·rintro ⟨x, hx, h1, h2⟩
    rcases List.mem_cons.1 hx with rfl | hx
    ·exact absurd (by rw [h2]; exact Nat.beq_refl i) (h h1)
    ·exact ⟨x, hx, h1, h2⟩
theorem firstQ_spec {lt : Nat → Op → Bool} {done : List Nat} : ∀ {l : List Oper} {k i : Nat}, firstQ lt done k l = some i → ∃ o, k ≤ i ∧ l[i - k]? = some o ∧ quietOp o.op = true ∧ i ∉ done ∧ depsIn done o.after.toList = true
 | [], _, _, h => by cases h
 | o :: r, k, i, h => by
  have up : firstQ lt done (k + 1) r = some i → ∃ o', k ≤ i ∧ (o :: r)[i - k]? = some o' ∧ quietOp o'.op = true ∧ i ∉ done ∧ depsIn done o'.after.toList = true := fun h => by
   obtain ⟨o', h1, h2, h3⟩ := firstQ_spec h
   exact ⟨o', by omega, by rw [show i - k = (i - (k + 1)) + 1 from by omega]; simpa using h2, h3⟩
  simp only [firstQ] at h
  split at h
  ·rename_i h1 h2 h3
   split at h
   ·cases h
    exact ⟨o, Nat.le_refl _, by simp, h1, memN_false.1 h2, h3⟩
   ·exact up h
  ·exact up h
theorem candsOf_spec {done al : List Nat} : ∀ {l : List Oper} {k j : Nat}, j ∈ candsOf done al k l ↔ ∃ o, k ≤ j ∧ l[j - k]? = some o ∧ j ∉ done ∧ j ∉ al ∧ depsIn (al ++ done) o.after.toList = true
 | [], k, j => by simp [candsOf]
 | o :: r, k, j => by
  have ih := candsOf_spec (done := done) (al := al) (l := r) (k := k + 1) (j := j)
  have step : (∃ o', k + 1 ≤ j ∧ r[j - (k + 1)]? = some o' ∧ j ∉ done ∧ j ∉ al ∧ depsIn (al ++ done) o'.after.toList = true) ∨ (j = k ∧ j ∉ done ∧ j ∉ al ∧ depsIn (al ++ done) o.after.toList = true) ↔
    ∃ o', k ≤ j ∧ (o :: r)[j - k]? = some o' ∧ j ∉ done ∧ j ∉ al ∧ depsIn (al ++ done) o'.after.toList = true := by
   constructor
   ·rintro (⟨o', h1, h2, h3⟩ | ⟨rfl, h3⟩)
    ·exact ⟨o', by omega, by rw [show j - k = (j - (k + 1)) + 1 from by omega]; simpa using h2, h3⟩
    ·exact ⟨o, Nat.le_refl _, by simp, h3⟩
   ·rintro ⟨o', h1, h2, h3⟩
    by_cases hj : j = k
    ·subst hj
     simp only [Nat.sub_self, List.getElem?_cons_zero, Option.some.injEq] at h2
     subst h2
     exact .inr ⟨rfl, h3⟩
    ·exact .inl ⟨o', by omega, by rw [show j - k = (j - (k + 1)) + 1 from by omega] at h2; simpa using h2, h3⟩
  rw [← step, ← ih]
  simp only [candsOf]
  split
  ·rename_i h1 h2 h3
   rw [memN_false] at h1 h2
   rw [List.mem_cons]
   constructor
   ·rintro (rfl | h)
    ·exact .inr ⟨rfl, h1, h2, h3⟩
    ·exact .inl h
   ·rintro (h | ⟨rfl, _⟩)
    ·exact .inr h
    ·exact .inl rfl
  ·rename_i h
   constructor
   ·exact .inl
   ·rintro (h' | ⟨rfl, h1, h2, h3⟩)
    ·exact h'
    ·exact (h (memN_false.2 h1) (memN_false.2 h2) h3).elim
theorem allocIdx_spec : ∀ {l : List Oper} {k j : Nat}, j ∈ allocIdx k l ↔ ∃ o, k ≤ j ∧ l[j - k]? = some o ∧ allocOp o = true
 | [], k, j => by simp [allocIdx]
 | o :: r, k, j => by
  have ih := allocIdx_spec (l := r) (k := k + 1) (j := j)
  have step : (∃ o', k + 1 ≤ j ∧ r[j - (k + 1)]? = some o' ∧ allocOp o' = true) ∨ (j = k ∧ allocOp o = true) ↔ ∃ o', k ≤ j ∧ (o :: r)[j - k]? = some o' ∧ allocOp o' = true := by
   constructor
   ·rintro (⟨o', h1, h2, h3⟩ | ⟨rfl, h3⟩)
    ·exact ⟨o', by omega, by rw [show j - k = (j - (k + 1)) + 1 from by omega]; simpa using h2, h3⟩
    ·exact ⟨o, Nat.le_refl _, by simp, h3⟩
   ·rintro ⟨o', h1, h2, h3⟩
    by_cases hj : j = k
    ·subst hj
     simp only [Nat.sub_self, List.getElem?_cons_zero, Option.some.injEq] at h2
     subst h2
     exact .inr ⟨rfl, h3⟩
    ·exact .inl ⟨o', by omega, by rw [show j - k = (j - (k + 1)) + 1 from by omega] at h2; simpa using h2, h3⟩
  rw [← step, ← ih]
  simp only [allocIdx]
  split
  ·rename_i h
   rw [List.mem_cons]
   constructor
   ·rintro (rfl | g)
    ·exact .inr ⟨rfl, h⟩
    ·exact .inl g
   ·rintro (g | ⟨rfl, _⟩)
    ·exact .inr g
    ·exact .inl rfl
  ·rename_i h
   constructor
   ·exact .inl
   ·rintro (g | ⟨rfl, g⟩)
    ·exact g
    ·rw [h] at g; cases g
theorem allocOp_spec {o : Oper} (h : allocOp o = true) : ∃ t d, o.op = .alloc t ∧ o.guard = none ∧ o.dst = some d ∧ o.after.toList = [] := by
 unfold allocOp at h
 split at h
 ·rename_i h1 h2 h3 h4; exact ⟨_, _, h1, h2, h3, h4⟩
 ·cases h
theorem freeQ_spec {ops : Array Oper} {done : List Nat} {i : Nat} {oi : Oper} : ∀ {l : List Oper} {k : Nat}, freeQ ops done i oi k l = true → ∀ j o, k ≤ j → l[j - k]? = some o → j ∉ done → j ≠ i → (∀ e ∈ o.after, Region.binds .any e = true → e.on ≠ i) → oi.apart ops o = true
 | [], _, _, j, o, _, h, _, _, _ => by simp at h
 | x :: r, k, h, j, o, hk, ho, h1, h2, h3 => by
  simp only [freeQ] at h
  split at h
  ·cases h
  ·rename_i hn
   by_cases hj : j = k
   ·subst hj
    simp only [Nat.sub_self, List.getElem?_cons_zero, Option.some.injEq] at ho
    subst ho
    cases ha : oi.apart ops x with
    | true => rfl
    | false =>
     refine (hn (memN_false.2 h1) ?_ ?_ ha).elim
     ·cases hb : Nat.beq j i with
      | false => rfl
      | true => exact absurd (Nat.eq_of_beq_eq_true hb) h2
     ·cases hb : onEdge i x.after.toList with
      | false => rfl
      | true =>
       obtain ⟨e, he, g1, g2⟩ := onEdge_iff.1 hb
       exact absurd g2 (h3 e (by simpa using he) g1)
   ·exact freeQ_spec h j o (by omega) (by rw [show j - k = (j - (k + 1)) + 1 from by omega] at ho; simpa using ho) h1 h2 h3
theorem soleDst_spec {d j : Nat} : ∀ {l : List Oper} {k : Nat}, soleDst d j k l = true → ∀ i o, k ≤ i → l[i - k]? = some o → i ≠ j → o.dst ≠ some d
 | [], _, _, i, o, _, h, _ => by simp at h
 | x :: r, k, h, i, o, hk, ho, hij => by
  by_cases hi : i = k
  ·subst hi
   simp only [Nat.sub_self, List.getElem?_cons_zero, Option.some.injEq] at ho
   subst ho
   intro hd
   have hb : Nat.beq i j = false := by
    cases hb : Nat.beq i j with
    | false => rfl
    | true => exact absurd (Nat.eq_of_beq_eq_true hb) hij
   simp only [soleDst, hb, hd, Nat.beq_refl] at h
   cases h
  ·refine soleDst_spec (l := r) (k := k + 1) ?_ i o (by omega) (by rw [show i - k = (i - (k + 1)) + 1 from by omega] at ho; simpa using ho) hij
   simp only [soleDst] at h
   split at h
   ·split at h
    ·cases h
    ·exact h
   ·exact h
theorem memP_spec {i t : Nat} : ∀ {l : List (Nat × Nat)}, memP i t l = true → (i, t) ∈ l
 | [], h => by cases h
 | (j, u) :: r, h => by
  simp only [memP] at h
  split at h
  ·rename_i h1 h2
   have h1 := Nat.eq_of_beq_eq_true h1
   have h2 := Nat.eq_of_beq_eq_true h2
   simp [h1, h2]
  ·exact List.mem_cons_of_mem _ (memP_spec h)
theorem ahead_spec {ops : Array Oper} {L : Array Bool} (hc : Closed ops L) {i : Nat} : ∀ {n x : Nat}, ahead ops.toList i n x = true → L.getD x true = true → L.getD i true = true
 | 0, _, h, _ => by cases h
 | n + 1, x, h, hx => by
  simp only [ahead] at h
  split at h
  ·rename_i o ho
   have key : ∀ es : List Edge, (∀ e ∈ es, e ∈ o.after) → aheadE (ahead ops.toList i n) i es = true → L.getD i true = true := by
    intro es
    induction es with
    | nil => intro _ h; cases h
    | cons e r ih =>
     intro hm h
     simp only [aheadE] at h
     split at h
     ·rename_i hb
      have he := hc x o (by simpa using ho) hx e (hm e (by simp)) hb
      split at h
      ·rename_i h1
       rw [← Nat.eq_of_beq_eq_true h1]; exact he
      ·split at h
       ·rename_i h2
        exact ahead_spec hc h2 he
       ·exact ih (fun y hy => hm y (by simp [hy])) h
     ·exact ih (fun y hy => hm y (by simp [hy])) h
   exact key o.after.toList (fun e he => by simpa using he) h
  ·cases h
theorem cleanT_spec {ops : List Oper} {i t : Nat} : ∀ {l : List (Nat × Nat)}, cleanT ops i t l = true → ∀ x, (x, t) ∈ l → ahead ops i 20 x = true
 | [], _, x, h => by cases h
 | (y, u) :: r, h, x, hx => by
  simp only [cleanT] at h
  split at h
  ·rename_i hb
   have hb := Nat.eq_of_beq_eq_true hb
   split at h
   ·rename_i ha
    rcases List.mem_cons.1 hx with e | hx
    ·cases e; exact ha
    ·exact cleanT_spec h x hx
   ·cases h
  ·rename_i hb
   rcases List.mem_cons.1 hx with e | hx
   ·cases e; simp at hb
   ·exact cleanT_spec h x hx
theorem modIdx_spec {ops : List Oper} {s0 : St} : ∀ {l : List Oper} {k : Nat} {ml : List (Nat × Nat)}, modIdx ops s0 k l = some ml → ∀ x t, (x, t) ∈ ml → ∃ o ty a b, k ≤ x ∧ l[x - k]? = some o ∧ o.op = .store ty a b
 | [], k, ml, h, x, t, hx => by cases h; cases hx
 | o :: r, k, ml, h, x, t, hx => by
  have up : ∀ {ml'}, modIdx ops s0 (k + 1) r = some ml' → (x, t) ∈ ml' → ∃ o' ty a b, k ≤ x ∧ (o :: r)[x - k]? = some o' ∧ o'.op = .store ty a b := fun h1 h2 => by
   obtain ⟨o', ty, a, b, g1, g2, g3⟩ := modIdx_spec h1 x t h2
   exact ⟨o', ty, a, b, by omega, by rw [show x - k = (x - (k + 1)) + 1 from by omega]; simpa using g2, g3⟩
  simp only [modIdx] at h
  split at h
  ·rename_i ty a b hop
   split at h
   ·rename_i h1 h2
    cases h
    rcases List.mem_cons.1 hx with e | hx
    ·cases e
     exact ⟨o, ty, a, b, Nat.le_refl _, by simp, hop⟩
    ·exact up h2 hx
   ·rename_i h1 h2
    cases h
    exact up h2 hx
   ·cases h
  ·exact up h hx
theorem okK_spec {b : Bool} {A : Prop} (h : okK b A) : b = true ∧ A := by
 unfold okK at h
 split at h
 ·exact ⟨rfl, h⟩
 ·exact h.elim
def V0 (s0 : St) : SV → Prop
 | .loc t r _ => ∀ r' cs ty, s0.lb t = some (.cells r' cs ty) → r' = r
 | .row t _ _ _ => ∀ r cs ty, s0.lb t ≠ some (.cells r cs ty)
 | .rel t _ _ _ _ => ∀ r cs ty, s0.lb t ≠ some (.cells r cs ty)
 | .elem a cs _ => ∀ j v, cs[j]? = some v → s0.mem.cell (a.add j) = some v
 | _ => True
theorem lb_view {ops : List Oper} {ml : List (Nat × Nat)} {ol : List Nat} {s0 s : St} {i t : Nat} {lb : LB} (h : (viewS ops ml ol s0 s i).lb t = some lb) : s0.lb t = some lb ∧ cleanT ops i t ml = true ∧ ∃ r cs ty, lb = .cells r cs ty := by
 have key : ∀ l : List (Nat × Option LB), look (viewB ops ml i l) t = some (some lb) → look l t = some (some lb) ∧ cleanT ops i t ml = true ∧ ∃ r cs ty, lb = .cells r cs ty := by
  intro l
  induction l with
  | nil => intro h; cases h
  | cons p l ih =>
   obtain ⟨u, x⟩ := p
   intro h
   match x with
   | some (.cells r cs ty) =>
    simp only [viewB] at h
    split at h
    ·rename_i hc
     rw [look_cons] at h ⊢
     split at h
     ·rename_i e
      subst e
      cases h
      exact ⟨by simp, hc, _, _, _, rfl⟩
     ·rename_i e
      rw [if_neg e]
      exact ih h
    ·rw [look_cons] at h ⊢
     split at h
     ·cases h
     ·rename_i e; rw [if_neg e]; exact ih h
   | some (.row ..) =>
    simp only [viewB] at h
    rw [look_cons] at h ⊢
    split at h
    ·cases h
    ·rename_i e; rw [if_neg e]; exact ih h
   | some (.map ..) =>
    simp only [viewB] at h
    rw [look_cons] at h ⊢
    split at h
    ·cases h
    ·rename_i e; rw [if_neg e]; exact ih h
   | none =>
    simp only [viewB] at h
    rw [look_cons] at h ⊢
    split at h
    ·cases h
    ·rename_i e; rw [if_neg e]; exact ih h
 obtain ⟨h1, h2, h3⟩ := key s0.blk (lb_look h)
 exact ⟨by unfold St.lb; rw [h1], h2, h3⟩
def SS (s0 : St) (ml : List (Nat × Nat)) (ol : List Nat) (L : Array Bool) (w : World) : Prop :=
 Holds s0.mem w ∧ (∀ t r cs ty, s0.lb t = some (.cells r cs ty) → (∀ x, (x, t) ∈ ml → L.getD x true = false) → (LB.cells r cs ty).fits (fun b => w.heap[b]?)) ∧ ((∀ x ∈ ol, L.getD x true = false) → Holds s0.own w)
theorem SS_quiet {s0 : St} {ml : List (Nat × Nat)} {ol : List Nat} {i : Nat} (hi : ∀ t, (i, t) ∉ ml) (ho : i ∉ ol) (L : Array Bool) (w : World) : SS s0 ml ol (L.setIfInBounds i true) w ↔ SS s0 ml ol L w := by
 have e : ∀ t, (∀ x, (x, t) ∈ ml → (L.setIfInBounds i true).getD x true = false) ↔ ∀ x, (x, t) ∈ ml → L.getD x true = false := fun t => by
  constructor
  ·intro h x hx; rw [← getD_set_ne (i := i) true (fun e => by subst e; exact hi t hx)]; exact h x hx
  ·intro h x hx; rw [getD_set_ne (i := i) true (fun e => by subst e; exact hi t hx)]; exact h x hx
 have e' : (∀ x ∈ ol, (L.setIfInBounds i true).getD x true = false) ↔ ∀ x ∈ ol, L.getD x true = false := by
  constructor
  ·intro h x hx; rw [← getD_set_ne (i := i) true (fun e => by subst e; exact ho hx)]; exact h x hx
  ·intro h x hx; rw [getD_set_ne (i := i) true (fun e => by subst e; exact ho hx)]; exact h x hx
 unfold SS
 simp only [e, e']
theorem cleanO_spec {ops : List Oper} {i : Nat} : ∀ {l : List Nat}, cleanO ops i l = true → ∀ x ∈ l, ahead ops i 20 x = true
 | [], _, x, h => by cases h
 | y :: l, h, x, hx => by
  simp only [cleanO] at h
  split at h
  ·rename_i ha
   rcases List.mem_cons.1 hx with e | hx
   ·subst e; exact ha
   ·exact cleanO_spec h x hx
  ·cases h
theorem ownIdx_spec {ops : List Oper} {s0 : St} : ∀ {l : List Oper} {k : Nat} {x : Nat}, x ∈ ownIdx ops s0 k l → ∃ o, k ≤ x ∧ l[x - k]? = some o ∧ quietOp o.op = false ∧ allocOp o = false
 | [], k, x, h => by cases h
 | o :: r, k, x, h => by
  have up : x ∈ ownIdx ops s0 (k + 1) r → ∃ o', k ≤ x ∧ (o :: r)[x - k]? = some o' ∧ quietOp o'.op = false ∧ allocOp o' = false := fun h => by
   obtain ⟨o', g1, g2, g3⟩ := ownIdx_spec h
   exact ⟨o', by omega, by rw [show x - k = (x - (k + 1)) + 1 from by omega]; simpa using g2, g3⟩
  simp only [ownIdx] at h
  split at h
  ·rename_i ty a b hop
   have ha : allocOp o = false := by unfold allocOp; rw [hop]
   split at h
   ·exact up h
   ·rcases List.mem_cons.1 h with e | h
    ·subst e; exact ⟨o, Nat.le_refl _, by simp, by rw [hop]; rfl, ha⟩
    ·exact up h
  ·rename_i c hop
   have ha : allocOp o = false := by unfold allocOp; rw [hop]
   split at h
   ·rename_i f hc
    rcases List.mem_cons.1 h with e | h
    ·subst e; exact ⟨o, Nat.le_refl _, by simp, by rw [hop]; simp only [quietOp, hc], ha⟩
    ·exact up h
   ·rename_i hc
    rcases List.mem_cons.1 h with e | h
    ·subst e; exact ⟨o, Nat.le_refl _, by simp, by rw [hop]; simp only [quietOp, hc], ha⟩
    ·exact up h
   ·exact up h
  iterate 5
   ·rename_i hop
    have ha : allocOp o = false := by unfold allocOp; rw [hop]
    rcases List.mem_cons.1 h with e | h
    ·subst e; exact ⟨o, Nat.le_refl _, by simp, by rw [hop]; rfl, ha⟩
    ·exact up h
  ·exact up h
theorem owOk_spec {ol : List Nat} {i : Nat} {b : Bool} (h : owOk ol i b = true) : b = false ∨ i ∈ ol := by
 unfold owOk at h
 split at h
 ·exact .inr (memN_iff.1 h)
 ·exact .inl rfl
theorem view_sees {ops : Array Oper} {ml : List (Nat × Nat)} {ol : List Nat} {s0 s : St} {i : Nat} {w : World} (h : Pend ops (SS s0 ml ol) i w) : SeesO (viewS ops.toList ml ol s0 s i) w := by
 obtain ⟨L, hc, hi, h1, h2, h3⟩ := h
 have hbehind : ∀ x, ahead ops.toList i 20 x = true → L.getD x true = false := fun x hx => by
  cases hLx : L.getD x true with
  | false => rfl
  | true =>
   have := ahead_spec hc hx hLx
   rw [this] at hi
   cases hi
 refine ⟨⟨h1, fun t lb hl => ?_⟩, ?_⟩
 rotate_left
 ·simp only [viewS]
  split
  ·rename_i ho
   exact h3 fun x hx => hbehind x (cleanO_spec ho x hx)
  ·exact fun b o h => nomatch h
 obtain ⟨g1, g2, r, cs, ty, rfl⟩ := lb_view hl
 refine h2 t r cs ty g1 fun x hx => ?_
 cases hLx : L.getD x true with
 | false => rfl
 | true =>
  have := ahead_spec hc (cleanT_spec g2 x hx) hLx
  rw [this] at hi
  cases hi
end Go.Vx
namespace Go.Vx
section
variable {C : Cx} {E : Ent} {ops : Array Oper} {ml : List (Nat × Nat)} {ol : List Nat} {al : List Nat} {s0 : St}
theorem LB.alike_trans {a b c : LB} (h : a.alike b) (k : b.alike c) : a.alike c := by
 cases a <;> cases b <;> simp only [LB.alike] at h <;> cases c <;> simp only [LB.alike] at k ⊢
 ·exact h.trans k
 ·exact ⟨h.1.trans k.1, h.2.1.trans k.2.1, h.2.2.1.trans k.2.2.1, h.2.2.2.trans k.2.2.2⟩
 ·exact h.trans k
def IsRow (lb : LB) : Prop := ∃ b c y e x, lb = .row b c y e x
theorem alike_row {a b : LB} (h : a.alike b) : IsRow a ↔ IsRow b := by
 cases a <;> cases b <;> simp only [LB.alike] at h <;> simp [IsRow]
structure AlOk (C : Cx) (ops : Array Oper) (al : List Nat) : Prop where
 spec : ∀ j, j ∈ al ↔ ∃ o, ops[j]? = some o ∧ allocOp o = true
 tt : ∀ j ∈ al, ∀ o t, ops[j]? = some o → o.op = .alloc t → ∃ ti, look C.tt t = some ti
 dst : ∀ j ∈ al, ∀ o d, ops[j]? = some o → o.dst = some d → d < C.n
 sole : ∀ j ∈ al, ∀ o d, ops[j]? = some o → o.dst = some d → ∀ k ok, ops[k]? = some ok → k ≠ j → ok.dst ≠ some d
structure DInv (C : Cx) (E : Ent) (ops : Array Oper) (ml : List (Nat × Nat)) (ol al : List Nat) (s0 : St) (dirty : List Nat) (D A : Nat → Prop) (ρ : Nat → Nat) (s : St) (L : Array Bool) (a : Act) (w : World) : Prop where
 rel : Rel E a w s
 size : L.size = ops.size
 lst : ∀ i, i < ops.size → (L.getD i true = true ↔ D i ∨ A i)
 closed : Closed ops L
 sub : ∀ j, A j → j ∈ al ∧ ¬ D j
 pend : ∀ j, A j → ∃ o t d ti, ops[j]? = some o ∧ o.op = .alloc t ∧ o.dst = some d ∧ look C.tt t = some ti ∧ a.tmps[d]? = some (.pointer (some ⟨ρ j, 0, none⟩)) ∧
  w.heap[ρ j]? = some (.cells ti.zero.toArray t (0, 0)) ∧ s.mem (ρ j) = none ∧ s.own (ρ j) = none ∧ (∀ u lb, s.lb u = some lb → lb.blk? ≠ some (ρ j)) ∧ E.w0.heap.size ≤ ρ j
 inj : ∀ j k, A j → A k → ρ j = ρ k → j = k
 nodst : ∀ j ∈ al, ¬ D j → ∀ o d, ops[j]? = some o → o.dst = some d → look s.env d = none
 ss : SS s0 ml ol L w
 le : s0.mem.Le s.mem
 v0 : ∀ i sv, look s.env i = some sv → V0 s0 sv
 nx : s0.nxt ≤ s.nxt
 b0 : ∀ t r cs ty, s0.lb t = some (.cells r cs ty) → (∃ cs' ty', s.lb t = some (.cells r cs' ty')) ∨ s.mem r ≠ none
 stay : ∀ t lb, t < s0.nxt → s.lb t = some lb → ∃ lb0, s0.lb t = some lb0 ∧ (lb0.alike lb ∨ (t ∈ dirty ∧ IsRow lb0 ∧ IsRow lb))
 own0 : (∀ x ∈ ol, L.getD x true = false) → s.own = s0.own
variable {dirty : List Nat} {D A : Nat → Prop} {ρ : Nat → Nat} {s : St} {L : Array Bool} {a : Act} {w : World}
theorem DInv.congr {D' A' : Nat → Prop} (h : DInv C E ops ml ol al s0 dirty D A ρ s L a w) (hD : ∀ i, D i ↔ D' i) (hA : ∀ i, A i ↔ A' i) : DInv C E ops ml ol al s0 dirty D' A' ρ s L a w := by
 have e1 : D = D' := funext fun i => propext (hD i)
 have e2 : A = A' := funext fun i => propext (hA i)
 rw [← e1, ← e2]; exact h
theorem DInv.know (h : DInv C E ops ml ol al s0 dirty D A ρ s L a w) {s1 : St} (hR : Rel E a w s1) (hk : Knows s s1) : DInv C E ops ml ol al s0 dirty D A ρ s1 L a w := by
 rcases hk with rfl | ⟨d, b, hd, rfl⟩
 ·exact h
 ·refine { h with rel := hR, nodst := fun j hj hD o d' ho hd' => ?_, v0 := fun i sv hi => ?_ }
  ·simp only [St.put, look_cons]
   have := h.nodst j hj hD o d' ho hd'
   rw [if_neg (fun e => by subst e; rw [hd] at this; cases this)]
   exact this
  ·simp only [St.put, look_cons] at hi
   split at hi
   ·cases hi; trivial
   ·exact h.v0 i sv hi
theorem DInv.envOk (h : DInv C E ops ml ol al s0 dirty D A ρ s L a w) (i : Nat) : EnvOk (viewS ops.toList ml ol s0 s i) a := by
 intro k sv hk
 obtain ⟨h1, h2⟩ := h.rel.env k sv hk
 refine ⟨h1, ?_⟩
 have hv := h.v0 k sv hk
 cases sv with
 | loc t r off =>
  refine ⟨Nat.lt_of_lt_of_le h2.1 (Nat.le_add_left _ _), fun lb hl => ?_⟩
  obtain ⟨g1, _, r', cs, ty, rfl⟩ := lb_view hl
  rw [hv r' cs ty g1]
  exact ⟨cs, ty, rfl⟩
 | row t b n c =>
  refine ⟨Nat.lt_of_lt_of_le h2.1 (Nat.le_add_left _ _), fun lb hl => ?_⟩
  obtain ⟨g1, _, r', cs, ty, rfl⟩ := lb_view hl
  exact absurd g1 (hv r' cs ty)
 | rel t b e j o =>
  refine ⟨Nat.lt_of_lt_of_le h2.1 (Nat.le_add_left _ _), fun lb hl => ?_⟩
  obtain ⟨g1, _, r', cs, ty, rfl⟩ := lb_view hl
  exact absurd g1 (hv r' cs ty)
 | elem ad cs off => exact hv
 | val v => trivial
 | kn b => trivial
theorem view_blkOk (hb0 : BlkOk s0) (i : Nat) : BlkOk (viewS ops.toList ml ol s0 s i) := by
 intro t r cs ty hl sv hsv
 obtain ⟨g1, _, _⟩ := lb_view hl
 have h := hb0 t r cs ty g1 sv hsv
 cases sv with
 | loc u r' off => exact ⟨Nat.lt_of_lt_of_le h.1 (Nat.le_add_right _ _), fun lb hl => h.2 lb (lb_view hl).1⟩
 | row u b n c => exact ⟨Nat.lt_of_lt_of_le h.1 (Nat.le_add_right _ _), fun lb hl => h.2 lb (lb_view hl).1⟩
 | rel u b e j o => exact ⟨Nat.lt_of_lt_of_le h.1 (Nat.le_add_right _ _), fun lb hl => h.2 lb (lb_view hl).1⟩
 | elem ad cs' off => exact h
 | val v => trivial
 | kn b => trivial
theorem DInv.orig (h : DInv C E ops ml ol al s0 dirty D A ρ s L a w) (hb0 : BlkOk s0) {i : Nat} {sv : SV} (ho : Orig (viewS ops.toList ml ol s0 s i) sv) : cleanSV dirty sv = true → svOk s sv ∧ V0 s0 sv := by
 induction ho with
 | val v => exact fun _ => ⟨trivial, trivial⟩
 | kn b => exact fun _ => ⟨trivial, trivial⟩
 | env hk => exact fun _ => ⟨(h.rel.env _ _ hk).2, h.v0 _ _ hk⟩
 | locOff _ ih => exact fun hc => ih hc
 | elemOff _ ih => exact fun hc => ih hc
 | relOff _ ih => exact fun hc => ih hc
 | elem hc => exact fun _ => ⟨fun j v hj => h.le.cell (hc j v hj), hc⟩
 | rel hr hl =>
  intro _
  obtain ⟨_, _, r, cs, ty, e⟩ := lb_view hl
  cases e
 | @cell t r cs ty sv hl hm =>
  intro hc
  obtain ⟨g1, _, _⟩ := lb_view hl
  have hsv := hb0 t r cs ty g1 sv hm
  cases sv with
  | loc u r' off =>
   refine ⟨⟨Nat.lt_of_lt_of_le hsv.1 h.nx, fun lb hlb => ?_⟩, fun r2 cs2 ty2 g => ?_⟩
   ·obtain ⟨lb0, k1, k2⟩ := h.stay u lb hsv.1 hlb
    obtain ⟨cs3, ty3, rfl⟩ := hsv.2 lb0 k1
    rcases k2 with k2 | ⟨_, ⟨_, _, _, _, _, k3⟩, _⟩
    ·cases lb <;> simp only [LB.alike] at k2
     subst k2
     exact ⟨_, _, rfl⟩
    ·cases k3
   ·obtain ⟨_, _, e⟩ := hsv.2 _ g
    cases e; rfl
  | row u b n c =>
   simp only [cleanSV, Bool.not_eq_true', memN_false] at hc
   refine ⟨⟨Nat.lt_of_lt_of_le hsv.1 h.nx, fun lb hlb => ?_⟩, fun r2 cs2 ty2 g => ?_⟩
   ·obtain ⟨lb0, k1, k2⟩ := h.stay u lb hsv.1 hlb
    obtain ⟨ty3, es3, xs3, rfl, hn⟩ := hsv.2 lb0 k1
    rcases k2 with k2 | ⟨k2, _⟩
    ·cases lb <;> simp only [LB.alike] at k2
     obtain ⟨rfl, rfl, rfl, k3⟩ := k2
     exact ⟨_, _, _, rfl, by omega⟩
    ·exact absurd k2 hc
   ·obtain ⟨_, _, _, e, _⟩ := hsv.2 _ g
    cases e
  | rel u b e j o =>
   simp only [cleanSV, Bool.not_eq_true', memN_false] at hc
   refine ⟨⟨Nat.lt_of_lt_of_le hsv.1 h.nx, fun lb hlb => ?_⟩, fun r2 cs2 ty2 g => ?_⟩
   ·obtain ⟨lb0, k1, k2⟩ := h.stay u lb hsv.1 hlb
    obtain ⟨cap3, ty3, xs3, rfl, hn⟩ := hsv.2 lb0 k1
    rcases k2 with k2 | ⟨k2, _⟩
    ·cases lb <;> simp only [LB.alike] at k2
     obtain ⟨rfl, rfl, rfl, k3⟩ := k2
     exact ⟨_, _, _, rfl, by omega⟩
    ·exact absurd k2 hc
   ·obtain ⟨_, _, _, e, _⟩ := hsv.2 _ g
    cases e
  | elem ad cs' off => exact ⟨fun j v hj => h.le.cell (hsv j v hj), hsv⟩
  | val v => exact ⟨trivial, trivial⟩
  | kn b => exact ⟨trivial, trivial⟩
theorem getD_set_self {L : Array Bool} {i : Nat} (h : i < L.size) : (L.setIfInBounds i true).getD i true = true := by
 simp [h]
theorem lst_set {L : Array Bool} {n i : Nat} {D A : Nat → Prop} (hs : L.size = n) (hi : i < n) (h : ∀ k, k < n → (L.getD k true = true ↔ D k ∨ A k)) : ∀ k, k < n → ((L.setIfInBounds i true).getD k true = true ↔ k = i ∨ D k ∨ A k) := by
 intro k hk
 by_cases e : k = i
 ·subst e; simp only [true_or, iff_true]; exact getD_set_self (by omega)
 ·rw [getD_set_ne true (fun h => e h.symm), h k hk]
  simp [e]
theorem DInv.done (h : DInv C E ops ml ol al s0 dirty D A ρ s L a w) (hal : AlOk C ops al) {i : Nat} {o : Oper} (hi : ops[i]? = some o) (hna : i ∉ al) (hready : i ∈ Region.ready .any ops L)
  {s' : St} {v : Value} {w' : World} {dirty' : List Nat} (hR : Rel E (a.put o.dst v) w' s')
  (hlbs : ∀ r, r < w.heap.size → s.mem r = none → s.own r = none → (∀ t lb, s.lb t = some lb → lb.blk? ≠ some r) → s'.mem r = none ∧ s'.own r = none ∧ ∀ t lb, s'.lb t = some lb → lb.blk? ≠ some r)
  (hheap : ∀ b, b < w.heap.size → s.own b = none → (∀ t lb, s.lb t = some lb → lb.blk? ≠ some b) → w'.heap[b]? = w.heap[b]?) (hown : i ∉ ol → s'.own = s.own)
  (henv : ∀ d, o.dst ≠ some d → look s.env d = none → look s'.env d = none) (hss : SS s0 ml ol (L.setIfInBounds i true) w') (hle : s.mem.Le s'.mem)
  (hv0 : ∀ i sv, look s'.env i = some sv → V0 s0 sv) (hnx : s.nxt ≤ s'.nxt)
  (hb : ∀ t r cs ty, s.lb t = some (.cells r cs ty) → (∃ cs' ty', s'.lb t = some (.cells r cs' ty')) ∨ s'.mem r ≠ none)
  (hstay : ∀ t lb, t < s0.nxt → s'.lb t = some lb → ∃ lb0, s0.lb t = some lb0 ∧ (lb0.alike lb ∨ (t ∈ dirty' ∧ IsRow lb0 ∧ IsRow lb))) :
  DInv C E ops ml ol al s0 dirty' (fun k => k = i ∨ D k) A ρ s' (L.setIfInBounds i true) (a.put o.dst v) w' := by
 have hlt : i < ops.size := (Array.getElem?_eq_some_iff.1 hi).1
 refine ⟨hR, by simp [h.size], fun k hk => ?_, h.closed.set hready, fun j hj => ⟨(h.sub j hj).1, fun e => ?_⟩, fun j hj => ?_, h.inj, fun j hj hD oj d hoj hd => ?_, hss, h.le.trans hle, hv0, Nat.le_trans h.nx hnx, fun t r cs ty g => ?_, hstay, fun hx => ?_⟩
 ·rw [lst_set h.size hlt h.lst k hk]
  exact or_assoc.symm
 ·rcases e with rfl | e
  ·exact hna (h.sub j hj).1
  ·exact (h.sub j hj).2 e
 ·obtain ⟨oj, t, d, ti, g1, g2, g3, g4, g5, g6, g7, g8, g9, g10⟩ := h.pend j hj
  have hjal := (h.sub j hj).1
  have hne : o.dst ≠ some d := hal.sole j hjal oj d g1 g3 i o hi (fun e => hna (e ▸ hjal))
  have hr : ρ j < w.heap.size := (Array.getElem?_eq_some_iff.1 g6).1
  obtain ⟨k1, k0, k2⟩ := hlbs _ hr g7 g8 g9
  refine ⟨oj, t, d, ti, g1, g2, g3, g4, ?_, ?_, k1, k0, k2, g10⟩
  ·cases hd : o.dst with
   | none => exact g5
   | some d' =>
    simp only [Act.put, Array.getElem?_setIfInBounds]
    rw [if_neg (fun e => hne (by rw [hd, e]))]
    exact g5
  ·rw [hheap _ hr g8 g9]; exact g6
 ·have hjD : ¬ D j := fun e => hD (.inr e)
  exact henv d (hal.sole j hj oj d hoj hd i o hi (fun e => hD (.inl e.symm))) (h.nodst j hj hjD oj d hoj hd)
 ·rcases h.b0 t r cs ty g with ⟨cs', ty', g⟩ | g
  ·exact hb _ _ _ _ g
  ·refine .inr ?_
   cases hm : s.mem r with
   | none => exact absurd hm g
   | some o => rw [hle _ _ hm]; simp
 ·have hi' : i ∉ ol := fun e => by
   have := hx i e
   rw [getD_set_self (by rw [h.size]; exact hlt)] at this
   cases this
  rw [hown hi']
  exact h.own0 fun x hxo => by
   have := hx x hxo
   have hne : i ≠ x := fun e => hi' (by rw [e]; exact hxo)
   rwa [getD_set_ne true hne] at this
end
end Go.Vx
namespace Go.Vx
section
variable {C : Cx} {E : Ent} {ops : Array Oper} {ml : List (Nat × Nat)} {ol : List Nat} {al : List Nat} {s0 : St}
variable {dirty : List Nat} {D A : Nat → Prop} {ρ : Nat → Nat} {s : St} {L : Array Bool} {a : Act} {w : World}
theorem Rel.allocW (hR : Rel E a w s) (o : Obj) : Rel E a (w.alloc o) s := by
 have hk : ∀ b, b < w.heap.size → (w.alloc o).heap[b]? = w.heap[b]? := fun b hb => Go.RowKit.Below.heap_alloc w o b hb
 refine ⟨hR.defers, hR.size, hR.env, hR.cells, ⟨fun b x hb => by rw [hk b (hR.sees.1.lt (by simp [hb]))]; exact hR.sees.1 b x hb, fun t lb h => LB.fits_congr (fun r hr => hk r (LB.fits_lt (hR.sees.2 t lb h) hr)) (hR.sees.2 t lb h)⟩, hR.nxt, hR.place, hR.sep, ⟨fun b x hb => by rw [hk b (hR.own.1.lt (by simp [hb]))]; exact hR.own.1 b x hb, hR.own.2⟩, hR.mono, hR.fresh, by have := hR.grow; simp; omega, fun b hb h0 => by rw [hk b (Nat.lt_of_lt_of_le hb hR.grow)]; exact hR.keep b hb h0, hR.os, hR.tape, hR.output⟩
theorem Rel.putFree (hR : Rel E a w s) {d : Nat} (hd : look s.env d = none) (v : Value) : Rel E (a.put (some d) v) w s := by
 refine { hR with size := by simp [Act.put, hR.size], env := fun i sv h => ⟨?_, (hR.env i sv h).2⟩ }
 simp only [Act.put, Array.getElem?_setIfInBounds]
 rw [if_neg (fun e => by subst e; rw [hd] at h; cases h)]
 exact (hR.env i sv h).1
theorem Rel.adopt (hR : Rel E a w s) {d r : Nat} {t : TypeId} {z : List SV} (hd : a.tmps[d]? = some (.pointer (some ⟨r, 0, none⟩))) (hz : ∀ sv ∈ z, svOk s sv) (hh : w.heap[r]? = some (.cells (z.map SV.conc).toArray t (0, 0)))
  (h1 : s.mem r = none) (h2 : s.own r = none) (h3 : ∀ u lb, s.lb u = some lb → lb.blk? ≠ some r) (h4 : E.w0.heap.size ≤ r) : Rel E a w ((s.newB (.cells r z t)).put (some d) (.loc s.nxt r 0)) := by
 have hlb : ∀ u, St.lb ((s.newB (.cells r z t)).put (some d) (.loc s.nxt r 0)) u = if u = s.nxt then some (.cells r z t) else s.lb u := fun u => lb_newB s _ u
 have hok : ∀ sv, svOk s sv → svOk ((s.newB (.cells r z t)).put (some d) (.loc s.nxt r 0)) sv := fun sv h => svOk_ext (s := s) (Nat.le_succ _) (Mem.Le.refl _) (fun u lb' hu hl => by
  rw [hlb, if_neg (by omega)] at hl
  exact ⟨lb', hl, lb'.alike_refl⟩) h
 refine ⟨hR.defers, hR.size, fun i sv h => ?_, fun u r' cs ty h sv hsv => ?_, ⟨hR.sees.1, fun u lb h => ?_⟩, fun u lb h => ?_, fun u lb r' h hr => ?_, fun u u' lb lb' r' h h' hr hr' => ?_, hR.own, hR.mono, hR.fresh, hR.grow, hR.keep, hR.os, hR.tape, hR.output⟩
 ·simp only [St.put, look_cons] at h
  split at h
  ·rename_i e
   cases h
   subst e
   refine ⟨hd, Nat.lt_succ_self _, fun lb hl => ?_⟩
   rw [hlb, if_pos rfl] at hl
   cases hl
   exact ⟨_, _, rfl⟩
  ·obtain ⟨g1, g2⟩ := hR.env i sv h
   exact ⟨g1, hok _ g2⟩
 ·rw [hlb] at h
  split at h
  ·cases h; exact hok _ (hz sv hsv)
  ·exact hok _ (hR.cells u r' cs ty h sv hsv)
 ·rw [hlb] at h
  split at h
  ·cases h; exact hh
  ·exact hR.sees.2 u lb h
 ·rw [hlb] at h
  split at h
  ·rename_i e; subst e; exact Nat.lt_succ_self _
  ·exact Nat.lt_succ_of_lt (hR.nxt u lb h)
 ·rw [hlb] at h
  split at h
  ·cases h
   simp only [LB.blk?, Option.some.injEq] at hr
   subst hr
   exact ⟨h1, h2, .inl h4⟩
  ·exact hR.place u lb r' h hr
 ·rw [hlb] at h h'
  split at h
  ·rename_i e
   cases h
   simp only [LB.blk?, Option.some.injEq] at hr
   subst hr
   split at h'
   ·rename_i e'; rw [e, e']
   ·exact absurd hr' (h3 u' lb' h')
  ·split at h'
   ·cases h'
    simp only [LB.blk?, Option.some.injEq] at hr'
    subst hr'
    exact absurd hr (h3 u lb h)
   ·exact hR.sep u u' lb lb' r' h h' hr hr'
theorem DInv.born (h : DInv C E ops ml ol al s0 dirty D A ρ s L a w) (hal : AlOk C ops al) {j : Nat} {o : Oper} {t d : Nat} {ti : TI} (hj : j ∈ al) (hjD : ¬ D j) (hjA : ¬ A j) (ho : ops[j]? = some o) (hop : o.op = .alloc t) (hd : o.dst = some d) (hdn : d < E.n) (hti : look C.tt t = some ti)
  (hnml : ∀ t, (j, t) ∉ ml) (hnol : j ∉ ol) (hready : j ∈ Region.ready .any ops L) :
  DInv C E ops ml ol al s0 dirty D (fun k => k = j ∨ A k) (fun k => if k = j then w.heap.size else ρ k) s (L.setIfInBounds j true) (a.put o.dst (.pointer (some ⟨w.heap.size, 0, none⟩))) (w.alloc (.cells ti.zero.toArray t)) := by
 have hlt : j < ops.size := (Array.getElem?_eq_some_iff.1 ho).1
 have hkp : ∀ b, b < w.heap.size → (w.alloc (.cells ti.zero.toArray t)).heap[b]? = w.heap[b]? := fun b hb => Go.RowKit.Below.heap_alloc w _ b hb
 have hnd := h.nodst j hj hjD o d ho hd
 refine ⟨?_, by simp [h.size], fun k hk => ?_, h.closed.set hready, fun k hk => ?_, fun k hk => ?_, fun x y hx hy e => ?_, h.nodst, ?_, h.le, h.v0, h.nx, h.b0, h.stay, fun hx => h.own0 fun x hxo => by have := hx x hxo; have hne : j ≠ x := (fun e => hnol (by rw [e]; exact hxo)); rwa [getD_set_ne true hne] at this⟩
 ·rw [hd]
  exact (h.rel.allocW _).putFree hnd _
 ·rw [lst_set h.size hlt h.lst k hk]
  constructor
  ·rintro (e | e | e)
   ·exact .inr (.inl e)
   ·exact .inl e
   ·exact .inr (.inr e)
  ·rintro (e | e | e)
   ·exact .inr (.inl e)
   ·exact .inl e
   ·exact .inr (.inr e)
 ·rcases hk with rfl | hk
  ·exact ⟨hj, hjD⟩
  ·exact h.sub k hk
 ·by_cases e : k = j
  ·subst e
   refine ⟨o, t, d, ti, ho, hop, hd, hti, ?_, ?_, ?_, ?_, ?_, ?_⟩
   ·simp only [if_true, hd, Act.put, Array.getElem?_setIfInBounds]
    rw [if_pos (by rw [h.rel.size]; exact hdn)]
   ·simp only [if_true]; exact alloc_heap_new w _
   ·simp only [if_true]; exact (h.rel.mem_none (Nat.le_refl _)).1
   ·simp only [if_true]; exact (h.rel.mem_none (Nat.le_refl _)).2
   ·simp only [if_true]
    intro u lb hl hr
    have := LB.fits_lt (h.rel.sees.2 u lb hl) hr
    omega
   ·simp only [if_true]; exact h.rel.grow
  ·have hA : A k := hk.resolve_left e
   obtain ⟨ok, t', d', ti', g1, g2, g3, g4, g5, g6, g7, g8, g9, g10⟩ := h.pend k hA
   simp only [if_neg e]
   have hr : ρ k < w.heap.size := (Array.getElem?_eq_some_iff.1 g6).1
   refine ⟨ok, t', d', ti', g1, g2, g3, g4, ?_, by rw [hkp (ρ k) hr]; exact g6, g7, g8, g9, g10⟩
   have hne : o.dst ≠ some d' := hal.sole k (h.sub k hA).1 ok d' g1 g3 j o ho (fun x => e x.symm)
   simp only [hd, Act.put, Array.getElem?_setIfInBounds]
   rw [if_neg (fun x => hne (by rw [hd, x]))]
   exact g5
 ·have hb : ∀ k, A k → ρ k ≠ w.heap.size := fun k hk => by
   obtain ⟨_, _, _, _, _, _, _, _, _, g6, _⟩ := h.pend k hk
   have := (Array.getElem?_eq_some_iff.1 g6).1
   omega
  split at e <;> split at e <;> rename_i e1 e2
  ·rw [e1, e2]
  ·exact absurd e.symm (hb y (hy.resolve_left e2))
  ·exact absurd e (hb x (hx.resolve_left e1))
  ·exact h.inj x y (hx.resolve_left e1) (hy.resolve_left e2) e
 ·rw [SS_quiet hnml hnol]
  refine ⟨fun b x hb => by rw [hkp b (h.ss.1.lt (by simp [hb]))]; exact h.ss.1 b x hb, fun t r cs ty g1 g2 => ?_, fun hx b o hb => ?_⟩
  ·have := h.ss.2.1 t r cs ty g1 g2
   exact LB.fits_congr (fun r' hr' => hkp r' (LB.fits_lt this hr')) this
  ·have := h.ss.2.2 hx
   rw [hkp b (this.lt (by simp [hb]))]
   exact this b o hb
theorem DInv.adopt (h : DInv C E ops ml ol al s0 dirty D A ρ s L a w) (hal : AlOk C ops al) (hs0 : ∀ t lb, s0.lb t = some lb → t < s0.nxt) (hos0 : C.os = []) {j : Nat} {o : Oper} (hA : A j) (ho : ops[j]? = some o) {K : St → Prop} (hv : vcOp C o s K) :
  ∃ s', K s' ∧ DInv C E ops ml ol al s0 dirty (fun k => k = j ∨ D k) (fun k => k ≠ j ∧ A k) ρ s' L a w := by
 obtain ⟨oj, t, d, ti, g1, g2, g3, g4, g5, g6, g7, g8, g9, g10⟩ := h.pend j hA
 rw [ho] at g1
 cases g1
 obtain ⟨_, hv⟩ := dstK_spec hv
 simp only [g2] at hv
 obtain ⟨ti', k1, k2⟩ := tyK_spec hv
 rw [g4] at k1
 cases k1
 have hmo : memO o.dst C.os = false := by rw [hos0, g3]; rfl
 simp only [hmo] at k2
 rw [valsK_eq] at k2
 have k3 := k2 (ρ j)
 rw [newBK_eq, putK_eq, g3] at k3
 have hlb : ∀ u, St.lb ((s.newB (.cells (ρ j) (vals ti.zero) t)).put (some d) (.loc s.nxt (ρ j) 0)) u = if u = s.nxt then some (.cells (ρ j) (vals ti.zero) t) else s.lb u := fun u => lb_newB s _ u
 refine ⟨_, k3, h.rel.adopt g5 (fun sv hsv => vals_ok s _ sv hsv) (by rw [vals_conc]; exact g6) g7 g8 g9 g10, h.size, fun k hk => ?_, h.closed, fun k hk => ?_, fun k hk => ?_, fun x y hx hy => h.inj x y hx.2 hy.2, fun k hk hD ok d' hok hd' => ?_, h.ss, h.le, fun i sv hi => ?_, Nat.le_succ_of_le h.nx, fun u r cs ty g => ?_, fun u lb hu hl => ?_, h.own0⟩
 ·rw [h.lst k hk]
  by_cases e : k = j
  ·subst e; simp [hA]
  ·simp [e]
 ·refine ⟨(h.sub k hk.2).1, ?_⟩
  rintro (e | e)
  ·exact hk.1 e
  ·exact (h.sub k hk.2).2 e
 ·obtain ⟨ok, t', d', ti', m1, m2, m3, m4, m5, m6, m7, m8, m9, m10⟩ := h.pend k hk.2
  refine ⟨ok, t', d', ti', m1, m2, m3, m4, m5, m6, m7, m8, fun u lb hl hr => ?_, m10⟩
  rw [hlb] at hl
  split at hl
  ·cases hl
   simp only [LB.blk?, Option.some.injEq] at hr
   exact hk.1 (h.inj j k hA hk.2 hr).symm
  ·exact m9 u lb hl hr
 ·have hne : k ≠ j := fun e => hD (.inl e)
  have hD' : ¬ D k := fun e => hD (.inr e)
  have hdd : d' ≠ d := fun e => by
   have := hal.sole k hk ok d' hok hd' j o ho (fun e => hne e.symm)
   rw [g3, e] at this
   exact this rfl
  simp only [St.put, look_cons]
  rw [if_neg hdd]
  exact h.nodst k hk hD' ok d' hok hd'
 ·simp only [St.put, look_cons] at hi
  split at hi
  ·cases hi
   intro r' cs ty g
   have := hs0 _ _ g
   have := h.nx
   omega
  ·exact h.v0 i sv hi
 ·rcases h.b0 u r cs ty g with ⟨cs', ty', k⟩ | k
  ·refine .inl ⟨cs', ty', ?_⟩
   rw [hlb, if_neg (by have := h.rel.nxt _ _ k; omega)]
   exact k
  ·exact .inr k
 ·rw [hlb, if_neg (by have := h.nx; omega)] at hl
  exact h.stay u lb hu hl
theorem DInv.adoptAll (hal : AlOk C ops al) (hs0 : ∀ t lb, s0.lb t = some lb → t < s0.nxt) (hos0 : C.os = []) : ∀ (js : List Nat) {D A : Nat → Prop} {s : St} {K : St → Prop}, DInv C E ops ml ol al s0 dirty D A ρ s L a w → (∀ j ∈ js, A j) → js.Nodup → bornK C ops.toList js s K →
  ∃ s', K s' ∧ DInv C E ops ml ol al s0 dirty (fun k => k ∈ js ∨ D k) (fun k => k ∉ js ∧ A k) ρ s' L a w
 | [], D, A, s, K, h, _, _, hv => ⟨s, hv, h.congr (fun i => by simp) (fun i => by simp)⟩
 | j :: js, D, A, s, K, h, hA, hn, hv => by
  simp only [bornK] at hv
  split at hv
  ·rename_i o ho
   obtain ⟨hn1, hn2⟩ := List.nodup_cons.1 hn
   obtain ⟨s1, k1, h1⟩ := h.adopt hal hs0 hos0 (hA j (by simp)) (by simpa using ho) hv
   obtain ⟨s2, k2, h2⟩ := DInv.adoptAll hal hs0 hos0 js h1 (fun k hk => ⟨fun e => hn1 (e ▸ hk), hA k (by simp [hk])⟩) hn2 k1
   refine ⟨s2, k2, h2.congr (fun i => ?_) (fun i => ?_)⟩
   ·simp only [List.mem_cons]
    constructor
    ·rintro (e | e | e)
     ·exact .inl (.inr e)
     ·exact .inl (.inl e)
     ·exact .inr e
    ·rintro ((e | e) | e)
     ·exact .inr (.inl e)
     ·exact .inl e
     ·exact .inr (.inr e)
   ·simp only [List.mem_cons, not_or]
    constructor
    ·rintro ⟨e1, e2, e3⟩; exact ⟨⟨e2, e1⟩, e3⟩
    ·rintro ⟨⟨e1, e2⟩, e3⟩; exact ⟨e2, e1, e3⟩
  ·exact hv.elim
end
end Go.Vx
namespace Go.Vx
section
variable {C : Cx} {E : Ent} {ops : Array Oper} {ml : List (Nat × Nat)} {ol : List Nat} {al : List Nat} {s0 : St}
def rem (n : Nat) (L : Array Bool) : Nat := ((List.range n).filter fun i => L.getD i true == false).length
theorem rem_set {n i : Nat} {L : Array Bool} (hs : L.size = n) (hi : i < n) (hL : L.getD i true = false) : rem n (L.setIfInBounds i true) + 1 = rem n L := by
 unfold rem
 have e : ((List.range n).filter fun k => L.getD k true == false) = ((List.range n).filter fun k => k == i || ((L.setIfInBounds i true).getD k true == false)) := by
  apply List.filter_congr
  intro k hk
  by_cases hki : k = i
  ·subst hki; simp [hL]
  ·rw [getD_set_ne true (fun e => hki e.symm)]
   simp [hki]
 rw [e]
 have key : ∀ l : List Nat, l.Nodup → i ∈ l → (l.filter fun k => k == i || ((L.setIfInBounds i true).getD k true == false)).length = (l.filter fun k => (L.setIfInBounds i true).getD k true == false).length + 1 := by
  have hii : (L.setIfInBounds i true).getD i true = true := getD_set_self (by omega)
  intro l
  induction l with
  | nil => intro _ h; cases h
  | cons x l ih =>
   intro hn hm
   obtain ⟨h1, h2⟩ := List.nodup_cons.1 hn
   by_cases hx : x = i
   ·subst hx
    rw [List.filter_cons_of_pos (by simp), List.filter_cons_of_neg (by simp [hii])]
    simp only [List.length_cons]
    congr 2
    apply List.filter_congr
    intro k hk
    have : k ≠ x := fun e => h1 (e ▸ hk)
    simp [this]
   ·have hm' : i ∈ l := by
     rcases List.mem_cons.1 hm with e | h
     ·exact absurd e.symm hx
     ·exact h
    have ih := ih h2 hm'
    by_cases hg : (L.setIfInBounds i true).getD x true = false
    ·rw [List.filter_cons_of_pos (by simp [hg]), List.filter_cons_of_pos (by simp [hg])]
     simp only [List.length_cons, ih]
    ·rw [List.filter_cons_of_neg (by simp [hx]; simpa using hg), List.filter_cons_of_neg (by simpa using hg)]
     exact ih
 exact (key _ List.nodup_range (by simpa using hi)).symm
theorem rem_zero {n : Nat} {L : Array Bool} (h : rem n L = 0) (i : Nat) (hi : i < n) : L.getD i true = true := by
 unfold rem at h
 have := List.eq_nil_of_length_eq_zero h
 rw [List.filter_eq_nil_iff] at this
 have := this i (by simpa using hi)
 simpa using this
theorem needOf_spec {done : List Nat} {es : List Edge} : ∀ {l : List Nat} {j : Nat}, j ∈ needOf done es l ↔ j ∈ l ∧ j ∉ done ∧ onEdge j es = true
 | [], j => by simp [needOf]
 | x :: r, j => by
  have ih := needOf_spec (done := done) (es := es) (l := r) (j := j)
  simp only [needOf]
  split
  ·rename_i h1 h2
   rw [memN_false] at h1
   rw [List.mem_cons, ih, List.mem_cons]
   constructor
   ·rintro (rfl | ⟨a, b⟩)
    ·exact ⟨.inl rfl, h1, h2⟩
    ·exact ⟨.inr a, b⟩
   ·rintro ⟨rfl | a, b⟩
    ·exact .inl rfl
    ·exact .inr ⟨a, b⟩
  ·rename_i h
   rw [ih, List.mem_cons]
   constructor
   ·rintro ⟨a, b⟩; exact ⟨.inr a, b⟩
   ·rintro ⟨rfl | a, b1, b2⟩
    ·exact (h (memN_false.2 b1) b2).elim
    ·exact ⟨a, b1, b2⟩
theorem needOf_nodup {done : List Nat} {es : List Edge} : ∀ {l : List Nat}, l.Nodup → (needOf done es l).Nodup
 | [], _ => by simp [needOf]
 | x :: r, h => by
  obtain ⟨h1, h2⟩ := List.nodup_cons.1 h
  simp only [needOf]
  split
  ·exact List.nodup_cons.2 ⟨fun e => h1 (needOf_spec.1 e).1, needOf_nodup h2⟩
  ·exact needOf_nodup h2
theorem undone_spec {done : List Nat} : ∀ {l : List Nat} {j : Nat}, j ∈ undone done l ↔ j ∈ l ∧ j ∉ done
 | [], j => by simp [undone]
 | x :: r, j => by
  have ih := undone_spec (done := done) (l := r) (j := j)
  simp only [undone]
  split
  ·rename_i h
   rw [memN_iff] at h
   rw [ih, List.mem_cons]
   constructor
   ·rintro ⟨a, b⟩; exact ⟨.inr a, b⟩
   ·rintro ⟨rfl | a, b⟩
    ·exact absurd h b
    ·exact ⟨a, b⟩
  ·rename_i h
   rw [memN_false] at h
   rw [List.mem_cons, ih, List.mem_cons]
   constructor
   ·rintro (rfl | ⟨a, b⟩)
    ·exact ⟨.inl rfl, h⟩
    ·exact ⟨.inr a, b⟩
   ·rintro ⟨rfl | a, b⟩
    ·exact .inl rfl
    ·exact .inr ⟨a, b⟩
theorem undone_nodup {done : List Nat} : ∀ {l : List Nat}, l.Nodup → (undone done l).Nodup
 | [], _ => by simp [undone]
 | x :: r, h => by
  obtain ⟨h1, h2⟩ := List.nodup_cons.1 h
  simp only [undone]
  split
  ·exact undone_nodup h2
  ·exact List.nodup_cons.2 ⟨fun e => h1 (undone_spec.1 e).1, undone_nodup h2⟩
theorem allocIdx_nodup : ∀ {l : List Oper} {k : Nat}, (allocIdx k l).Nodup
 | [], _ => by simp [allocIdx]
 | o :: r, k => by
  simp only [allocIdx]
  split
  ·refine List.nodup_cons.2 ⟨fun e => ?_, allocIdx_nodup⟩
   obtain ⟨_, h, _⟩ := allocIdx_spec.1 e
   omega
  ·exact allocIdx_nodup
theorem modsOk_spec {s0 : St} {ml : List (Nat × Nat)} {i : Nat} : ∀ {l : List Nat}, modsOk s0 ml i l = true → ∀ t ∈ l, ∀ r cs ty, s0.lb t = some (.cells r cs ty) → (i, t) ∈ ml
 | [], _, t, h => by cases h
 | u :: l, h, t, ht => by
  intro r cs ty hl
  rcases List.mem_cons.1 ht with rfl | ht
  ·simp only [modsOk, hl] at h
   split at h
   ·rename_i hm; exact memP_spec hm
   ·cases h
  ·refine modsOk_spec (l := l) ?_ t ht r cs ty hl
   simp only [modsOk] at h
   split at h
   ·split at h
    ·exact h
    ·cases h
   ·exact h
theorem noElem_spec {s0 s : St} {d : Nat} {sv : SV} (h : noElem s0 (s.put (some d) sv) (some d) = true) : V0 s0 sv := by
 simp only [noElem, St.put, look_cons, if_true] at h
 cases sv with
 | val v => trivial
 | kn b => trivial
 | elem a cs o => cases h
 | loc t r off =>
  intro r' cs ty hl
  simp only [hl] at h
  cases h
 | row t b n c =>
  intro r cs ty hl
  simp only [hl] at h
  cases h
 | rel t b e j o =>
  intro r cs ty hl
  simp only [hl] at h
  cases h
variable {dirty : List Nat} {A : Nat → Prop} {ρ : Nat → Nat} {s : St} {L : Array Bool} {a : Act} {w : World}
theorem vcD_succ {n : Nat} {dirty done : List Nat} {s : St} {K : St → Prop} {ops : List Oper} : vcD C ops ml ol al s0 (n + 1) dirty done s K = (match firstQ (lateB ops ol) done 0 ops with
  | some i => (match ops[i]? with
   | some o => okK (freeQ ops.toArray done i o 0 ops) <| dstK C.n o.dst <| guardK ops o s
     (fun s => vcVal C (viewS ops ml ol s0 s i) o.op fun sv => okK (cleanSV dirty sv) <| putK s o.dst sv fun s => vcD C ops ml ol al s0 n dirty (i :: done) s K)
     (fun s => putK s o.dst (.val undef) fun s => vcD C ops ml ol al s0 n dirty (i :: done) s K)
   | none => False)
  | none => (match candsOf done al 0 ops with
   | [] => bornK C ops (undone done al) s K
   | c :: cs => eachK (c :: cs) fun i => (match ops[i]? with
    | some o => dstK C.n o.dst <| bornK C ops (needOf done o.after.toList al) s fun s => guardK ops o s
      (fun s => okK (modsOk s0 ml i (modsOf s o.op)) <| okK (owOk ol i (owOf s o.op)) <| vcOp C o s fun s' => okK (noElem s0 s' o.dst) <| vcD C ops ml ol al s0 n (modsOf s o.op ++ dirty) (i :: (needOf done o.after.toList al ++ done)) s' K)
      (fun s => putK s o.dst (.val undef) fun s => vcD C ops ml ol al s0 n dirty (i :: (needOf done o.after.toList al ++ done)) s K)
    | none => False))) := rfl
theorem vcD_sound (htt : TTok C.P C.tt) (hn : C.n = E.n) (hos : C.dr = true → C.os = []) (hdr : C.dr = true) (hol : ∀ x ∈ ol, ∃ o, ops[x]? = some o ∧ quietOp o.op = false ∧ allocOp o = false) (hsel : ∀ (j : Nat) (o : Oper) cs b, ops[j]? = some o → o.op ≠ .select cs b) {sm : St} (hml : modIdx ops.toList sm 0 ops.toList = some ml) (hal : AlOk C ops al) (haln : al.Nodup)
  (hs0 : ∀ t lb, s0.lb t = some lb → t < s0.nxt) (hb0 : BlkOk s0) {Q : Exit → Act → World → Prop} (hQ : ∀ c a a' w, Q (.panic c) a w → Q (.panic c) a' w) {K : St → Prop} (hK : ∀ a' w' s', K s' → Rel E a' w' s' → Q .normal a' w') :
  ∀ (m n : Nat) (dirty done : List Nat) (A : Nat → Prop) (ρ : Nat → Nat) (s : St) (L : Array Bool) (a : Act) (w : World), (∀ j ∈ done, j < ops.size) → rem ops.size L = m → DInv C E ops ml ol al s0 dirty (· ∈ done) A ρ s L a w → vcD C ops.toList ml ol al s0 n dirty done s K →
   anyG C.P ops Q (SS s0 ml ol) m L a w := by
 have hstore : ∀ x t, (x, t) ∈ ml → ∃ o ty p q, ops[x]? = some o ∧ o.op = .store ty p q := fun x t h => by
  obtain ⟨o, ty, p, q, _, h2, h3⟩ := modIdx_spec hml x t h
  exact ⟨o, ty, p, q, by simpa using h2, h3⟩
 have halml : ∀ j ∈ al, ∀ t, (j, t) ∉ ml := fun j hj t h => by
  obtain ⟨o, ty, p, q, h1, h2⟩ := hstore j t h
  obtain ⟨o', g1, g2⟩ := (hal.spec j).1 hj
  rw [h1] at g1
  cases g1
  obtain ⟨_, _, g3, _⟩ := allocOp_spec g2
  rw [h2] at g3
  cases g3
 intro m
 induction m with
 | zero =>
  intro n dirty done A ρ s L a w hdn hrem hI hv
  have hall := rem_zero hrem
  refine ⟨?_, ?_⟩
  ·rw [List.eq_nil_iff_forall_not_mem]
   intro j hj
   obtain ⟨h0, o, ho, _⟩ := mem_ready.1 hj
   rw [hall j (Array.getElem?_eq_some_iff.1 ho).1] at h0
   cases h0
  ·match n with
   | 0 => exact hv.elim
   | n + 1 =>
    have hda : ∀ j, j < ops.size → j ∉ al → j ∈ done := fun j hj h => by
     rcases (hI.lst j hj).1 (hall j hj) with h | h
     ·exact h
     ·exact absurd (hI.sub j h).1 (by assumption)
    rw [vcD_succ] at hv
    split at hv
    ·rename_i i hq
     obtain ⟨o, _, h2, h3, h4, _⟩ := firstQ_spec hq
     have h2 : ops[i]? = some o := by simpa using h2
     exfalso
     refine h4 (hda i (Array.getElem?_eq_some_iff.1 h2).1 fun e => ?_)
     obtain ⟨o', g1, g2⟩ := (hal.spec i).1 e
     rw [h2] at g1
     cases g1
     obtain ⟨_, _, g3, _⟩ := allocOp_spec g2
     rw [g3] at h3
     cases h3
    ·have hc : candsOf done al 0 ops.toList = [] := by
      rw [List.eq_nil_iff_forall_not_mem]
      intro j hj
      obtain ⟨o, _, h2, h3, h4, _⟩ := candsOf_spec.1 hj
      exact h3 (hda j (Array.getElem?_eq_some_iff.1 (show ops[j]? = some o by simpa using h2)).1 h4)
     rw [hc] at hv
     simp only at hv
     obtain ⟨s', k1, h1⟩ := hI.adoptAll hal hs0 (hos hdr) (undone done al) (fun j hj => by
      obtain ⟨g1, g2⟩ := undone_spec.1 hj
      obtain ⟨o', g3, _⟩ := (hal.spec j).1 g1
      have hj : j < ops.size := (Array.getElem?_eq_some_iff.1 g3).1
      exact ((hI.lst j hj).1 (hall j hj)).resolve_left g2) (undone_nodup haln) hv
     exact hK _ _ _ k1 h1.rel
 | succ m ih =>
  intro n dirty done A ρ s L a w hdn hrem hI hv
  match n with
  | 0 => exact hv.elim
  | n + 1 =>
   have hv0 := hv
   rw [vcD_succ] at hv
   split at hv
   ·-- an operation that only reads is taken first
    rename_i i hq
    obtain ⟨o, _, h2, h3, h4, h5⟩ := firstQ_spec hq
    have h2 : ops[i]? = some o := by simpa using h2
    have hio : ops.toList[i]? = some o := by simpa using h2
    simp only [hio] at hv
    obtain ⟨hfree, hv⟩ := okK_spec hv
    obtain ⟨hd, hv⟩ := dstK_spec hv
    rw [hn] at hd
    have hlt : i < ops.size := (Array.getElem?_eq_some_iff.1 h2).1
    have hna : i ∉ al := fun e => by
     obtain ⟨o', g1, g2⟩ := (hal.spec i).1 e
     rw [h2] at g1
     cases g1
     obtain ⟨_, _, g3, _⟩ := allocOp_spec g2
     rw [g3] at h3
     cases h3
    have hun : L.getD i true = false := by
     cases hL : L.getD i true with
     | false => rfl
     | true =>
      rcases (hI.lst i hlt).1 hL with h | h
      ·exact absurd h h4
      ·exact absurd (hI.sub i h).1 hna
    have hready : i ∈ Region.ready .any ops L := mem_ready.2 ⟨hun, o, h2, fun e he hb => by
     have hm := depsIn_iff.1 h5 e (by simpa using he) hb
     by_cases hes : e.on < ops.size
     ·have := (hI.lst e.on hes).2 (.inl hm)
      have hsz : e.on < L.size := by rw [hI.size]; exact hes
      simpa [hsz] using this
     ·exact absurd (hdn _ hm) hes⟩
    have himl : ∀ t, (i, t) ∉ ml := fun t h => by
     obtain ⟨o', ty, p, q, g1, g2⟩ := hstore i t h
     rw [h2] at g1
     cases g1
     rw [g2] at h3
     cases h3
    have hiol : i ∉ ol := fun e => by
     obtain ⟨o', g1, g2, _⟩ := hol i e
     rw [h2] at g1
     cases g1
     rw [h3] at g2
     cases g2
    have hrem' : rem ops.size (L.setIfInBounds i true) = m := by have := rem_set hI.size hlt hun; omega
    have hfree' : ∀ j oj, ops[j]? = some oj → j ≠ i → L.getD j true = false → (∀ e ∈ oj.after, Region.binds .any e = true → e.on ≠ i) → o.apart ops oj = true := fun j oj hj hji hL hno =>
     freeQ_spec (ops := ops) (by simpa using hfree) j oj (Nat.zero_le _) (by simpa using hj) (fun e => by
      rw [(hI.lst j (Array.getElem?_eq_some_iff.1 hj).1).2 (.inl e)] at hL; cases hL) hji hno
    rcases guardK_sound hI.rel hv with ⟨hw, s1, k1, hR1, hk⟩ | ⟨hw, s1, k1, hR1, hk⟩
    ·have hI1 := hI.know hR1 hk
     obtain ⟨sv, ⟨k2, k3⟩, k4, k5⟩ := vcVal_sound htt (hI1.envOk i) (view_blkOk hb0 i) (vcVal_orig k1)
     obtain ⟨hcl, k2⟩ := okK_spec k2
     rw [putK_eq] at k2
     obtain ⟨g1, g2⟩ := hI1.orig hb0 k3 hcl
     refine anyG_first h2 hsel (fun c a' w' h => hQ c _ _ _ h) (fun L w => SS_quiet himl hiol L w) m L a w hfree' hI.closed hready (.inl ⟨hw, fun w' hp => k5 w' (view_sees hp)⟩) hI.ss ?_
     refine ih n dirty (i :: done) A ρ _ _ _ w (fun k hk => (List.mem_cons.1 hk).elim (fun e => e ▸ hlt) (hdn k)) hrem' ?_ k2
     refine (hI1.done hal h2 hna hready (s' := s1.put o.dst sv) (v := sv.conc) (w' := w) (dirty' := dirty) (hR1.put hd g1) (fun r _ h1 h0 h2 => ?_) (fun _ _ _ _ => rfl) (fun _ => ?_) (fun d hdd hnone => ?_) ((SS_quiet himl hiol L w).2 hI.ss) ?_ (fun k x hx => ?_) ?_ (fun t r cs ty h => ?_) (fun t lb ht h => ?_)).congr (fun k => by simp) (fun k => Iff.rfl)
     ·cases hdst : o.dst <;> exact ⟨h1, h0, h2⟩
     ·cases o.dst <;> rfl
     ·cases hdst : o.dst with
      | none => exact hnone
      | some d' =>
       simp only [St.put, look_cons]
       rw [if_neg (fun e => hdd (by rw [hdst, e]))]
       exact hnone
     ·cases o.dst <;> exact Mem.Le.refl _
     ·cases hdst : o.dst with
      | none => rw [hdst] at hx; exact hI1.v0 k x hx
      | some d' =>
       rw [hdst] at hx
       simp only [St.put, look_cons] at hx
       split at hx
       ·cases hx; exact g2
       ·exact hI1.v0 k x hx
     ·cases o.dst <;> exact Nat.le_refl _
     ·cases o.dst <;> exact .inl ⟨_, _, h⟩
     ·cases hdst : o.dst <;> (rw [hdst] at h; exact hI1.stay t lb ht h)
    ·have hI1 := hI.know hR1 hk
     rw [putK_eq] at k1
     refine anyG_first h2 hsel (fun c a' w' h => hQ c _ _ _ h) (fun L w => SS_quiet himl hiol L w) m L a w hfree' hI.closed hready (.inr ⟨hw, rfl⟩) hI.ss ?_
     refine ih n dirty (i :: done) A ρ _ _ _ w (fun k hk => (List.mem_cons.1 hk).elim (fun e => e ▸ hlt) (hdn k)) hrem' ?_ k1
     refine (hI1.done hal h2 hna hready (s' := s1.put o.dst (.val undef)) (v := undef) (w' := w) (dirty' := dirty) (hR1.put (sv := .val undef) hd trivial) (fun r _ h1 h0 h2 => ?_) (fun _ _ _ _ => rfl) (fun _ => ?_) (fun d hdd hnone => ?_) ((SS_quiet himl hiol L w).2 hI.ss) ?_ (fun k x hx => ?_) ?_ (fun t r cs ty h => ?_) (fun t lb ht h => ?_)).congr (fun k => by simp) (fun k => Iff.rfl)
     ·cases hdst : o.dst <;> exact ⟨h1, h0, h2⟩
     ·cases o.dst <;> rfl
     ·cases hdst : o.dst with
      | none => exact hnone
      | some d' =>
        simp only [St.put, look_cons]
        rw [if_neg (fun e => hdd (by rw [hdst, e]))]
        exact hnone
     ·cases o.dst <;> exact Mem.Le.refl _
     ·cases hdst : o.dst with
      | none => rw [hdst] at hx; exact hI1.v0 k x hx
      | some d' =>
       rw [hdst] at hx
       simp only [St.put, look_cons] at hx
       split at hx
       ·cases hx; trivial
       ·exact hI1.v0 k x hx
     ·cases o.dst <;> exact Nat.le_refl _
     ·cases o.dst <;> exact .inl ⟨_, _, h⟩
     ·cases hdst : o.dst <;> (rw [hdst] at h; exact hI1.stay t lb ht h)
   ·-- the one that comes next, or new variables
    have hready : ∀ j ∈ al, L.getD j true = false → j ∈ Region.ready .any ops L := fun j hj h => by
     obtain ⟨o, g1, g2⟩ := (hal.spec j).1 hj
     obtain ⟨_, _, _, _, _, g3⟩ := allocOp_spec g2
     refine mem_ready.2 ⟨h, o, g1, fun e he => ?_⟩
     have : o.after = #[] := by apply Array.ext'; simpa using g3
     rw [this] at he
     simp at he
    have hlisted : ∀ {j}, L.getD j false = true → j ∈ done ∨ A j := fun {j} h => by
     have hj : j < L.size := by
      rcases Nat.lt_or_ge j L.size with h' | h'
      ·exact h'
      ·simp [Array.getElem?_eq_none h'] at h
     exact (hI.lst j (by rw [← hI.size]; exact hj)).1 (by simpa [hj] using h)
    have hlist : ∀ {j}, j < ops.size → (j ∈ done ∨ A j) → L.getD j false = true := fun {j} hj h => by
     have := (hI.lst j hj).2 h
     have hsz : j < L.size := by rw [hI.size]; exact hj
     simpa [hsz] using this
    refine ⟨fun hr => ?_, fun j hj => ?_⟩
    ·-- all have come up
     have hall : ∀ j ∈ al, j ∉ done → A j := fun j hj hd => by
      obtain ⟨o, g1, _⟩ := (hal.spec j).1 hj
      cases hL : L.getD j true with
      | false => have := hready j hj hL; rw [hr] at this; cases this
      | true => exact ((hI.lst j (Array.getElem?_eq_some_iff.1 g1).1).1 hL).resolve_left hd
     split at hv
     ·obtain ⟨s', k1, h1⟩ := hI.adoptAll hal hs0 (hos hdr) (undone done al) (fun j hj => hall j (undone_spec.1 hj).1 (undone_spec.1 hj).2) (undone_nodup haln) hv
      exact hK _ _ _ k1 h1.rel
     ·rename_i i cs hc
      exfalso
      have hi : i ∈ candsOf done al 0 ops.toList := by rw [hc]; simp
      obtain ⟨o, _, g1, g2, g3, g4⟩ := candsOf_spec.1 hi
      have g1 : ops[i]? = some o := by simpa using g1
      have hir : i ∈ Region.ready .any ops L := by
       refine mem_ready.2 ⟨?_, o, g1, fun e he hb => ?_⟩
       ·cases hL : L.getD i true with
        | false => rfl
        | true =>
         rcases (hI.lst i (Array.getElem?_eq_some_iff.1 g1).1).1 hL with h | h
         ·exact absurd h g2
         ·exact absurd (hI.sub i h).1 g3
       ·have hm := depsIn_iff.1 g4 e (by simpa using he) hb
        by_cases hd : e.on ∈ done
        ·exact hlist (hdn _ hd) (.inl hd)
        ·have ha : e.on ∈ al := (List.mem_append.1 hm).resolve_right hd
         obtain ⟨o', g5, _⟩ := (hal.spec _).1 ha
         exact hlist (Array.getElem?_eq_some_iff.1 g5).1 (.inr (hall _ ha hd))
      rw [hr] at hir
      cases hir
    ·obtain ⟨hun, o, ho, hdeps⟩ := mem_ready.1 hj
     have hlt : j < ops.size := (Array.getElem?_eq_some_iff.1 ho).1
     have hrem' : rem ops.size (L.setIfInBounds j true) = m := by have := rem_set hI.size hlt hun; omega
     have hjd : j ∉ done := fun e => by rw [(hI.lst j hlt).2 (.inl e)] at hun; cases hun
     have hjA : ¬ A j := fun e => by rw [(hI.lst j hlt).2 (.inr e)] at hun; cases hun
     by_cases hja : j ∈ al
     ·-- a new variable
      obtain ⟨o', g1, g2⟩ := (hal.spec j).1 hja
      rw [ho] at g1
      cases g1
      obtain ⟨t, d, hop, hg, hd, -⟩ := allocOp_spec g2
      obtain ⟨ti, hti⟩ := hal.tt j hja o t ho hop
      have hdl : d < E.n := by rw [← hn]; exact hal.dst j hja o d ho hd
      obtain ⟨z, hz, hrun⟩ := (htt.get hti).run_zero w
      have hB := hI.born hal hja hjd hjA ho hop hd hdl hti (halml j hja) (fun e => by obtain ⟨o', k1, _, k2⟩ := hol j e; rw [ho] at k1; cases k1; rw [g2] at k2; cases k2) hj
      have hzc : z.cells = ti.zero.toArray := by apply Array.ext'; rw [cells_vcells, hz]
      unfold wpOp
      simp only [ho]
      have hw : Region.wanted o (yielded ops a.tmps) = true := by simp [Region.wanted, hg]
      rw [if_pos hw]
      refine .inl ?_
      unfold Oper.wp
      have he : (execOp a.eval o).run C.P w = .ok (.value (.pointer (some ⟨w.heap.size, 0, none⟩))) (w.alloc (.cells ti.zero.toArray t)) := by
       simp only [execOp, hop, Instr.alloc, Sem.run_bind, hrun, Result.andThen_ok, ← hzc]
       rfl
      rw [he]
      exact ⟨hB.ss, ih (n + 1) dirty done _ _ s _ _ _ hdn hrem' hB hv0⟩
     ·-- the one that comes next
      have hjc : j ∈ candsOf done al 0 ops.toList := candsOf_spec.2 ⟨o, Nat.zero_le _, by simpa using ho, hjd, hja, depsIn_iff.2 fun e he hb => by
       rw [List.mem_append]
       rcases hlisted (hdeps e (by simpa using he) hb) with h | h
       ·exact .inr h
       ·exact .inl (hI.sub _ h).1⟩
      split at hv
      ·rename_i hc; rw [hc] at hjc; cases hjc
      rename_i c cs hc
      rw [← hc] at hv
      replace hv := eachK_mem hv j hjc
      have hjo : ops.toList[j]? = some o := by simpa using ho
      simp only [hjo] at hv
      obtain ⟨hd, hv⟩ := dstK_spec hv
      rw [hn] at hd
      have hneed : ∀ k ∈ needOf done o.after.toList al, A k := fun k hk => by
       obtain ⟨g1, g2, g3⟩ := needOf_spec.1 hk
       obtain ⟨e, he, g4, g5⟩ := onEdge_iff.1 g3
       subst g5
       exact (hlisted (hdeps e (by simpa using he) g4)).resolve_left g2
      obtain ⟨s1, k1, hI1⟩ := hI.adoptAll hal hs0 (hos hdr) _ hneed (needOf_nodup haln) hv
      have hdn' : ∀ k ∈ j :: (needOf done o.after.toList al ++ done), k < ops.size := fun k hk => by
       rcases List.mem_cons.1 hk with e | hk
       ·exact e ▸ hlt
       ·rcases List.mem_append.1 hk with hk | hk
        ·obtain ⟨o', g1, _⟩ := (hal.spec k).1 (needOf_spec.1 hk).1
         exact (Array.getElem?_eq_some_iff.1 g1).1
        ·exact hdn k hk
      have hD : ∀ k, (k = j ∨ k ∈ needOf done o.after.toList al ∨ k ∈ done) ↔ k ∈ j :: (needOf done o.after.toList al ++ done) := fun k => by simp
      have hss' : ∀ w', Holds s0.mem w' → (∀ t r cs ty, s0.lb t = some (.cells r cs ty) → (j, t) ∉ ml → (LB.cells r cs ty).fits (fun b => w.heap[b]?) → (LB.cells r cs ty).fits (fun b => w'.heap[b]?)) → (j ∉ ol → (∀ x ∈ ol, L.getD x true = false) → Holds s0.own w') → SS s0 ml ol (L.setIfInBounds j true) w' := fun w' hh hf hw => by
       have hset : ∀ x, (L.setIfInBounds j true).getD x true = false → x ≠ j ∧ L.getD x true = false := fun x hx => by
        by_cases e : j = x
        ·subst e; rw [getD_set_self (by rw [hI.size]; exact hlt)] at hx; cases hx
        ·exact ⟨fun h => e h.symm, by rw [getD_set_ne true e] at hx; exact hx⟩
       refine ⟨hh, fun t r cs ty g1 g2 => ?_, fun hx => hw (fun e => (hset j (hx j e)).1 rfl) fun x hxo => (hset x (hx x hxo)).2⟩
       exact hf t r cs ty g1 (fun hm => (hset j (g2 j hm)).1 rfl) (hI.ss.2.1 t r cs ty g1 fun x hx => (hset x (g2 x hx)).2)
      unfold wpOp
      simp only [ho]
      rcases guardK_sound hI1.rel k1 with ⟨hw, s2, k2, hR2, hk⟩ | ⟨hw, s2, k2, hR2, hk⟩
      ·rw [if_pos hw]
       refine .inl ?_
       obtain ⟨hmods, k2⟩ := okK_spec k2
       obtain ⟨how, k2⟩ := okK_spec k2
       have how := owOk_spec how
       have hI2 := hI1.know hR2 hk
       refine vcOp_sound htt hn hos hR2 k2 fun v w' s3 k3 hR3 hE => ?_
       have hE := hE hdr
       obtain ⟨hel, k3⟩ := okK_spec k3
       have hown3 : (s3.put o.dst v).own = s3.own := by cases o.dst <;> rfl
       have hsame : j ∉ ol → s3.own = s2.own := fun hj => hE.own (how.resolve_right hj)
       have hss : SS s0 ml ol (L.setIfInBounds j true) w' := by
        refine hss' w' (fun b x hb => ?_) (fun t r cs ty g1 g2 g3 => ?_) fun hj hx => ?_
        ·refine hR3.sees.1 b x ?_
         have h1 := hE.le b x (hI2.le b x hb)
         cases o.dst <;> exact h1
        ·refine LB.fits_congr (fun r' hr' => ?_) g3
         have hlt' := LB.fits_lt g3 hr'
         simp only [LB.blk?, Option.some.injEq] at hr'
         subst hr'
         refine hE.keep r hlt' (fun t' ht' lb hl hr => ?_) fun _ => ?_
         ·rcases hI2.b0 t r cs ty g1 with ⟨cs', ty', g4⟩ | g4
          ·have := hI2.rel.sep _ _ _ _ r g4 hl rfl hr
           subst this
           exact g2 (modsOk_spec hmods t ht' r cs ty g1)
          ·exact g4 (hI2.rel.place t' lb r hl hr).1
         ·rcases hI2.b0 t r cs ty g1 with ⟨cs', ty', g4⟩ | g4
          ·exact (hI2.rel.place t _ r g4 rfl).2.1
          ·exact hI2.rel.own_none g4
        ·rw [← hI2.own0 hx, ← hsame hj, ← hown3]
         exact hR3.own.1
       refine ⟨hss, ih n _ _ (fun k => k ∉ needOf done o.after.toList al ∧ A k) ρ _ _ _ w' hdn' hrem' ?_ k3⟩
       have hlb : ∀ t, (s3.put o.dst v).lb t = s3.lb t := fun t => by cases o.dst <;> rfl
       have hmem : (s3.put o.dst v).mem = s3.mem := by cases o.dst <;> rfl
       refine (hI2.done hal ho hja hj (s' := s3.put o.dst v) (v := v.conc) (w' := w') (dirty' := modsOf s2 o.op ++ dirty) hR3 (fun r hr h1 h0 h2 => ?_) (fun b hb h0 h => hE.keep b hb (fun t _ lb hl => h t lb hl) fun _ => h0) (fun hj => ?_) (fun d hdd hnone => ?_) hss ?_ (fun k x hx => ?_) ?_ (fun t r cs ty h => ?_) (fun t lb ht h => ?_)).congr hD (fun k => Iff.rfl)
       ·rw [hmem, hown3]
        simp only [hlb]
        exact hE.out r hr h1 h0 h2
       ·rw [hown3]; exact hsame hj
       ·have h0 : look s3.env d = none := by
         cases h : look s3.env d with
         | none => rfl
         | some sv =>
          rcases hE.envs d sv h with g | ⟨_, g⟩
          ·rw [hnone] at g; cases g
          ·exact absurd hnone g
        cases hdst : o.dst with
        | none => exact h0
        | some d' =>
         simp only [St.put, look_cons]
         rw [if_neg (fun e => hdd (by rw [hdst, e]))]
         exact h0
       ·rw [hmem]; exact hE.le
       ·have old : ∀ {k x}, look s3.env k = some x → V0 s0 x := fun {k x} h => by
         rcases hE.envs k x h with g | ⟨⟨u, rfl⟩, _⟩
         ·exact hI2.v0 k x g
         ·trivial
        cases hdst : o.dst with
        | none => rw [hdst] at hx; exact old hx
        | some d' =>
         rw [hdst] at hx hel
         simp only [St.put, look_cons] at hx
         split at hx
         ·cases hx
          exact noElem_spec hel
         ·exact old hx
       ·refine Nat.le_trans hE.nxt ?_
        cases o.dst <;> exact Nat.le_refl _
       ·rw [hmem]; simp only [hlb]
        exact hE.alive t r cs ty h
       ·rw [hlb] at h
        obtain ⟨lb1, g1, g2⟩ := hE.stay t lb (Nat.lt_of_lt_of_le ht hI2.nx) h
        obtain ⟨lb0, g3, g4⟩ := hI2.stay t lb1 ht g1
        refine ⟨lb0, g3, ?_⟩
        rcases g4 with g4 | ⟨g4, g5, g6⟩
        ·rcases g2 with g2 | ⟨g2, g7, g8⟩
         ·exact .inl (LB.alike_trans g4 g2)
         ·exact .inr ⟨by simp [g2], (alike_row g4).2 g7, g8⟩
        ·rcases g2 with g2 | ⟨g2, g7, g8⟩
         ·exact .inr ⟨by simp [g4], g5, (alike_row g2).1 g6⟩
         ·exact .inr ⟨by simp [g4], g5, g8⟩
      ·rw [hw, if_neg (by simp)]
       have hI2 := hI1.know hR2 hk
       rw [putK_eq] at k2
       have hss : SS s0 ml ol (L.setIfInBounds j true) w := hss' w hI.ss.1 (fun _ _ _ _ _ _ h => h) fun _ hx => hI.ss.2.2 hx
       refine ⟨hss, ih n _ _ (fun k => k ∉ needOf done o.after.toList al ∧ A k) ρ _ _ _ w hdn' hrem' ?_ k2⟩
       refine (hI2.done hal ho hja hj (s' := s2.put o.dst (.val undef)) (v := undef) (w' := w) (dirty' := dirty) (hR2.put (sv := .val undef) hd trivial) (fun r _ h1 h0 h2 => ?_) (fun _ _ _ _ => rfl) (fun _ => ?_) (fun d hdd hnone => ?_) hss ?_ (fun k x hx => ?_) ?_ (fun t r cs ty h => ?_) (fun t lb ht h => ?_)).congr hD (fun k => Iff.rfl)
       ·cases hdst : o.dst <;> exact ⟨h1, h0, h2⟩
       ·cases o.dst <;> rfl
       ·cases hdst : o.dst with
        | none => exact hnone
        | some d' =>
        simp only [St.put, look_cons]
        rw [if_neg (fun e => hdd (by rw [hdst, e]))]
        exact hnone
       ·cases o.dst <;> exact Mem.Le.refl _
       ·cases hdst : o.dst with
        | none => rw [hdst] at hx; exact hI2.v0 k x hx
        | some d' =>
         rw [hdst] at hx
         simp only [St.put, look_cons] at hx
         split at hx
         ·cases hx; trivial
         ·exact hI2.v0 k x hx
       ·cases o.dst <;> exact Nat.le_refl _
       ·cases o.dst <;> exact .inl ⟨_, _, h⟩
       ·cases hdst : o.dst <;> (rw [hdst] at h; exact hI2.stay t lb ht h)
end
end Go.Vx
namespace Go.Vx
section
variable {C : Cx} {E : Ent} {ops : Array Oper} {s : St} {a : Act} {w : World}
theorem Rel.forget (hR : Rel E a w s) (d : Nat) : Rel E a w (s.drop (some d)) := by
 have hs : ∀ x, svOk s x → svOk (s.drop (some d)) x := fun x hx => svOk_ext (s := s) (Nat.le_refl _) (Mem.Le.refl _) (fun t lb' _ h => ⟨lb', h, lb'.alike_refl⟩) hx
 refine ⟨hR.defers, hR.size, fun i x hx => ?_, fun t r cs ty h x hx => hs x (hR.cells t r cs ty h x hx), hR.sees, hR.nxt, hR.place, hR.sep, hR.own, hR.mono, hR.fresh, hR.grow, hR.keep, hR.os, hR.tape, hR.output⟩
 simp only [St.drop, look_filter] at hx
 split at hx
 ·cases hx
 ·exact ⟨(hR.env i x hx).1, hs _ (hR.env i x hx).2⟩
theorem dropAllK_spec {ops : List Oper} : ∀ (js : List Nat) {s : St} {K : St → Prop}, Rel E a w s → dropAllK C ops js s K →
  ∃ s', K s' ∧ Rel E a w s' ∧ (∀ d, look s.env d = none → look s'.env d = none) ∧
   ∀ j ∈ js, ∀ o, ops[j]? = some o → (∀ t, o.op = .alloc t → ∃ ti, look C.tt t = some ti) ∧ ∀ d, o.dst = some d → d < C.n ∧ soleDst d j 0 ops = true ∧ look s'.env d = none
 | [], s, K, hR, h => ⟨s, h, hR, fun _ h => h, fun j hj => nomatch hj⟩
 | j :: js, s, K, hR, h => by
  simp only [dropAllK] at h
  split at h
  case h_2 => exact h.elim
  rename_i o ho
  split at h
  case h_2 => exact h.elim
  rename_i d hd
  split at h
  case h_2 => exact h.elim
  rename_i t hop
  obtain ⟨ti, h1, h⟩ := tyK_spec h
  obtain ⟨h2, h⟩ := dstK_spec h
  obtain ⟨h3, h⟩ := okK_spec h
  rw [dropK_eq] at h
  obtain ⟨s', g1, g2, g3, g4⟩ := dropAllK_spec js (hR.forget d) h
  have hnone : look (s.drop (some d)).env d = none := by simp only [St.drop, look_filter]; simp
  refine ⟨s', g1, g2, fun d' hd' => g3 d' ?_, fun k hk o' ho' => ?_⟩
  ·simp only [St.drop, look_filter]; split
   ·rfl
   ·exact hd'
  ·rcases List.mem_cons.1 hk with rfl | hk
   ·rw [ho] at ho'
    cases ho'
    refine ⟨fun t' ht' => ?_, fun d' hd' => ?_⟩
    ·rw [hop] at ht'; cases ht'; exact ⟨ti, h1⟩
    ·rw [hd] at hd'
     cases hd'
     exact ⟨by simpa using h2, h3, g3 _ hnone⟩
   ·exact g4 k hk o' ho'
theorem noSel_spec : ∀ {l : List Oper}, noSel l = true → ∀ (j : Nat) (o : Oper) cs b, l[j]? = some o → o.op ≠ .select cs b
 | [], _, j, o, cs, b, h, _ => by simp at h
 | x :: r, h, j, o, cs, b, ho, e => by
  simp only [noSel] at h
  split at h
  ·cases h
  ·rename_i hx
   match j with
   | 0 =>
    simp only [List.getElem?_cons_zero, Option.some.injEq] at ho
    subst ho
    exact hx _ _ e
   | j + 1 => exact noSel_spec h j o cs b (by simpa using ho) e
theorem svOk_V0 {sv : SV} (h : svOk s sv) : V0 s sv := by
 cases sv with
 | loc t r off =>
  intro r' cs ty hl
  obtain ⟨_, _, e⟩ := h.2 _ hl
  cases e; rfl
 | row t b n c =>
  intro r' cs ty hl
  obtain ⟨_, _, _, e, _⟩ := h.2 _ hl
  cases e
 | rel t b e j o =>
  intro r' cs ty hl
  obtain ⟨_, _, _, e, _⟩ := h.2 _ hl
  cases e
 | elem ad cs o => exact h
 | val v => trivial
 | kn b => trivial
theorem rem_all (n : Nat) : rem n (Array.replicate n false) = n := by
 unfold rem
 rw [List.filter_eq_self.2]
 ·simp
 ·intro i hi
  have : i < n := by simpa using hi
  simp [this]
theorem vcDraw_sound (htt : TTok C.P C.tt) (hm : C.P.follows .mixedOrders = true) : DrawsOk C := by
 intro E hn ops id s a w K Q hR hv hK
 obtain ⟨hsel, hv⟩ := okK_spec hv
 split at hv
 case h_2 => exact hv.elim
 rename_i ml hml
 have hR' : Rel E a { w with drawn := w.drawn + 1 } s := { hR with sees := hR.sees, own := hR.own, grow := hR.grow, keep := hR.keep, os := hR.os, tape := hR.tape, output := hR.output }
 obtain ⟨s0, k1, hR0, -, hal0⟩ := dropAllK_spec _ hR' hv
 have hal : AlOk ⟨C.P, C.tt, C.n, [], true⟩ ops (allocIdx 0 ops.toList) := by
  refine ⟨fun j => ?_, fun j hj o t ho hop => (hal0 j hj o (by simpa using ho)).1 t hop, fun j hj o d ho hd => ((hal0 j hj o (by simpa using ho)).2 d hd).1, fun j hj o d ho hd k ok hok hkj => ?_⟩
  ·rw [allocIdx_spec]
   simp
  ·exact soleDst_spec ((hal0 j hj o (by simpa using ho)).2 d hd).2.1 k ok (Nat.zero_le _) (by simpa using hok) hkj
 refine wp_region_noPanic (wp_region_any hm (any_of_G (S := SS s0 ml (ownIdx ops.toList s0 0 ops.toList)) _ _ _ _ ?_))
 refine vcD_sound (C := ⟨C.P, C.tt, C.n, [], true⟩) (s0 := s0) htt hn (fun _ => rfl) rfl (fun x hx => (ownIdx_spec hx).imp fun o g => ⟨by simpa using g.2.1, g.2.2⟩) (fun j o cs b ho => noSel_spec hsel j o cs b (by simpa using ho)) hml hal allocIdx_nodup hR0.nxt hR0.cells (fun c a a' w h => h.elim) (fun a' w' s' h1 h2 => NoPanic.normal (hK a' w' s' h1 h2)) ops.size _ [] [] (fun _ => False) (fun _ => 0) s0 _ a _ (fun _ h => nomatch h) (rem_all _) ?_ k1
 have hget : ∀ i, i < ops.size → (Array.replicate ops.size false).getD i true = false := fun i hi => by simp [hi]
 refine ⟨hR0, by simp, fun i hi => ?_, fun x o ho hl => ?_, fun _ h => h.elim, fun _ h => h.elim, fun _ _ h => h.elim, fun j hj _ o d ho hd => ((hal0 j hj o (by simpa using ho)).2 d hd).2.2, ⟨hR0.sees.1, fun t r cs ty h _ => hR0.sees.2 t _ h, fun _ => hR0.own.1⟩, Mem.Le.refl _, fun i sv h => svOk_V0 (hR0.env i sv h).2, Nat.le_refl _, fun t r cs ty h => .inl ⟨cs, ty, h⟩, fun t lb _ h => ⟨lb, h, .inl lb.alike_refl⟩, fun _ => rfl⟩
 ·rw [hget i hi]; simp
 ·rw [hget x (Array.getElem?_eq_some_iff.1 ho).1] at hl
  cases hl
theorem SpecH.of {T : Checked} {tt : List (Nat × TI)} (os : List Nat) {f : FuncId} {fn : Func} {args : List Value} {μ h0 : Mem} {R : Value → Mem → Mem → Prop} (htt : TTok T.prog tt)
  (hf : T.prog.funcs[f]? = some fn) (hname : (fn.name == "runtime.NumGoroutine") = false) (h : vcFun T.prog tt os fn args μ h0 R) : SpecH T.prog f args μ h0 R :=
 SpecH.of_vc htt (fun n => vcDraw_sound (C := ⟨T.prog, tt, n, os, false⟩) htt (Checked.mixed T)) hf hname h
theorem Spec.of {T : Checked} {tt : List (Nat × TI)} (os : List Nat) {f : FuncId} {fn : Func} {args : List Value} {μ : Mem} {R : Value → Mem → Prop} (htt : TTok T.prog tt)
  (hf : T.prog.funcs[f]? = some fn) (hname : (fn.name == "runtime.NumGoroutine") = false) (h : vcFun T.prog tt os fn args μ Mem.nil fun v μ' _ => R v μ') : Spec T.prog f args μ R :=
 SpecH.of os htt hf hname h
end
end Go.Vx
namespace Go.Vx
theorem add_add (a : Addr) (i j : Nat) : (a.add i).add j = a.add (i + j) := by
 by_cases hi : i = 0
 ·subst hi; simp [Addr.add]
 ·by_cases hj : j = 0
  ·subst hj; simp [Addr.add]
  ·have : ¬ (i + j = 0) := by omega
   simp [Addr.add, hi, hj, Nat.add_assoc]
def wmem (w : World) : Mem := fun b => w.heap[b]?
theorem wmem_holds (w : World) : Holds (wmem w) w := fun _ _ h => h
theorem wmem_cell (w : World) (a : Addr) : (wmem w).cell a = w.cell? a := rfl
def CellsAt (μ : Mem) (a : Addr) (cs : List Value) : Prop := ∀ j v, cs[j]? = some v → μ.cell (a.add j) = some v
theorem CellsAt.mono {μ μ' : Mem} (h : μ.Le μ') {a : Addr} {cs : List Value} (k : CellsAt μ a cs) : CellsAt μ' a cs := fun j v hj => h.cell (k j v hj)
structure SlC {α : Type} (R : α → List Value → Prop) (μ : Mem) (es : Nat) (base : Option Addr) (n : Nat) (xs : List α) : Prop where
 len : xs.length = n
 max : n ≤ maxLen
 get : ∀ (i : Nat) x, xs[i]? = some x → ∃ a0 cs, base = some a0 ∧ cs.length = es ∧ CellsAt μ (a0.add (i * es)) cs ∧ R x cs
section
variable {α : Type} {R : α → List Value → Prop} {μ μ' : Mem} {es n : Nat} {base : Option Addr} {xs : List α}
theorem SlC.elem (h : SlC R μ es base n xs) {i : Nat} {x : α} (hx : xs[i]? = some x) : ∃ a cs, ElemAt μ base n es i a cs ∧ R x cs := by
 obtain ⟨a0, cs, h1, h2, h3, h4⟩ := h.get i x hx
 have hi : i < xs.length := (List.getElem?_eq_some_iff.1 hx).1
 exact ⟨a0.add (i * es), cs, ⟨by omega, by have := h.len; omega, ⟨a0, h1, by simp⟩, h2, h3⟩, h4⟩
theorem SlC.mono {R' : α → List Value → Prop} (h : SlC R μ es base n xs) (hle : μ.Le μ') (hR : ∀ x cs, R x cs → R' x cs) : SlC R' μ' es base n xs :=
 ⟨h.len, h.max, fun i x hx => by
  obtain ⟨a0, cs, h1, h2, h3, h4⟩ := h.get i x hx
  exact ⟨a0, cs, h1, h2, h3.mono hle, hR x cs h4⟩⟩
theorem SlC.nil (_hm : True) : SlC R μ es none 0 [] := ⟨rfl, Nat.zero_le _, fun i x hx => by simp at hx⟩
theorem flat_at {es : Nat} : ∀ {ys : List Value}, (∀ y ∈ ys, (vcells y).length = es) → ∀ {i : Nat} {y : Value}, ys[i]? = some y → ∀ {j : Nat} {v : Value}, (vcells y)[j]? = some v → (ys.flatMap vcells)[i * es + j]? = some v
 | [], _, i, y, h, _, _, _ => by simp at h
 | z :: r, hl, i, y, h, j, v, hv => by
  have hz := hl z (by simp)
  match i with
  | 0 =>
   simp only [List.getElem?_cons_zero, Option.some.injEq] at h
   subst h
   simp only [List.flatMap_cons, Nat.zero_mul, Nat.zero_add]
   rw [List.getElem?_append_left (List.getElem?_eq_some_iff.1 hv).1]
   exact hv
  | i + 1 =>
   have ih := flat_at (ys := r) (fun y hy => hl y (by simp [hy])) (i := i) (by simpa using h) hv
   simp only [List.flatMap_cons]
   rw [List.getElem?_append_right (by rw [hz, Nat.succ_mul]; omega), hz]
   rw [show (i + 1) * es + j - es = i * es + j from by rw [Nat.succ_mul]; omega]
   exact ih
theorem SlC.ofRow {b : Option Nat} {cap : Nat} {ys : List Value} (h : RowAt μ b cap es ys) (hb : b = none → ys = []) (hm : ys.length ≤ maxLen) (hl : xs.length = ys.length)
  (hR : ∀ (i : Nat) x y, xs[i]? = some x → ys[i]? = some y → R x (vcells y)) : SlC R μ es (b.map fun r => ⟨r, 0, none⟩) ys.length xs := by
 refine ⟨hl, hm, fun i x hx => ?_⟩
 have hi : i < ys.length := by rw [← hl]; exact (List.getElem?_eq_some_iff.1 hx).1
 obtain ⟨y, hy⟩ : ∃ y, ys[i]? = some y := ⟨ys[i], List.getElem?_eq_getElem hi⟩
 cases b with
 | none => rw [hb rfl] at hy; simp at hy
 | some r =>
  obtain ⟨h1, h2, arr, ty, h3, h4, h5⟩ := h
  have hlen := (h2 y (List.mem_of_getElem? hy)).1
  refine ⟨⟨r, 0, none⟩, vcells y, rfl, hlen, fun j v hv => ?_, hR i x y hx hy⟩
  have hj : j < es := by rw [← hlen]; exact (List.getElem?_eq_some_iff.1 hv).1
  have hlt : i * es + j < ys.length * es := by
   have : (i + 1) * es ≤ ys.length * es := Nat.mul_le_mul_right _ hi
   rw [Nat.succ_mul] at this
   omega
  have hf := flat_at (fun y hy => (h2 y hy).1) hy hv
  rw [← h5, List.getElem?_take, if_pos hlt] at hf
  rw [add_add]
  have : ((⟨r, 0, none⟩ : Addr).add (i * es + j)) = ⟨r, i * es + j, none⟩ := by
   unfold Addr.add; split
   ·rename_i e; simp []
   ·simp
  rw [this]
  simp only [Mem.cell, h3]
  simpa using hf
section
variable {H : Type} {enc : TypeId × Value → H} {P : Program} {w : World} {spare : Nat → Bool} {held : Bool} {fuel : Nat} {t : TypeId} {cs : List Value} {x : DataW H × List MemPlace}
theorem cells?_at {a : Addr} {m : Nat} {cs : List Value} (h : w.cells? 0 a m = some cs) : cs.length = m ∧ CellsAt (wmem w) a cs := by
 unfold World.cells? at h
 rw [if_pos (Nat.zero_le _)] at h
 refine ⟨by simpa using mapM_some_length h, fun j v hj => ?_⟩
 have hlt : j < m := by
  have h1 := (List.getElem?_eq_some_iff.1 hj).1
  have h2 := mapM_some_length h
  simp at h2
  omega
 have := mapM_some_get h j j (by simp [hlt])
 rw [wmem_cell, this, hj]
end
end
end Go.Vx
namespace Go.Vx
inductive D where
 | i (n : Int)
 | b (x : Bool)
 | s (x : ByteArray)
 | st (fs : List D)
 | sl (es : Nat) (xs : List D)
mutual
def D.n : D → Nat
 | .st fs => D.ns fs
 | .i _ => 1
 | .b _ => 1
 | .s _ => 1
 | .sl _ _ => 1
def D.ns : List D → Nat
 | [] => 0
 | d :: r => d.n + D.ns r
end
structure Lens (n cap : Nat) : Prop where
 le : n ≤ cap
 max : n ≤ maxLen
mutual
def Rep (μ : Mem) : D → List Value → Prop
 | .i n, cs => cs = [.int .i64 n]
 | .b x, cs => cs = [.bool x]
 | .s x, cs => cs = [.string x]
 | .st fs, cs => RepS μ fs cs
 | .sl es xs, cs => ∃ base cap, cs = [.slice base xs.length cap] ∧ Lens xs.length cap ∧ (∀ x ∈ xs, x.n = es) ∧ (xs = [] ∨ ∃ a0 flat, base = some a0 ∧ CellsAt μ a0 flat ∧ RepS μ xs flat)
def RepS (μ : Mem) : List D → List Value → Prop
 | [], cs => cs = []
 | d :: r, cs => ∃ c1 c2, cs = c1 ++ c2 ∧ Rep μ d c1 ∧ RepS μ r c2
end
mutual
def Own : D → Mem → List Value → Prop
 | .i n, h, cs => cs = [.int .i64 n] ∧ h = Mem.nil
 | .b x, h, cs => cs = [.bool x] ∧ h = Mem.nil
 | .s x, h, cs => cs = [.string x] ∧ h = Mem.nil
 | .st fs, h, cs => OwnS fs h cs
 | .sl es xs, h, cs => ∃ base cap, cs = [.slice base xs.length cap] ∧ Lens xs.length cap ∧ (∀ x ∈ xs, x.n = es) ∧
   ((xs = [] ∧ h = Mem.nil) ∨ ∃ r flat rest ty h2, base = some ⟨r, 0, none⟩ ∧ h2 r = none ∧ h = h2.set r (.cells (List.toArray (flat ++ rest)) ty (0, 0)) ∧ OwnS xs h2 flat)
def OwnS : List D → Mem → List Value → Prop
 | [], h, cs => cs = [] ∧ h = Mem.nil
 | d :: r, h, cs => ∃ c1 c2 h1 h2, cs = c1 ++ c2 ∧ Parts h h1 h2 ∧ Own d h1 c1 ∧ OwnS r h2 c2
end
def RepV (μ : Mem) : D → Value → Prop
 | .st fs, v => ∃ cs, v = .agg (List.toArray cs) ∧ RepS μ fs cs
 | d, v => Rep μ d [v]
def OwnV : D → Mem → Value → Prop
 | .st fs, h, v => ∃ cs, v = .agg (List.toArray cs) ∧ OwnS fs h cs
 | d, h, v => Own d h [v]
section
variable {μ μ' : Mem}
theorem CellsAt.set {h : Mem} {r : Nat} {flat rest : List Value} {ty : TypeId} : CellsAt (h.set r (.cells (List.toArray (flat ++ rest)) ty (0, 0))) ⟨r, 0, none⟩ flat := fun j v hj => by
 rw [Addr.add_lit', Nat.zero_add]
 have hlt : j < flat.length := (List.getElem?_eq_some_iff.1 hj).1
 simp [Mem.cell, Mem.set_get, List.getElem?_append_left hlt, hj]
mutual
theorem Rep.mono (h : μ.Le μ') : ∀ (d : D) (cs : List Value), Rep μ d cs → Rep μ' d cs
 | .i _, _, k => k
 | .b _, _, k => k
 | .s _, _, k => k
 | .st fs, cs, k => RepS.mono h fs cs k
 | .sl es xs, cs, k => by
  obtain ⟨base, cap, h1, h2, h3, h4⟩ := k
  refine ⟨base, cap, h1, h2, h3, h4.imp id ?_⟩
  rintro ⟨a0, flat, g1, g2, g3⟩
  exact ⟨a0, flat, g1, g2.mono h, RepS.mono h xs flat g3⟩
theorem RepS.mono (h : μ.Le μ') : ∀ (l : List D) (cs : List Value), RepS μ l cs → RepS μ' l cs
 | [], _, k => k
 | d :: r, cs, k => by
  obtain ⟨c1, c2, h1, h2, h3⟩ := k
  exact ⟨c1, c2, h1, Rep.mono h d c1 h2, RepS.mono h r c2 h3⟩
end
theorem Parts.left {h g k : Mem} (p : Parts h g k) : g.Le h := fun b o hb => by
 rcases p b with ⟨h1, _⟩ | ⟨_, h1⟩
 ·rw [h1]; exact hb
 ·rw [h1] at hb; cases hb
theorem Parts.symm {h g k : Mem} (p : Parts h g k) : Parts h k g := fun b => (p b).symm
theorem Parts.right {h g k : Mem} (p : Parts h g k) : k.Le h := p.symm.left
theorem Parts.eq {h h' g k : Mem} (p : Parts h g k) (q : Parts h' g k) : h = h' := funext fun b => by
 rcases p b with ⟨h1, h2⟩ | ⟨h1, h2⟩ <;> rcases q b with ⟨h3, h4⟩ | ⟨h3, h4⟩
 ·rw [h1, h3]
 ·rw [h1, h3, h2, h4]
 ·rw [h1, h3, h2, h4]
 ·rw [h1, h3]
theorem Parts.join {g k : Mem} (h : Apart g k) : Parts (g.join k) g k := fun b => by
 cases hg : g b with
 | none => exact .inr ⟨by rw [Mem.join_get, hg], rfl⟩
 | some o => exact .inl ⟨by rw [Mem.join_get, hg], h b (by simp [hg])⟩
theorem Parts.apart {h g k : Mem} (p : Parts h g k) : Apart g k := fun b hb => by
 rcases p b with ⟨_, h⟩ | ⟨_, h⟩
 ·exact h
 ·exact absurd h hb
theorem Parts.is_join {h g k : Mem} (p : Parts h g k) : h = g.join k := p.eq (Parts.join p.apart)
theorem Parts.nil_right (h : Mem) : Parts h h Mem.nil := fun _ => .inl ⟨rfl, rfl⟩
theorem Parts.nil_left (h : Mem) : Parts h Mem.nil h := fun _ => .inr ⟨rfl, rfl⟩
theorem Apart.symm {g k : Mem} (h : Apart g k) : Apart k g := fun b hb => by
 cases hg : g b with
 | none => rfl
 | some o => exact absurd (h b (by simp [hg])) hb
theorem Apart.nil_right (g : Mem) : Apart g Mem.nil := fun _ _ => rfl
theorem Apart.nil_left (g : Mem) : Apart Mem.nil g := fun _ h => absurd rfl h
theorem Parts.assoc {h g k k1 k2 : Mem} (p : Parts h g k) (q : Parts k k1 k2) : ∃ m, Parts m g k1 ∧ Parts h m k2 := by
 have a1 : Apart g k1 := fun b hb => by
  have := p.apart b hb
  cases h1 : k1 b with
  | none => rfl
  | some o => rw [q.left b o h1] at this; cases this
 refine ⟨g.join k1, Parts.join a1, fun b => ?_⟩
 rw [Mem.join_get]
 cases hg : g b with
 | some o =>
  have h0 := p.apart b (by simp [hg])
  refine .inl ⟨by rw [p.left b o hg], ?_⟩
  cases h2 : k2 b with
  | none => rfl
  | some o => rw [q.right b o h2] at h0; cases h0
 | none =>
  have e : h b = k b := by
   rcases p b with ⟨h1, h2⟩ | ⟨h1, _⟩
   ·rw [h1, hg, h2]
   ·exact h1
  simp only [e]
  exact q b
theorem Mem.set_le {h2 : Mem} {r : Nat} {o : Obj} (h : h2 r = none) : h2.Le (h2.set r o) := fun b x hb => by
 rw [Mem.set_get, if_neg (fun e => by subst e; rw [h] at hb; cases hb)]
 exact hb
mutual
theorem Own.rep : ∀ (d : D) (h : Mem) (cs : List Value), Own d h cs → h.Le μ → Rep μ d cs
 | .i _, _, _, k, _ => k.1
 | .b _, _, _, k, _ => k.1
 | .s _, _, _, k, _ => k.1
 | .st fs, h, cs, k, hl => OwnS.rep fs h cs k hl
 | .sl es xs, h, cs, k, hl => by
  obtain ⟨base, cap, h1, h2, h3, h4⟩ := k
  refine ⟨base, cap, h1, h2, h3, ?_⟩
  rcases h4 with ⟨g, _⟩ | ⟨r, flat, rest, ty, k2, g1, g2, g3, g4⟩
  ·exact .inl g
  ·exact .inr ⟨_, flat, g1, by subst g3; exact CellsAt.set.mono hl, OwnS.rep xs k2 flat g4 (by subst g3; exact (Mem.set_le g2).trans hl)⟩
theorem OwnS.rep : ∀ (l : List D) (h : Mem) (cs : List Value), OwnS l h cs → h.Le μ → RepS μ l cs
 | [], _, _, k, _ => k.1
 | d :: r, h, cs, k, hl => by
  obtain ⟨c1, c2, k1, k2, h1, h2, h3, h4⟩ := k
  exact ⟨c1, c2, h1, Own.rep d k1 c1 h3 (h2.left.trans hl), OwnS.rep r k2 c2 h4 (h2.right.trans hl)⟩
end
mutual
theorem Rep.len : ∀ (d : D) (cs : List Value), Rep μ d cs → cs.length = d.n
 | .i _, _, k => by rw [k]; rfl
 | .b _, _, k => by rw [k]; rfl
 | .s _, _, k => by rw [k]; rfl
 | .st fs, cs, k => RepS.len fs cs k
 | .sl es xs, cs, k => by obtain ⟨_, _, h, _⟩ := k; rw [h]; rfl
theorem RepS.len : ∀ (l : List D) (cs : List Value), RepS μ l cs → cs.length = D.ns l
 | [], _, k => by rw [k]; rfl
 | d :: r, cs, k => by
  obtain ⟨c1, c2, h1, h2, h3⟩ := k
  rw [h1, List.length_append, Rep.len d c1 h2, RepS.len r c2 h3]; rfl
end
mutual
theorem Rep.one : ∀ (d : D) (cs : List Value), Rep μ d cs → ∀ u ∈ cs, u.oneCell' = true
 | .i _, _, k => by rw [k]; simp [Value.oneCell']
 | .b _, _, k => by rw [k]; simp [Value.oneCell']
 | .s _, _, k => by rw [k]; simp [Value.oneCell']
 | .st fs, cs, k => RepS.one fs cs k
 | .sl es xs, cs, k => by obtain ⟨_, _, h, _⟩ := k; rw [h]; simp [Value.oneCell']
theorem RepS.one : ∀ (l : List D) (cs : List Value), RepS μ l cs → ∀ u ∈ cs, u.oneCell' = true
 | [], _, k => by rw [k]; simp
 | d :: r, cs, k => by
  obtain ⟨c1, c2, h1, h2, h3⟩ := k
  intro u hu
  rw [h1, List.mem_append] at hu
  exact hu.elim (Rep.one d c1 h2 u) (RepS.one r c2 h3 u)
end
theorem RepS.get {es : Nat} : ∀ {l : List D} {flat : List Value}, RepS μ l flat → (∀ x ∈ l, x.n = es) → ∀ {i : Nat} {x : D}, l[i]? = some x → ∃ cs, cs.length = es ∧ (∀ j v, cs[j]? = some v → flat[i * es + j]? = some v) ∧ Rep μ x cs
 | [], _, _, _, i, x, h => by simp at h
 | d :: r, flat, k, hn, i, x, h => by
  obtain ⟨c1, c2, h1, h2, h3⟩ := k
  have hl : c1.length = es := by rw [Rep.len d c1 h2]; exact hn d (by simp)
  match i with
  | 0 =>
   simp only [List.getElem?_cons_zero, Option.some.injEq] at h
   subst h
   refine ⟨c1, hl, fun j v hj => ?_, h2⟩
   rw [h1, Nat.zero_mul, Nat.zero_add, List.getElem?_append_left (List.getElem?_eq_some_iff.1 hj).1]
   exact hj
  | i + 1 =>
   obtain ⟨cs, g1, g2, g3⟩ := RepS.get h3 (fun y hy => hn y (by simp [hy])) (i := i) (by simpa using h)
   refine ⟨cs, g1, fun j v hj => ?_, g3⟩
   rw [h1, List.getElem?_append_right (by rw [hl, Nat.succ_mul]; omega), hl, show (i + 1) * es + j - es = i * es + j from by rw [Nat.succ_mul]; omega]
   exact g2 j v hj
structure Sl (μ : Mem) (es : Nat) (base : Option Addr) (n : Nat) (xs : List D) : Prop where
 len : xs.length = n
 max : n ≤ maxLen
 get : ∀ (i : Nat) x, xs[i]? = some x → ∃ a cs, ElemAt μ base n es i a cs ∧ Rep μ x cs
theorem Rep.sl {es : Nat} {xs : List D} {v : Value} (h : Rep μ (.sl es xs) [v]) : ∃ base cap, v = .slice base xs.length cap ∧ Sl μ es base xs.length xs := by
 obtain ⟨base, cap, h1, h2, h3, h4⟩ := h
 simp only [List.cons.injEq, and_true] at h1
 refine ⟨base, cap, h1, rfl, h2.max, fun i x hx => ?_⟩
 have hi : i < xs.length := (List.getElem?_eq_some_iff.1 hx).1
 rcases h4 with rfl | ⟨a0, flat, g1, g2, g3⟩
 ·simp at hx
 ·obtain ⟨cs, k1, k2, k3⟩ := g3.get h3 hx
  refine ⟨a0.add (i * es), cs, ⟨by omega, by omega, ⟨a0, g1, by simp⟩, k1, fun j v hj => ?_⟩, k3⟩
  rw [add_add]
  exact g2 _ _ (k2 j v hj)
theorem RepV.cells : ∀ {d : D} {v : Value}, RepV μ d v → Rep μ d (vcells v)
 | .st fs, v, h => by obtain ⟨cs, rfl, h⟩ := h; simpa [vcells, Rep] using h
 | .i _, v, h => by cases h; rfl
 | .b _, v, h => by cases h; rfl
 | .s _, v, h => by cases h; rfl
 | .sl es xs, v, h => by
  obtain ⟨base, cap, h1, h2⟩ := h
  cases h1
  exact ⟨base, cap, rfl, h2⟩
theorem RepV.mono (h : μ.Le μ') : ∀ {d : D} {v : Value}, RepV μ d v → RepV μ' d v
 | .st fs, v, k => by obtain ⟨cs, rfl, k⟩ := k; exact ⟨cs, rfl, RepS.mono h _ _ k⟩
 | .i _, v, k => Rep.mono h (.i _) _ k
 | .b _, v, k => Rep.mono h (.b _) _ k
 | .s _, v, k => Rep.mono h (.s _) _ k
 | .sl _ _, v, k => Rep.mono h (.sl _ _) _ k
theorem OwnV.rep : ∀ {d : D} {h : Mem} {v : Value}, OwnV d h v → h.Le μ → RepV μ d v
 | .st fs, h, v, k, hl => by obtain ⟨cs, rfl, k⟩ := k; exact ⟨cs, rfl, OwnS.rep _ _ _ k hl⟩
 | .i _, _, v, k, hl => Own.rep (.i _) _ _ k hl
 | .b _, _, v, k, hl => Own.rep (.b _) _ _ k hl
 | .s _, _, v, k, hl => Own.rep (.s _) _ _ k hl
 | .sl _ _, _, v, k, hl => Own.rep (.sl _ _) _ _ k hl
theorem OwnV.cells : ∀ {d : D} {h : Mem} {v : Value}, OwnV d h v → Own d h (vcells v)
 | .st fs, _, v, h => by obtain ⟨cs, rfl, h⟩ := h; simpa [vcells, Own] using h
 | .i _, _, v, h => by obtain ⟨h1, h2⟩ := h; cases h1; exact ⟨rfl, h2⟩
 | .b _, _, v, h => by obtain ⟨h1, h2⟩ := h; cases h1; exact ⟨rfl, h2⟩
 | .s _, _, v, h => by obtain ⟨h1, h2⟩ := h; cases h1; exact ⟨rfl, h2⟩
 | .sl es xs, _, v, h => by
  obtain ⟨base, cap, h1, h2⟩ := h
  cases h1
  exact ⟨base, cap, rfl, h2⟩
inductive Rows (μ : Mem) (es : Nat) : List D → List Value → Prop
 | nil : Rows μ es [] []
 | cons {d : D} {v : Value} {ds : List D} {vs : List Value} (h : RepV μ d v) (hn : d.n = es) (r : Rows μ es ds vs) : Rows μ es (d :: ds) (v :: vs)
theorem Rows.mono {es : Nat} (h : μ.Le μ') : ∀ {ds : List D} {vs : List Value}, Rows μ es ds vs → Rows μ' es ds vs
 | _, _, .nil => .nil
 | _, _, .cons k hn r => .cons (k.mono h) hn (r.mono h)
theorem Rows.append {es : Nat} : ∀ {ds : List D} {vs : List Value} {ds' : List D} {vs' : List Value}, Rows μ es ds vs → Rows μ es ds' vs' → Rows μ es (ds ++ ds') (vs ++ vs')
 | _, _, _, _, .nil, k => k
 | _, _, _, _, .cons h hn r, k => .cons h hn (r.append k)
theorem Rows.one {es : Nat} {d : D} {v : Value} (h : RepV μ d v) (hn : d.n = es) : Rows μ es [d] [v] := .cons h hn .nil
theorem Rows.len {es : Nat} : ∀ {ds : List D} {vs : List Value}, Rows μ es ds vs → ds.length = vs.length
 | _, _, .nil => rfl
 | _, _, .cons _ _ r => by simp [r.len]
theorem Rows.flat {es : Nat} : ∀ {ds : List D} {vs : List Value}, Rows μ es ds vs → RepS μ ds (vs.flatMap vcells) ∧ ∀ x ∈ ds, x.n = es
 | _, _, .nil => ⟨rfl, by simp⟩
 | _, _, .cons h hn r => ⟨⟨_, _, by simp, h.cells, r.flat.1⟩, by
   intro x hx
   rcases List.mem_cons.1 hx with rfl | hx
   ·exact hn
   ·exact r.flat.2 x hx⟩
theorem RowAt.le {b : Option Nat} {cap es : Nat} {ys : List Value} (h : RowAt μ b cap es ys) : ys.length ≤ cap := by
 cases b with
 | none =>
  have : ys = [] := h
  subst this; exact Nat.zero_le _
 | some r => exact h.1
theorem Rows.sl {es : Nat} {b : Option Nat} {cap : Nat} {ds : List D} {ys : List Value} (h : RowAt μ b cap es ys) (hr : Rows μ es ds ys) (hm : ys.length ≤ maxLen) : RepV μ (.sl es ds) (.slice (b.map fun r => ⟨r, 0, none⟩) ys.length cap) := by
 have hl := hr.len
 obtain ⟨hf, hn⟩ := hr.flat
 refine ⟨b.map fun r => ⟨r, 0, none⟩, cap, by rw [hl], by rw [hl]; exact ⟨h.le, hm⟩, hn, ?_⟩
 cases b with
 | none =>
  have : ys = [] := h
  subst this
  exact .inl (List.eq_nil_of_length_eq_zero (by simpa using hl))
 | some r =>
  obtain ⟨h1, h2, arr, ty, h3, h4, h5⟩ := h
  refine .inr ⟨⟨r, 0, none⟩, ys.flatMap vcells, rfl, fun j v hj => ?_, hf⟩
  rw [Addr.add_lit', Nat.zero_add]
  have hf' : (ys.flatMap vcells).length = ys.length * es := flat_len ys fun y hy => (h2 y hy).1
  have hlt := (List.getElem?_eq_some_iff.1 hj).1
  rw [← h5, List.getElem?_take, if_pos (by omega)] at hj
  simp only [Mem.cell, h3]
  simpa using hj
def Fresh (μ μ' : Mem) (d : D) (v : Value) : Prop := ∃ g : Mem, OwnV d g v ∧ g.Le μ' ∧ ∀ b, g b ≠ none → μ b = none
theorem Fresh.rep {d : D} {v : Value} (h : Fresh μ μ' d v) : RepV μ' d v := by
 obtain ⟨g, h1, h2, _⟩ := h
 exact h1.rep h2
theorem Fresh.mono {μ0 μ2 : Mem} {d : D} {v : Value} (h : Fresh μ μ' d v) (hl : μ0.Le μ) (hr : μ'.Le μ2) : Fresh μ0 μ2 d v := by
 obtain ⟨g, h1, h2, h3⟩ := h
 refine ⟨g, h1, h2.trans hr, fun b hb => ?_⟩
 cases h0 : μ0 b with
 | none => rfl
 | some o => have := h3 b hb; rw [hl b o h0] at this; cases this
end
end Go.Vx
namespace Go.Vx
section
variable {P : Program} {f : FuncId} {args : List Value} {μ h0 : Mem}
def Mem.sub (μ g : Mem) : Mem := fun b => match g b with | some _ => none | none => μ b
theorem Mem.le_join (μ g : Mem) : μ.Le (μ.join g) := fun b o h => by rw [Mem.join_get, h]
theorem Mem.le_join_right {μ g : Mem} (h : Apart μ g) : g.Le (μ.join g) := (Parts.join h).right
theorem Holds.join {g : Mem} {w : World} (h : Holds μ w) (k : Holds g w) : Holds (μ.join g) w := fun b o hb => by
 rw [Mem.join_get] at hb
 split at hb
 ·rename_i x hx; cases hb; exact h b _ hx
 ·exact k b o hb
theorem Holds.le {g : Mem} {w : World} (h : Holds μ w) (k : g.Le μ) : Holds g w := fun b o hb => h b o (k b o hb)
theorem SpecH.weaken {R R' : Value → Mem → Mem → Prop} (h : SpecH P f args μ h0 R) (hk : ∀ v μ' h', μ.Le μ' → Apart μ' h' → R v μ' h' → R' v μ' h') : SpecH P f args μ h0 R' :=
 ⟨h.1, fun w h1 h2 h3 => (h.2 w h1 h2 h3).mono fun _ _ ⟨v, μ', h', e, hr, hS⟩ => ⟨v, μ', h', e, hk v μ' h' hS.le hS.apart hr, hS⟩⟩
theorem Spec.weaken {R R' : Value → Mem → Prop} (h : Spec P f args μ R) (hk : ∀ v μ', μ.Le μ' → R v μ' → R' v μ') : Spec P f args μ R' :=
 SpecH.weaken h fun v μ' _ hl _ hr => hk v μ' hl hr
theorem SpecH.frame {H k : Mem} {R : Value → Mem → Mem → Prop} (hp : Parts H h0 k) (h : SpecH P f args μ h0 R) : SpecH P f args μ H fun v μ' H' => ∃ h', R v μ' h' ∧ Parts H' h' k := by
 refine ⟨h.1, fun w hm hH ha => ?_⟩
 have ha0 : Apart μ h0 := fun b hb => by
  have := ha b hb
  cases h1 : h0 b with
  | none => rfl
  | some o => rw [hp.left b o h1] at this; cases this
 have hak : Apart μ k := fun b hb => by
  have := ha b hb
  cases h1 : k b with
  | none => rfl
  | some o => rw [hp.right b o h1] at this; cases this
 refine (h.2 w hm (hH.le hp.left) ha0).mono ?_
 rintro e w' ⟨v, μ', h', rfl, hr, hS⟩
 have hkw : Holds k w := hH.le hp.right
 have h0k : ∀ b, k b ≠ none → h0 b = none := hp.apart.symm
 have hk' : Apart h' k := fun b hb => by
  rcases hS.freshH b hb with h | h
  ·cases h1 : k b with
   | none => rfl
   | some o => have := hkw.lt (b := b) (by simp [h1]); omega
  ·exact hp.apart b h
 refine ⟨v, μ', h'.join k, rfl, ⟨h', hr, Parts.join hk'⟩, ⟨hS.le, hS.mem, hS.own.join fun b o hb => ?_, fun b hb => ?_, fun b hb hb' => ?_, fun b hb => ?_, hS.size, fun b hb hn => hS.keep b hb ?_, hS.os, hS.tape, hS.output⟩⟩
 ·rw [hS.keep b (hkw.lt (by simp [hb])) (h0k b (by simp [hb]))]
  exact hkw b o hb
 ·rw [Mem.join_get, hS.apart b hb]
  simp only
  by_cases hm0 : μ b = none
  ·rcases hS.fresh b hm0 hb with h | h
   ·cases h1 : k b with
    | none => rfl
    | some o => have := hkw.lt (b := b) (by simp [h1]); omega
   ·exact hp.apart b h
  ·exact hak b hm0
 ·exact (hS.fresh b hb hb').imp id fun h => by
   cases h1 : h0 b with
   | none => exact absurd h1 h
   | some o => rw [hp.left b o h1]; simp
 ·rw [Mem.join_get] at hb
  cases h1 : h' b with
  | some o =>
   exact (hS.freshH b (by simp [h1])).imp id fun h => by
    cases h2 : h0 b with
    | none => exact absurd h2 h
    | some o => rw [hp.left b o h2]; simp
  | none =>
   rw [h1] at hb
   cases h2 : k b with
   | none => exact absurd h2 hb
   | some o => rw [hp.right b o h2]; exact .inr (by simp)
 ·cases h1 : h0 b with
  | none => rfl
  | some o => rw [hp.left b o h1] at hn; cases hn
end
def digits (k : Nat) : List UInt8 := if _h : k = 0 then [] else digits (k / 10) ++ [UInt8.ofNat (48 + k % 10)]
termination_by k
decreasing_by omega
def mtext (k : Int) : ByteArray := if k ≤ 0 then ⟨#[109, 48]⟩ else ⟨(109 :: digits k.toNat).toArray⟩
mutual
def D.mk : D → Int → D × Int
 | .i _, k => (.i k, k + 1)
 | .b _, k => (.b (decide (k.tmod 3 = 0)), k + 1)
 | .s _, k => (.s (mtext k), k + 1)
 | .st fs, k => (.st (D.mks fs k).1, (D.mks fs k).2)
 | .sl es xs, k => (.sl es (D.mks xs k).1, (D.mks xs k).2)
def D.mks : List D → Int → List D × Int
 | [], k => ([], k)
 | d :: r, k => ((d.mk k).1 :: (D.mks r (d.mk k).2).1, (D.mks r (d.mk k).2).2)
end
mutual
def D.cnt : D → Nat
 | .i _ => 1
 | .b _ => 1
 | .s _ => 1
 | .st fs => D.cnts fs
 | .sl _ xs => D.cnts xs
def D.cnts : List D → Nat
 | [] => 0
 | d :: r => d.cnt + D.cnts r
end
mutual
theorem D.mk_n : ∀ (d : D) (k : Int), (d.mk k).1.n = d.n
 | .i _, _ => rfl
 | .b _, _ => rfl
 | .s _, _ => rfl
 | .st fs, k => D.mks_n fs k
 | .sl _ _, _ => rfl
theorem D.mks_n : ∀ (l : List D) (k : Int), D.ns (D.mks l k).1 = D.ns l
 | [], _ => rfl
 | d :: r, k => by simp only [D.mks, D.ns, D.mk_n d k, D.mks_n r]
end
mutual
theorem D.mk_cnt : ∀ (d : D) (k : Int), (d.mk k).2 = k + d.cnt
 | .i _, _ => by simp [D.mk, D.cnt]
 | .b _, _ => by simp [D.mk, D.cnt]
 | .s _, _ => by simp [D.mk, D.cnt]
 | .st fs, k => by simp only [D.mk, D.cnt, D.mks_cnt fs k]
 | .sl _ xs, k => by simp only [D.mk, D.cnt, D.mks_cnt xs k]
theorem D.mks_cnt : ∀ (l : List D) (k : Int), (D.mks l k).2 = k + D.cnts l
 | [], _ => by simp [D.mks, D.cnts]
 | d :: r, k => by simp only [D.mks, D.cnts, D.mk_cnt d k, D.mks_cnt r]; omega
end
theorem OwnS.cons {d : D} {r : List D} {h h1 h2 : Mem} {c1 c2 : List Value} (p : Parts h h1 h2) (k1 : Own d h1 c1) (k2 : OwnS r h2 c2) : OwnS (d :: r) h (c1 ++ c2) := ⟨c1, c2, h1, h2, rfl, p, k1, k2⟩
theorem OwnS.append : ∀ {l r : List D} {h h1 h2 : Mem} {c1 c2 : List Value}, Parts h h1 h2 → OwnS l h1 c1 → OwnS r h2 c2 → OwnS (l ++ r) h (c1 ++ c2)
 | [], r, h, h1, h2, c1, c2, p, k1, k2 => by
  obtain ⟨rfl, rfl⟩ := k1
  have : h = h2 := p.eq (Parts.nil_left h2)
  subst this
  exact k2
 | d :: l, r, h, h1, h2, c1, c2, p, k1, k2 => by
  obtain ⟨a, b, g1, g2, rfl, q, m1, m2⟩ := k1
  obtain ⟨m, q1, q2⟩ := p.symm.assoc q.symm
  refine ⟨a, b ++ c2, g1, m, by simp, q2.symm, m1, OwnS.append q1.symm m2 k2⟩
theorem OwnS.len {l : List D} {h : Mem} {cs : List Value} (k : OwnS l h cs) : cs.length = D.ns l := RepS.len l cs (OwnS.rep l h cs k (Mem.Le.refl _))
theorem Own.len {d : D} {h : Mem} {cs : List Value} (k : Own d h cs) : cs.length = d.n := Rep.len d cs (Own.rep d h cs k (Mem.Le.refl _))
theorem D.ns_eq {es : Nat} : ∀ {l : List D}, (∀ x ∈ l, x.n = es) → D.ns l = l.length * es
 | [], _ => by simp [D.ns]
 | d :: r, h => by
  have ih := D.ns_eq (es := es) (l := r) (fun x hx => h x (by simp [hx]))
  simp only [D.ns, h d (by simp), ih, List.length_cons, Nat.succ_mul]; omega
theorem Mem.set_set (h : Mem) (r : Nat) (o o' : Obj) : (h.set r o).set r o' = h.set r o' := funext fun b => by
 simp only [Mem.set_get]
 split <;> rfl
theorem Parts.set {h g k : Mem} {r : Nat} {o : Obj} (p : Parts h g k) (hr : h r = none) : Parts (h.set r o) g (k.set r o) := fun b => by
 simp only [Mem.set_get]
 by_cases e : b = r
 ·subst e
  rw [if_pos rfl, if_pos rfl]
  rcases p b with ⟨h1, h2⟩ | ⟨h1, h2⟩
  ·exact .inr ⟨rfl, by rw [← h1]; exact hr⟩
  ·exact .inr ⟨rfl, h2⟩
 ·rw [if_neg e, if_neg e]; exact p b
theorem D.mks_append : ∀ (a b : List D) (k : Int), D.mks (a ++ b) k = ((D.mks a k).1 ++ (D.mks b (D.mks a k).2).1, (D.mks b (D.mks a k).2).2)
 | [], q, k => rfl
 | d :: a, q, k => by simp only [List.cons_append, D.mks, D.mks_append a q]
theorem D.mks_take {xs : List D} {i : Nat} {x : D} (h : xs[i]? = some x) (k : Int) : D.mks (xs.take (i + 1)) k = ((D.mks (xs.take i) k).1 ++ [(x.mk (D.mks (xs.take i) k).2).1], (x.mk (D.mks (xs.take i) k).2).2) := by
 rw [List.take_add_one, h, Option.toList_some, D.mks_append]; rfl
theorem D.cnts_append : ∀ (a b : List D), D.cnts (a ++ b) = D.cnts a + D.cnts b
 | [], q => by simp [D.cnts]
 | d :: a, q => by simp [D.cnts, D.cnts_append a q]; omega
theorem D.cnts_take (xs : List D) (i : Nat) : D.cnts (xs.take i) ≤ D.cnts xs := by
 have := D.cnts_append (xs.take i) (xs.drop i)
 rw [List.take_append_drop] at this
 omega
end Go.Vx
namespace Go.Vx
theorem OwnS.int {n : Int} {r : List D} {h : Mem} {cs : List Value} (k : OwnS r h cs) : OwnS (.i n :: r) h (.int .i64 n :: cs) := ⟨[_], cs, _, _, rfl, Parts.nil_left h, ⟨rfl, rfl⟩, k⟩
theorem OwnS.bool {b : Bool} {r : List D} {h : Mem} {cs : List Value} (k : OwnS r h cs) : OwnS (.b b :: r) h (.bool b :: cs) := ⟨[_], cs, _, _, rfl, Parts.nil_left h, ⟨rfl, rfl⟩, k⟩
theorem OwnS.str {s : ByteArray} {r : List D} {h : Mem} {cs : List Value} (k : OwnS r h cs) : OwnS (.s s :: r) h (.string s :: cs) := ⟨[_], cs, _, _, rfl, Parts.nil_left h, ⟨rfl, rfl⟩, k⟩
theorem OwnS.nil : OwnS [] Mem.nil [] := ⟨rfl, rfl⟩
theorem OwnS.last {d : D} {h : Mem} {cs : List Value} (k : Own d h cs) : OwnS [d] h cs := by
 have := OwnS.cons (Parts.nil_right h) k OwnS.nil
 simpa using this
theorem RepS.last {μ : Mem} {d : D} {cs : List Value} (k : Rep μ d cs) : RepS μ [d] cs := ⟨cs, [], by simp, k, rfl⟩
theorem RepS.int {μ : Mem} {n : Int} {r : List D} {cs : List Value} (k : RepS μ r cs) : RepS μ (.i n :: r) (.int .i64 n :: cs) := ⟨[_], cs, rfl, rfl, k⟩
theorem RepS.bool {μ : Mem} {b : Bool} {r : List D} {cs : List Value} (k : RepS μ r cs) : RepS μ (.b b :: r) (.bool b :: cs) := ⟨[_], cs, rfl, rfl, k⟩
theorem RepS.str {μ : Mem} {s : ByteArray} {r : List D} {cs : List Value} (k : RepS μ r cs) : RepS μ (.s s :: r) (.string s :: cs) := ⟨[_], cs, rfl, rfl, k⟩
theorem Own.nilSl (es : Nat) : Own (.sl es []) Mem.nil [.slice none 0 0] := ⟨none, 0, rfl, ⟨Nat.zero_le _, Nat.zero_le _⟩, by simp, .inl ⟨rfl, rfl⟩⟩
theorem Rep.nilSl {μ : Mem} (es : Nat) : Rep μ (.sl es []) [.slice none 0 0] := ⟨none, 0, rfl, ⟨Nat.zero_le _, Nat.zero_le _⟩, by simp, .inl rfl⟩
theorem Own.sl {es : Nat} {xs : List D} {h : Mem} {v : Value} (k : Own (.sl es xs) h [v]) : ∃ base cap, v = .slice base xs.length cap := by
 obtain ⟨base, cap, h1, _⟩ := k
 simp only [List.cons.injEq, and_true] at h1
 exact ⟨base, cap, h1⟩
structure OwnRows (es : Nat) (ds : List D) (ys : List Value) (g : Mem) : Prop where
 own : OwnS ds g (ys.flatMap vcells)
 size : ∀ x ∈ ds, x.n = es
 len : ds.length = ys.length
theorem OwnRows.nil (es : Nat) : OwnRows es [] [] Mem.nil := ⟨⟨rfl, rfl⟩, by simp, rfl⟩
theorem OwnRows.snoc {es : Nat} {ds : List D} {ys : List Value} {g g' : Mem} {d : D} {v : Value} (k : OwnRows es ds ys g) (k' : OwnV d g' v) (hn : d.n = es) (ha : Apart g g') : OwnRows es (ds ++ [d]) (ys ++ [v]) (g.join g') :=
 ⟨by
  have := OwnS.append (Parts.join ha) k.own (OwnS.last k'.cells)
  simpa using this, by
  intro x hx
  rcases List.mem_append.1 hx with h | h
  ·exact k.size x h
  ·simp only [List.mem_singleton] at h; subst h; exact hn, by simp [k.len]⟩
theorem OwnRows.rows {es : Nat} {μ : Mem} {ds : List D} {ys : List Value} {g : Mem} (k : OwnRows es ds ys g) (hl : g.Le μ) : RepS μ ds (ys.flatMap vcells) := OwnS.rep _ _ _ k.own hl
theorem Fresh.ofRow {μ μ1 μ' g : Mem} {b : Option Nat} {cap es : Nat} {ds : List D} {ys : List Value} (k : OwnRows es ds ys g) (hg : g.Le μ1) (hf : ∀ x, g x ≠ none → μ x = none) (h0 : μ.Le μ1) (h1 : μ1.Le μ')
  (hb : ∀ r, b = some r → μ1 r = none) (hr : RowAt μ' b cap es ys) (hm : ys.length ≤ maxLen) : Fresh μ μ' (.sl es ds) (.slice (b.map fun r => ⟨r, 0, none⟩) ys.length cap) := by
 cases b with
 | none =>
  have : ys = [] := hr
  subst this
  have hd : ds = [] := List.eq_nil_of_length_eq_zero (by simpa using k.len)
  subst hd
  have hown : OwnV (.sl es []) Mem.nil (.slice none 0 cap) := ⟨none, cap, rfl, ⟨Nat.zero_le _, hm⟩, by simp, .inl ⟨rfl, rfl⟩⟩
  exact ⟨Mem.nil, hown, (fun _ _ h => nomatch h), fun _ h => absurd rfl h⟩
 | some r =>
  obtain ⟨h2, h3, arr, ty, h4, h5, h6⟩ := hr
  have hgr : g r = none := by
   cases h : g r with
   | none => rfl
   | some o => have := hb r rfl; rw [hg r o h] at this; cases this
  have e : arr.toList = ys.flatMap vcells ++ arr.toList.drop (ys.length * es) := by rw [← h6]; simp
  refine ⟨g.set r (.cells (List.toArray (ys.flatMap vcells ++ arr.toList.drop (ys.length * es))) ty (0, 0)), ⟨some ⟨r, 0, none⟩, cap, by simp [k.len], by rw [k.len]; exact ⟨h2, hm⟩, k.size, .inr ⟨r, _, _, ty, g, rfl, hgr, rfl, k.own⟩⟩, fun x o hx => ?_, fun x hx => ?_⟩
  ·rw [Mem.set_get] at hx
   split at hx
   ·rename_i e2
    subst e2
    cases hx
    rw [h4, ← e]
   ·exact h1 x o (hg x o hx)
  ·rw [Mem.set_get] at hx
   split at hx
   ·rename_i e2
    subst e2
    cases h : μ x with
    | none => rfl
    | some o => have := hb x rfl; rw [h0 x o h] at this; cases this
   ·exact hf x hx
theorem OwnV.slice {es : Nat} {xs : List D} {h : Mem} {v : Value} (k : OwnV (.sl es xs) h v) : ∃ base cap, v = .slice base xs.length cap := Own.sl k
theorem fresh_apart {μ g g' : Mem} (h : g.Le μ) (k : ∀ b, g' b ≠ none → μ b = none) : Apart g g' := fun b hb => by
 cases hg : g' b with
 | none => rfl
 | some o =>
  have h1 := k b (by simp [hg])
  cases h2 : g b with
  | none => exact absurd h2 hb
  | some o' => rw [h b o' h2] at h1; cases h1
theorem join_le {μ g g' : Mem} (h : g.Le μ) (k : g'.Le μ) : (g.join g').Le μ := fun b o hb => by
 rw [Mem.join_get] at hb
 split at hb
 ·rename_i x hx; cases hb; exact h b _ hx
 ·exact k b o hb
theorem join_ne {g g' : Mem} {b : Nat} (h : (g.join g') b ≠ none) : g b ≠ none ∨ g' b ≠ none := by
 rw [Mem.join_get] at h
 cases hg : g b with
 | none => rw [hg] at h; exact .inr h
 | some o => exact .inl (by simp)
end Go.Vx
namespace Go.Vx
open Go.ChangeShapes Go.WideShapes Go.ChangeAt Go.RowKit
def ReadsTo (P : Program) (n : Nat) (t : TypeId) (R : D → Prop) : Prop :=
 ∀ (H : Type) (enc : TypeId × Value → H) (w : World) (spare : Nat → Bool) (held : Bool) (fuel : Nat) (cs : List Value) (x : DataW H × List MemPlace), fuel ≤ n → DataW.trod enc P w 0 spare held fuel t cs = some x → ∃ d, R d ∧ Rep (wmem w) d cs
section
variable {P : Program} {t : TypeId}
theorem ReadsTo.weaken {n : Nat} {R R' : D → Prop} (h : ReadsTo P n t R) (k : ∀ d, R d → R' d) : ReadsTo P n t R' := fun H enc w sp hd fuel cs x hf hx => by
 obtain ⟨d, h1, h2⟩ := h H enc w sp hd fuel cs x hf hx
 exact ⟨d, k d h1, h2⟩
theorem ReadsTo.zero (R : D → Prop) : ReadsTo P 0 t R := fun H enc w sp hd fuel cs x hf hx => by
 obtain rfl : fuel = 0 := by omega
 simp [DataW.trod] at hx
def AllR : List (D → Prop) → List D → Prop
 | [], [] => True
 | R :: Rs, d :: ds => R d ∧ AllR Rs ds
 | _, _ => False
theorem AllR.cons {R : D → Prop} {Rs : List (D → Prop)} {ds : List D} (h : AllR (R :: Rs) ds) : ∃ d ds', ds = d :: ds' ∧ R d ∧ AllR Rs ds' := by
 cases ds with
 | nil => exact h.elim
 | cons d ds => exact ⟨d, ds, rfl, h.1, h.2⟩
theorem AllR.nil {ds : List D} (h : AllR [] ds) : ds = [] := by
 cases ds with
 | nil => rfl
 | cons d ds => exact h.elim
def FieldsTo (P : Program) (n : Nat) : Nat → List (Nat × TypeId) → List (D → Prop) → Nat → Prop
 | o, [], [], e => o = e
 | o, (off, ft) :: fs, R :: Rs, e => off = o ∧ ReadsTo P n ft R ∧ FieldsTo P n (o + P.cellsOf ft) fs Rs e
 | _, _, _, _ => False
theorem FieldsTo.nil {n o : Nat} : FieldsTo P n o [] [] o := rfl
theorem FieldsTo.cons {n o e ft : Nat} {i : TI} {R : D → Prop} {fs : List (Nat × TypeId)} {Rs : List (D → Prop)} (hi : TIok P ft i) (h : ReadsTo P n ft R) (r : FieldsTo P n (o + i.size) fs Rs e) : FieldsTo P n o ((o, ft) :: fs) (R :: Rs) e := by
 refine ⟨rfl, h, ?_⟩
 obtain ⟨inf, hin, hs, _⟩ := hi.info'
 have : P.cellsOf ft = i.size := by simp [Program.cellsOf, hin, hs]
 rw [this]
 exact r
theorem RepS.flat {μ : Mem} {es : Nat} : ∀ {xs : List D} {cells : Nat → List Value}, (∀ i x, xs[i]? = some x → Rep μ x (cells i)) → RepS μ xs ((List.range xs.length).flatMap cells)
 | [], _, _ => rfl
 | d :: r, cells, h => by
  have ih := RepS.flat (es := es) (μ := μ) (xs := r) (cells := fun i => cells (i + 1)) fun i x hx => h (i + 1) x (by simpa using hx)
  refine ⟨cells 0, (List.range r.length).flatMap fun i => cells (i + 1), ?_, h 0 d (by simp), ih⟩
  rw [List.length_cons, List.range_succ_eq_map, List.flatMap_cons, List.flatMap_map]
theorem okWide_slice {w : World} {b : Nat} {e : TypeId} (ht : P.underlying t = some (.slice e)) (cs : Array Value) : ¬ Value.okWide P w .any b t (.agg cs) := fun h => by
 simp [Value.okWide, ht, Cell.okWide, Cell.ok] at h
end
theorem trodAll_stays {H : Type} {enc : TypeId × Value → H} {P : Program} (hl : laidOutB P = true) {W W' : World} (hb : Below W.heap.size W W') {sp : Nat → Bool} : ∀ {ts : List TypeId} {vs : List Value} {ds : List (DataW H)} {ps : List MemPlace},
  (∀ t ∈ ts, P.readableRec t = true ∧ t < P.types.size) → DataW.TrodAll enc P W 0 (fun _ => true) true ts vs ds ps → (∀ x ∈ ps, x.block < W.heap.size) → (∀ x ∈ ps, sp x.block = true) → DataW.TrodAll enc P W' 0 sp true ts vs ds ps
 | [], vs, ds, ps, _, h, _, _ => by
  obtain ⟨rfl, rfl, rfl⟩ := trodAll_nil h
  exact trodAll_mk0
 | t :: ts, vs, ds, ps, hr, h, hlt, hs => by
  obtain ⟨v, vs', d, ds', p, q, rfl, rfl, rfl, h1, h2⟩ := trodAll_cons h
  obtain ⟨g1, g2⟩ := hr t (by simp)
  exact trodAll_cons_mk (WideElems.Trod_stays hl g1 g2 h1 (fun x hx => hb.same (hlt x (by simp [hx]))) (fun x hx => hs x (by simp [hx])))
   (trodAll_stays hl hb (fun t ht => hr t (by simp [ht])) h2 (fun x hx => hlt x (by simp [hx])) (fun x hx => hs x (by simp [hx])))
theorem law_post {H : Type} {enc : TypeId × Value → H} {P : Program} {f : Func} {s : ChangeSpec} {apart fresh handsOn again : Bool} {W W' : World} {args : Array Value} {ds gs : List (DataW H)} {before : List MemPlace} {tb : TypeId}
  (hl : laidOutB P = true) (hr : ∀ t ∈ f.params.toList, P.readableRec t = true ∧ t < P.types.size) (hres : f.resultTypes = #[tb]) (htb : P.underlying tb = some .bool) (hs : s.vars = [])
  (hfn : s.fn H ds = { results := [.lit (.bool true)], args := ds })
  (hW : DataW.Whole enc P f.params.toList s.vars apart W args.toList ds gs before) (hb : Below W.heap.size W W') : s.post enc P f apart fresh handsOn again W args (.bool true) W' := by
 have hW0 := hW
 obtain ⟨p, q, hA, hV, rfl, hz, hn⟩ := hW
 rw [hs] at hV
 obtain ⟨rfl, rfl⟩ := trodVars_none hV
 have hlt : ∀ x ∈ p, x.block < W.heap.size := fun x hx => hW0.lt x (by simp [hx])
 have hfn' : s.fn H (ds ++ []) = { results := [.lit (.bool true)], args := ds } := by simpa using hfn
 have hrl : (Value.bool true).resultList f.resultTypes.size = [.bool true] := by rw [hres]; rfl
 have hbool : ∀ (b : Nat) (sp : Nat → Bool) (hd : Bool), DataW.TrodAll enc P W' b sp hd f.resultTypes.toList ((Value.bool true).resultList f.resultTypes.size) [.lit (.bool true)] [] := fun b sp hd => by
  rw [hrl, hres]
  exact trodAll_mk1 (shut_bool htb true)
 refine ⟨ds, [], p ++ [], [], p, [], hW0, by rw [hfn']; exact hbool _ _ _, by rw [hfn']; exact trodAll_stays hl hb hr hA hlt (fun x hx => by simpa using hlt x hx), by rw [hfn', hs]; rfl, hb.frame _, fun _ => ⟨fun j t r hj hr' => ?_, .lit (.bool true) :: ds, [], p, ⟨p, [], ?_, by rw [hs]; rfl, by simp, fun b off hp => ?_, fun ha => ?_⟩, fun x hx _ => by simpa using hx⟩⟩
 ·rw [hres] at hj
  rw [hrl] at hr'
  match j, hj, hr' with
  | 0, hj, hr' =>
   simp at hj hr'
   subst hj; subst hr'
   exact okWide_bool_mk htb true
 ·exact trodAll_append (trodAll_stays (sp := fun _ => true) hl hb hr hA hlt fun _ _ => rfl) (hbool _ _ _)
 ·rw [hb.frozen (p := ⟨b, off, none⟩) (hlt _ hp)]
  exact hz b off (by simpa using hp)
 ·have := hn ha
  simpa using this
theorem step_below {μ' h' : Mem} {w w' : World} {μ : Mem} (h : Step μ Mem.nil w μ' h' w') : Below w.heap.size w w' := ⟨h.os, h.tape, h.output, h.size, fun k hk => h.keep k hk rfl⟩
theorem Ans.calls {P : Program} {f : FuncId} {args : Array Value} {w : World} {Q : Ending → World → Prop} (h : Ans P f args w Q) (he : Enter P f) : Calls P f args w Q := by
 rcases h with h | ⟨v, w', h1, _⟩
 ·exact h.2
 ·obtain ⟨fn, hf, hb, hn⟩ := he
  have hb : fn.body ≠ none := by cases hb : fn.body <;> simp_all
  have hn : fn.name ≠ "runtime.NumGoroutine" := by simpa using hn
  simp [callFunc, hf, hn, hb] at h1
theorem law_calls {H : Type} {enc : TypeId × Value → H} {P : Program} {f : FuncId} {fn : Func} {s : ChangeSpec} {apart fresh handsOn again : Bool} {W : World} {args : Array Value} {ds gs : List (DataW H)} {before : List MemPlace} {tb : TypeId}
  (hl : laidOutB P = true) (hr : ∀ t ∈ fn.params.toList, P.readableRec t = true ∧ t < P.types.size) (hres : fn.resultTypes = #[tb]) (htb : P.underlying tb = some .bool) (hs : s.vars = [])
  (hfn : s.fn H ds = { results := [.lit (.bool true)], args := ds })
  (hW : DataW.Whole enc P fn.params.toList s.vars apart W args.toList ds gs before) (hent : Enter P f) (h : Spec P f args.toList (wmem W) fun r _ => r = .bool true) :
  Calls P f args W fun e W' => ∃ v, e = .returned v ∧ s.post enc P fn apart fresh handsOn again W args v W' := by
 have := h.2 W (wmem_holds W) (holds_nil W) (apart_nil _)
 simp only [Array.toArray_toList] at this
 refine (this.calls hent).mono ?_
 rintro e W' ⟨v, μ', h', rfl, rfl, hS⟩
 exact ⟨_, rfl, law_post hl hr hres htb hs hfn hW (step_below hS)⟩
end Go.Vx
namespace Go.Vx
section
variable {P : Program} {f : FuncId} {args : List Value} {μ H : Mem}
theorem Spec.beside {R : Value → Mem → Prop} (ha : Apart μ H) (h : Spec P f args μ R) : SpecH P f args μ H fun v μ' H' => H' = H ∧ R v μ' := by
 refine ⟨h.1, fun w hm hH _ => (h.2 w hm (holds_nil w) (apart_nil _)).mono ?_⟩
 rintro e w' ⟨v, μ', h', rfl, hr, hS⟩
 refine ⟨v, μ', H, rfl, ⟨rfl, hr⟩, ⟨hS.le, hS.mem, fun b o hb => by rw [hS.keep b (hH.lt (by simp [hb])) rfl]; exact hH b o hb, fun b hb => ?_, fun b hb hb' => .inl ((hS.fresh b hb hb').resolve_right fun h => h rfl), fun b hb => .inr hb, hS.size, fun b hb _ => hS.keep b hb rfl, hS.os, hS.tape, hS.output⟩⟩
 by_cases hm0 : μ b = none
 ·have := (hS.fresh b hm0 hb).resolve_right fun h => h rfl
  cases h1 : H b with
  | none => rfl
  | some o => have := hH.lt (b := b) (by simp [h1]); omega
 ·exact ha b hm0
def Owns : Mem → List (D × Value) → Prop
 | H, [] => H = Mem.nil
 | H, (d, v) :: l => ∃ h k, Parts H h k ∧ OwnV d h v ∧ Owns k l
theorem Owns.snoc : ∀ {l : List (D × Value)} {H g H' : Mem} {d : D} {v : Value}, Owns H l → OwnV d g v → Parts H' H g → Owns H' (l ++ [(d, v)])
 | [], H, g, H', d, v, h, k, p => by
  subst h
  exact ⟨g, Mem.nil, p.symm, k, rfl⟩
 | (e, u) :: l, H, g, H', d, v, h, k, p => by
  obtain ⟨h1, h2, q, k1, k2⟩ := h
  obtain ⟨m, q1, q2⟩ := p.symm.assoc q.symm
  exact ⟨h1, m, q2.symm, k1, Owns.snoc k2 k q1.symm⟩
theorem Owns.focus : ∀ {l1 l2 : List (D × Value)} {H : Mem} {d : D} {v : Value}, Owns H (l1 ++ (d, v) :: l2) →
  ∃ h k, Parts H h k ∧ OwnV d h v ∧ ∀ H' h' d', Parts H' h' k → OwnV d' h' v → Owns H' (l1 ++ (d', v) :: l2)
 | [], l2, H, d, v, h => by
  obtain ⟨h1, h2, q, k1, k2⟩ := h
  exact ⟨h1, h2, q, k1, fun H' h' d' p k => ⟨h', h2, p, k, k2⟩⟩
 | (e, u) :: l1, l2, H, d, v, h => by
  obtain ⟨h1, h2, q, k1, k2⟩ := h
  obtain ⟨h3, h4, q3, k3, back⟩ := Owns.focus k2
  obtain ⟨m, q1, q2⟩ := q.assoc q3.symm
  refine ⟨h3, m, q2.symm, k3, fun H' h' d' p k => ?_⟩
  obtain ⟨m2, q4, q5⟩ := p.assoc q1.symm
  exact ⟨h1, m2, q5.symm, k1, back m2 h' d' q4 k⟩
theorem Owns.rep {μ : Mem} {H : Mem} (ha : Apart μ H) {l1 l2 : List (D × Value)} {d : D} {v : Value} (h : Owns H (l1 ++ (d, v) :: l2)) : RepV (μ.join H) d v := by
 obtain ⟨h1, k, p, o, _⟩ := h.focus
 exact o.rep (p.left.trans (Mem.le_join_right ha))
variable {dr : Bool} {s : St} {K : Value → St → Prop}
theorem Owns.none : Owns Mem.nil [] := rfl
theorem cDa {R : Value → Mem → Prop} (hap : Apart s.mem s.own) (h : Spec P f args s.mem R) (k : ∀ v μ', s.mem.Le μ' → Apart μ' s.own → R v μ' → memOwnK s μ' s.own fun s => K v s) : callVC dr P f args s K :=
 cOw (Spec.beside hap h) fun v μ' H' hle ha' ⟨h1, h2⟩ => by
  subst h1
  exact k v μ' hle ha' h2
end
end Go.Vx
namespace Go.Vx
theorem mAt {α : Type} {l : List α} {j : Nat} {a : α} (h : l[j]? = some a) : a ∈ l := by
 obtain ⟨h1, h2⟩ := List.getElem?_eq_some_iff.1 h
 rw [← h2]; exact List.getElem_mem h1
theorem maxLen_le {n : Nat} (h : n ≤ maxLen) : (n : Int) ≤ 9223372036854775807 := by
 have := Nat.le_trans h (show maxLen ≤ 9223372036854775807 by decide); omega
structure Filled (es : Nat) (z : Value) (μ μ' : Mem) (ds : List D) (k : Nat) (ys : List Value) (g : Mem) : Prop where
 le : k ≤ ds.length
 len : ys.length = ds.length
 done : OwnRows es (ds.take k) (ys.take k) g
 rest : ∀ j, k ≤ j → j < ds.length → ys[j]? = some z
 sub : g.Le μ'
 new : ∀ x, g x ≠ none → μ x = none
 grow : μ.Le μ'
theorem Filled.step {es : Nat} {z : Value} {μ μ' μ'' : Mem} {ds : List D} {k : Nat} {ys : List Value} {g : Mem} (f : Filled es z μ μ' ds k ys g) {d : D} {v : Value} (hd : ds[k]? = some d) (hn : d.n = es) (hv : Fresh μ' μ'' d v) (hl : μ'.Le μ'') :
  ∃ g', Filled es z μ μ'' ds (k + 1) (ys.set k v) g' := by
 obtain ⟨g', h1, h2, h3⟩ := hv
 have hk : k < ds.length := (List.getElem?_eq_some_iff.1 hd).1
 have hlen := f.len
 refine ⟨g.join g', ⟨hk, by simpa using f.len, ?_, fun j hj hj' => ?_, join_le (f.sub.trans hl) h2, fun x hx => ?_, f.grow.trans hl⟩⟩
 ·rw [List.take_add_one, hd, Option.toList_some, List.take_add_one, List.getElem?_set_self (by omega), Option.toList_some, List.take_set_of_le (Nat.le_refl k)]
  exact f.done.snoc h1 hn (fresh_apart f.sub h3)
 ·rw [List.getElem?_set_ne (by omega)]
  exact f.rest j (by omega) hj'
 ·rcases join_ne hx with h | h
  ·exact f.new x h
  ·cases h0 : μ x with
   | none => rfl
   | some o => have := h3 x h; rw [f.grow x o h0] at this; cases this
theorem Filled.all {es : Nat} {z : Value} {μ μ' : Mem} {ds : List D} {k : Nat} {ys : List Value} {g : Mem} (f : Filled es z μ μ' ds k ys g) (hk : k = ds.length) : OwnRows es ds ys g := by
 subst hk
 have := f.done
 rwa [List.take_length, List.take_of_length_le (by rw [f.len]; exact Nat.le_refl _)] at this
theorem ElemAt.mono {μ μ' : Mem} (h : μ.Le μ') {base : Option Addr} {n es : Nat} {i : Int} {a : Addr} {cs : List Value} (k : ElemAt μ base n es i a cs) : ElemAt μ' base n es i a cs :=
 ⟨k.lo, k.hi, k.addr, k.len, fun j v hj => h.cell (k.cell j v hj)⟩
theorem Sl.mono {μ μ' : Mem} (h : μ.Le μ') {es n : Nat} {base : Option Addr} {xs : List D} (k : Sl μ es base n xs) : Sl μ' es base n xs :=
 ⟨k.len, k.max, fun i x hx => by
  obtain ⟨a, cs, h1, h2⟩ := k.get i x hx
  exact ⟨a, cs, h1.mono h, Rep.mono h x cs h2⟩⟩
end Go.Vx
namespace Go.Vx
open Go.Proofs
def tt : List (Nat × TI) := [
 (1, ⟨1, false, 8, [.nilFunc], .func⟩),
 (2, ⟨1, false, 8, [.int .i64 0], .int .i64⟩),
 (3, ⟨1, false, 8, [.int .i64 0], .int .i64⟩),
 (4, ⟨1, false, 1, [.bool false], .bool⟩),
 (5, ⟨1, false, 1, [.int .u8 0], .int .u8⟩),
 (6, ⟨1, false, 1, [.int .u8 0], .int .u8⟩),
 (7, ⟨4, true, 24, [.int .i64 0, .int .i64 0, .bool false, .int .u8 0], .strct [(0, 2), (1, 3), (2, 4), (3, 6)]⟩),
 (8, ⟨4, true, 24, [.int .i64 0, .int .i64 0, .bool false, .int .u8 0], .strct [(0, 2), (1, 3), (2, 4), (3, 6)]⟩),
 (9, ⟨1, false, 16, [.string ⟨#[]⟩], .str⟩),
 (10, ⟨1, false, 16, [.string ⟨#[]⟩], .str⟩),
 (11, ⟨1, false, 16, [.string ⟨#[]⟩], .str⟩),
 (12, ⟨1, false, 8, [.int .u64 0], .int .u64⟩),
 (13, ⟨2, true, 24, [.string ⟨#[]⟩, .int .u64 0], .strct [(0, 9), (1, 12)]⟩),
 (14, ⟨2, true, 24, [.string ⟨#[]⟩, .int .u64 0], .strct [(0, 9), (1, 12)]⟩),
 (15, ⟨1, false, 8, [.pointer none], .ptr 197⟩),
 (16, ⟨1, false, 8, [.pointer none], .ptr 200⟩),
 (17, ⟨1, false, 8, [.pointer none], .ptr 208⟩),
 (18, ⟨1, true, 8, [.pointer none], .strct [(0, 17)]⟩),
 (19, ⟨1, true, 8, [.pointer none], .strct [(0, 17)]⟩),
 (20, ⟨1, false, 16, [.nilIface], .iface⟩),
 (21, ⟨1, false, 4, [.int .i32 0], .int .i32⟩),
 (22, ⟨1, false, 24, [.slice none 0 0], .slice 5⟩),
 (23, ⟨1, false, 24, [.slice none 0 0], .slice 56⟩),
 (24, ⟨1, false, 8, [.nilFunc], .func⟩),
 (25, ⟨1, false, 24, [.slice none 0 0], .slice 27⟩),
 (26, ⟨4, true, 56, [.int .i64 0, .int .i64 0, .string ⟨#[]⟩, .slice none 0 0], .strct [(0, 3), (1, 3), (2, 9), (3, 25)]⟩),
 (27, ⟨4, true, 56, [.int .i64 0, .int .i64 0, .string ⟨#[]⟩, .slice none 0 0], .strct [(0, 3), (1, 3), (2, 9), (3, 25)]⟩),
 (28, ⟨1, false, 8, [.nilFunc], .func⟩),
 (29, ⟨1, false, 8, [.nilFunc], .func⟩),
 (30, ⟨1, false, 8, [.nilFunc], .func⟩),
 (31, ⟨1, false, 8, [.nilFunc], .func⟩),
 (32, ⟨1, false, 8, [.nilFunc], .func⟩),
 (34, ⟨1, false, 8, [.nilFunc], .func⟩),
 (35, ⟨1, false, 8, [.nilFunc], .func⟩),
 (36, ⟨1, false, 8, [.nilFunc], .func⟩),
 (37, ⟨1, false, 8, [.nilFunc], .func⟩),
 (38, ⟨1, false, 8, [.nilFunc], .func⟩),
 (39, ⟨1, false, 8, [.nilFunc], .func⟩),
 (40, ⟨1, false, 24, [.slice none 0 0], .slice 23⟩),
 (41, ⟨1, false, 8, [.nilFunc], .func⟩),
 (43, ⟨1, false, 8, [.nilFunc], .func⟩),
 (44, ⟨1, false, 8, [.nilFunc], .func⟩),
 (45, ⟨1, false, 8, [.nilFunc], .func⟩),
 (46, ⟨1, false, 8, [.nilFunc], .func⟩),
 (47, ⟨1, false, 24, [.slice none 0 0], .slice 53⟩),
 (49, ⟨1, false, 8, [.nilFunc], .func⟩),
 (50, ⟨1, false, 8, [.nilFunc], .func⟩),
 (51, ⟨1, false, 8, [.nilFunc], .func⟩),
 (52, ⟨2, true, 16, [.int .i64 0, .int .i64 0], .strct [(0, 3), (1, 3)]⟩),
 (53, ⟨2, true, 16, [.int .i64 0, .int .i64 0], .strct [(0, 3), (1, 3)]⟩),
 (54, ⟨1, false, 8, [.nilFunc], .func⟩),
 (55, ⟨5, true, 64, [.int .i64 0, .int .i64 0, .int .i64 0, .string ⟨#[]⟩, .slice none 0 0], .strct [(0, 3), (1, 27)]⟩),
 (56, ⟨5, true, 64, [.int .i64 0, .int .i64 0, .int .i64 0, .string ⟨#[]⟩, .slice none 0 0], .strct [(0, 3), (1, 27)]⟩),
 (57, ⟨1, false, 8, [.nilFunc], .func⟩),
 (59, ⟨1, false, 8, [.nilFunc], .func⟩),
 (60, ⟨1, false, 8, [.nilFunc], .func⟩),
 (62, ⟨1, false, 8, [.nilFunc], .func⟩),
 (63, ⟨1, false, 8, [.nilFunc], .func⟩),
 (64, ⟨1, false, 24, [.slice none 0 0], .slice 3⟩),
 (65, ⟨1, false, 8, [.nilFunc], .func⟩),
 (66, ⟨1, false, 8, [.nilFunc], .func⟩),
 (67, ⟨1, false, 8, [.nilFunc], .func⟩),
 (68, ⟨1, false, 24, [.slice none 0 0], .slice 75⟩),
 (70, ⟨1, false, 8, [.nilFunc], .func⟩),
 (71, ⟨1, false, 8, [.nilFunc], .func⟩),
 (72, ⟨1, false, 8, [.nilFunc], .func⟩),
 (73, ⟨1, false, 8, [.nilFunc], .func⟩),
 (74, ⟨2, true, 24, [.int .i64 0, .string ⟨#[]⟩], .strct [(0, 3), (1, 9)]⟩),
 (75, ⟨2, true, 24, [.int .i64 0, .string ⟨#[]⟩], .strct [(0, 3), (1, 9)]⟩),
 (76, ⟨1, false, 8, [.nilFunc], .func⟩),
 (77, ⟨1, false, 8, [.nilFunc], .func⟩),
 (78, ⟨1, false, 8, [.nilFunc], .func⟩),
 (80, ⟨1, false, 8, [.nilFunc], .func⟩),
 (81, ⟨1, false, 8, [.nilFunc], .func⟩),
 (82, ⟨1, false, 8, [.nilFunc], .func⟩),
 (83, ⟨1, false, 8, [.pointer none], .ptr 121⟩),
 (84, ⟨1, false, 8, [.nilFunc], .func⟩),
 (85, ⟨1, false, 8, [.nilFunc], .func⟩),
 (86, ⟨1, false, 8, [.nilFunc], .func⟩),
 (87, ⟨1, false, 8, [.nilFunc], .func⟩),
 (88, ⟨1, false, 8, [.nilFunc], .func⟩),
 (89, ⟨1, false, 8, [.nilFunc], .func⟩),
 (90, ⟨1, false, 8, [.nilFunc], .func⟩),
 (91, ⟨1, false, 8, [.nilFunc], .func⟩),
 (92, ⟨1, false, 8, [.nilFunc], .func⟩),
 (93, ⟨1, false, 8, [.nilFunc], .func⟩),
 (94, ⟨1, false, 8, [.nilFunc], .func⟩),
 (95, ⟨1, false, 8, [.nilFunc], .func⟩),
 (96, ⟨1, false, 8, [.nilFunc], .func⟩),
 (97, ⟨1, false, 8, [.nilFunc], .func⟩),
 (98, ⟨1, false, 8, [.nilFunc], .func⟩),
 (99, ⟨1, false, 8, [.nilFunc], .func⟩),
 (100, ⟨1, false, 8, [.nilFunc], .func⟩),
 (101, ⟨1, false, 8, [.nilFunc], .func⟩),
 (102, ⟨1, false, 8, [.nilFunc], .func⟩),
 (103, ⟨1, false, 8, [.nilFunc], .func⟩),
 (104, ⟨1, false, 8, [.nilFunc], .func⟩),
 (105, ⟨1, false, 8, [.map none], .map 3 3⟩),
 (106, ⟨1, false, 8, [.nilFunc], .func⟩),
 (107, ⟨1, false, 8, [.nilFunc], .func⟩),
 (108, ⟨1, false, 8, [.nilFunc], .func⟩),
 (109, ⟨1, false, 8, [.map none], .map 3 4⟩),
 (110, ⟨1, false, 8, [.nilFunc], .func⟩),
 (111, ⟨1, false, 8, [.nilFunc], .func⟩),
 (112, ⟨1, false, 8, [.map none], .map 75 4⟩),
 (113, ⟨1, false, 8, [.nilFunc], .func⟩),
 (115, ⟨1, false, 8, [.nilFunc], .func⟩),
 (116, ⟨1, false, 8, [.nilFunc], .func⟩),
 (117, ⟨1, false, 8, [.nilFunc], .func⟩),
 (118, ⟨1, false, 8, [.nilFunc], .func⟩),
 (119, ⟨1, false, 8, [.nilFunc], .func⟩),
 (120, ⟨3, true, 40, [.slice none 0 0, .int .i64 0, .int .i64 0], .strct [(0, 22), (1, 3), (2, 3)]⟩),
 (121, ⟨3, true, 40, [.slice none 0 0, .int .i64 0, .int .i64 0], .strct [(0, 22), (1, 3), (2, 3)]⟩),
 (122, ⟨1, false, 8, [.int .u64 0], .int .u64⟩),
 (123, ⟨1, false, 8, [.nilFunc], .func⟩),
 (124, ⟨1, false, 8, [.pointer none], .ptr 153⟩),
 (125, ⟨1, false, 8, [.nilFunc], .func⟩),
 (126, ⟨1, false, 8, [.nilFunc], .func⟩),
 (127, ⟨1, false, 8, [.nilFunc], .func⟩),
 (128, ⟨1, false, 8, [.nilFunc], .func⟩),
 (129, ⟨1, false, 8, [.nilFunc], .func⟩),
 (130, ⟨1, false, 8, [.nilFunc], .func⟩),
 (131, ⟨1, false, 8, [.nilFunc], .func⟩),
 (133, ⟨1, false, 8, [.int .u64 0], .int .u64⟩),
 (134, ⟨3, true, 24, [.pointer none, .pointer none, .int .u64 0], .strct [(0, 17), (1, 132), (2, 133)]⟩),
 (135, ⟨3, true, 24, [.pointer none, .pointer none, .int .u64 0], .strct [(0, 17), (1, 132), (2, 133)]⟩),
 (136, ⟨1, false, 8, [.nilFunc], .func⟩),
 (137, ⟨1, false, 8, [.nilFunc], .func⟩),
 (138, ⟨1, false, 8, [.nilFunc], .func⟩),
 (139, ⟨1, false, 8, [.nilFunc], .func⟩),
 (140, ⟨2, true, 16, [.nilFunc, .nilFunc], .strct [(0, 101), (1, 137)]⟩),
 (141, ⟨2, true, 16, [.nilFunc, .nilFunc], .strct [(0, 101), (1, 137)]⟩),
 (142, ⟨1, false, 8, [.nilFunc], .func⟩),
 (143, ⟨1, false, 8, [.nilFunc], .func⟩),
 (144, ⟨1, false, 8, [.nilFunc], .func⟩),
 (145, ⟨1, false, 8, [.nilFunc], .func⟩),
 (146, ⟨1, false, 8, [.nilFunc], .func⟩),
 (147, ⟨1, false, 8, [.map none], .map 3 27⟩),
 (148, ⟨1, false, 8, [.nilFunc], .func⟩),
 (149, ⟨1, false, 8, [.nilFunc], .func⟩),
 (150, ⟨1, false, 8, [.nilFunc], .func⟩),
 (151, ⟨1, false, 24, [.slice none 0 0], .slice 9⟩),
 (152, ⟨6, true, 48, [.map none, .map none, .map none, .map none, .map none, .map none], .strct [(0, 105), (1, 147), (2, 109), (3, 105), (4, 105), (5, 147)]⟩),
 (153, ⟨6, true, 48, [.map none, .map none, .map none, .map none, .map none, .map none], .strct [(0, 105), (1, 147), (2, 109), (3, 105), (4, 105), (5, 147)]⟩),
 (155, ⟨1, false, 8, [.nilFunc], .func⟩),
 (156, ⟨1, false, 8, [.nilFunc], .func⟩),
 (157, ⟨1, true, 8, [.pointer none], .strct [(0, 17)]⟩),
 (158, ⟨1, true, 8, [.pointer none], .strct [(0, 17)]⟩),
 (159, ⟨1, false, 8, [.pointer none], .ptr 210⟩),
 (160, ⟨1, false, 8, [.nilFunc], .func⟩),
 (161, ⟨1, false, 8, [.nilFunc], .func⟩),
 (162, ⟨1, false, 8, [.nilFunc], .func⟩),
 (163, ⟨1, false, 4, [.int .u32 0], .int .u32⟩),
 (164, ⟨1, false, 8, [.nilFunc], .func⟩),
 (165, ⟨1, false, 8, [.int .u64 0], .int .u64⟩),
 (166, ⟨1, false, 8, [.int .i64 0], .int .i64⟩),
 (168, ⟨1, false, 8, [.nilFunc], .func⟩),
 (169, ⟨1, false, 8, [.nilFunc], .func⟩),
 (170, ⟨1, false, 8, [.nilFunc], .func⟩),
 (171, ⟨1, false, 8, [.nilFunc], .func⟩),
 (172, ⟨1, false, 8, [.nilFunc], .func⟩),
 (173, ⟨1, false, 8, [.int .u64 0], .int .u64⟩),
 (174, ⟨1, false, 8, [.nilFunc], .func⟩),
 (175, ⟨1, false, 8, [.nilFunc], .func⟩),
 (176, ⟨1, false, 8, [.nilFunc], .func⟩),
 (177, ⟨1, false, 8, [.pointer none], .ptr 3⟩),
 (178, ⟨1, false, 8, [.nilFunc], .func⟩),
 (179, ⟨1, false, 8, [.nilFunc], .func⟩),
 (180, ⟨1, false, 8, [.pointer none], .ptr 173⟩),
 (182, ⟨1, false, 8, [.nilFunc], .func⟩),
 (183, ⟨1, false, 8, [.nilFunc], .func⟩),
 (184, ⟨1, false, 8, [.int .i64 0], .int .i64⟩),
 (186, ⟨1, false, 8, [.nilFunc], .func⟩),
 (187, ⟨1, false, 8, [.nilFunc], .func⟩),
 (188, ⟨1, false, 8, [.nilFunc], .func⟩),
 (189, ⟨1, false, 8, [.nilFunc], .func⟩),
 (190, ⟨1, false, 8, [.int .u64 0], .int .u64⟩),
 (191, ⟨1, false, 8, [.nilFunc], .func⟩),
 (192, ⟨1, false, 8, [.nilFunc], .func⟩),
 (193, ⟨1, false, 8, [.pointer none], .ptr 190⟩),
 (194, ⟨1, false, 8, [.nilFunc], .func⟩),
 (195, ⟨1, false, 8, [.nilFunc], .func⟩),
 (196, ⟨4, true, 40, [.pointer none, .pointer none, .pointer none, .string ⟨#[]⟩], .strct [(0, 17), (1, 17), (2, 17), (3, 9)]⟩),
 (197, ⟨4, true, 40, [.pointer none, .pointer none, .pointer none, .string ⟨#[]⟩], .strct [(0, 17), (1, 17), (2, 17), (3, 9)]⟩),
 (199, ⟨0, true, 0, [], .strct [(0, 198)]⟩),
 (200, ⟨0, true, 0, [], .strct [(0, 198)]⟩),
 (201, ⟨1, false, 1, [.int .u8 0], .int .u8⟩),
 (202, ⟨1, false, 1, [.int .u8 0], .int .u8⟩),
 (203, ⟨1, false, 8, [.nilFunc], .func⟩),
 (204, ⟨1, false, 8, [.pointer none], .ptr 5⟩),
 (205, ⟨1, false, 4, [.int .i32 0], .int .i32⟩),
 (206, ⟨1, false, 4, [.int .i32 0], .int .i32⟩),
 (207, ⟨11, true, 48, [.int .u64 0, .int .u64 0, .int .u32 0, .int .u8 0, .int .u8 0, .int .u8 0, .int .u8 0, .nilFunc, .pointer none, .int .i32 0, .int .i32 0], .strct [(0, 12), (1, 12), (2, 163), (3, 201), (4, 5), (5, 5), (6, 202), (7, 203), (8, 204), (9, 205), (10, 206)]⟩),
 (208, ⟨11, true, 48, [.int .u64 0, .int .u64 0, .int .u32 0, .int .u8 0, .int .u8 0, .int .u8 0, .int .u8 0, .nilFunc, .pointer none, .int .i32 0, .int .i32 0], .strct [(0, 12), (1, 12), (2, 163), (3, 201), (4, 5), (5, 5), (6, 202), (7, 203), (8, 204), (9, 205), (10, 206)]⟩),
 (209, ⟨2, true, 24, [.string ⟨#[]⟩, .int .u8 0], .strct [(0, 9), (1, 202)]⟩),
 (210, ⟨2, true, 24, [.string ⟨#[]⟩, .int .u8 0], .strct [(0, 9), (1, 202)]⟩)]
theorem ti1 : TIok Try.prog 1 ⟨1, false, 8, [.nilFunc], .func⟩ := ⟨by kernel_rfl, by kernel_rfl, by kernel_rfl, rfl, by kernel_rfl, trivial⟩
theorem ti2 : TIok Try.prog 2 ⟨1, false, 8, [.int .i64 0], .int .i64⟩ := ⟨by kernel_rfl, by kernel_rfl, by kernel_rfl, rfl, by kernel_rfl, by show _ = _; kernel_rfl⟩
theorem ti3 : TIok Try.prog 3 ⟨1, false, 8, [.int .i64 0], .int .i64⟩ := ⟨by kernel_rfl, by kernel_rfl, by kernel_rfl, rfl, by kernel_rfl, by show _ = _; kernel_rfl⟩
theorem ti4 : TIok Try.prog 4 ⟨1, false, 1, [.bool false], .bool⟩ := ⟨by kernel_rfl, by kernel_rfl, by kernel_rfl, rfl, by kernel_rfl, by show _ = _; kernel_rfl⟩
theorem ti5 : TIok Try.prog 5 ⟨1, false, 1, [.int .u8 0], .int .u8⟩ := ⟨by kernel_rfl, by kernel_rfl, by kernel_rfl, rfl, by kernel_rfl, by show _ = _; kernel_rfl⟩
theorem ti6 : TIok Try.prog 6 ⟨1, false, 1, [.int .u8 0], .int .u8⟩ := ⟨by kernel_rfl, by kernel_rfl, by kernel_rfl, rfl, by kernel_rfl, by show _ = _; kernel_rfl⟩
theorem ti7 : TIok Try.prog 7 ⟨4, true, 24, [.int .i64 0, .int .i64 0, .bool false, .int .u8 0], .strct [(0, 2), (1, 3), (2, 4), (3, 6)]⟩ := ⟨by kernel_rfl, by kernel_rfl, by kernel_rfl, rfl, by kernel_rfl, ⟨by kernel_rfl, by kernel_rfl⟩⟩
theorem ti8 : TIok Try.prog 8 ⟨4, true, 24, [.int .i64 0, .int .i64 0, .bool false, .int .u8 0], .strct [(0, 2), (1, 3), (2, 4), (3, 6)]⟩ := ⟨by kernel_rfl, by kernel_rfl, by kernel_rfl, rfl, by kernel_rfl, ⟨by kernel_rfl, by kernel_rfl⟩⟩
theorem ti9 : TIok Try.prog 9 ⟨1, false, 16, [.string ⟨#[]⟩], .str⟩ := ⟨by kernel_rfl, by kernel_rfl, by kernel_rfl, rfl, by kernel_rfl, by show _ = _; kernel_rfl⟩
theorem ti10 : TIok Try.prog 10 ⟨1, false, 16, [.string ⟨#[]⟩], .str⟩ := ⟨by kernel_rfl, by kernel_rfl, by kernel_rfl, rfl, by kernel_rfl, by show _ = _; kernel_rfl⟩
theorem ti11 : TIok Try.prog 11 ⟨1, false, 16, [.string ⟨#[]⟩], .str⟩ := ⟨by kernel_rfl, by kernel_rfl, by kernel_rfl, rfl, by kernel_rfl, by show _ = _; kernel_rfl⟩
theorem ti12 : TIok Try.prog 12 ⟨1, false, 8, [.int .u64 0], .int .u64⟩ := ⟨by kernel_rfl, by kernel_rfl, by kernel_rfl, rfl, by kernel_rfl, by show _ = _; kernel_rfl⟩
theorem ti13 : TIok Try.prog 13 ⟨2, true, 24, [.string ⟨#[]⟩, .int .u64 0], .strct [(0, 9), (1, 12)]⟩ := ⟨by kernel_rfl, by kernel_rfl, by kernel_rfl, rfl, by kernel_rfl, ⟨by kernel_rfl, by kernel_rfl⟩⟩
theorem ti14 : TIok Try.prog 14 ⟨2, true, 24, [.string ⟨#[]⟩, .int .u64 0], .strct [(0, 9), (1, 12)]⟩ := ⟨by kernel_rfl, by kernel_rfl, by kernel_rfl, rfl, by kernel_rfl, ⟨by kernel_rfl, by kernel_rfl⟩⟩
theorem ti15 : TIok Try.prog 15 ⟨1, false, 8, [.pointer none], .ptr 197⟩ := ⟨by kernel_rfl, by kernel_rfl, by kernel_rfl, rfl, by kernel_rfl, by show _ = _; kernel_rfl⟩
theorem ti16 : TIok Try.prog 16 ⟨1, false, 8, [.pointer none], .ptr 200⟩ := ⟨by kernel_rfl, by kernel_rfl, by kernel_rfl, rfl, by kernel_rfl, by show _ = _; kernel_rfl⟩
theorem ti17 : TIok Try.prog 17 ⟨1, false, 8, [.pointer none], .ptr 208⟩ := ⟨by kernel_rfl, by kernel_rfl, by kernel_rfl, rfl, by kernel_rfl, by show _ = _; kernel_rfl⟩
theorem ti18 : TIok Try.prog 18 ⟨1, true, 8, [.pointer none], .strct [(0, 17)]⟩ := ⟨by kernel_rfl, by kernel_rfl, by kernel_rfl, rfl, by kernel_rfl, ⟨by kernel_rfl, by kernel_rfl⟩⟩
theorem ti19 : TIok Try.prog 19 ⟨1, true, 8, [.pointer none], .strct [(0, 17)]⟩ := ⟨by kernel_rfl, by kernel_rfl, by kernel_rfl, rfl, by kernel_rfl, ⟨by kernel_rfl, by kernel_rfl⟩⟩
theorem ti20 : TIok Try.prog 20 ⟨1, false, 16, [.nilIface], .iface⟩ := ⟨by kernel_rfl, by kernel_rfl, by kernel_rfl, rfl, by kernel_rfl, trivial⟩
theorem ti21 : TIok Try.prog 21 ⟨1, false, 4, [.int .i32 0], .int .i32⟩ := ⟨by kernel_rfl, by kernel_rfl, by kernel_rfl, rfl, by kernel_rfl, by show _ = _; kernel_rfl⟩
theorem ti22 : TIok Try.prog 22 ⟨1, false, 24, [.slice none 0 0], .slice 5⟩ := ⟨by kernel_rfl, by kernel_rfl, by kernel_rfl, rfl, by kernel_rfl, by show _ = _; kernel_rfl⟩
theorem ti23 : TIok Try.prog 23 ⟨1, false, 24, [.slice none 0 0], .slice 56⟩ := ⟨by kernel_rfl, by kernel_rfl, by kernel_rfl, rfl, by kernel_rfl, by show _ = _; kernel_rfl⟩
theorem ti24 : TIok Try.prog 24 ⟨1, false, 8, [.nilFunc], .func⟩ := ⟨by kernel_rfl, by kernel_rfl, by kernel_rfl, rfl, by kernel_rfl, trivial⟩
theorem ti25 : TIok Try.prog 25 ⟨1, false, 24, [.slice none 0 0], .slice 27⟩ := ⟨by kernel_rfl, by kernel_rfl, by kernel_rfl, rfl, by kernel_rfl, by show _ = _; kernel_rfl⟩
theorem ti26 : TIok Try.prog 26 ⟨4, true, 56, [.int .i64 0, .int .i64 0, .string ⟨#[]⟩, .slice none 0 0], .strct [(0, 3), (1, 3), (2, 9), (3, 25)]⟩ := ⟨by kernel_rfl, by kernel_rfl, by kernel_rfl, rfl, by kernel_rfl, ⟨by kernel_rfl, by kernel_rfl⟩⟩
theorem ti27 : TIok Try.prog 27 ⟨4, true, 56, [.int .i64 0, .int .i64 0, .string ⟨#[]⟩, .slice none 0 0], .strct [(0, 3), (1, 3), (2, 9), (3, 25)]⟩ := ⟨by kernel_rfl, by kernel_rfl, by kernel_rfl, rfl, by kernel_rfl, ⟨by kernel_rfl, by kernel_rfl⟩⟩
theorem ti28 : TIok Try.prog 28 ⟨1, false, 8, [.nilFunc], .func⟩ := ⟨by kernel_rfl, by kernel_rfl, by kernel_rfl, rfl, by kernel_rfl, trivial⟩
theorem ti29 : TIok Try.prog 29 ⟨1, false, 8, [.nilFunc], .func⟩ := ⟨by kernel_rfl, by kernel_rfl, by kernel_rfl, rfl, by kernel_rfl, trivial⟩
theorem ti30 : TIok Try.prog 30 ⟨1, false, 8, [.nilFunc], .func⟩ := ⟨by kernel_rfl, by kernel_rfl, by kernel_rfl, rfl, by kernel_rfl, trivial⟩
theorem ti31 : TIok Try.prog 31 ⟨1, false, 8, [.nilFunc], .func⟩ := ⟨by kernel_rfl, by kernel_rfl, by kernel_rfl, rfl, by kernel_rfl, trivial⟩
theorem ti32 : TIok Try.prog 32 ⟨1, false, 8, [.nilFunc], .func⟩ := ⟨by kernel_rfl, by kernel_rfl, by kernel_rfl, rfl, by kernel_rfl, trivial⟩
theorem ti34 : TIok Try.prog 34 ⟨1, false, 8, [.nilFunc], .func⟩ := ⟨by kernel_rfl, by kernel_rfl, by kernel_rfl, rfl, by kernel_rfl, trivial⟩
theorem ti35 : TIok Try.prog 35 ⟨1, false, 8, [.nilFunc], .func⟩ := ⟨by kernel_rfl, by kernel_rfl, by kernel_rfl, rfl, by kernel_rfl, trivial⟩
theorem ti36 : TIok Try.prog 36 ⟨1, false, 8, [.nilFunc], .func⟩ := ⟨by kernel_rfl, by kernel_rfl, by kernel_rfl, rfl, by kernel_rfl, trivial⟩
theorem ti37 : TIok Try.prog 37 ⟨1, false, 8, [.nilFunc], .func⟩ := ⟨by kernel_rfl, by kernel_rfl, by kernel_rfl, rfl, by kernel_rfl, trivial⟩
theorem ti38 : TIok Try.prog 38 ⟨1, false, 8, [.nilFunc], .func⟩ := ⟨by kernel_rfl, by kernel_rfl, by kernel_rfl, rfl, by kernel_rfl, trivial⟩
theorem ti39 : TIok Try.prog 39 ⟨1, false, 8, [.nilFunc], .func⟩ := ⟨by kernel_rfl, by kernel_rfl, by kernel_rfl, rfl, by kernel_rfl, trivial⟩
theorem ti40 : TIok Try.prog 40 ⟨1, false, 24, [.slice none 0 0], .slice 23⟩ := ⟨by kernel_rfl, by kernel_rfl, by kernel_rfl, rfl, by kernel_rfl, by show _ = _; kernel_rfl⟩
theorem ti41 : TIok Try.prog 41 ⟨1, false, 8, [.nilFunc], .func⟩ := ⟨by kernel_rfl, by kernel_rfl, by kernel_rfl, rfl, by kernel_rfl, trivial⟩
theorem ti43 : TIok Try.prog 43 ⟨1, false, 8, [.nilFunc], .func⟩ := ⟨by kernel_rfl, by kernel_rfl, by kernel_rfl, rfl, by kernel_rfl, trivial⟩
theorem ti44 : TIok Try.prog 44 ⟨1, false, 8, [.nilFunc], .func⟩ := ⟨by kernel_rfl, by kernel_rfl, by kernel_rfl, rfl, by kernel_rfl, trivial⟩
theorem ti45 : TIok Try.prog 45 ⟨1, false, 8, [.nilFunc], .func⟩ := ⟨by kernel_rfl, by kernel_rfl, by kernel_rfl, rfl, by kernel_rfl, trivial⟩
theorem ti46 : TIok Try.prog 46 ⟨1, false, 8, [.nilFunc], .func⟩ := ⟨by kernel_rfl, by kernel_rfl, by kernel_rfl, rfl, by kernel_rfl, trivial⟩
theorem ti47 : TIok Try.prog 47 ⟨1, false, 24, [.slice none 0 0], .slice 53⟩ := ⟨by kernel_rfl, by kernel_rfl, by kernel_rfl, rfl, by kernel_rfl, by show _ = _; kernel_rfl⟩
theorem ti49 : TIok Try.prog 49 ⟨1, false, 8, [.nilFunc], .func⟩ := ⟨by kernel_rfl, by kernel_rfl, by kernel_rfl, rfl, by kernel_rfl, trivial⟩
theorem ti50 : TIok Try.prog 50 ⟨1, false, 8, [.nilFunc], .func⟩ := ⟨by kernel_rfl, by kernel_rfl, by kernel_rfl, rfl, by kernel_rfl, trivial⟩
theorem ti51 : TIok Try.prog 51 ⟨1, false, 8, [.nilFunc], .func⟩ := ⟨by kernel_rfl, by kernel_rfl, by kernel_rfl, rfl, by kernel_rfl, trivial⟩
theorem ti52 : TIok Try.prog 52 ⟨2, true, 16, [.int .i64 0, .int .i64 0], .strct [(0, 3), (1, 3)]⟩ := ⟨by kernel_rfl, by kernel_rfl, by kernel_rfl, rfl, by kernel_rfl, ⟨by kernel_rfl, by kernel_rfl⟩⟩
theorem ti53 : TIok Try.prog 53 ⟨2, true, 16, [.int .i64 0, .int .i64 0], .strct [(0, 3), (1, 3)]⟩ := ⟨by kernel_rfl, by kernel_rfl, by kernel_rfl, rfl, by kernel_rfl, ⟨by kernel_rfl, by kernel_rfl⟩⟩
theorem ti54 : TIok Try.prog 54 ⟨1, false, 8, [.nilFunc], .func⟩ := ⟨by kernel_rfl, by kernel_rfl, by kernel_rfl, rfl, by kernel_rfl, trivial⟩
theorem ti55 : TIok Try.prog 55 ⟨5, true, 64, [.int .i64 0, .int .i64 0, .int .i64 0, .string ⟨#[]⟩, .slice none 0 0], .strct [(0, 3), (1, 27)]⟩ := ⟨by kernel_rfl, by kernel_rfl, by kernel_rfl, rfl, by kernel_rfl, ⟨by kernel_rfl, by kernel_rfl⟩⟩
theorem ti56 : TIok Try.prog 56 ⟨5, true, 64, [.int .i64 0, .int .i64 0, .int .i64 0, .string ⟨#[]⟩, .slice none 0 0], .strct [(0, 3), (1, 27)]⟩ := ⟨by kernel_rfl, by kernel_rfl, by kernel_rfl, rfl, by kernel_rfl, ⟨by kernel_rfl, by kernel_rfl⟩⟩
theorem ti57 : TIok Try.prog 57 ⟨1, false, 8, [.nilFunc], .func⟩ := ⟨by kernel_rfl, by kernel_rfl, by kernel_rfl, rfl, by kernel_rfl, trivial⟩
theorem ti59 : TIok Try.prog 59 ⟨1, false, 8, [.nilFunc], .func⟩ := ⟨by kernel_rfl, by kernel_rfl, by kernel_rfl, rfl, by kernel_rfl, trivial⟩
theorem ti60 : TIok Try.prog 60 ⟨1, false, 8, [.nilFunc], .func⟩ := ⟨by kernel_rfl, by kernel_rfl, by kernel_rfl, rfl, by kernel_rfl, trivial⟩
theorem ti62 : TIok Try.prog 62 ⟨1, false, 8, [.nilFunc], .func⟩ := ⟨by kernel_rfl, by kernel_rfl, by kernel_rfl, rfl, by kernel_rfl, trivial⟩
theorem ti63 : TIok Try.prog 63 ⟨1, false, 8, [.nilFunc], .func⟩ := ⟨by kernel_rfl, by kernel_rfl, by kernel_rfl, rfl, by kernel_rfl, trivial⟩
theorem ti64 : TIok Try.prog 64 ⟨1, false, 24, [.slice none 0 0], .slice 3⟩ := ⟨by kernel_rfl, by kernel_rfl, by kernel_rfl, rfl, by kernel_rfl, by show _ = _; kernel_rfl⟩
theorem ti65 : TIok Try.prog 65 ⟨1, false, 8, [.nilFunc], .func⟩ := ⟨by kernel_rfl, by kernel_rfl, by kernel_rfl, rfl, by kernel_rfl, trivial⟩
theorem ti66 : TIok Try.prog 66 ⟨1, false, 8, [.nilFunc], .func⟩ := ⟨by kernel_rfl, by kernel_rfl, by kernel_rfl, rfl, by kernel_rfl, trivial⟩
theorem ti67 : TIok Try.prog 67 ⟨1, false, 8, [.nilFunc], .func⟩ := ⟨by kernel_rfl, by kernel_rfl, by kernel_rfl, rfl, by kernel_rfl, trivial⟩
theorem ti68 : TIok Try.prog 68 ⟨1, false, 24, [.slice none 0 0], .slice 75⟩ := ⟨by kernel_rfl, by kernel_rfl, by kernel_rfl, rfl, by kernel_rfl, by show _ = _; kernel_rfl⟩
theorem ti70 : TIok Try.prog 70 ⟨1, false, 8, [.nilFunc], .func⟩ := ⟨by kernel_rfl, by kernel_rfl, by kernel_rfl, rfl, by kernel_rfl, trivial⟩
theorem ti71 : TIok Try.prog 71 ⟨1, false, 8, [.nilFunc], .func⟩ := ⟨by kernel_rfl, by kernel_rfl, by kernel_rfl, rfl, by kernel_rfl, trivial⟩
theorem ti72 : TIok Try.prog 72 ⟨1, false, 8, [.nilFunc], .func⟩ := ⟨by kernel_rfl, by kernel_rfl, by kernel_rfl, rfl, by kernel_rfl, trivial⟩
theorem ti73 : TIok Try.prog 73 ⟨1, false, 8, [.nilFunc], .func⟩ := ⟨by kernel_rfl, by kernel_rfl, by kernel_rfl, rfl, by kernel_rfl, trivial⟩
theorem ti74 : TIok Try.prog 74 ⟨2, true, 24, [.int .i64 0, .string ⟨#[]⟩], .strct [(0, 3), (1, 9)]⟩ := ⟨by kernel_rfl, by kernel_rfl, by kernel_rfl, rfl, by kernel_rfl, ⟨by kernel_rfl, by kernel_rfl⟩⟩
theorem ti75 : TIok Try.prog 75 ⟨2, true, 24, [.int .i64 0, .string ⟨#[]⟩], .strct [(0, 3), (1, 9)]⟩ := ⟨by kernel_rfl, by kernel_rfl, by kernel_rfl, rfl, by kernel_rfl, ⟨by kernel_rfl, by kernel_rfl⟩⟩
theorem ti76 : TIok Try.prog 76 ⟨1, false, 8, [.nilFunc], .func⟩ := ⟨by kernel_rfl, by kernel_rfl, by kernel_rfl, rfl, by kernel_rfl, trivial⟩
theorem ti77 : TIok Try.prog 77 ⟨1, false, 8, [.nilFunc], .func⟩ := ⟨by kernel_rfl, by kernel_rfl, by kernel_rfl, rfl, by kernel_rfl, trivial⟩
theorem ti78 : TIok Try.prog 78 ⟨1, false, 8, [.nilFunc], .func⟩ := ⟨by kernel_rfl, by kernel_rfl, by kernel_rfl, rfl, by kernel_rfl, trivial⟩
theorem ti80 : TIok Try.prog 80 ⟨1, false, 8, [.nilFunc], .func⟩ := ⟨by kernel_rfl, by kernel_rfl, by kernel_rfl, rfl, by kernel_rfl, trivial⟩
theorem ti81 : TIok Try.prog 81 ⟨1, false, 8, [.nilFunc], .func⟩ := ⟨by kernel_rfl, by kernel_rfl, by kernel_rfl, rfl, by kernel_rfl, trivial⟩
theorem ti82 : TIok Try.prog 82 ⟨1, false, 8, [.nilFunc], .func⟩ := ⟨by kernel_rfl, by kernel_rfl, by kernel_rfl, rfl, by kernel_rfl, trivial⟩
theorem ti83 : TIok Try.prog 83 ⟨1, false, 8, [.pointer none], .ptr 121⟩ := ⟨by kernel_rfl, by kernel_rfl, by kernel_rfl, rfl, by kernel_rfl, by show _ = _; kernel_rfl⟩
theorem ti84 : TIok Try.prog 84 ⟨1, false, 8, [.nilFunc], .func⟩ := ⟨by kernel_rfl, by kernel_rfl, by kernel_rfl, rfl, by kernel_rfl, trivial⟩
theorem ti85 : TIok Try.prog 85 ⟨1, false, 8, [.nilFunc], .func⟩ := ⟨by kernel_rfl, by kernel_rfl, by kernel_rfl, rfl, by kernel_rfl, trivial⟩
theorem ti86 : TIok Try.prog 86 ⟨1, false, 8, [.nilFunc], .func⟩ := ⟨by kernel_rfl, by kernel_rfl, by kernel_rfl, rfl, by kernel_rfl, trivial⟩
theorem ti87 : TIok Try.prog 87 ⟨1, false, 8, [.nilFunc], .func⟩ := ⟨by kernel_rfl, by kernel_rfl, by kernel_rfl, rfl, by kernel_rfl, trivial⟩
theorem ti88 : TIok Try.prog 88 ⟨1, false, 8, [.nilFunc], .func⟩ := ⟨by kernel_rfl, by kernel_rfl, by kernel_rfl, rfl, by kernel_rfl, trivial⟩
theorem ti89 : TIok Try.prog 89 ⟨1, false, 8, [.nilFunc], .func⟩ := ⟨by kernel_rfl, by kernel_rfl, by kernel_rfl, rfl, by kernel_rfl, trivial⟩
theorem ti90 : TIok Try.prog 90 ⟨1, false, 8, [.nilFunc], .func⟩ := ⟨by kernel_rfl, by kernel_rfl, by kernel_rfl, rfl, by kernel_rfl, trivial⟩
theorem ti91 : TIok Try.prog 91 ⟨1, false, 8, [.nilFunc], .func⟩ := ⟨by kernel_rfl, by kernel_rfl, by kernel_rfl, rfl, by kernel_rfl, trivial⟩
theorem ti92 : TIok Try.prog 92 ⟨1, false, 8, [.nilFunc], .func⟩ := ⟨by kernel_rfl, by kernel_rfl, by kernel_rfl, rfl, by kernel_rfl, trivial⟩
theorem ti93 : TIok Try.prog 93 ⟨1, false, 8, [.nilFunc], .func⟩ := ⟨by kernel_rfl, by kernel_rfl, by kernel_rfl, rfl, by kernel_rfl, trivial⟩
theorem ti94 : TIok Try.prog 94 ⟨1, false, 8, [.nilFunc], .func⟩ := ⟨by kernel_rfl, by kernel_rfl, by kernel_rfl, rfl, by kernel_rfl, trivial⟩
theorem ti95 : TIok Try.prog 95 ⟨1, false, 8, [.nilFunc], .func⟩ := ⟨by kernel_rfl, by kernel_rfl, by kernel_rfl, rfl, by kernel_rfl, trivial⟩
theorem ti96 : TIok Try.prog 96 ⟨1, false, 8, [.nilFunc], .func⟩ := ⟨by kernel_rfl, by kernel_rfl, by kernel_rfl, rfl, by kernel_rfl, trivial⟩
theorem ti97 : TIok Try.prog 97 ⟨1, false, 8, [.nilFunc], .func⟩ := ⟨by kernel_rfl, by kernel_rfl, by kernel_rfl, rfl, by kernel_rfl, trivial⟩
theorem ti98 : TIok Try.prog 98 ⟨1, false, 8, [.nilFunc], .func⟩ := ⟨by kernel_rfl, by kernel_rfl, by kernel_rfl, rfl, by kernel_rfl, trivial⟩
theorem ti99 : TIok Try.prog 99 ⟨1, false, 8, [.nilFunc], .func⟩ := ⟨by kernel_rfl, by kernel_rfl, by kernel_rfl, rfl, by kernel_rfl, trivial⟩
theorem ti100 : TIok Try.prog 100 ⟨1, false, 8, [.nilFunc], .func⟩ := ⟨by kernel_rfl, by kernel_rfl, by kernel_rfl, rfl, by kernel_rfl, trivial⟩
theorem ti101 : TIok Try.prog 101 ⟨1, false, 8, [.nilFunc], .func⟩ := ⟨by kernel_rfl, by kernel_rfl, by kernel_rfl, rfl, by kernel_rfl, trivial⟩
theorem ti102 : TIok Try.prog 102 ⟨1, false, 8, [.nilFunc], .func⟩ := ⟨by kernel_rfl, by kernel_rfl, by kernel_rfl, rfl, by kernel_rfl, trivial⟩
theorem ti103 : TIok Try.prog 103 ⟨1, false, 8, [.nilFunc], .func⟩ := ⟨by kernel_rfl, by kernel_rfl, by kernel_rfl, rfl, by kernel_rfl, trivial⟩
theorem ti104 : TIok Try.prog 104 ⟨1, false, 8, [.nilFunc], .func⟩ := ⟨by kernel_rfl, by kernel_rfl, by kernel_rfl, rfl, by kernel_rfl, trivial⟩
theorem ti105 : TIok Try.prog 105 ⟨1, false, 8, [.map none], .map 3 3⟩ := ⟨by kernel_rfl, by kernel_rfl, by kernel_rfl, rfl, by kernel_rfl, by show _ = _; kernel_rfl⟩
theorem ti106 : TIok Try.prog 106 ⟨1, false, 8, [.nilFunc], .func⟩ := ⟨by kernel_rfl, by kernel_rfl, by kernel_rfl, rfl, by kernel_rfl, trivial⟩
theorem ti107 : TIok Try.prog 107 ⟨1, false, 8, [.nilFunc], .func⟩ := ⟨by kernel_rfl, by kernel_rfl, by kernel_rfl, rfl, by kernel_rfl, trivial⟩
theorem ti108 : TIok Try.prog 108 ⟨1, false, 8, [.nilFunc], .func⟩ := ⟨by kernel_rfl, by kernel_rfl, by kernel_rfl, rfl, by kernel_rfl, trivial⟩
theorem ti109 : TIok Try.prog 109 ⟨1, false, 8, [.map none], .map 3 4⟩ := ⟨by kernel_rfl, by kernel_rfl, by kernel_rfl, rfl, by kernel_rfl, by show _ = _; kernel_rfl⟩
theorem ti110 : TIok Try.prog 110 ⟨1, false, 8, [.nilFunc], .func⟩ := ⟨by kernel_rfl, by kernel_rfl, by kernel_rfl, rfl, by kernel_rfl, trivial⟩
theorem ti111 : TIok Try.prog 111 ⟨1, false, 8, [.nilFunc], .func⟩ := ⟨by kernel_rfl, by kernel_rfl, by kernel_rfl, rfl, by kernel_rfl, trivial⟩
theorem ti112 : TIok Try.prog 112 ⟨1, false, 8, [.map none], .map 75 4⟩ := ⟨by kernel_rfl, by kernel_rfl, by kernel_rfl, rfl, by kernel_rfl, by show _ = _; kernel_rfl⟩
theorem ti113 : TIok Try.prog 113 ⟨1, false, 8, [.nilFunc], .func⟩ := ⟨by kernel_rfl, by kernel_rfl, by kernel_rfl, rfl, by kernel_rfl, trivial⟩
theorem ti115 : TIok Try.prog 115 ⟨1, false, 8, [.nilFunc], .func⟩ := ⟨by kernel_rfl, by kernel_rfl, by kernel_rfl, rfl, by kernel_rfl, trivial⟩
theorem ti116 : TIok Try.prog 116 ⟨1, false, 8, [.nilFunc], .func⟩ := ⟨by kernel_rfl, by kernel_rfl, by kernel_rfl, rfl, by kernel_rfl, trivial⟩
theorem ti117 : TIok Try.prog 117 ⟨1, false, 8, [.nilFunc], .func⟩ := ⟨by kernel_rfl, by kernel_rfl, by kernel_rfl, rfl, by kernel_rfl, trivial⟩
theorem ti118 : TIok Try.prog 118 ⟨1, false, 8, [.nilFunc], .func⟩ := ⟨by kernel_rfl, by kernel_rfl, by kernel_rfl, rfl, by kernel_rfl, trivial⟩
theorem ti119 : TIok Try.prog 119 ⟨1, false, 8, [.nilFunc], .func⟩ := ⟨by kernel_rfl, by kernel_rfl, by kernel_rfl, rfl, by kernel_rfl, trivial⟩
theorem ti120 : TIok Try.prog 120 ⟨3, true, 40, [.slice none 0 0, .int .i64 0, .int .i64 0], .strct [(0, 22), (1, 3), (2, 3)]⟩ := ⟨by kernel_rfl, by kernel_rfl, by kernel_rfl, rfl, by kernel_rfl, ⟨by kernel_rfl, by kernel_rfl⟩⟩
theorem ti121 : TIok Try.prog 121 ⟨3, true, 40, [.slice none 0 0, .int .i64 0, .int .i64 0], .strct [(0, 22), (1, 3), (2, 3)]⟩ := ⟨by kernel_rfl, by kernel_rfl, by kernel_rfl, rfl, by kernel_rfl, ⟨by kernel_rfl, by kernel_rfl⟩⟩
theorem ti122 : TIok Try.prog 122 ⟨1, false, 8, [.int .u64 0], .int .u64⟩ := ⟨by kernel_rfl, by kernel_rfl, by kernel_rfl, rfl, by kernel_rfl, by show _ = _; kernel_rfl⟩
theorem ti123 : TIok Try.prog 123 ⟨1, false, 8, [.nilFunc], .func⟩ := ⟨by kernel_rfl, by kernel_rfl, by kernel_rfl, rfl, by kernel_rfl, trivial⟩
theorem ti124 : TIok Try.prog 124 ⟨1, false, 8, [.pointer none], .ptr 153⟩ := ⟨by kernel_rfl, by kernel_rfl, by kernel_rfl, rfl, by kernel_rfl, by show _ = _; kernel_rfl⟩
theorem ti125 : TIok Try.prog 125 ⟨1, false, 8, [.nilFunc], .func⟩ := ⟨by kernel_rfl, by kernel_rfl, by kernel_rfl, rfl, by kernel_rfl, trivial⟩
theorem ti126 : TIok Try.prog 126 ⟨1, false, 8, [.nilFunc], .func⟩ := ⟨by kernel_rfl, by kernel_rfl, by kernel_rfl, rfl, by kernel_rfl, trivial⟩
theorem ti127 : TIok Try.prog 127 ⟨1, false, 8, [.nilFunc], .func⟩ := ⟨by kernel_rfl, by kernel_rfl, by kernel_rfl, rfl, by kernel_rfl, trivial⟩
theorem ti128 : TIok Try.prog 128 ⟨1, false, 8, [.nilFunc], .func⟩ := ⟨by kernel_rfl, by kernel_rfl, by kernel_rfl, rfl, by kernel_rfl, trivial⟩
theorem ti129 : TIok Try.prog 129 ⟨1, false, 8, [.nilFunc], .func⟩ := ⟨by kernel_rfl, by kernel_rfl, by kernel_rfl, rfl, by kernel_rfl, trivial⟩
theorem ti130 : TIok Try.prog 130 ⟨1, false, 8, [.nilFunc], .func⟩ := ⟨by kernel_rfl, by kernel_rfl, by kernel_rfl, rfl, by kernel_rfl, trivial⟩
theorem ti131 : TIok Try.prog 131 ⟨1, false, 8, [.nilFunc], .func⟩ := ⟨by kernel_rfl, by kernel_rfl, by kernel_rfl, rfl, by kernel_rfl, trivial⟩
theorem ti133 : TIok Try.prog 133 ⟨1, false, 8, [.int .u64 0], .int .u64⟩ := ⟨by kernel_rfl, by kernel_rfl, by kernel_rfl, rfl, by kernel_rfl, by show _ = _; kernel_rfl⟩
theorem ti134 : TIok Try.prog 134 ⟨3, true, 24, [.pointer none, .pointer none, .int .u64 0], .strct [(0, 17), (1, 132), (2, 133)]⟩ := ⟨by kernel_rfl, by kernel_rfl, by kernel_rfl, rfl, by kernel_rfl, ⟨by kernel_rfl, by kernel_rfl⟩⟩
theorem ti135 : TIok Try.prog 135 ⟨3, true, 24, [.pointer none, .pointer none, .int .u64 0], .strct [(0, 17), (1, 132), (2, 133)]⟩ := ⟨by kernel_rfl, by kernel_rfl, by kernel_rfl, rfl, by kernel_rfl, ⟨by kernel_rfl, by kernel_rfl⟩⟩
theorem ti136 : TIok Try.prog 136 ⟨1, false, 8, [.nilFunc], .func⟩ := ⟨by kernel_rfl, by kernel_rfl, by kernel_rfl, rfl, by kernel_rfl, trivial⟩
theorem ti137 : TIok Try.prog 137 ⟨1, false, 8, [.nilFunc], .func⟩ := ⟨by kernel_rfl, by kernel_rfl, by kernel_rfl, rfl, by kernel_rfl, trivial⟩
theorem ti138 : TIok Try.prog 138 ⟨1, false, 8, [.nilFunc], .func⟩ := ⟨by kernel_rfl, by kernel_rfl, by kernel_rfl, rfl, by kernel_rfl, trivial⟩
theorem ti139 : TIok Try.prog 139 ⟨1, false, 8, [.nilFunc], .func⟩ := ⟨by kernel_rfl, by kernel_rfl, by kernel_rfl, rfl, by kernel_rfl, trivial⟩
theorem ti140 : TIok Try.prog 140 ⟨2, true, 16, [.nilFunc, .nilFunc], .strct [(0, 101), (1, 137)]⟩ := ⟨by kernel_rfl, by kernel_rfl, by kernel_rfl, rfl, by kernel_rfl, ⟨by kernel_rfl, by kernel_rfl⟩⟩
theorem ti141 : TIok Try.prog 141 ⟨2, true, 16, [.nilFunc, .nilFunc], .strct [(0, 101), (1, 137)]⟩ := ⟨by kernel_rfl, by kernel_rfl, by kernel_rfl, rfl, by kernel_rfl, ⟨by kernel_rfl, by kernel_rfl⟩⟩
theorem ti142 : TIok Try.prog 142 ⟨1, false, 8, [.nilFunc], .func⟩ := ⟨by kernel_rfl, by kernel_rfl, by kernel_rfl, rfl, by kernel_rfl, trivial⟩
theorem ti143 : TIok Try.prog 143 ⟨1, false, 8, [.nilFunc], .func⟩ := ⟨by kernel_rfl, by kernel_rfl, by kernel_rfl, rfl, by kernel_rfl, trivial⟩
theorem ti144 : TIok Try.prog 144 ⟨1, false, 8, [.nilFunc], .func⟩ := ⟨by kernel_rfl, by kernel_rfl, by kernel_rfl, rfl, by kernel_rfl, trivial⟩
theorem ti145 : TIok Try.prog 145 ⟨1, false, 8, [.nilFunc], .func⟩ := ⟨by kernel_rfl, by kernel_rfl, by kernel_rfl, rfl, by kernel_rfl, trivial⟩
theorem ti146 : TIok Try.prog 146 ⟨1, false, 8, [.nilFunc], .func⟩ := ⟨by kernel_rfl, by kernel_rfl, by kernel_rfl, rfl, by kernel_rfl, trivial⟩
theorem ti147 : TIok Try.prog 147 ⟨1, false, 8, [.map none], .map 3 27⟩ := ⟨by kernel_rfl, by kernel_rfl, by kernel_rfl, rfl, by kernel_rfl, by show _ = _; kernel_rfl⟩
theorem ti148 : TIok Try.prog 148 ⟨1, false, 8, [.nilFunc], .func⟩ := ⟨by kernel_rfl, by kernel_rfl, by kernel_rfl, rfl, by kernel_rfl, trivial⟩
theorem ti149 : TIok Try.prog 149 ⟨1, false, 8, [.nilFunc], .func⟩ := ⟨by kernel_rfl, by kernel_rfl, by kernel_rfl, rfl, by kernel_rfl, trivial⟩
theorem ti150 : TIok Try.prog 150 ⟨1, false, 8, [.nilFunc], .func⟩ := ⟨by kernel_rfl, by kernel_rfl, by kernel_rfl, rfl, by kernel_rfl, trivial⟩
theorem ti151 : TIok Try.prog 151 ⟨1, false, 24, [.slice none 0 0], .slice 9⟩ := ⟨by kernel_rfl, by kernel_rfl, by kernel_rfl, rfl, by kernel_rfl, by show _ = _; kernel_rfl⟩
theorem ti152 : TIok Try.prog 152 ⟨6, true, 48, [.map none, .map none, .map none, .map none, .map none, .map none], .strct [(0, 105), (1, 147), (2, 109), (3, 105), (4, 105), (5, 147)]⟩ := ⟨by kernel_rfl, by kernel_rfl, by kernel_rfl, rfl, by kernel_rfl, ⟨by kernel_rfl, by kernel_rfl⟩⟩
theorem ti153 : TIok Try.prog 153 ⟨6, true, 48, [.map none, .map none, .map none, .map none, .map none, .map none], .strct [(0, 105), (1, 147), (2, 109), (3, 105), (4, 105), (5, 147)]⟩ := ⟨by kernel_rfl, by kernel_rfl, by kernel_rfl, rfl, by kernel_rfl, ⟨by kernel_rfl, by kernel_rfl⟩⟩
theorem ti155 : TIok Try.prog 155 ⟨1, false, 8, [.nilFunc], .func⟩ := ⟨by kernel_rfl, by kernel_rfl, by kernel_rfl, rfl, by kernel_rfl, trivial⟩
theorem ti156 : TIok Try.prog 156 ⟨1, false, 8, [.nilFunc], .func⟩ := ⟨by kernel_rfl, by kernel_rfl, by kernel_rfl, rfl, by kernel_rfl, trivial⟩
theorem ti157 : TIok Try.prog 157 ⟨1, true, 8, [.pointer none], .strct [(0, 17)]⟩ := ⟨by kernel_rfl, by kernel_rfl, by kernel_rfl, rfl, by kernel_rfl, ⟨by kernel_rfl, by kernel_rfl⟩⟩
theorem ti158 : TIok Try.prog 158 ⟨1, true, 8, [.pointer none], .strct [(0, 17)]⟩ := ⟨by kernel_rfl, by kernel_rfl, by kernel_rfl, rfl, by kernel_rfl, ⟨by kernel_rfl, by kernel_rfl⟩⟩
theorem ti159 : TIok Try.prog 159 ⟨1, false, 8, [.pointer none], .ptr 210⟩ := ⟨by kernel_rfl, by kernel_rfl, by kernel_rfl, rfl, by kernel_rfl, by show _ = _; kernel_rfl⟩
theorem ti160 : TIok Try.prog 160 ⟨1, false, 8, [.nilFunc], .func⟩ := ⟨by kernel_rfl, by kernel_rfl, by kernel_rfl, rfl, by kernel_rfl, trivial⟩
theorem ti161 : TIok Try.prog 161 ⟨1, false, 8, [.nilFunc], .func⟩ := ⟨by kernel_rfl, by kernel_rfl, by kernel_rfl, rfl, by kernel_rfl, trivial⟩
theorem ti162 : TIok Try.prog 162 ⟨1, false, 8, [.nilFunc], .func⟩ := ⟨by kernel_rfl, by kernel_rfl, by kernel_rfl, rfl, by kernel_rfl, trivial⟩
theorem ti163 : TIok Try.prog 163 ⟨1, false, 4, [.int .u32 0], .int .u32⟩ := ⟨by kernel_rfl, by kernel_rfl, by kernel_rfl, rfl, by kernel_rfl, by show _ = _; kernel_rfl⟩
theorem ti164 : TIok Try.prog 164 ⟨1, false, 8, [.nilFunc], .func⟩ := ⟨by kernel_rfl, by kernel_rfl, by kernel_rfl, rfl, by kernel_rfl, trivial⟩
theorem ti165 : TIok Try.prog 165 ⟨1, false, 8, [.int .u64 0], .int .u64⟩ := ⟨by kernel_rfl, by kernel_rfl, by kernel_rfl, rfl, by kernel_rfl, by show _ = _; kernel_rfl⟩
theorem ti166 : TIok Try.prog 166 ⟨1, false, 8, [.int .i64 0], .int .i64⟩ := ⟨by kernel_rfl, by kernel_rfl, by kernel_rfl, rfl, by kernel_rfl, by show _ = _; kernel_rfl⟩
theorem ti168 : TIok Try.prog 168 ⟨1, false, 8, [.nilFunc], .func⟩ := ⟨by kernel_rfl, by kernel_rfl, by kernel_rfl, rfl, by kernel_rfl, trivial⟩
theorem ti169 : TIok Try.prog 169 ⟨1, false, 8, [.nilFunc], .func⟩ := ⟨by kernel_rfl, by kernel_rfl, by kernel_rfl, rfl, by kernel_rfl, trivial⟩
theorem ti170 : TIok Try.prog 170 ⟨1, false, 8, [.nilFunc], .func⟩ := ⟨by kernel_rfl, by kernel_rfl, by kernel_rfl, rfl, by kernel_rfl, trivial⟩
theorem ti171 : TIok Try.prog 171 ⟨1, false, 8, [.nilFunc], .func⟩ := ⟨by kernel_rfl, by kernel_rfl, by kernel_rfl, rfl, by kernel_rfl, trivial⟩
theorem ti172 : TIok Try.prog 172 ⟨1, false, 8, [.nilFunc], .func⟩ := ⟨by kernel_rfl, by kernel_rfl, by kernel_rfl, rfl, by kernel_rfl, trivial⟩
theorem ti173 : TIok Try.prog 173 ⟨1, false, 8, [.int .u64 0], .int .u64⟩ := ⟨by kernel_rfl, by kernel_rfl, by kernel_rfl, rfl, by kernel_rfl, by show _ = _; kernel_rfl⟩
theorem ti174 : TIok Try.prog 174 ⟨1, false, 8, [.nilFunc], .func⟩ := ⟨by kernel_rfl, by kernel_rfl, by kernel_rfl, rfl, by kernel_rfl, trivial⟩
theorem ti175 : TIok Try.prog 175 ⟨1, false, 8, [.nilFunc], .func⟩ := ⟨by kernel_rfl, by kernel_rfl, by kernel_rfl, rfl, by kernel_rfl, trivial⟩
theorem ti176 : TIok Try.prog 176 ⟨1, false, 8, [.nilFunc], .func⟩ := ⟨by kernel_rfl, by kernel_rfl, by kernel_rfl, rfl, by kernel_rfl, trivial⟩
theorem ti177 : TIok Try.prog 177 ⟨1, false, 8, [.pointer none], .ptr 3⟩ := ⟨by kernel_rfl, by kernel_rfl, by kernel_rfl, rfl, by kernel_rfl, by show _ = _; kernel_rfl⟩
theorem ti178 : TIok Try.prog 178 ⟨1, false, 8, [.nilFunc], .func⟩ := ⟨by kernel_rfl, by kernel_rfl, by kernel_rfl, rfl, by kernel_rfl, trivial⟩
theorem ti179 : TIok Try.prog 179 ⟨1, false, 8, [.nilFunc], .func⟩ := ⟨by kernel_rfl, by kernel_rfl, by kernel_rfl, rfl, by kernel_rfl, trivial⟩
theorem ti180 : TIok Try.prog 180 ⟨1, false, 8, [.pointer none], .ptr 173⟩ := ⟨by kernel_rfl, by kernel_rfl, by kernel_rfl, rfl, by kernel_rfl, by show _ = _; kernel_rfl⟩
theorem ti182 : TIok Try.prog 182 ⟨1, false, 8, [.nilFunc], .func⟩ := ⟨by kernel_rfl, by kernel_rfl, by kernel_rfl, rfl, by kernel_rfl, trivial⟩
theorem ti183 : TIok Try.prog 183 ⟨1, false, 8, [.nilFunc], .func⟩ := ⟨by kernel_rfl, by kernel_rfl, by kernel_rfl, rfl, by kernel_rfl, trivial⟩
theorem ti184 : TIok Try.prog 184 ⟨1, false, 8, [.int .i64 0], .int .i64⟩ := ⟨by kernel_rfl, by kernel_rfl, by kernel_rfl, rfl, by kernel_rfl, by show _ = _; kernel_rfl⟩
theorem ti186 : TIok Try.prog 186 ⟨1, false, 8, [.nilFunc], .func⟩ := ⟨by kernel_rfl, by kernel_rfl, by kernel_rfl, rfl, by kernel_rfl, trivial⟩
theorem ti187 : TIok Try.prog 187 ⟨1, false, 8, [.nilFunc], .func⟩ := ⟨by kernel_rfl, by kernel_rfl, by kernel_rfl, rfl, by kernel_rfl, trivial⟩
theorem ti188 : TIok Try.prog 188 ⟨1, false, 8, [.nilFunc], .func⟩ := ⟨by kernel_rfl, by kernel_rfl, by kernel_rfl, rfl, by kernel_rfl, trivial⟩
theorem ti189 : TIok Try.prog 189 ⟨1, false, 8, [.nilFunc], .func⟩ := ⟨by kernel_rfl, by kernel_rfl, by kernel_rfl, rfl, by kernel_rfl, trivial⟩
theorem ti190 : TIok Try.prog 190 ⟨1, false, 8, [.int .u64 0], .int .u64⟩ := ⟨by kernel_rfl, by kernel_rfl, by kernel_rfl, rfl, by kernel_rfl, by show _ = _; kernel_rfl⟩
theorem ti191 : TIok Try.prog 191 ⟨1, false, 8, [.nilFunc], .func⟩ := ⟨by kernel_rfl, by kernel_rfl, by kernel_rfl, rfl, by kernel_rfl, trivial⟩
theorem ti192 : TIok Try.prog 192 ⟨1, false, 8, [.nilFunc], .func⟩ := ⟨by kernel_rfl, by kernel_rfl, by kernel_rfl, rfl, by kernel_rfl, trivial⟩
theorem ti193 : TIok Try.prog 193 ⟨1, false, 8, [.pointer none], .ptr 190⟩ := ⟨by kernel_rfl, by kernel_rfl, by kernel_rfl, rfl, by kernel_rfl, by show _ = _; kernel_rfl⟩
theorem ti194 : TIok Try.prog 194 ⟨1, false, 8, [.nilFunc], .func⟩ := ⟨by kernel_rfl, by kernel_rfl, by kernel_rfl, rfl, by kernel_rfl, trivial⟩
theorem ti195 : TIok Try.prog 195 ⟨1, false, 8, [.nilFunc], .func⟩ := ⟨by kernel_rfl, by kernel_rfl, by kernel_rfl, rfl, by kernel_rfl, trivial⟩
theorem ti196 : TIok Try.prog 196 ⟨4, true, 40, [.pointer none, .pointer none, .pointer none, .string ⟨#[]⟩], .strct [(0, 17), (1, 17), (2, 17), (3, 9)]⟩ := ⟨by kernel_rfl, by kernel_rfl, by kernel_rfl, rfl, by kernel_rfl, ⟨by kernel_rfl, by kernel_rfl⟩⟩
theorem ti197 : TIok Try.prog 197 ⟨4, true, 40, [.pointer none, .pointer none, .pointer none, .string ⟨#[]⟩], .strct [(0, 17), (1, 17), (2, 17), (3, 9)]⟩ := ⟨by kernel_rfl, by kernel_rfl, by kernel_rfl, rfl, by kernel_rfl, ⟨by kernel_rfl, by kernel_rfl⟩⟩
theorem ti199 : TIok Try.prog 199 ⟨0, true, 0, [], .strct [(0, 198)]⟩ := ⟨by kernel_rfl, by kernel_rfl, by kernel_rfl, rfl, by kernel_rfl, ⟨by kernel_rfl, by kernel_rfl⟩⟩
theorem ti200 : TIok Try.prog 200 ⟨0, true, 0, [], .strct [(0, 198)]⟩ := ⟨by kernel_rfl, by kernel_rfl, by kernel_rfl, rfl, by kernel_rfl, ⟨by kernel_rfl, by kernel_rfl⟩⟩
theorem ti201 : TIok Try.prog 201 ⟨1, false, 1, [.int .u8 0], .int .u8⟩ := ⟨by kernel_rfl, by kernel_rfl, by kernel_rfl, rfl, by kernel_rfl, by show _ = _; kernel_rfl⟩
theorem ti202 : TIok Try.prog 202 ⟨1, false, 1, [.int .u8 0], .int .u8⟩ := ⟨by kernel_rfl, by kernel_rfl, by kernel_rfl, rfl, by kernel_rfl, by show _ = _; kernel_rfl⟩
theorem ti203 : TIok Try.prog 203 ⟨1, false, 8, [.nilFunc], .func⟩ := ⟨by kernel_rfl, by kernel_rfl, by kernel_rfl, rfl, by kernel_rfl, trivial⟩
theorem ti204 : TIok Try.prog 204 ⟨1, false, 8, [.pointer none], .ptr 5⟩ := ⟨by kernel_rfl, by kernel_rfl, by kernel_rfl, rfl, by kernel_rfl, by show _ = _; kernel_rfl⟩
theorem ti205 : TIok Try.prog 205 ⟨1, false, 4, [.int .i32 0], .int .i32⟩ := ⟨by kernel_rfl, by kernel_rfl, by kernel_rfl, rfl, by kernel_rfl, by show _ = _; kernel_rfl⟩
theorem ti206 : TIok Try.prog 206 ⟨1, false, 4, [.int .i32 0], .int .i32⟩ := ⟨by kernel_rfl, by kernel_rfl, by kernel_rfl, rfl, by kernel_rfl, by show _ = _; kernel_rfl⟩
theorem ti207 : TIok Try.prog 207 ⟨11, true, 48, [.int .u64 0, .int .u64 0, .int .u32 0, .int .u8 0, .int .u8 0, .int .u8 0, .int .u8 0, .nilFunc, .pointer none, .int .i32 0, .int .i32 0], .strct [(0, 12), (1, 12), (2, 163), (3, 201), (4, 5), (5, 5), (6, 202), (7, 203), (8, 204), (9, 205), (10, 206)]⟩ := ⟨by kernel_rfl, by kernel_rfl, by kernel_rfl, rfl, by kernel_rfl, ⟨by kernel_rfl, by kernel_rfl⟩⟩
theorem ti208 : TIok Try.prog 208 ⟨11, true, 48, [.int .u64 0, .int .u64 0, .int .u32 0, .int .u8 0, .int .u8 0, .int .u8 0, .int .u8 0, .nilFunc, .pointer none, .int .i32 0, .int .i32 0], .strct [(0, 12), (1, 12), (2, 163), (3, 201), (4, 5), (5, 5), (6, 202), (7, 203), (8, 204), (9, 205), (10, 206)]⟩ := ⟨by kernel_rfl, by kernel_rfl, by kernel_rfl, rfl, by kernel_rfl, ⟨by kernel_rfl, by kernel_rfl⟩⟩
theorem ti209 : TIok Try.prog 209 ⟨2, true, 24, [.string ⟨#[]⟩, .int .u8 0], .strct [(0, 9), (1, 202)]⟩ := ⟨by kernel_rfl, by kernel_rfl, by kernel_rfl, rfl, by kernel_rfl, ⟨by kernel_rfl, by kernel_rfl⟩⟩
theorem ti210 : TIok Try.prog 210 ⟨2, true, 24, [.string ⟨#[]⟩, .int .u8 0], .strct [(0, 9), (1, 202)]⟩ := ⟨by kernel_rfl, by kernel_rfl, by kernel_rfl, rfl, by kernel_rfl, ⟨by kernel_rfl, by kernel_rfl⟩⟩
set_option maxRecDepth 100000 in
theorem ttok : TTok Try.prog tt := ⟨ti1, ti2, ti3, ti4, ti5, ti6, ti7, ti8, ti9, ti10, ti11, ti12, ti13, ti14, ti15, ti16, ti17, ti18, ti19, ti20, ti21, ti22, ti23, ti24, ti25, ti26, ti27, ti28, ti29, ti30, ti31, ti32, ti34, ti35, ti36, ti37, ti38, ti39, ti40, ti41, ti43, ti44, ti45, ti46, ti47, ti49, ti50, ti51, ti52, ti53, ti54, ti55, ti56, ti57, ti59, ti60, ti62, ti63, ti64, ti65, ti66, ti67, ti68, ti70, ti71, ti72, ti73, ti74, ti75, ti76, ti77, ti78, ti80, ti81, ti82, ti83, ti84, ti85, ti86, ti87, ti88, ti89, ti90, ti91, ti92, ti93, ti94, ti95, ti96, ti97, ti98, ti99, ti100, ti101, ti102, ti103, ti104, ti105, ti106, ti107, ti108, ti109, ti110, ti111, ti112, ti113, ti115, ti116, ti117, ti118, ti119, ti120, ti121, ti122, ti123, ti124, ti125, ti126, ti127, ti128, ti129, ti130, ti131, ti133, ti134, ti135, ti136, ti137, ti138, ti139, ti140, ti141, ti142, ti143, ti144, ti145, ti146, ti147, ti148, ti149, ti150, ti151, ti152, ti153, ti155, ti156, ti157, ti158, ti159, ti160, ti161, ti162, ti163, ti164, ti165, ti166, ti168, ti169, ti170, ti171, ti172, ti173, ti174, ti175, ti176, ti177, ti178, ti179, ti180, ti182, ti183, ti184, ti186, ti187, ti188, ti189, ti190, ti191, ti192, ti193, ti194, ti195, ti196, ti197, ti199, ti200, ti201, ti202, ti203, ti204, ti205, ti206, ti207, ti208, ti209, ti210, trivial⟩
end Go.Vx
namespace Go.Vx
open Go.Proofs Classical
theorem SpecH.mk (os : List Nat) {f : FuncId} {fn : Func} {args : List Value} {μ h0 : Mem} {R : Value → Mem → Mem → Prop} (hf : Try.prog.funcs[f]? = some fn) (hname : (fn.name == "runtime.NumGoroutine") = false) (h : vcFun Try.prog tt os fn args μ h0 R) : SpecH Try.prog f args μ h0 R :=
 SpecH.of (T := Try.checked) os ttok hf hname h
theorem Spec.mk {f : FuncId} {fn : Func} {args : List Value} {μ : Mem} {R : Value → Mem → Prop} (hf : Try.prog.funcs[f]? = some fn) (hname : (fn.name == "runtime.NumGoroutine") = false) (h : vcFun Try.prog tt [] fn args μ Mem.nil fun v μ' _ => R v μ') : Spec Try.prog f args μ R :=
 SpecH.of (T := Try.checked) [] ttok hf hname h
theorem Spec.mkO (os : List Nat) {f : FuncId} {fn : Func} {args : List Value} {μ : Mem} {R : Value → Mem → Prop} (hf : Try.prog.funcs[f]? = some fn) (hname : (fn.name == "runtime.NumGoroutine") = false) (h : vcFun Try.prog tt os fn args μ Mem.nil fun v μ' _ => R v μ') : Spec Try.prog f args μ R :=
 SpecH.of (T := Try.checked) os ttok hf hname h
theorem wrap64 {n : Int} (h1 : -9223372036854775808 ≤ n) (h2 : n < 9223372036854775808) : IntKind.i64.wrap n = n := by
 have e : IntKind.i64.bits = 64 := rfl
 have e2 : IntKind.i64.signed = true := rfl
 simp only [IntKind.wrap, e, e2, Bool.true_and]
 simp only [show (2 : Int) ^ 64 = 18446744073709551616 from rfl, show (2 : Int) ^ (64 - 1) = 9223372036854775808 from rfl]
 split <;> rename_i h <;> simp at h <;> omega
theorem num64 {n : Int} {K : Int → Prop} (h1 : -9223372036854775808 ≤ n) (h2 : n < 9223372036854775808) (k : K n) : numVC (IntKind.i64.wrap n) K := nEq (wrap64 h1 h2) k
theorem ifd {p : Prop} [d : Decidable p] {fr : Bool} {s : St} {A B : St → Prop} (h : p → A s) (k : ¬ p → B s) : ifVC fr (decide p) s A B := iIn (fun e => h (of_decide_eq_true e)) (fun e => k (of_decide_eq_false e))
theorem ifnd {p : Prop} [d : Decidable p] {fr : Bool} {s : St} {A B : St → Prop} (h : ¬ p → A s) (k : p → B s) : ifVC fr (!decide p) s A B := iIn (fun e => h (by simpa using e)) (fun e => k (by simpa using e))
abbrev Gives (P : Program) (f : FuncId) (args : List Value) (μ : Mem) (x : Value) : Prop := Spec P f args μ fun v μ' => v = x ∧ μ' = μ
theorem cGv {dr : Bool} {P : Program} {f : FuncId} {args : List Value} {s : St} {K : Value → St → Prop} {x : Value} (h : Gives P f args s.mem x) (k : K x s) : callVC dr P f args s K :=
 cPl h fun v μ' _ hR => by
  obtain ⟨rfl, rfl⟩ := hR
  cases s
  exact k
theorem rGv {s : St} {v x : Value} {μ : Mem} (h : v = x) (hm : s.mem = μ) : retVC s v fun v μ' _ => v = x ∧ μ' = μ := rPl ⟨h, hm⟩
def NmCh (first : Bool) (b : UInt8) : Prop := (97 ≤ b.toNat ∧ b.toNat ≤ 122) ∨ (first = false ∧ ((48 ≤ b.toNat ∧ b.toNat ≤ 57) ∨ b.toNat = 45))
def IsNm (s : ByteArray) : Prop := 1 ≤ s.size ∧ s.size ≤ 12 ∧ ∀ (i : Nat) b, s.data.toList[i]? = some b → NmCh (i == 0) b
theorem byte_some {s : ByteArray} {i : Nat} (h : i < s.size) : ∃ b, s.data.toList[i]? = some b := ⟨_, List.getElem?_eq_getElem (by simpa using h)⟩
theorem byte_lt {s : ByteArray} {i : Nat} {b : UInt8} (h : s.data.toList[i]? = some b) : i < s.size := by
 have := (List.getElem?_eq_some_iff.1 h).1
 simpa using this
theorem impl_IsName_spec (s : ByteArray) (μ : Mem) : Gives Try.prog 89 [.string s] μ (.bool (decide (IsNm s))) := by
 refine Spec.mk Try.func89 (by kernel_rfl) ?_
 refine ifd (fun h1 => rGv ?_ rfl) (fun h1 => ?_)
 ·have : ¬ IsNm s := fun h => by have := h.1; omega
  simp [this]
 refine ifd (fun h2 => rGv ?_ rfl) (fun h2 => ?_)
 ·have : ¬ IsNm s := fun h => by have := h.2.1; omega
  simp [this]
 have w_ := byte_some (s := s) (i := 0) (by omega)
 obtain ⟨b0, hb0⟩ := w_
 have bad : ∀ {i : Nat} {b}, s.data.toList[i]? = some b → ¬ NmCh (i == 0) b → Value.bool false = .bool (decide (IsNm s)) := fun {i b} h k => by
  have : ¬ IsNm s := fun g => k (g.2.2 i b h)
  simp [this]
 refine byte_intro 0 b0 rfl hb0 ?_
 refine ifd (fun h3 => rGv (bad hb0 (by simp [NmCh]; omega)) rfl) (fun h3 => ?_)
 refine byte_intro 0 b0 rfl hb0 ?_
 refine ifd (fun h4 => rGv (bad hb0 (by simp [NmCh]; omega)) rfl) (fun h4 => ?_)
 refine lIn (fun i : Nat => 1 ≤ i ∧ i ≤ s.size ∧ ∀ k b, k < i → s.data.toList[k]? = some b → NmCh (k == 0) b) (fun i => ⟨[(0, .val (.string s)), (3, .val (.int .i64 i))], [], 0, μ, Mem.nil⟩) (fun i => s.size - i)
  1 ⟨by omega, by omega, fun k b hk hb => ?_⟩ (fun i => ⟨rfl, rfl⟩) ⟨⟨rfl, rfl, trivial⟩, trivial, rfl, rfl⟩ ?_
 ·have : k = 0 := by omega
  subst this
  rw [hb0] at hb
  cases hb
  exact .inl ⟨by omega, by omega⟩
 rintro i ⟨hi1, hi2, hall⟩
 refine ifd (fun h5 => ?_) (fun h5 => rGv ?_ rfl)
 ·have w_ := byte_some (s := s) (i := i) (by omega)
  obtain ⟨b, hb⟩ := w_
  have hi0 : (i == 0) = false := by simp; omega
  have next : ((97 ≤ b.toNat ∧ b.toNat ≤ 122) ∨ (48 ≤ b.toNat ∧ b.toNat ≤ 57) ∨ b.toNat = 45) → ∀ k b', k < i + 1 → s.data.toList[k]? = some b' → NmCh (k == 0) b' := fun g k b' hk hb' => by
   by_cases e : k = i
   ·subst e; rw [hb] at hb'; cases hb'; rw [hi0]; exact g.imp id fun g => ⟨rfl, g⟩
   ·exact hall k b' (by omega) hb'
  have badb : ¬ ((97 ≤ b.toNat ∧ b.toNat ≤ 122) ∨ (48 ≤ b.toNat ∧ b.toNat ≤ 57) ∨ b.toNat = 45) → Value.bool false = .bool (decide (IsNm s)) := fun g => bad hb fun k => by
   rw [hi0] at k
   exact g (k.imp id fun k => k.2)
  repeat' (first
   | refine ifd (fun h => ?_) (fun h => ?_)
   | refine ifnd (fun h => ?_) (fun h => ?_)
   | refine iIn (fun h => ?_) (fun h => ?_)
   | refine num64 ?_ ?_ ?_
   | refine byte_intro _ _ rfl (by assumption) ?_)
  all_goals first
   | (refine rGv (badb ?_) rfl; omega)
   | exact ⟨i + 1, ⟨by omega, by omega, next (by omega)⟩, by omega, ⟨⟨rfl, rfl, trivial⟩, trivial, rfl, rfl⟩⟩
   | omega
 ·have : IsNm s := ⟨by omega, by omega, fun k b hb => hall k b (by have := byte_lt hb; omega) hb⟩
  simp [this]
theorem aSo {α : Type} {l : List α} {i : Nat} (h : i < l.length) : ∃ a, l[i]? = some a := ⟨_, List.getElem?_eq_getElem h⟩
end Go.Vx
namespace Go.Vx
open Go.Proofs
theorem und_bool : Try.prog.underlying 4 = some .bool := ti4.kind
theorem cellsOf_tt {P : Program} {t : TypeId} {i : TI} (h : TIok P t i) : P.cellsOf t = i.size := by
 obtain ⟨inf, hin, hs, _⟩ := h.info'
 simp [Program.cellsOf, hin, hs]
end Go.Vx
namespace Go.Vx
open Go.Proofs Classical
inductive Tm where
 | mk (kind num : Int) (name : ByteArray) (args : List Tm)
theorem Tm.ind {p : Tm → Prop} (h : ∀ k n s l, (∀ t ∈ l, p t) → p (.mk k n s l)) : ∀ t, p t
 | .mk k n s l => h k n s l fun t _ => Tm.ind h t
mutual
def Tm.d : Tm → D
 | .mk k n s l => .st [.i k, .i n, .s s, .sl 4 (Tm.ds l)]
def Tm.ds : List Tm → List D
 | [] => []
 | t :: r => t.d :: Tm.ds r
end
theorem Tm.ds_map : ∀ l : List Tm, Tm.ds l = l.map Tm.d
 | [] => rfl
 | t :: r => by simp [Tm.ds, Tm.ds_map r]
theorem Tm.d_mk (k n : Int) (s : ByteArray) (l : List Tm) : (Tm.mk k n s l).d = .st [.i k, .i n, .s s, .sl 4 (l.map Tm.d)] := by rw [Tm.d, Tm.ds_map]
theorem Tm.d_n (t : Tm) : t.d.n = 4 := by cases t; rfl
def Tm.kind : Tm → Int | .mk k _ _ _ => k
def Tm.num : Tm → Int | .mk _ n _ _ => n
def Tm.name : Tm → ByteArray | .mk _ _ s _ => s
def Tm.args : Tm → List Tm | .mk _ _ _ l => l
def Tm.cs (t : Tm) (p : Option Addr × Nat) : List Value := [.int .i64 t.kind, .int .i64 t.num, .string t.name, .slice p.1 t.args.length p.2]
section
variable {μ : Mem}
theorem Tm.invS {k n : Int} {s : ByteArray} {l : List Tm} {cs : List Value} (h : Rep μ (Tm.mk k n s l).d cs) : ∃ base cap, cs = [.int .i64 k, .int .i64 n, .string s, .slice base l.length cap] ∧ Sl μ 4 base l.length (l.map Tm.d) := by
 rw [Tm.d_mk] at h
 obtain ⟨c1, c2, rfl, rfl, c3, c4, rfl, rfl, c5, c6, rfl, rfl, c7, c8, rfl, h4, rfl⟩ := h
 have hl := Rep.len _ _ h4
 match c7, hl with
 | [v], _ =>
  obtain ⟨base, cap, rfl, hsl⟩ := h4.sl
  rw [List.length_map] at hsl
  exact ⟨base, cap, by simp, hsl⟩
theorem Tm.inv {k n : Int} {s : ByteArray} {l : List Tm} {v : Value} (h : RepV μ (Tm.mk k n s l).d v) : ∃ base cap, v = .agg #[.int .i64 k, .int .i64 n, .string s, .slice base l.length cap] ∧ Sl μ 4 base l.length (l.map Tm.d) := by
 have h' : ∃ cs, v = .agg (List.toArray cs) ∧ Rep μ (Tm.mk k n s l).d cs := by rw [Tm.d_mk] at h ⊢; exact h
 obtain ⟨cs, e, h2⟩ := h'
 have w_ := Tm.invS h2
 obtain ⟨base, cap, e2, hsl⟩ := w_
 exact ⟨base, cap, by rw [e, e2], hsl⟩
theorem Tm.rep {t : Tm} {cs : List Value} (h : Rep μ t.d cs) : RepV μ t.d (.agg cs.toArray) := by
 cases t; rw [Tm.d_mk] at h ⊢; exact ⟨cs, rfl, h⟩
theorem Tm.invV {t : Tm} {v : Value} (h : RepV μ t.d v) : ∃ p : Option Addr × Nat, v = .agg #[.int .i64 t.kind, .int .i64 t.num, .string t.name, .slice p.1 t.args.length p.2] := by
 cases t; obtain ⟨b, c, h, _⟩ := Tm.inv h; exact ⟨(b, c), h⟩
theorem Tm.elem {l : List Tm} {base : Option Addr} {n : Nat} (h : Sl μ 4 base n (l.map Tm.d)) {i : Nat} {t : Tm} (ht : l[i]? = some t) : ∃ ad, ∃ p : Option Addr × Nat, ElemAt μ base n 4 i ad (t.cs p) ∧ RepV μ t.d (.agg (t.cs p).toArray) := by
 have w_ := h.get i t.d (by simp [ht])
 obtain ⟨ad, cs, h1, h2⟩ := w_
 have h3 := Tm.rep h2
 cases t with
 | mk k n s l =>
  have w_ := Tm.invS h2
  obtain ⟨b, c, rfl, hsl⟩ := w_
  exact ⟨ad, (b, c), h1, h3⟩
end
end Go.Vx
namespace Go.Vx
open Go.Proofs Classical
structure Bd where
 var : Int
 to : Tm
def Bd.d (b : Bd) : D := .st [.i b.var, b.to.d]
theorem Bd.d_n (b : Bd) : b.d.n = 5 := by
 have := Tm.d_n b.to
 simp only [Bd.d, D.n, D.ns, this]
def Bd.cs (b : Bd) (p : Option Addr × Nat) : List Value := [.int .i64 b.var, .int .i64 b.to.kind, .int .i64 b.to.num, .string b.to.name, .slice p.1 b.to.args.length p.2]
section
variable {μ : Mem}
theorem Tm.invC {t : Tm} {cs : List Value} (h : Rep μ t.d cs) : ∃ p : Option Addr × Nat, cs = t.cs p := by
 cases t
 have w_ := Tm.invS h
 obtain ⟨b, c, h, _⟩ := w_
 exact ⟨(b, c), h⟩
theorem Bd.invS {b : Bd} {cs : List Value} (h : Rep μ b.d cs) : ∃ p : Option Addr × Nat, cs = b.cs p ∧ RepV μ b.to.d (.agg (b.to.cs p).toArray) := by
 obtain ⟨c1, c2, rfl, rfl, c3, c4, rfl, h3, rfl⟩ := h
 have w_ := Tm.invC h3
 obtain ⟨p, rfl⟩ := w_
 exact ⟨p, by simp [Bd.cs, Tm.cs], Tm.rep h3⟩
theorem Bd.inv {b : Bd} {v : Value} (h : RepV μ b.d v) : ∃ p : Option Addr × Nat, v = .agg #[.int .i64 b.var, .int .i64 b.to.kind, .int .i64 b.to.num, .string b.to.name, .slice p.1 b.to.args.length p.2] ∧ RepV μ b.to.d (.agg (b.to.cs p).toArray) := by
 obtain ⟨cs, rfl, h⟩ := h
 have w_ := Bd.invS (b := b) h
 obtain ⟨p, rfl, h2⟩ := w_
 exact ⟨p, rfl, h2⟩
theorem Bd.invV {b : Bd} {v : Value} (h : RepV μ b.d v) : ∃ p : Option Addr × Nat, v = .agg #[.int .i64 b.var, .int .i64 b.to.kind, .int .i64 b.to.num, .string b.to.name, .slice p.1 b.to.args.length p.2] := by
 have w_ := Bd.inv h
 obtain ⟨p, h, _⟩ := w_
 exact ⟨p, h⟩
theorem Bd.elem {l : List Bd} {base : Option Addr} {n : Nat} (h : Sl μ 5 base n (l.map Bd.d)) {i : Nat} {b : Bd} (hb : l[i]? = some b) : ∃ ad, ∃ p : Option Addr × Nat, ElemAt μ base n 5 i ad (b.cs p) ∧ RepV μ b.d (.agg (b.cs p).toArray) := by
 have w_ := h.get i b.d (by simp [hb])
 obtain ⟨ad, cs, h1, h2⟩ := w_
 have w_ := Bd.invS (b := b) h2
 obtain ⟨p, rfl, _⟩ := w_
 exact ⟨ad, p, h1, _, rfl, h2⟩
end
end Go.Vx
namespace Go.Vx
open Go.Proofs Classical
structure Marking (xs : List D) (k : Int) (rest : List Value) (r : Nat) (j : Nat) (pre tail : List Value) (hh : Mem) : Prop where
 le : j ≤ xs.length
 out : hh r = none
 parts : ∃ post hpre hpost, tail = post ++ rest ∧ Parts hh hpre hpost ∧ OwnS (D.mks (xs.take j) k).1 hpre pre ∧ OwnS (xs.drop j) hpost post
theorem Marking.len {xs : List D} {k : Int} {rest : List Value} {r : Nat} {j es : Nat} {pre tail : List Value} {hh : Mem} (m : Marking xs k rest r j pre tail hh) (hn : ∀ x ∈ xs, x.n = es) : pre.length = j * es := by
 obtain ⟨post, hpre, hpost, rfl, hp, o1, o2⟩ := m.parts
 rw [o1.len, D.mks_n, D.ns_eq (es := es) fun x hx => hn x (List.mem_of_mem_take hx), List.length_take, Nat.min_eq_left m.le]
theorem Marking.next {xs : List D} {k : Int} {rest : List Value} {r : Nat} {j : Nat} {pre tail : List Value} {hh : Mem} (M : Marking xs k rest r j pre tail hh) {x : D} (hx : xs[j]? = some x) :
  ∃ c g m c2, tail = c ++ (c2 ++ rest) ∧ Own x g c ∧ Parts hh g m ∧ m r = none ∧
   (∀ g' c', Apart g' m → g' r = none → Own (x.mk (D.mks (xs.take j) k).2).1 g' c' → Marking xs k rest r (j + 1) (pre ++ c') (c2 ++ rest) (g'.join m)) := by
 obtain ⟨post, hpre, hpost, rfl, hp, o1, o2⟩ := M.parts
 have hlt : j < xs.length := (List.getElem?_eq_some_iff.1 hx).1
 have hdrop : xs.drop j = x :: xs.drop (j + 1) := by
  rw [List.drop_eq_getElem_cons hlt]
  congr 1
  exact (List.getElem?_eq_some_iff.1 hx).2
 rw [hdrop] at o2
 obtain ⟨c, c2, g, g2, rfl, q, u1, u2⟩ := o2
 have w_ := hp.assoc q.symm
 obtain ⟨m, p1, p2⟩ := w_
 have hm : m r = none := by
  cases h : m r with
  | none => rfl
  | some o => have := p2.left r o h; rw [M.out] at this; cases this
 refine ⟨c, g, m, c2, by simp, u1, p2.symm, hm, fun g' c' ha hg ho => ⟨hlt, by rw [Mem.join_get, hg]; exact hm, c2, g'.join hpre, g2, rfl, ?_, ?_, u2⟩⟩
 ·have a1 : Apart g' hpre := fun b hb => by
   cases h : hpre b with
   | none => rfl
   | some o => have := ha b hb; rw [p1.left b o h] at this; cases this
  have w_ := (Parts.join ha).assoc p1
  obtain ⟨m2, q1, q2⟩ := w_
  have e := q1.is_join
  subst e
  exact q2
 ·rw [D.mks_take hx]
  refine OwnS.append (Parts.symm ?_) o1 (OwnS.last ho)
  refine Parts.join fun b hb => ?_
  cases h : hpre b with
  | none => rfl
  | some o => have := ha b hb; rw [p1.left b o h] at this; cases this
theorem Marking.cnt {xs : List D} {k : Int} {j : Nat} {x : D} (hx : xs[j]? = some x) : (D.mks (xs.take j) k).2 + x.cnt ≤ k + D.cnts xs := by
 have h1 := D.cnts_take xs (j + 1)
 rw [D.mks_cnt]
 rw [List.take_add_one, hx, Option.toList_some, D.cnts_append] at h1
 simp only [D.cnts] at h1
 omega
theorem Marking.last {xs : List D} {k : Int} {rest : List Value} {r : Nat} {pre tail : List Value} {hh : Mem} (M : Marking xs k rest r xs.length pre tail hh) : tail = rest ∧ OwnS (D.mks xs k).1 hh pre := by
 obtain ⟨post, hpre, hpost, rfl, hp, o1, o2⟩ := M.parts
 rw [List.drop_length] at o2
 obtain ⟨rfl, rfl⟩ := o2
 have w_ := hp.eq (Parts.nil_right _)
 obtain rfl := w_
 rw [List.take_length] at o1
 exact ⟨by simp, o1⟩
theorem Tm.own {t : Tm} {h : Mem} {cs : List Value} (k : Own t.d h cs) : ∃ v, cs = [.int .i64 t.kind, .int .i64 t.num, .string t.name, v] ∧ OwnV (.sl 4 (t.args.map Tm.d)) h v := by
 cases t with
 | mk kd n s l =>
  rw [Tm.d_mk] at k
  obtain ⟨c1, c2, h1, h2, rfl, p, ⟨rfl, rfl⟩, c3, c4, h3, h4, rfl, q, ⟨rfl, rfl⟩, c5, c6, h5, h6, rfl, t, ⟨rfl, rfl⟩, c7, c8, h7, h8, rfl, u, k7, rfl, rfl⟩ := k
  have w_ := p.eq (Parts.nil_left _)
  obtain rfl := w_
  have w_ := q.eq (Parts.nil_left _)
  obtain rfl := w_
  have w_ := t.eq (Parts.nil_left _)
  obtain rfl := w_
  have w_ := u.eq (Parts.nil_right _)
  obtain rfl := w_
  have hl := k7.len
  match c7, hl with
  | [v], _ => exact ⟨v, by simp [Tm.kind, Tm.num, Tm.name], k7⟩
theorem Tm.d_eq (t : Tm) : t.d = .st [.i t.kind, .i t.num, .s t.name, .sl 4 (t.args.map Tm.d)] := by
 cases t; exact Tm.d_mk _ _ _ _
section
variable {μ : Mem}
theorem Bd.own {b : Bd} {h : Mem} {cs : List Value} (k : Own b.d h cs) : ∃ v, cs = [.int .i64 b.var, .int .i64 b.to.kind, .int .i64 b.to.num, .string b.to.name, v] ∧ OwnV (.sl 4 (b.to.args.map Tm.d)) h v := by
 obtain ⟨c1, c2, h1, h2, rfl, p, ⟨rfl, rfl⟩, c3, c4, h3, h4, rfl, q, k3, rfl, rfl⟩ := k
 have w_ := p.eq (Parts.nil_left _)
 obtain rfl := w_
 have w_ := q.eq (Parts.nil_right _)
 obtain rfl := w_
 have w_ := Tm.own k3
 obtain ⟨v, rfl, hv⟩ := w_
 exact ⟨v, by simp, hv⟩
end
end Go.Vx
namespace Go.Vx
open Go.Proofs Classical
def Str.nil : ByteArray := ⟨#[]⟩
inductive T where
 | nil
 | var (n : Int)
 | sym (s : ByteArray)
 | num (n : Int)
 | pair (a b : T)
def T.tm : T → Tm
 | .nil => .mk 0 0 ⟨#[]⟩ []
 | .var n => .mk 1 n ⟨#[]⟩ []
 | .sym s => .mk 2 0 s []
 | .num n => .mk 3 n ⟨#[]⟩ []
 | .pair a b => .mk 4 0 ⟨#[]⟩ [a.tm, b.tm]
def T.good : T → Prop
 | .nil => True
 | .var n => 0 ≤ n ∧ n ≤ 100000
 | .sym s => IsNm s
 | .num n => -1000000000 ≤ n ∧ n ≤ 1000000000
 | .pair a b => a.good ∧ b.good
def T.size : T → Nat
 | .pair a b => 1 + a.size + b.size
 | .nil => 1
 | .var _ => 1
 | .sym _ => 1
 | .num _ => 1
def T.vars : T → List Int
 | .var n => [n]
 | .pair a b => a.vars ++ b.vars
 | .nil => []
 | .sym _ => []
 | .num _ => []
def T.ok (x : T) : Prop := x.good ∧ x.size ≤ 5000
mutual
def Tm.cnt : Tm → Nat
 | .mk _ _ _ l => 1 + Tm.cnts l
def Tm.cnts : List Tm → Nat
 | [] => 0
 | t :: r => t.cnt + Tm.cnts r
end
def Tm.Sh (t : Tm) : Prop := ∃ x : T, x.good ∧ x.tm = t
def Tm.Ok (t : Tm) : Prop := t.Sh ∧ t.cnt ≤ 5000
theorem T.cnt_tm : ∀ x : T, x.tm.cnt = x.size
 | .nil => rfl
 | .var _ => rfl
 | .sym _ => rfl
 | .num _ => rfl
 | .pair a b => by simp [T.tm, Tm.cnt, Tm.cnts, T.size, T.cnt_tm a, T.cnt_tm b]; omega
theorem Tm.cnt_pos (t : Tm) : 1 ≤ t.cnt := by cases t; simp [Tm.cnt]
theorem Tm.Ok.lift {t : Tm} (h : t.Ok) : ∃ x : T, x.ok ∧ t = x.tm := by
 obtain ⟨⟨x, h1, rfl⟩, h2⟩ := h
 rw [T.cnt_tm] at h2
 exact ⟨x, ⟨h1, h2⟩, rfl⟩
theorem T.ok.tm {x : T} (h : x.ok) : x.tm.Ok := ⟨⟨x, h.1, rfl⟩, by rw [T.cnt_tm]; exact h.2⟩
theorem Tm.Sh_iff (k n : Int) (s : ByteArray) (l : List Tm) : (Tm.mk k n s l).Sh ↔
  (k = 0 ∧ n = 0 ∧ s = ⟨#[]⟩ ∧ l = []) ∨ (k = 1 ∧ 0 ≤ n ∧ n ≤ 100000 ∧ s = ⟨#[]⟩ ∧ l = []) ∨ (k = 2 ∧ n = 0 ∧ IsNm s ∧ l = []) ∨ (k = 3 ∧ -1000000000 ≤ n ∧ n ≤ 1000000000 ∧ s = ⟨#[]⟩ ∧ l = []) ∨
  (k = 4 ∧ n = 0 ∧ s = ⟨#[]⟩ ∧ ∃ a b, l = [a, b] ∧ a.Sh ∧ b.Sh) := by
 constructor
 ·rintro ⟨x, hx, e⟩
  cases x <;> simp only [T.tm, Tm.mk.injEq] at e <;> obtain ⟨rfl, rfl, rfl, rfl⟩ := e <;> simp only [T.good] at hx
  ·simp
  ·right; left; simp [hx]
  ·right; right; left; simp [hx]
  ·right; right; right; left; simp [hx]
  ·right; right; right; right
   exact ⟨rfl, rfl, rfl, _, _, rfl, ⟨_, hx.1, rfl⟩, ⟨_, hx.2, rfl⟩⟩
 ·rintro (⟨rfl, rfl, rfl, rfl⟩ | ⟨rfl, h1, h2, rfl, rfl⟩ | ⟨rfl, rfl, h1, rfl⟩ | ⟨rfl, h1, h2, rfl, rfl⟩ | ⟨rfl, rfl, rfl, a, b, rfl, ⟨x, h1, rfl⟩, ⟨y, h2, rfl⟩⟩)
  ·exact ⟨.nil, trivial, rfl⟩
  ·exact ⟨.var n, ⟨h1, h2⟩, rfl⟩
  ·exact ⟨.sym s, h1, rfl⟩
  ·exact ⟨.num n, ⟨h1, h2⟩, rfl⟩
  ·exact ⟨.pair x y, ⟨h1, h2⟩, rfl⟩
theorem Tm.Sh_iff' (k n : Int) (s : ByteArray) (l : List Tm) : (Tm.mk k n s l).Sh ↔
  (k = 0 ∧ n = 0 ∧ s = ⟨#[]⟩ ∧ l.length = 0) ∨ (k = 1 ∧ 0 ≤ n ∧ n ≤ 100000 ∧ s = ⟨#[]⟩ ∧ l.length = 0) ∨ (k = 2 ∧ n = 0 ∧ IsNm s ∧ l.length = 0) ∨ (k = 3 ∧ -1000000000 ≤ n ∧ n ≤ 1000000000 ∧ s = ⟨#[]⟩ ∧ l.length = 0) ∨
  (k = 4 ∧ n = 0 ∧ s = ⟨#[]⟩ ∧ l.length = 2 ∧ ∃ a b, l = [a, b] ∧ a.Sh ∧ b.Sh) := by
 have h0 : l.length = 0 ↔ l = [] := List.length_eq_zero_iff
 have h2 : (l.length = 2 ∧ ∃ a b, l = [a, b] ∧ a.Sh ∧ b.Sh) ↔ ∃ a b, l = [a, b] ∧ a.Sh ∧ b.Sh := ⟨fun h => h.2, fun h => ⟨by obtain ⟨a, b, rfl, _⟩ := h; rfl, h⟩⟩
 rw [Tm.Sh_iff, h0, h2]
theorem isF {p : Prop} {_ : Decidable p} (h : ¬ p) : Value.bool false = .bool (decide p) := by rw [decide_eq_false h]
theorem isT {p : Prop} {_ : Decidable p} (h : p) : Value.bool true = .bool (decide p) := by rw [decide_eq_true h]
theorem isI {p q : Prop} {_ : Decidable p} {_ : Decidable q} (h : p ↔ q) : Value.bool (decide p) = .bool (decide q) := by simp only [h]
theorem two_of {α : Type} : ∀ {l : List α}, ((l.length : Nat) : Int) = 2 → ∃ a b, l = [a, b]
 | [a, b], _ => ⟨a, b, rfl⟩
 | [], h => by simp at h
 | [_], h => by simp at h
 | _ :: _ :: _ :: _, h => by simp at h; omega
theorem T.tm_inj : ∀ {x y : T}, x.tm = y.tm → x = y
 | .nil, y, h => by cases y <;> simp_all [T.tm]
 | .var n, y, h => by cases y <;> simp_all [T.tm]
 | .sym s, y, h => by cases y <;> simp_all [T.tm]
 | .num n, y, h => by cases y <;> simp_all [T.tm]
 | .pair a b, y, h => by
  cases y <;> simp [T.tm] at h
  rw [T.tm_inj h.1, T.tm_inj h.2]
end Go.Vx
namespace Go.Vx
open Go.Proofs Classical
section
variable {μ : Mem}
theorem Tm.cnts_append : ∀ (a c : List Tm), Tm.cnts (a ++ c) = Tm.cnts a + Tm.cnts c
 | [], c => by simp [Tm.cnts]
 | d :: r, c => by simp [Tm.cnts, Tm.cnts_append r c, Nat.add_assoc]
theorem Tm.cnts_take {xs : List Tm} {j : Nat} {x : Tm} (h : xs[j]? = some x) : Tm.cnts (xs.take (j + 1)) = Tm.cnts (xs.take j) + x.cnt := by
 rw [List.take_add_one, h, Option.toList_some, Tm.cnts_append]; simp [Tm.cnts]
def upTo (n most : Int) : Int := min n (max most 0 + 1)
noncomputable def Tm.nodes (t : Tm) (room : Int) : Int := if t.Sh ∧ (t.cnt : Int) ≤ room then t.cnt else -1
theorem Tm.nodes_neg {t : Tm} {room : Int} (h : ¬ (t.Sh ∧ (t.cnt : Int) ≤ room)) : Value.int .i64 (-1) = .int .i64 (t.nodes room) := by rw [Tm.nodes, if_neg h]
theorem Tm.nodes_pos {t : Tm} {room : Int} (h : t.Sh) (h2 : (t.cnt : Int) ≤ room) : t.nodes room = t.cnt := by rw [Tm.nodes, if_pos ⟨h, h2⟩]
theorem Tm.nodes_lt {t : Tm} {room : Int} (h : t.nodes room < 0) : ¬ (t.Sh ∧ (t.cnt : Int) ≤ room) := fun k => by rw [Tm.nodes, if_pos k] at h; omega
theorem Tm.nodes_ge {t : Tm} {room : Int} (h : ¬ t.nodes room < 0) : t.Sh ∧ (t.cnt : Int) ≤ room ∧ t.nodes room = t.cnt := by
 by_cases k : t.Sh ∧ (t.cnt : Int) ≤ room
 ·exact ⟨k.1, k.2, by rw [Tm.nodes, if_pos k]⟩
 ·rw [Tm.nodes, if_neg k] at h; omega
set_option maxRecDepth 20000 in
theorem nodesOf_spec : ∀ (t : Tm) {v : Value} {room : Int}, RepV μ t.d v → -1000000000000 ≤ room → room ≤ 1000000000000 → Gives Try.prog 104 [v, .int .i64 room] μ (.int .i64 (t.nodes room)) :=
 Tm.ind fun k n s l ih v room hv hr1 hr2 => by
  have w_ := Tm.inv hv
  obtain ⟨base, cap, rfl, hsl⟩ := w_
  have hn := maxLen_le hsl.max
  have hiff := Tm.Sh_iff' k n s l
  have hone : l.length = 0 → (Tm.mk k n s l).cnt = 1 := fun h => by
   have w_ := List.eq_nil_of_length_eq_zero h
   obtain rfl := w_
   rfl
  have hpos := Tm.cnt_pos (.mk k n s l)
  refine Spec.mk Try.func104 (by kernel_rfl) ?_
  intro r
  refine ifd (fun h0 => rGv (Tm.nodes_neg fun hh => by omega) rfl) (fun h0 => ?_)
  have hgood : (Tm.mk k n s l).Sh → l.length = 0 → Value.int .i64 1 = .int .i64 ((Tm.mk k n s l).nodes room) := fun h1 h2 => by
   have := hone h2
   rw [Tm.nodes_pos h1 (by omega), this]; rfl
  refine ifnd (fun hk => ?_) (fun hk => ?_)
  ·repeat' (first
    | refine ifd (fun h => ?_) (fun h => ?_)
    | refine ifnd (fun h => ?_) (fun h => ?_)
    | refine iIn (fun h => ?_) (fun h => ?_)
    | refine cGv (impl_IsName_spec s _) ?_)
   all_goals first
    | (exfalso; clear ih hsl hv hiff; first | omega | contradiction)
    | (refine rGv (Tm.nodes_neg fun hS => ?_) rfl; have hh := hiff.1 hS.1; clear ih hsl hv; rcases hh with ⟨e1, e2, e3, e4⟩ | ⟨e1, e2, e3, e4, e5⟩ | ⟨e1, e2, e3, e4⟩ | ⟨e1, e2, e3, e4, e5⟩ | ⟨e1, e2, e3, e4, e5⟩ <;> first | omega | contradiction | (subst_vars; contradiction))
    | (refine rGv (hgood (hiff.2 (.inl ⟨?_, ?_, ?_, ?_⟩)) (by omega)) rfl <;> first | omega | assumption; done)
    | (refine rGv (hgood (hiff.2 (.inr (.inl ⟨?_, ?_, ?_, ?_, ?_⟩))) (by omega)) rfl <;> first | omega | assumption; done)
    | (refine rGv (hgood (hiff.2 (.inr (.inr (.inl ⟨?_, ?_, ?_, ?_⟩)))) (by omega)) rfl <;> first | omega | assumption; done)
    | (refine rGv (hgood (hiff.2 (.inr (.inr (.inr (.inl ⟨?_, ?_, ?_, ?_, ?_⟩))))) (by omega)) rfl <;> first | omega | assumption; done)
    | trace_state
  ·refine ifnd (fun h1 => ?_) (fun h1 => ?_)
   ·refine rGv (Tm.nodes_neg fun hS => ?_) rfl; have hh := hiff.1 hS.1; clear ih hsl hv
    rcases hh with ⟨e1, e2, e3, e4⟩ | ⟨e1, e2, e3, e4, e5⟩ | ⟨e1, e2, e3, e4⟩ | ⟨e1, e2, e3, e4, e5⟩ | ⟨e1, e2, e3, e4, e5⟩ <;> omega
   refine ifnd (fun h2 => ?_) (fun h2 => ?_)
   ·refine rGv (Tm.nodes_neg fun hS => ?_) rfl; have hh := hiff.1 hS.1; clear ih hsl hv
    rcases hh with ⟨e1, e2, e3, e4⟩ | ⟨e1, e2, e3, e4, e5⟩ | ⟨e1, e2, e3, e4⟩ | ⟨e1, e2, e3, e4, e5⟩ | ⟨e1, e2, e3, e4, e5⟩ <;> first | omega | contradiction
   refine ifnd (fun h3 => ?_) (fun h3 => ?_)
   ·refine rGv (Tm.nodes_neg fun hS => ?_) rfl; have hh := hiff.1 hS.1; clear ih hsl hv
    rcases hh with ⟨e1, e2, e3, e4⟩ | ⟨e1, e2, e3, e4, e5⟩ | ⟨e1, e2, e3, e4⟩ | ⟨e1, e2, e3, e4, e5⟩ | ⟨e1, e2, e3, e4, e5⟩ <;> omega
   have w_ := two_of h3
   obtain ⟨a, b, rfl⟩ := w_
   have hcnt : (Tm.mk k n s [a, b]).cnt = 1 + a.cnt + b.cnt := by simp [Tm.cnt, Tm.cnts]; omega
   have hsh : (Tm.mk k n s [a, b]).Sh → a.Sh ∧ b.Sh := fun hS => by
    have hh := hiff.1 hS
    rcases hh with ⟨e1, e2, e3, e4⟩ | ⟨e1, e2, e3, e4, e5⟩ | ⟨e1, e2, e3, e4⟩ | ⟨e1, e2, e3, e4, e5⟩ | ⟨e1, e2, e3, e4, e5⟩ <;> first | omega | (obtain ⟨a', b', e, e6, e7⟩ := e5; cases e; exact ⟨e6, e7⟩)
   have w_ := Tm.elem (i := 0) hsl rfl
   obtain ⟨ad, p, hel, hra⟩ := w_
   have w_ := Tm.elem (i := 1) hsl rfl
   obtain ⟨ad', p', hel', hrb⟩ := w_
   refine eIn hel (num64 (by omega) (by omega) (cGv (ih a (by simp) hra (by omega) (by omega)) ?_))
   refine ifd (fun h4 => ?_) (fun h4 => ?_)
   ·have := Tm.nodes_lt h4
    refine rGv (Tm.nodes_neg fun hS => this ⟨(hsh hS.1).1, ?_⟩) rfl
    have := hS.2; rw [hcnt] at this; omega
   have w_ := Tm.nodes_ge h4
   obtain ⟨g1, g2, g3⟩ := w_
   have := a.cnt_pos
   refine eIn hel' (num64 (by omega) (by omega) (num64 (by omega) (by omega) (cGv (ih b (by simp) hrb (by omega) (by omega)) ?_)))
   refine ifd (fun h5 => ?_) (fun h5 => ?_)
   ·have := Tm.nodes_lt h5
    refine rGv (Tm.nodes_neg fun hS => this ⟨(hsh hS.1).2, ?_⟩) rfl
    have := hS.2; rw [hcnt] at this; omega
   have w_ := Tm.nodes_ge h5
   obtain ⟨g4, g5, g6⟩ := w_
   refine num64 (by omega) (by omega) (num64 (by omega) (by omega) (rGv ?_ rfl))
   rw [Tm.nodes_pos (hiff.2 (.inr (.inr (.inr (.inr ⟨by omega, by omega, by assumption, rfl, a, b, rfl, g1, g4⟩))))) (by rw [hcnt]; omega), hcnt]
   congr 1; omega
end
end Go.Vx
namespace Go.Vx
open Go.Proofs Classical
section
variable {μ : Mem}
theorem impl_TermOk_spec (t : Tm) {v : Value} (hv : RepV μ t.d v) : Gives Try.prog 60 [v] μ (.bool (decide t.Ok)) := by
 have w_ := Tm.invV hv
 obtain ⟨p, rfl⟩ := w_
 refine Spec.mk Try.func60 (by kernel_rfl) ?_
 intro r
 refine cGv (nodesOf_spec t hv (by decide) (by decide)) (rGv (isI ⟨fun hh => ?_, fun hh => ?_⟩) rfl)
 ·have w_ := Tm.nodes_ge (by omega : ¬ t.nodes 5000 < 0)
  obtain ⟨h1, h2, _⟩ := w_
  exact ⟨h1, by omega⟩
 ·rw [Tm.nodes_pos hh.1 (by have := hh.2; omega)]
  have := t.cnt_pos; omega
end
end Go.Vx
namespace Go.Vx
open Go.Proofs Classical
theorem box_at {μ : Mem} {r : Nat} {x : Value} {ty : TypeId} (h : μ r = some (.cells #[x] ty (0, 0))) : ∀ j v, [x][j]? = some v → μ.cell ((⟨r, 0, none⟩ : Addr).add j) = some v := fun j v hj => by
 match j, hj with
 | 0, hj => cases hj; simp [Mem.cell, Addr.add_lit', h]
section
variable {μ : Mem}
theorem T.parts {a b : T} {base : Option Addr} {n : Nat} (h : Sl μ 4 base n ([a.tm, b.tm].map Tm.d)) : ∃ ad ad', ∃ p p' : Option Addr × Nat, ElemAt μ base n 4 ((0 : Nat) : Int) ad (a.tm.cs p) ∧ ElemAt μ base n 4 ((1 : Nat) : Int) ad' (b.tm.cs p') ∧ RepV μ a.tm.d (.agg (a.tm.cs p).toArray) ∧ RepV μ b.tm.d (.agg (b.tm.cs p').toArray) := by
 have w_ := Tm.elem (i := 0) h rfl
 obtain ⟨ad, p, h1, h2⟩ := w_
 have w_ := Tm.elem (i := 1) h rfl
 obtain ⟨ad', p', h3, h4⟩ := w_
 exact ⟨ad, ad', p, p', h1, h3, h2, h4⟩
theorem eachVar_spec {S : Type} (hp : S → Mem) (step : S → Int → S) {k : FuncId} {caps : List Value} {Q : Int → Prop}
  (hc : ∀ s n, Q n → SpecH Try.prog k (.int .i64 n :: caps) μ (hp s) fun r μ' h' => r = .tuple #[] ∧ μ' = μ ∧ h' = hp (step s n)) :
  ∀ (x : T) {v : Value} (s : S), RepV μ x.tm.d v → (∀ n ∈ x.vars, Q n) → SpecH Try.prog 63 [v, .func (.func k) #[] caps.toArray] μ (hp s) fun r μ' h' => r = .tuple #[] ∧ μ' = μ ∧ h' = hp (x.vars.foldl step s)
 | .var n, v, s, hv, hq => by
  have w_ := Tm.inv hv
  obtain ⟨base, cap, rfl, hsl⟩ := w_
  refine SpecH.mk [] Try.func63 (by kernel_rfl) ?_
  intro r
  refine ifd (fun _ => ?_) (fun h => absurd rfl h)
  refine cOw (hc s n (hq n (by simp [T.vars]))) fun v μ' h' hle hap hR => ?_
  obtain ⟨rfl, rfl, rfl⟩ := hR
  refine ifd (fun h => absurd h (by decide)) (fun _ => ?_)
  exact rPl ⟨rfl, rfl, rfl⟩
 | .nil, v, s, hv, hq => by
  have w_ := Tm.inv hv
  obtain ⟨base, cap, rfl, hsl⟩ := w_
  refine SpecH.mk [] Try.func63 (by kernel_rfl) ?_
  intro r
  refine ifd (fun h => absurd h (by decide)) (fun _ => ?_)
  refine ifd (fun h => absurd h (by decide)) (fun _ => ?_)
  exact rPl ⟨rfl, rfl, rfl⟩
 | .sym _, v, s, hv, hq => by
  have w_ := Tm.inv hv
  obtain ⟨base, cap, rfl, hsl⟩ := w_
  refine SpecH.mk [] Try.func63 (by kernel_rfl) ?_
  intro r
  refine ifd (fun h => absurd h (by decide)) (fun _ => ?_)
  refine ifd (fun h => absurd h (by decide)) (fun _ => ?_)
  exact rPl ⟨rfl, rfl, rfl⟩
 | .num _, v, s, hv, hq => by
  have w_ := Tm.inv hv
  obtain ⟨base, cap, rfl, hsl⟩ := w_
  refine SpecH.mk [] Try.func63 (by kernel_rfl) ?_
  intro r
  refine ifd (fun h => absurd h (by decide)) (fun _ => ?_)
  refine ifd (fun h => absurd h (by decide)) (fun _ => ?_)
  exact rPl ⟨rfl, rfl, rfl⟩
 | .pair a b, v, s, hv, hq => by
  have w_ := Tm.inv hv
  obtain ⟨base, cap, rfl, hsl⟩ := w_
  have w_ := T.parts hsl
  obtain ⟨ad, ad', p, p', h1, h2, hra, hrb⟩ := w_
  refine SpecH.mk [] Try.func63 (by kernel_rfl) ?_
  intro r
  refine ifd (fun h => absurd h (by decide)) (fun _ => ?_)
  refine ifd (fun _ => ?_) (fun h => absurd rfl h)
  refine eIn h1 (cOw (eachVar_spec hp step hc a s hra fun n hn => hq n (by simp [T.vars, hn])) fun v μ' h' hle hap hR => ?_)
  obtain ⟨rfl, e2, rfl⟩ := hR
  obtain rfl := e2.symm
  refine eIn h2 (cOw (eachVar_spec hp step hc b _ hrb fun n hn => hq n (by simp [T.vars, hn])) fun v μ' h' hle hap hR => ?_)
  obtain ⟨rfl, e2, rfl⟩ := hR
  obtain rfl := e2.symm
  exact rPl ⟨rfl, rfl, by simp [T.vars]⟩
theorem set_self (h : Mem) (r : Nat) (o : Obj) : h.set r o r = some o := by simp [Mem.set_get]
end
end Go.Vx
namespace Go.Vx
open Go.Proofs Classical
def ints (l : List Int) : List Value := l.map fun n => .int .i64 n
section
variable {μ : Mem}
theorem Ints.elem {l : List Int} {base : Option Addr} {n : Nat} (h : Sl μ 1 base n (l.map D.i)) {i : Nat} {x : Int} (hx : l[i]? = some x) : ∃ ad, ElemAt μ base n 1 i ad [.int .i64 x] := by
 have w_ := h.get i (.i x) (by simp [hx])
 obtain ⟨ad, cs, h1, h2⟩ := w_
 have h2 : cs = [.int .i64 x] := h2
 subst h2
 exact ⟨ad, h1⟩
theorem Ints.rows : ∀ l : List Int, Rows μ 1 (l.map D.i) (ints l)
 | [] => .nil
 | n :: l => .cons (show RepV μ (.i n) (.int .i64 n) from rfl) rfl (Ints.rows l)
theorem Ints.sl {b : Option Nat} {cap : Nat} {l : List Int} (h : RowAt μ b cap 1 (ints l)) (hm : l.length ≤ maxLen) : RepV μ (.sl 1 (l.map D.i)) (.slice (b.map fun r => ⟨r, 0, none⟩) (ints l).length cap) :=
 Rows.sl h (Ints.rows l) (by simpa [ints] using hm)
theorem Spec.forget {P : Program} {f : FuncId} {args : List Value} {R : Value → Prop} (h : Spec P f args μ fun v _ => R v) : Spec P f args μ fun v μ' => R v ∧ μ' = μ := by
 refine ⟨h.1, fun w hm hh hap => (h.2 w hm hh hap).mono ?_⟩
 rintro e w' ⟨v, μ', h', rfl, hr, hS⟩
 exact ⟨v, μ, Mem.nil, rfl, ⟨hr, rfl⟩, ⟨Mem.Le.refl μ, hS.mem.le hS.le, holds_nil w', apart_nil _, fun b h1 h2 => absurd h1 h2, fun b hb => absurd rfl hb, hS.size, hS.keep, hS.os, hS.tape, hS.output⟩⟩
def T.args : T → List T
 | .pair a b => [a, b]
 | .nil => []
 | .var _ => []
 | .sym _ => []
 | .num _ => []
theorem T.ind {p : T → Prop} (h : ∀ x : T, (∀ y ∈ x.args, p y) → p x) : ∀ x, p x
 | .pair a b => by
  have ha := T.ind h a
  have hb := T.ind h b
  refine h _ fun y hy => ?_
  simp only [T.args, List.mem_cons, List.not_mem_nil, or_false] at hy
  rcases hy with rfl | rfl
  ·exact ha
  ·exact hb
 | .nil => h _ fun y hy => by simp [T.args] at hy
 | .var _ => h _ fun y hy => by simp [T.args] at hy
 | .sym _ => h _ fun y hy => by simp [T.args] at hy
 | .num _ => h _ fun y hy => by simp [T.args] at hy
theorem T.tm_args (x : T) : x.tm.args = x.args.map T.tm := by cases x <;> rfl
end
end Go.Vx
namespace Go.Vx
open Go.Proofs Classical
noncomputable def Tm.toT (t : Tm) : T := if h : ∃ x : T, x.tm = t then h.choose else .nil
theorem T.toT_tm (x : T) : x.tm.toT = x := by
 have h : ∃ y : T, y.tm = x.tm := ⟨x, rfl⟩
 rw [Tm.toT, dif_pos h]
 exact T.tm_inj h.choose_spec
theorem Tm.Ok.toT {t : Tm} (h : t.Ok) : t.toT.ok ∧ t.toT.tm = t := by
 obtain ⟨x, h1, rfl⟩ := h.lift
 rw [T.toT_tm]; exact ⟨h1, rfl⟩
structure B where
 var : Int
 to : T
def B.bd (b : B) : Bd := ⟨b.var, b.to.tm⟩
noncomputable def Bd.b (b : Bd) : B := ⟨b.var, b.to.toT⟩
def okAt (l : List Bd) (i : Nat) (b : Bd) : Prop := (0 ≤ b.var ∧ b.var ≤ 100000) ∧ b.to.Ok ∧ ∀ j c, j + 1 = i → l[j]? = some c → c.var < b.var
def valsOk (l : List Bd) : Prop := l.length ≤ 400 ∧ ∀ i b, l[i]? = some b → okAt l i b
theorem valsOk.lift {l : List Bd} (h : valsOk l) : (l.map Bd.b).map B.bd = l ∧ (∀ b ∈ l.map Bd.b, b.to.ok) := by
 have h2 : ∀ b ∈ l, b.to.Ok := fun b hb => by
  have w_ := List.mem_iff_getElem?.1 hb
  obtain ⟨i, hi⟩ := w_
  exact (h.2 i b hi).2.1
 clear h
 induction l with
 | nil => simp
 | cons b l ih =>
  have h1 := (h2 b (by simp)).toT
  have w_ := ih fun b hb => h2 b (by simp [hb])
  obtain ⟨i1, i2⟩ := w_
  refine ⟨?_, ?_⟩
  ·simp only [List.map_cons, i1, Bd.b, B.bd, h1.2]
  ·intro c hc
   simp only [List.map_cons, List.mem_cons] at hc
   rcases hc with rfl | hc
   ·exact h1.1
   ·exact i2 c hc
def sub : List B → Int → Option T
 | [], _ => none
 | b :: r, n => if b.var = n then some b.to else sub r n
def T.subst (f : Int → Option T) : T → T
 | .var n => (f n).getD (.var n)
 | .pair a b => .pair (a.subst f) (b.subst f)
 | .nil => .nil
 | .sym s => .sym s
 | .num n => .num n
theorem drop_at {α : Type} {l : List α} {i : Nat} {a : α} (h : l[i]? = some a) : l.drop i = a :: l.drop (i + 1) := by
 have w_ := List.getElem?_eq_some_iff.1 h
 obtain ⟨h1, h2⟩ := w_
 rw [List.drop_eq_getElem_cons h1, h2]
def optV (P : T → Value → Prop) (o : Option T) (v : Value) : Prop := match o with
 | some y => ∃ tv, v = .tuple #[tv, .bool true] ∧ P y tv
 | none => v = .tuple #[.agg #[.int .i64 0, .int .i64 0, .string ⟨#[]⟩, .slice none 0 0], .bool false]
section
variable {μ : Mem}
theorem T.fits (x : T) : (upTo (x.size : Int) 5000 ≤ 5000) ↔ x.size ≤ 5000 := by unfold upTo; omega
theorem Bd.toV {b : Bd} {p : Option Addr × Nat} (h : RepV μ b.d (.agg (b.cs p).toArray)) : RepV μ b.to.d (.agg (b.to.cs p).toArray) := by
 have w_ := Bd.inv h
 obtain ⟨q, e, hto⟩ := w_
 have hq : q = p := by
  have h2 := congrArg (fun v => match v with | Value.agg a => a[4]? | _ => none) e
  simp [Bd.cs] at h2
  exact Prod.ext h2.1.symm h2.2.symm
 rw [← hq]; exact hto
theorem l02Pair_spec {a b : T} {va vb : Value} (ha : RepV μ a.tm.d va) (hb : RepV μ b.tm.d vb) : Spec Try.prog 101 [va, vb] μ fun v μ' => RepV μ' (T.pair a b).tm.d v := by
 have w_ := Tm.invV ha
 obtain ⟨p, rfl⟩ := w_
 have w_ := Tm.invV hb
 obtain ⟨q, rfl⟩ := w_
 refine Spec.mk Try.func101 (by kernel_rfl) ?_
 intro r1 r2 r3 r4
 refine rFz [3] fun μ' hle hno hrow => .inl ?_
 rw [T.tm, Tm.d_mk]
 exact ⟨_, rfl, RepS.int (RepS.int (RepS.str (RepS.last (Rows.sl hrow (.cons (ha.mono hle) (Tm.d_n _) (.cons (hb.mono hle) (Tm.d_n _) .nil)) (show 2 ≤ maxLen by decide)))))⟩
theorem l04Get_spec {bs : List B} {base : Option Addr} {cap : Nat} {n : Int} (hsl : Sl μ 5 base bs.length ((bs.map B.bd).map Bd.d)) :
  Spec Try.prog 70 [.slice base bs.length cap, .int .i64 n] μ fun v μ' => optV (fun y tv => RepV μ y.tm.d tv) (sub bs n) v ∧ μ' = μ := by
 have hn := maxLen_le hsl.max
 refine Spec.mk Try.func70 (by kernel_rfl) ?_
 intro r
 refine lIn (fun i : Nat => i ≤ bs.length ∧ sub bs n = sub (bs.drop i) n) (fun i => ⟨[(1, .val (.int .i64 n)), (4, .loc 0 r 0), (8, .val (.slice base bs.length cap)), (9, .val (.int .i64 bs.length)), (10, .val (.int .i64 i))], [(0, some (.cells r [.val (.int .i64 0), .val (.int .i64 0), .val (.string ⟨#[]⟩), .val (.slice none 0 0)] 27))], 1, μ, Mem.nil⟩) (fun i => bs.length - i)
  0 ⟨by omega, rfl⟩ (fun i => ⟨rfl, rfl⟩) ⟨⟨rfl, rfl, rfl, rfl, rfl, trivial⟩, ⟨rfl, trivial⟩, rfl, rfl⟩ ?_
 rintro i ⟨hi, he⟩
 refine ifd (fun h => ?_) (fun h => ?_)
 ·have w_ := aSo (l := bs) (i := i) (by omega)
  obtain ⟨b, hb⟩ := w_
  have hb' : (bs.map B.bd)[i]? = some b.bd := by simp [hb]
  have w_ := Bd.elem hsl hb'
  obtain ⟨ad, p, hel, hr⟩ := w_
  have hto := Bd.toV hr
  rw [drop_at hb] at he
  refine eIn hel ?_
  intro r2
  refine ifd (fun h2 => ?_) (fun h2 => ?_)
  ·have h2 : b.var = n := h2
   have e2 : sub bs n = some b.to := by rw [he, sub, if_pos h2]
   rw [e2]
   exact rPl ⟨⟨_, rfl, hto⟩, rfl⟩
  ·have h2 : ¬ b.var = n := h2
   have e2 : sub bs n = sub (bs.drop (i + 1)) n := by rw [he, sub, if_neg h2]
   exact num64 (by omega) (by omega) ⟨i + 1, ⟨by omega, e2⟩, by omega, ⟨⟨rfl, rfl, rfl, rfl, rfl, trivial⟩, ⟨rfl, trivial⟩, rfl, rfl⟩⟩
 ·obtain rfl : i = bs.length := by omega
  rw [List.drop_length] at he
  rw [he]
  exact rPl ⟨rfl, rfl⟩
theorem l04Put_spec {bs : List B} {base : Option Addr} {cap : Nat} : ∀ (x : T) {μ : Mem} {v : Value}, Sl μ 5 base bs.length ((bs.map B.bd).map Bd.d) → RepV μ x.tm.d v →
  Spec Try.prog 58 [.slice base bs.length cap, v] μ fun v μ' => RepV μ' (x.subst (sub bs)).tm.d v := by
 intro x
 induction x with
 | var n =>
  intro μ v hsl hv
  have w_ := Tm.invV hv
  obtain ⟨p, rfl⟩ := w_
  refine Spec.mk Try.func58 (by kernel_rfl) ?_
  intro r1 r2
  refine ifd (fun _ => ?_) (fun h => absurd rfl h)
  refine cPl (l04Get_spec hsl) fun v' μ' hle hR => ?_
  obtain ⟨hR, e2⟩ := hR
  obtain rfl := e2.symm
  have hR : optV (fun y tv => RepV μ y.tm.d tv) (sub bs n) v' := hR
  simp only [T.subst]
  cases hs : sub bs n with
  | some y =>
   rw [hs] at hR
   obtain ⟨tv, rfl, htv⟩ := hR
   have w_ := Tm.invV htv
   obtain ⟨q, rfl⟩ := w_
   intro r3
   refine iIn (fun _ => rPl htv) (fun h => nomatch h)
  | none =>
   rw [hs] at hR
   obtain rfl := hR
   intro r3
   refine iIn (fun h => nomatch h) (fun _ => ?_)
   refine ifd (fun h => absurd h (by simp [T.tm, Tm.kind])) (fun _ => ?_)
   exact rPl hv
 | pair a b iha ihb =>
  intro μ v hsl hv
  have w_ := Tm.inv hv
  obtain ⟨base', cap', rfl, hsa⟩ := w_
  have w_ := T.parts hsa
  obtain ⟨ad, ad', p, p', h1, h2, hra, hrb⟩ := w_
  refine Spec.mk Try.func58 (by kernel_rfl) ?_
  intro r1 r2
  refine ifd (fun h => absurd h (by simp)) (fun _ => ?_)
  refine ifd (fun _ => ?_) (fun h => absurd rfl h)
  refine eIn h1 ?_
  refine eIn h2 ?_
  refine cPl (iha hsl hra) fun v1 μ1 hle1 hR1 => ?_
  refine cPl (ihb (hsl.mono hle1) (hrb.mono hle1)) fun v2 μ2 hle2 hR2 => ?_
  refine cPl (l02Pair_spec (hR1.mono hle2) hR2) fun v3 μ3 hle3 hR3 => ?_
  have w_ := Tm.invV hR3
  obtain ⟨q, rfl⟩ := w_
  exact rPl hR3
 | _ =>
  intro μ v hsl hv
  have w_ := Tm.invV hv
  obtain ⟨p, rfl⟩ := w_
  refine Spec.mk Try.func58 (by kernel_rfl) ?_
  intro r1 r2
  refine ifd (fun h => absurd h (by simp [T.tm, Tm.kind])) (fun _ => ?_)
  refine ifd (fun h => absurd h (by simp [T.tm, Tm.kind])) (fun _ => ?_)
  exact rPl hv
end
end Go.Vx
namespace Go.Vx
open Go.Proofs Classical
section
variable {μ : Mem}
theorem okAt_ext {l : List Bd} {i : Nat} (hall : ∀ j b, j < i → l[j]? = some b → okAt l j b) {b : Bd} (hb : l[i]? = some b) (h : okAt l i b) : ∀ j b, j < i + 1 → l[j]? = some b → okAt l j b := fun j c hj hc => by
 rcases Nat.lt_or_ge j i with h1 | h1
 ·exact hall j c h1 hc
 ·obtain rfl : j = i := by omega
  rw [hb] at hc; cases hc; exact h
theorem impl_ValuesOk_spec {l : List Bd} {base : Option Addr} {cap : Nat} (hsl : Sl μ 5 base l.length (l.map Bd.d)) : Gives Try.prog 62 [.slice base l.length cap] μ (.bool (decide (valsOk l))) := by
 have hn := maxLen_le hsl.max
 refine Spec.mk Try.func62 (by kernel_rfl) ?_
 refine ifd (fun h => rGv (isF fun k => by have := k.1; omega) rfl) (fun hlen => ?_)
 refine lIn (fun i : Nat => i ≤ l.length ∧ ∀ j b, j < i → l[j]? = some b → okAt l j b) (fun i => ⟨[(0, .val (.slice base l.length cap)), (8, .val (.slice base l.length cap)), (9, .val (.int .i64 l.length)), (10, .val (.int .i64 i))], [], 0, μ, Mem.nil⟩) (fun i => l.length - i)
  0 ⟨by omega, fun j b hj => by omega⟩ (fun i => ⟨rfl, rfl⟩) ⟨⟨rfl, rfl, rfl, rfl, trivial⟩, trivial, rfl, rfl⟩ ?_
 rintro i ⟨hi, hall⟩
 refine ifd (fun h => ?_) (fun h => ?_)
 ·have w_ := aSo (l := l) (i := i) (by omega)
  obtain ⟨b, hb⟩ := w_
  have w_ := Bd.elem hsl hb
  obtain ⟨ad, p, hel, hr⟩ := w_
  have hto := Bd.toV hr
  have bad : ¬ okAt l i b → Value.bool false = .bool (decide (valsOk l)) := fun k => isF fun hv => k (hv.2 i b hb)
  refine eIn hel ?_
  intro r
  refine ifd (fun h1 => rGv (bad fun k => by have := k.1.1; omega) rfl) (fun h1 => ?_)
  refine ifd (fun h2 => rGv (bad fun k => by have := k.1.2; omega) rfl) (fun h2 => ?_)
  refine ifd (fun h0 => ?_) (fun h0 => ?_)
  ·have w_ := aSo (l := l) (i := i - 1) (by omega)
   obtain ⟨c, hc⟩ := w_
   have w_ := Bd.elem hsl hc
   obtain ⟨ad2, p2, hel2, _⟩ := w_
   have hprev : okAt l i b → c.var < b.var := fun k => k.2.2 (i - 1) c (by omega) hc
   refine nEq (x := ((i - 1 : Nat) : Int)) (by rw [wrap64 (by omega) (by omega)]; omega) ?_
   refine eIn hel2 ?_
   refine ifd (fun h1 => rGv (bad fun k => by have := hprev k; omega) rfl) (fun h3 => ?_)
   have hlt : ∀ j c', j + 1 = i → l[j]? = some c' → c'.var < b.var := fun j c' hj hc' => by
    have e : j = i - 1 := by omega
    rw [e, hc] at hc'
    cases hc'; omega
   refine cGv (impl_TermOk_spec b.to hto) ?_
   refine ifnd (fun h3 => rGv (bad fun k => h3 k.2.1) rfl) (fun h4 => ?_)
   exact num64 (by omega) (by omega) ⟨i + 1, ⟨by omega, okAt_ext hall hb ⟨⟨by omega, by omega⟩, h4, hlt⟩⟩, by omega, ⟨⟨rfl, rfl, rfl, rfl, trivial⟩, trivial, rfl, rfl⟩⟩
  ·refine cGv (impl_TermOk_spec b.to hto) ?_
   refine ifnd (fun h3 => rGv (bad fun k => h3 k.2.1) rfl) (fun h4 => ?_)
   exact num64 (by omega) (by omega) ⟨i + 1, ⟨by omega, okAt_ext hall hb ⟨⟨by omega, by omega⟩, h4, fun j c' hj _ => by omega⟩⟩, by omega, ⟨⟨rfl, rfl, rfl, rfl, trivial⟩, trivial, rfl, rfl⟩⟩
 ·obtain rfl : i = l.length := by omega
  exact rGv (isT ⟨by omega, fun j b hb => hall j b (List.getElem?_eq_some_iff.1 hb).1 hb⟩) rfl
end
end Go.Vx
namespace Go.Vx
open Go.Proofs Classical
theorem T.d_eq (x : T) : x.tm.d = .st [.i x.tm.kind, .i x.tm.num, .s x.tm.name, .sl 4 ((x.args.map T.tm).map Tm.d)] := by
 rw [Tm.d_eq, T.tm_args]
theorem T.inv {μ : Mem} {x : T} {w : Value} (hw : RepV μ x.tm.d w) : ∃ base cap, w = .agg #[.int .i64 x.tm.kind, .int .i64 x.tm.num, .string x.tm.name, .slice base x.args.length cap] ∧ Sl μ 4 base x.args.length ((x.args.map T.tm).map Tm.d) := by
 have h1 := Tm.inv (k := x.tm.kind) (n := x.tm.num) (s := x.tm.name) (l := x.tm.args) (v := w) (by cases x <;> exact hw)
 rw [T.tm_args, List.length_map] at h1
 exact h1
end Go.Vx
namespace Go.Vx
open Go.Proofs Classical
section
variable {μ : Mem}
theorem T.leaf_own {x : T} {v : Value} (h : x.args = []) (hv : RepV μ x.tm.d v) : OwnV x.tm.d Mem.nil v := by
 have w_ := T.inv hv
 obtain ⟨base, cap, rfl, _⟩ := w_
 rw [T.d_eq, h]
 rw [T.d_eq, h] at hv
 obtain ⟨cs, e, h1⟩ := hv
 obtain ⟨_, _, rfl, rfl, _, _, rfl, rfl, _, _, rfl, rfl, _, _, rfl, h7, rfl⟩ := h1
 obtain ⟨b, c, rfl, hl, _, _⟩ := h7
 exact ⟨_, e, OwnS.int (OwnS.int (OwnS.str (OwnS.last ⟨b, c, rfl, hl, by simp, .inl ⟨rfl, rfl⟩⟩)))⟩
theorem T.leaf_fresh {x : T} {v : Value} {μ' : Mem} (h : x.args = []) (hv : RepV μ x.tm.d v) : Fresh μ μ' x.tm.d v := ⟨Mem.nil, T.leaf_own h hv, (fun _ _ h => nomatch h), fun _ h => absurd rfl h⟩
theorem two_fresh {μ1 μ2 : Mem} {a b : D} {va vb : Value} (na : a.n = 4) (nb : b.n = 4) (h1 : μ.Le μ1) (h2 : μ1.Le μ2) (ha : Fresh μ μ1 a va) (hb : Fresh μ1 μ2 b vb) : ∃ g, OwnRows 4 [a, b] [va, vb] g ∧ g.Le μ2 ∧ ∀ x, g x ≠ none → μ x = none := by
 obtain ⟨ga, a1, a2, a3⟩ := ha
 obtain ⟨gb, b1, b2, b3⟩ := hb
 have hap := fresh_apart a2 b3
 have k1 := (OwnRows.nil 4).snoc a1 na (Apart.nil_left _)
 have k2 := k1.snoc b1 nb (fun x hx => hap x (by
  rcases join_ne hx with h | h
  ·exact absurd rfl h
  ·exact h))
 refine ⟨_, k2, join_le (join_le (fun _ _ h => nomatch h) (a2.trans h2)) b2, fun x hx => ?_⟩
 rcases join_ne hx with h | h
 ·rcases join_ne h with h | h
  ·exact absurd rfl h
  ·exact a3 x h
 ·cases h0 : μ x with
  | none => rfl
  | some o => have := b3 x h; rw [h1 x o h0] at this; cases this
theorem pair_spec {a b : T} {va vb : Value} {μ0 g : Mem} (ha : RepV μ a.tm.d va) (hb : RepV μ b.tm.d vb) (hg : OwnRows 4 [a.tm.d, b.tm.d] [va, vb] g) (h1 : g.Le μ) (h2 : ∀ x, g x ≠ none → μ0 x = none) (h3 : μ0.Le μ) :
  Spec Try.prog 123 [va, vb] μ fun v μ' => Fresh μ0 μ' (T.pair a b).tm.d v := by
 have w_ := Tm.invV ha
 obtain ⟨p, rfl⟩ := w_
 have w_ := Tm.invV hb
 obtain ⟨q, rfl⟩ := w_
 refine Spec.mk Try.func123 (by kernel_rfl) ?_
 intro r1 r2 r3 r4
 refine rFz [3] fun μ' hle hno hrow => .inl ?_
 have hf := Fresh.ofRow hg h1 h2 h3 hle hno hrow (show 2 ≤ maxLen by decide)
 obtain ⟨gg, k1, k2, k3⟩ := hf
 rw [T.d_eq]
 exact ⟨gg, ⟨_, rfl, OwnS.int (OwnS.int (OwnS.str (OwnS.last k1)))⟩, k2, k3⟩
theorem copyTerm_spec : ∀ (x : T) {μ : Mem} {v : Value}, RepV μ x.tm.d v → Spec Try.prog 98 [v] μ fun v μ' => Fresh μ μ' x.tm.d v := by
 intro x
 induction x with
 | pair a b iha ihb =>
  intro μ v hv
  have w_ := Tm.inv hv
  obtain ⟨base', cap', rfl, hsa⟩ := w_
  have w_ := T.parts hsa
  obtain ⟨ad, ad', p, p', h1, h2, hra, hrb⟩ := w_
  refine Spec.mk Try.func98 (by kernel_rfl) ?_
  intro r1 r2
  refine ifnd (fun h => absurd rfl h) (fun _ => ?_)
  refine eIn h1 ?_
  refine eIn h2 ?_
  refine cPl (iha hra) fun v1 μ1 hle1 hR1 => ?_
  refine cPl (ihb (hrb.mono hle1)) fun v2 μ2 hle2 hR2 => ?_
  have w_ := two_fresh (Tm.d_n _) (Tm.d_n _) hle1 hle2 hR1 hR2
  obtain ⟨g, k1, k2, k3⟩ := w_
  have w_ := Tm.invV hR1.rep
  obtain ⟨q1, rfl⟩ := w_
  have w_ := Tm.invV hR2.rep
  obtain ⟨q2, rfl⟩ := w_
  intro r3
  refine rFz [2] fun μ' hle hno hrow => .inl ?_
  have w_ := Fresh.ofRow k1 k2 k3 (hle1.trans hle2) hle hno hrow (show 2 ≤ maxLen by decide)
  obtain ⟨gg, g1, g2, g3⟩ := w_
  rw [T.d_eq]
  exact ⟨gg, ⟨_, rfl, OwnS.int (OwnS.int (OwnS.str (OwnS.last g1)))⟩, g2, g3⟩
 | _ =>
  intro μ v hv
  have w_ := Tm.inv hv
  obtain ⟨base', cap', rfl, hsa⟩ := w_
  refine Spec.mk Try.func98 (by kernel_rfl) ?_
  intro r1 r2
  refine ifnd (fun _ => ?_) (fun h => absurd h (by simp))
  refine rPl ?_
  rw [T.d_eq]
  exact ⟨Mem.nil, ⟨_, rfl, OwnS.int (OwnS.int (OwnS.str (OwnS.last (Own.nilSl 4))))⟩, (fun _ _ h => nomatch h), fun _ h => absurd rfl h⟩
def Looks (k : FuncId) (caps : List Value) (μ : Mem) (f : Int → Option T) : Prop :=
 ∀ μ', μ.Le μ' → ∀ n, Spec Try.prog k (.int .i64 n :: caps) μ' fun v μ'' => optV (fun y tv => RepV μ'' y.tm.d tv) (f n) v
def LooksOn (Q : Int → Prop) (k : FuncId) (caps : List Value) (μ : Mem) (f : Int → Option T) : Prop :=
 ∀ μ', μ.Le μ' → ∀ n, Q n → Spec Try.prog k (.int .i64 n :: caps) μ' fun v μ'' => optV (fun y tv => RepV μ'' y.tm.d tv) (f n) v
theorem mapVars_specQ {Q : Int → Prop} {k : FuncId} {caps : List Value} {f : Int → Option T} : ∀ (x : T) {μ : Mem} {v : Value}, (∀ n ∈ x.vars, Q n) → LooksOn Q k caps μ f → RepV μ x.tm.d v →
  Spec Try.prog 82 [v, .func (.func k) #[] caps.toArray] μ fun v μ' => Fresh μ μ' (x.subst f).tm.d v := by
 intro x
 induction x with
 | var n =>
  intro μ v hQ hk hv
  have w_ := Tm.invV hv
  obtain ⟨p, rfl⟩ := w_
  refine Spec.mk Try.func82 (by kernel_rfl) ?_
  intro r1 r2
  refine ifd (fun _ => ?_) (fun h => absurd rfl h)
  refine cPl (hk μ (Mem.Le.refl μ) n (hQ n (by simp [T.vars]))) fun v' μ' hle hR => ?_
  simp only [T.subst]
  cases hs : f n with
  | some y =>
   rw [hs] at hR
   obtain ⟨tv, rfl, htv⟩ := hR
   have w_ := Tm.invV htv
   obtain ⟨q, rfl⟩ := w_
   intro r3
   refine iIn (fun _ => ?_) (fun h => nomatch h)
   refine cPl (copyTerm_spec y htv) fun v2 μ2 hle2 hR2 => ?_
   have w_ := Tm.invV hR2.rep
   obtain ⟨q2, rfl⟩ := w_
   exact rPl (hR2.mono hle (Mem.Le.refl _))
  | none =>
   rw [hs] at hR
   obtain rfl := hR
   intro r3
   refine iIn (fun h => nomatch h) (fun _ => ?_)
   exact rPl (T.leaf_fresh rfl hv)
 | pair a b iha ihb =>
  intro μ v hQ hk hv
  have w_ := Tm.inv hv
  obtain ⟨base', cap', rfl, hsa⟩ := w_
  have w_ := T.parts hsa
  obtain ⟨ad, ad', p, p', h1, h2, hra, hrb⟩ := w_
  refine Spec.mk Try.func82 (by kernel_rfl) ?_
  intro r1 r2
  refine ifd (fun h => absurd h (by simp)) (fun _ => ?_)
  refine ifd (fun _ => ?_) (fun h => absurd rfl h)
  refine eIn h1 ?_
  refine eIn h2 ?_
  refine cPl (iha (fun n hn => hQ n (by simp [T.vars, hn])) hk hra) fun v1 μ1 hle1 hR1 => ?_
  refine cPl (ihb (fun n hn => hQ n (by simp [T.vars, hn])) (fun μ' h => hk μ' (hle1.trans h)) (hrb.mono hle1)) fun v2 μ2 hle2 hR2 => ?_
  have w_ := two_fresh (Tm.d_n _) (Tm.d_n _) hle1 hle2 hR1 hR2
  obtain ⟨g, k1, k2, k3⟩ := w_
  refine cPl (pair_spec (hR1.rep.mono hle2) hR2.rep k1 k2 k3 (hle1.trans hle2)) fun v3 μ3 hle3 hR3 => ?_
  have w_ := Tm.invV hR3.rep
  obtain ⟨q, rfl⟩ := w_
  exact rPl hR3
 | _ =>
  intro μ v hQ hk hv
  have w_ := Tm.invV hv
  obtain ⟨p, rfl⟩ := w_
  refine Spec.mk Try.func82 (by kernel_rfl) ?_
  intro r1 r2
  refine ifd (fun h => absurd h (by simp [T.tm, Tm.kind])) (fun _ => ?_)
  refine ifd (fun h => absurd h (by simp [T.tm, Tm.kind])) (fun _ => ?_)
  exact rPl (T.leaf_fresh rfl hv)
end
end Go.Vx
namespace Go.Vx
open Go.Proofs Classical
section
variable {μ : Mem}
def cntOf (f : Int → Option T) (n : Int) : Nat := match f n with | some y => y.size | none => 1
theorem subst_var_size (f : Int → Option T) (n : Int) : ((T.var n).subst f).size = cntOf f n := by
 simp only [T.subst, cntOf]
 cases f n <;> rfl
def CountsOn (Q : Int → Prop) (k : FuncId) (caps : List Value) (μ : Mem) (c : Int → Nat) : Prop := ∀ n, Q n → Gives Try.prog k (.int .i64 n :: caps) μ (.int .i64 (c n))
theorem sizeWith_specQ {Q : Int → Prop} {k : FuncId} {caps : List Value} {f : Int → Option T} (hk : CountsOn Q k caps μ (cntOf f)) (hf : ∀ n, Q n → cntOf f n ≤ 5000) : ∀ (x : T) {v : Value}, (∀ n ∈ x.vars, Q n) → RepV μ x.tm.d v →
  Gives Try.prog 148 [v, .func (.func k) #[] caps.toArray] μ (.int .i64 (min (x.subst f).size 5001 : Nat)) := by
 intro x
 induction x with
 | var n =>
  intro v hQ hv
  have w_ := Tm.invV hv
  obtain ⟨p, rfl⟩ := w_
  have hqn := hQ n (by simp [T.vars])
  have := hf n hqn
  refine Spec.mk Try.func148 (by kernel_rfl) ?_
  intro r1
  refine ifd (fun _ => ?_) (fun h => absurd rfl h)
  refine cGv (hk n hqn) (rGv ?_ rfl)
  rw [subst_var_size]
  congr 1
  show (if (5001 : Int) < (cntOf f n : Int) then (5001 : Int) else (cntOf f n : Int)) = _
  rw [if_neg (by omega)]
  omega
 | pair a b iha ihb =>
  intro v hQ hv
  have w_ := Tm.inv hv
  obtain ⟨base', cap', rfl, hsa⟩ := w_
  have w_ := T.parts hsa
  obtain ⟨ad, ad', p, p', h1, h2, hra, hrb⟩ := w_
  have hs : ((T.pair a b).subst f).size = 1 + (a.subst f).size + (b.subst f).size := rfl
  refine Spec.mk Try.func148 (by kernel_rfl) ?_
  intro r1
  refine ifd (fun h => absurd h (by simp)) (fun _ => ?_)
  refine ifd (fun _ => ?_) (fun h => absurd rfl h)
  refine eIn h1 ?_
  refine cGv (iha (fun n hn => hQ n (by simp [T.vars, hn])) hra) ?_
  refine ifd (fun h => rGv ?_ rfl) (fun h => ?_)
  ·rw [hs]; congr 1; omega
  ·refine num64 (by omega) (by omega) ?_
   refine eIn h2 ?_
   refine cGv (ihb (fun n hn => hQ n (by simp [T.vars, hn])) hrb) ?_
   refine num64 (by omega) (by omega) (rGv ?_ rfl)
   rw [hs]
   congr 1
   split <;> omega
 | _ =>
  intro v hQ hv
  have w_ := Tm.invV hv
  obtain ⟨p, rfl⟩ := w_
  refine Spec.mk Try.func148 (by kernel_rfl) ?_
  intro r1
  refine ifd (fun h => absurd h (by simp [T.tm, Tm.kind])) (fun _ => ?_)
  refine ifd (fun h => absurd h (by simp [T.tm, Tm.kind])) (fun _ => ?_)
  exact rGv rfl rfl
theorem wrapu64 {n : Int} (h1 : 0 ≤ n) (h2 : n < 18446744073709551616) : IntKind.u64.wrap n = n := by
 have e : IntKind.u64.bits = 64 := rfl
 have e2 : IntKind.u64.signed = false := rfl
 simp only [IntKind.wrap, e, e2, Bool.false_and]
 simp only [show (2 : Int) ^ 64 = 18446744073709551616 from rfl]
 simp; omega
theorem Search_spec {k : FuncId} {caps : List Value} {p : Int → Prop} {n : Nat} (hn : n ≤ 1000000000) (hk : ∀ i : Nat, i < n → Gives Try.prog k (.int .i64 i :: caps) μ (.bool (decide (p i)))) :
  Spec Try.prog 110 [.int .i64 n, .func (.func k) #[] caps.toArray] μ fun v μ' => (∃ i : Nat, v = .int .i64 i ∧ i ≤ n ∧ (i < n → p i) ∧ ∀ j : Nat, j + 1 = i → ¬ p j) ∧ μ' = μ := by
 refine Spec.mk Try.func110 (by kernel_rfl) ?_
 refine lIn (fun q : Nat × Nat => q.1 ≤ q.2 ∧ q.2 ≤ n ∧ (q.2 < n → p q.2) ∧ ∀ j : Nat, j + 1 = q.1 → ¬ p j) (fun (i, j) => ⟨[(1, .val (.func (.func k) #[] caps.toArray)), (5, .val (.int .i64 i)), (6, .val (.int .i64 j))], [], 0, μ, Mem.nil⟩) (fun q => q.2 - q.1)
  (0, n) ⟨by simp, by simp, by simp, fun j hj => by simp at hj⟩ (fun (_, _) => ⟨rfl, rfl⟩) ⟨⟨rfl, rfl, rfl, trivial⟩, trivial, rfl, rfl⟩ ?_
 rintro ⟨i, j⟩ ⟨h1, h2, h3, h4⟩
 dsimp only at h1 h2 h3 h4
 refine ifd (fun h => ?_) (fun h => ?_)
 ·refine num64 (by omega) (by omega) ?_
  refine nEq (wrapu64 (by omega) (by omega)) ?_
  refine need_intro (by omega) ?_
  refine nEq (x := (((i + j) / 2 : Nat) : Int)) ?_ ?_
  ·show Int.fdiv ((i : Int) + j) (2 ^ (min (Int.toNat 1) 64)) = _
   rw [show min (Int.toNat 1) 64 = 1 from rfl, show (2 : Int) ^ 1 = 2 from rfl, Int.fdiv_eq_ediv_of_nonneg _ (by omega)]
   omega
  refine num64 (by omega) (by omega) ?_
  refine cGv (hk ((i + j) / 2) (by omega)) ?_
  refine ifnd (fun hp => ?_) (fun hp => ?_)
  ·refine num64 (by omega) (by omega) ⟨((i + j) / 2 + 1, j), ⟨by dsimp only; omega, h2, h3, fun m hm => ?_⟩, by dsimp only; omega, ⟨⟨rfl, rfl, rfl, trivial⟩, trivial, rfl, rfl⟩⟩
   dsimp only at hm
   obtain rfl : m = (i + j) / 2 := by omega
   exact hp
  ·exact ⟨(i, (i + j) / 2), ⟨by dsimp only; omega, by dsimp only; omega, fun _ => hp, h4⟩, by dsimp only; omega, ⟨⟨rfl, rfl, rfl, trivial⟩, trivial, rfl, rfl⟩⟩
 ·obtain rfl : i = j := by omega
  exact rPl ⟨⟨i, rfl, h2, h3, h4⟩, rfl⟩
end
end Go.Vx
namespace Go.Vx
open Go.Proofs Classical
def Srt (bs : List B) : Prop := ∀ (i j : Nat) b c, i < j → bs[i]? = some b → bs[j]? = some c → b.var < c.var
section
variable {μ : Mem}
theorem B.elem {bs : List B} {base : Option Addr} {n : Nat} (h : Sl μ 5 base n ((bs.map B.bd).map Bd.d)) {i : Nat} {b : B} (hb : bs[i]? = some b) : ∃ ad, ∃ p : Option Addr × Nat, ElemAt μ base n 5 i ad (b.bd.cs p) ∧ RepV μ b.to.tm.d (.agg (b.to.tm.cs p).toArray) := by
 have hb' : (bs.map B.bd)[i]? = some b.bd := by simp [hb]
 have w_ := Bd.elem h hb'
 obtain ⟨ad, p, h1, h2⟩ := w_
 exact ⟨ad, p, h1, Bd.toV h2⟩
def atLeast (bs : List B) (n : Int) (z : Int) : Prop := ∃ b, bs[z.toNat]? = some b ∧ n ≤ b.var
theorem find1_spec {bs : List B} {base : Option Addr} {cap : Nat} {n : Int} {r1 r2 : Nat} {t1 t2 : TypeId} (hsl : Sl μ 5 base bs.length ((bs.map B.bd).map Bd.d)) (h1 : μ r1 = some (.cells #[.slice base bs.length cap] t1 (0, 0))) (h2 : μ r2 = some (.cells #[.int .i64 n] t2 (0, 0))) {i : Nat} (hi : i < bs.length) :
  Gives Try.prog 111 [.int .i64 i, .pointer (some ⟨r1, 0, none⟩), .pointer (some ⟨r2, 0, none⟩)] μ (.bool (decide (atLeast bs n i))) := by
 have w_ := aSo hi
 obtain ⟨b, hb⟩ := w_
 have w_ := B.elem hsl hb
 obtain ⟨ad, p, hel, _⟩ := w_
 refine Spec.mk Try.func111 (by kernel_rfl) ?_
 refine ext_intro [.slice base bs.length cap] rfl (box_at h1) ?_
 refine eIn hel ?_
 refine ext_intro [.int .i64 n] rfl (box_at h2) ?_
 refine rGv (isI ?_) rfl
 constructor
 ·intro h; exact ⟨b, hb, h⟩
 ·rintro ⟨c, hc, h⟩
  have hc : bs[i]? = some c := hc
  rw [hb] at hc; cases hc; exact h
def FindR (bs : List B) (n : Int) (v : Value) : Prop := (∃ (i : Nat) (b : B), v = .int .i64 i ∧ bs[i]? = some b ∧ b.var = n) ∨ (v = .int .i64 (-1) ∧ ∀ b ∈ bs, b.var ≠ n)
theorem find_spec {bs : List B} {base : Option Addr} {cap : Nat} {n : Int} (hs : Srt bs) (hlen : bs.length ≤ 1000000000) (hsl : Sl μ 5 base bs.length ((bs.map B.bd).map Bd.d)) :
  Spec Try.prog 65 [.slice base bs.length cap, .int .i64 n] μ fun v μ' => FindR bs n v ∧ μ' = μ := by
 refine Spec.forget (Spec.mk Try.func65 (by kernel_rfl) ?_)
 intro r1 r2
 refine call_frz [0, 1] ?_
 intro μ1 hle1 hno1 hat1 μ2 hle2 hno2 hat2
 have hsl2 := (hsl.mono hle1).mono hle2
 have e1 : μ2 r1 = some (.cells #[.slice base bs.length cap] 23 (0, 0)) := hle2 _ _ hat1
 refine call_go (Search_spec (p := atLeast bs n) hlen fun i hi => find1_spec hsl2 e1 hat2 hi) fun v μ3 hle3 hR => ?_
 obtain ⟨⟨i, rfl, g1, g2, g3⟩, rfl⟩ := hR
 have low : ∀ (j : Nat) b, j < i → bs[j]? = some b → b.var < n := fun j b hj hb => by
  have w_ := aSo (l := bs) (i := i - 1) (by omega)
  obtain ⟨c, hc⟩ := w_
  have h4 : c.var < n := by
   rcases Int.lt_or_le c.var n with h | h
   ·exact h
   ·exact absurd ⟨c, hc, h⟩ (g3 (i - 1) (by omega))
  rcases Nat.lt_or_ge j (i - 1) with h | h
  ·have := hs j (i - 1) b c h hb hc; omega
  ·obtain rfl : j = i - 1 := by omega
   rw [hb] at hc; cases hc; exact h4
 have none : (∀ b, bs[i]? = some b → b.var ≠ n) → FindR bs n (.int .i64 (-1)) := fun h => .inr ⟨rfl, fun b hb => by
  have w_ := List.mem_iff_getElem?.1 hb
  obtain ⟨j, hj⟩ := w_
  rcases Nat.lt_or_ge j i with h1 | h1
  ·have := low j b h1 hj; omega
  ·have hjl := (List.getElem?_eq_some_iff.1 hj).1
   have w_ := aSo (l := bs) (i := i) (by omega)
   obtain ⟨c, hc⟩ := w_
   have w_ := g2 (by omega)
   obtain ⟨c', hc', h2⟩ := w_
   have hc' : bs[i]? = some c' := hc'
   rw [hc] at hc'; cases hc'
   have := h c hc
   rcases Nat.eq_or_lt_of_le h1 with h3 | h3
   ·subst h3; rw [hj] at hc; cases hc; omega
   ·have := hs i j c b h3 hc hj; omega⟩
 refine ext_intro [.slice base bs.length cap] rfl (box_at e1) ?_
 refine ifd (fun h => ?_) (fun h => ?_)
 ·have w_ := aSo (l := bs) (i := i) (by omega)
  obtain ⟨b, hb⟩ := w_
  have w_ := B.elem hsl2 hb
  obtain ⟨ad, p, hel, _⟩ := w_
  refine ext_intro [.slice base bs.length cap] rfl (box_at e1) ?_
  refine eIn hel ?_
  refine ext_intro [.int .i64 n] rfl (box_at hat2) ?_
  refine ifd (fun h2 => ?_) (fun h2 => ?_)
  ·exact rPl (.inl ⟨i, b, rfl, hb, h2⟩)
  ·exact rPl (none fun c hc => by rw [hb] at hc; cases hc; exact h2)
 ·exact rPl (none fun c hc => absurd (List.getElem?_eq_some_iff.1 hc).1 (by omega))
end
end Go.Vx
