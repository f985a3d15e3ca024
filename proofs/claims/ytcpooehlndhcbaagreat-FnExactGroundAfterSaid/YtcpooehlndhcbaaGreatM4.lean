/- Texts of the proof, part 4. -/
import Derived.Orders
import Derived.Below
import Derived.WalkKit
import Derived.MapKept
import Derived.WideKeyMaps
import Derived.Maps.RangeRun
import Derived.Laws.Cover3
import Derived.Laws.IdiomStrings
import Derived.Laws.BytesString
import Derived.Deep.RegionHeld3
import Derived.Carry
import Derived.ChangeArms
import Derived.RowKit3
import Derived.Test.YtcpooehlndhcbaaGreatChecked
import Derived.KernelRfl
import Derived.ProofKit
import Derived.OpenShut
import Derived.ChangeOld
import Derived.Handed
import Derived.JoinedOf
import Derived.Sort.AssemblyPlain
import Derived.Test.YtcpooehlndhcbaaGreatM3
/- Contracts: well-formed goals, both sides. -/
namespace Go.Vx
open Go.Proofs Classical
/-- 'goalNodes': the nodes of a well-formed goal that fits; else -1. -/
noncomputable def Gl.nodes (t : Gl) (room : Int) : Int := if t.Sh ∧ (t.cnt : Int) ≤ room then t.cnt else -1
theorem Gl.nodes_neg {t : Gl} {room : Int} (h : ¬ (t.Sh ∧ (t.cnt : Int) ≤ room)) : Value.int .i64 (-1) = .int .i64 (t.nodes room) := by rw [Gl.nodes, if_neg h]
theorem Gl.nodes_pos {t : Gl} {room : Int} (h : t.Sh) (h2 : (t.cnt : Int) ≤ room) : t.nodes room = t.cnt := by rw [Gl.nodes, if_pos ⟨h, h2⟩]
theorem Gl.nodes_lt {t : Gl} {room : Int} (h : t.nodes room < 0) : ¬ (t.Sh ∧ (t.cnt : Int) ≤ room) := fun k => by rw [Gl.nodes, if_pos k] at h; omega
theorem Gl.nodes_ge {t : Gl} {room : Int} (h : ¬ t.nodes room < 0) : t.Sh ∧ (t.cnt : Int) ≤ room ∧ t.nodes room = t.cnt := by
  by_cases k : t.Sh ∧ (t.cnt : Int) ≤ room
  · exact ⟨k.1, k.2, by rw [Gl.nodes, if_pos k]⟩
  · rw [Gl.nodes, if_neg k] at h; omega
/-- The map of how many terms a kind has. -/
noncomputable def kmap : List (Value × Value) := mset (mset (mset (mset (mset [] (.int .i64 2) (.int .i64 2)) (.int .i64 3) (.int .i64 2)) (.int .i64 4) (.int .i64 1)) (.int .i64 5) (.int .i64 1)) (.int .i64 6) (.int .i64 2)
theorem kmap_get (k : Int) : mget kmap (.int .i64 k) = if k = 6 then some (.int .i64 2) else if k = 5 then some (.int .i64 1) else if k = 4 then some (.int .i64 1) else if k = 3 then some (.int .i64 2) else if k = 2 then some (.int .i64 2) else none := by
  unfold kmap
  rw [mget_int, mget_int, mget_int, mget_int, mget_int]
  rfl
section
variable {μ : Mem}
theorem spec_GoalOk_spec (g : Gl) {v : Value} (hv : RepV μ g.d v) (hw : g.d.wd) : Gives Tryz.prog 99 [v] μ (.bool (decide g.Ok)) := by
  obtain ⟨p, rfl⟩ := Gl.invV hv
  refine Spec.mk Tryz.func99 (by kernel_rfl) ?_
  intro r
  refine call_gives (l13Count_spec g hv (by decide) (by decide)) ?_
  refine ifd (fun h => ?_) (fun h => ret_gives (isF fun hh => ?_) rfl)
  · refine call_gives (l13Shape_spec g hv hw) (ret_gives (isI ⟨fun hh => ⟨hh, ?_⟩, fun hh => hh.1⟩) rfl)
    unfold upTo at h; omega
  · have := hh.2; unfold upTo at h; omega
theorem goalNodes_spec : ∀ (g : Gl) {v : Value} {room : Int}, RepV μ g.d v → -1000000000000 ≤ room → room ≤ 1000000000000 → Gives Tryz.prog 193 [v, .int .i64 room] μ (.int .i64 (g.nodes room)) :=
  Gl.ind fun g ih v room hv hr1 hr2 => by
    obtain ⟨p, rfl, hts, hgs⟩ := Gl.inv hv
    have hn1 := maxLen_le hts.max
    have hn2 := maxLen_le hgs.max
    have hpos := g.cnt_pos
    have hce := g.cnt_eq1
    have bad : ¬ TopOk g → Value.int .i64 (-1) = .int .i64 (g.nodes room) := fun h => Gl.nodes_neg fun k => h k.1.top
    refine Spec.mkO [18] Tryz.func193 (by kernel_rfl) ?_
    intro r
    refine ifd (fun h => ret_gives (Gl.nodes_neg fun k => by omega) rfl) (fun h1 => ?_)
    refine call_gives (termsOk_spec hts) ?_
    refine ifnd (fun h => ret_gives (bad fun T => h T.tm) rfl) (fun htm => ?_)
    intro rM hmM hoM
    have k0 : MapOk IntKey [] := MapOk.nil
    have k1 := k0.int (n := 2) (.int .i64 2)
    have k2 := k1.int (n := 3) (.int .i64 2)
    have k3 := k2.int (n := 4) (.int .i64 1)
    have k4 := k3.int (n := 5) (.int .i64 1)
    have k5 := k4.int (n := 6) (.int .i64 2)
    refine upd_intro _ (Mem.set_at _ _ _) (k0.weaken (by rintro _ ⟨n, rfl⟩; rfl)) rfl ?_
    refine upd_intro _ (Mem.set_at _ _ _) (k1.weaken (by rintro _ ⟨n, rfl⟩; rfl)) rfl ?_
    refine upd_intro _ (Mem.set_at _ _ _) (k2.weaken (by rintro _ ⟨n, rfl⟩; rfl)) rfl ?_
    refine upd_intro _ (Mem.set_at _ _ _) (k3.weaken (by rintro _ ⟨n, rfl⟩; rfl)) rfl ?_
    refine upd_intro _ (Mem.set_at _ _ _) (k4.weaken (by rintro _ ⟨n, rfl⟩; rfl)) rfl ?_
    generalize hh : Mem.set (Mem.set (Mem.set (Mem.set (Mem.set (Mem.set _ rM _) rM _) rM _) rM _) rM _) rM _ = h0
    have hm : h0 rM = some (mapO kmap) := by subst hh; exact Mem.set_at _ _ _
    clear hh hmM hoM
    have one : TopOk g → g.goals.length = 0 → Value.int .i64 1 = .int .i64 (g.nodes room) := fun T h => by
      have e : g.goals = [] := List.eq_nil_of_length_eq_zero h
      have hc : g.cnt = 1 := by rw [hce, e]; rfl
      rw [Gl.nodes_pos (.mk T (by rw [e]; simp)) (by omega), hc]; rfl
    have htm : ∀ t ∈ g.terms, t.Ok := htm
    rcases (by omega : g.kind = 6 ∨ g.kind = 5 ∨ g.kind = 4 ∨ g.kind = 3 ∨ g.kind = 2 ∨ ¬ (2 ≤ g.kind ∧ g.kind ≤ 6)) with e | e | e | e | e | e
    · refine look_intro kmap (some (.int .i64 2)) hm (k5.weaken (by rintro _ ⟨n, rfl⟩; rfl)) rfl (by rw [kmap_get]; simp [e]) ?_
      repeat (refine ifd (fun h => ?_) (fun h => ?_) <;> try (exfalso; omega))
      refine ifnd (fun h => ret_gives (bad fun T => h (T.nm (by omega))) rfl) (fun hnm => ?_)
      refine ifnd (fun h => ret_gives (bad fun T => h (by have := T.gl0; omega)) rfl) (fun hg0 => ?_)
      refine ifnd (fun h => ret_gives (bad fun T => h (by have := T.ln2; omega)) rfl) (fun hl => ?_)
      refine ifd (fun _ => ?_) (fun h => absurd e h)
      obtain ⟨a, ha⟩ := at_some (l := g.terms) (i := 0) (by omega)
      obtain ⟨ad, p, hel, hr⟩ := Tm.elem hts ha
      refine elem_intro hel ?_
      refine ifnd (fun h => ret_gives (bad fun T => h (T.sy e a ha)) rfl) (fun h => ?_)
      exact ret_gives (one ⟨htm, by omega, by omega, fun _ => hnm, by omega, by omega, by omega, by omega, by omega, by omega, by omega, by omega, fun _ x hx => by rw [ha] at hx; cases hx; exact h, by omega⟩ (by omega)) rfl
    · refine look_intro kmap (some (.int .i64 1)) hm (k5.weaken (by rintro _ ⟨n, rfl⟩; rfl)) rfl (by rw [kmap_get]; simp [e]) ?_
      repeat (refine ifd (fun h => ?_) (fun h => ?_) <;> try (exfalso; omega))
      refine ifnd (fun h => ret_gives (bad fun T => h (T.nm (by omega))) rfl) (fun hnm => ?_)
      refine ifnd (fun h => ret_gives (bad fun T => h (by have := T.gl0; omega)) rfl) (fun hg0 => ?_)
      refine ifnd (fun h => ret_gives (bad fun T => h (by have := T.ln1; omega)) rfl) (fun hl => ?_)
      refine ifd (fun h => by omega) (fun h => ?_)
      exact ret_gives (one ⟨htm, by omega, by omega, fun _ => hnm, by omega, by omega, by omega, by omega, by omega, by omega, by omega, by omega, by omega, by omega⟩ (by omega)) rfl
    · refine look_intro kmap (some (.int .i64 1)) hm (k5.weaken (by rintro _ ⟨n, rfl⟩; rfl)) rfl (by rw [kmap_get]; simp [e]) ?_
      repeat (refine ifd (fun h => ?_) (fun h => ?_) <;> try (exfalso; omega))
      refine ifnd (fun h => ret_gives (bad fun T => h (T.nm (by omega))) rfl) (fun hnm => ?_)
      refine ifnd (fun h => ret_gives (bad fun T => h (by have := T.gl0; omega)) rfl) (fun hg0 => ?_)
      refine ifnd (fun h => ret_gives (bad fun T => h (by have := T.ln1; omega)) rfl) (fun hl => ?_)
      refine ifd (fun h => by omega) (fun h => ?_)
      exact ret_gives (one ⟨htm, by omega, by omega, fun _ => hnm, by omega, by omega, by omega, by omega, by omega, by omega, by omega, by omega, by omega, by omega⟩ (by omega)) rfl
    · refine look_intro kmap (some (.int .i64 2)) hm (k5.weaken (by rintro _ ⟨n, rfl⟩; rfl)) rfl (by rw [kmap_get]; simp [e]) ?_
      repeat (refine ifd (fun h => ?_) (fun h => ?_) <;> try (exfalso; omega))
      refine ifnd (fun h => ret_gives (bad fun T => h (T.nm (by omega))) rfl) (fun hnm => ?_)
      refine ifnd (fun h => ret_gives (bad fun T => h (by have := T.gl0; omega)) rfl) (fun hg0 => ?_)
      refine ifnd (fun h => ret_gives (bad fun T => h (by have := T.ln2; omega)) rfl) (fun hl => ?_)
      refine ifd (fun h => by omega) (fun h => ?_)
      exact ret_gives (one ⟨htm, by omega, by omega, fun _ => hnm, by omega, by omega, by omega, by omega, by omega, by omega, by omega, by omega, by omega, by omega⟩ (by omega)) rfl
    · refine look_intro kmap (some (.int .i64 2)) hm (k5.weaken (by rintro _ ⟨n, rfl⟩; rfl)) rfl (by rw [kmap_get]; simp [e]) ?_
      repeat (refine ifd (fun h => ?_) (fun h => ?_) <;> try (exfalso; omega))
      refine ifnd (fun h => ret_gives (bad fun T => h (T.nm (by omega))) rfl) (fun hnm => ?_)
      refine ifnd (fun h => ret_gives (bad fun T => h (by have := T.gl0; omega)) rfl) (fun hg0 => ?_)
      refine ifnd (fun h => ret_gives (bad fun T => h (by have := T.ln2; omega)) rfl) (fun hl => ?_)
      refine ifd (fun h => by omega) (fun h => ?_)
      exact ret_gives (one ⟨htm, by omega, by omega, fun _ => hnm, by omega, by omega, by omega, by omega, by omega, by omega, by omega, by omega, by omega, by omega⟩ (by omega)) rfl
    · refine look_intro kmap none hm (k5.weaken (by rintro _ ⟨n, rfl⟩; rfl)) rfl (by rw [kmap_get, if_neg (by omega), if_neg (by omega), if_neg (by omega), if_neg (by omega), if_neg (by omega)]) ?_
      by_cases e2 : g.kind = 0 ∨ g.kind = 1
      · repeat' (refine ifd (fun h => ?_) (fun h => ?_) <;> try (exfalso; omega))
        all_goals
          refine ifnd (fun h => ret_gives (bad fun T => h (T.nm (by omega))) rfl) (fun hnm => ?_)
          refine ifnd (fun h => ret_gives (bad fun T => h (by have := T.gl0; omega)) rfl) (fun hg0 => ?_)
          refine ifnd (fun h => ret_gives (bad fun T => h (by have := T.ln0; omega)) rfl) (fun hl => ?_)
          refine ifd (fun h => by omega) (fun h => ?_)
          exact ret_gives (one ⟨htm, by omega, by omega, fun _ => hnm, by omega, by omega, by omega, by omega, by omega, by omega, by omega, by omega, by omega, by omega⟩ (by omega)) rfl
      · by_cases e9 : g.kind = 9
        · repeat (refine ifd (fun h => ?_) (fun h => ?_) <;> try (exfalso; omega))
          refine call_gives (impl_IsRelName_spec _ _) ?_
          refine ifnd (fun h => ret_gives (bad fun T => h (T.rel e9)) rfl) (fun hnm => ?_)
          refine ifnd (fun h => ret_gives (bad fun T => h (by have := T.gl0; omega)) rfl) (fun hg0 => ?_)
          refine ifd (fun h => ret_gives (bad fun T => by have := T.ln9; omega) rfl) (fun hl => ?_)
          exact ret_gives (one ⟨htm, by omega, by omega, by omega, fun _ => hnm, by omega, by omega, by omega, by omega, by omega, by omega, by omega, by omega, by omega⟩ (by omega)) rfl
        · by_cases e3 : g.kind = 7 ∨ g.kind = 8 ∨ g.kind = 10
          · have fin : ∀ k : Int, k = 1 + (Gl.cnts g.goals : Nat) → TopOk g → (∀ x ∈ g.goals, x.Sh) → k ≤ room → Value.int .i64 k = .int .i64 (g.nodes room) := fun k hk T hS hr => by
              rw [Gl.nodes_pos (.mk T hS) (by omega), hce, hk]; congr 1
            have top : g.name = ⟨#[]⟩ → g.terms.length = 0 → g.goals.length ≤ 8 → (g.kind = 10 → g.goals.length = 1) → (g.kind = 10 → ∀ b, g.goals[0]? = some b → b.kind = 9) → TopOk g := fun a b c d f =>
              ⟨htm, by omega, by omega, fun _ => a, by omega, by omega, by omega, by omega, by omega, c, by omega, d, by omega, f⟩
            repeat' (refine ifd (fun h => ?_) (fun h => ?_) <;> try (exfalso; omega))
            · refine ifnd (fun h => ret_gives (bad fun T => h (T.nm (by omega))) rfl) (fun hnm => ?_)
              refine ifnd (fun h => ret_gives (bad fun T => h (by have := T.ln0; omega)) rfl) (fun hl => ?_)
              refine ifd (fun h => ret_gives (bad fun T => by have := T.gl; omega) rfl) (fun h8 => ?_)
              have T := top hnm (by omega) (by omega) (by omega) (by omega)
              refine loop_intro (fun i : Nat => i ≤ g.goals.length ∧ (∀ x ∈ g.goals.take i, x.Sh) ∧ 1 + (Gl.cnts (g.goals.take i) : Int) ≤ room) (fun i => ⟨[(1, .val (.int .i64 room)), (6, .val (.int .i64 (1 + (Gl.cnts (g.goals.take i) : Int)))), (124, .val (.slice p.2.1 g.goals.length p.2.2)), (125, .val (.int .i64 g.goals.length)), (126, .val (.int .i64 i))], [], 1, μ, h0⟩) (fun i => g.goals.length - i)
                0 ⟨by omega, by simp, by simp [Gl.cnts]; omega⟩ (fun i => ⟨rfl, rfl⟩) ⟨⟨rfl, rfl, rfl, rfl, rfl, trivial⟩, trivial, rfl, rfl⟩ ?_
              rintro i ⟨hi, hall, hle⟩
              refine ifd (fun h => ?_) (fun h => ?_)
              · obtain ⟨t, ht⟩ := at_some (l := g.goals) (i := i) (by omega)
                have hc := Gl.cnts_take ht
                have hc' := Gl.cnts_le g.goals (i + 1)
                obtain ⟨ad, p3, hel, hr⟩ := Gl.elem hgs ht
                refine elem_intro hel ?_
                intro r2
                refine num64 (by omega) (by omega) ?_
                refine call_gives (ih t (mem_at ht) hr (by omega) (by omega)) ?_
                refine ifd (fun h => ret_gives (Gl.nodes_neg fun k => Gl.nodes_lt h ⟨k.1.sub t (mem_at ht), by omega⟩) rfl) (fun h => ?_)
                obtain ⟨hS, hcnt, he⟩ := Gl.nodes_ge h
                refine num_eq (x := 1 + (Gl.cnts (g.goals.take (i + 1)) : Int)) (by rw [he, wrap64 (by omega) (by omega), hc]; omega) ?_
                refine num64 (by omega) (by omega) ⟨i + 1, ⟨by omega, fun x hx => ?_, by omega⟩, by omega, ⟨⟨rfl, rfl, rfl, rfl, rfl, trivial⟩, trivial, rfl, rfl⟩⟩
                rw [List.take_add_one, ht, Option.toList_some, List.mem_append, List.mem_singleton] at hx
                rcases hx with hx | rfl
                · exact hall x hx
                · exact hS
              · obtain rfl : i = g.goals.length := by omega
                rw [List.take_length] at hall hle
                exact ret_gives (fin _ (by rw [List.take_length]) T hall (by rw [List.take_length]; exact hle)) rfl
            · refine ifnd (fun h => ret_gives (bad fun T => h (T.nm (by omega))) rfl) (fun hnm => ?_)
              refine ifnd (fun h => ret_gives (bad fun T => h (by have := T.ln0; omega)) rfl) (fun hl => ?_)
              refine ifd (fun h => ret_gives (bad fun T => by have := T.gl; omega) rfl) (fun h8 => ?_)
              have T := top hnm (by omega) (by omega) (by omega) (by omega)
              refine loop_intro (fun i : Nat => i ≤ g.goals.length ∧ (∀ x ∈ g.goals.take i, x.Sh) ∧ 1 + (Gl.cnts (g.goals.take i) : Int) ≤ room) (fun i => ⟨[(1, .val (.int .i64 room)), (6, .val (.int .i64 (1 + (Gl.cnts (g.goals.take i) : Int)))), (124, .val (.slice p.2.1 g.goals.length p.2.2)), (125, .val (.int .i64 g.goals.length)), (126, .val (.int .i64 i))], [], 1, μ, h0⟩) (fun i => g.goals.length - i)
                0 ⟨by omega, by simp, by simp [Gl.cnts]; omega⟩ (fun i => ⟨rfl, rfl⟩) ⟨⟨rfl, rfl, rfl, rfl, rfl, trivial⟩, trivial, rfl, rfl⟩ ?_
              rintro i ⟨hi, hall, hle⟩
              refine ifd (fun h => ?_) (fun h => ?_)
              · obtain ⟨t, ht⟩ := at_some (l := g.goals) (i := i) (by omega)
                have hc := Gl.cnts_take ht
                have hc' := Gl.cnts_le g.goals (i + 1)
                obtain ⟨ad, p3, hel, hr⟩ := Gl.elem hgs ht
                refine elem_intro hel ?_
                intro r2
                refine num64 (by omega) (by omega) ?_
                refine call_gives (ih t (mem_at ht) hr (by omega) (by omega)) ?_
                refine ifd (fun h => ret_gives (Gl.nodes_neg fun k => Gl.nodes_lt h ⟨k.1.sub t (mem_at ht), by omega⟩) rfl) (fun h => ?_)
                obtain ⟨hS, hcnt, he⟩ := Gl.nodes_ge h
                refine num_eq (x := 1 + (Gl.cnts (g.goals.take (i + 1)) : Int)) (by rw [he, wrap64 (by omega) (by omega), hc]; omega) ?_
                refine num64 (by omega) (by omega) ⟨i + 1, ⟨by omega, fun x hx => ?_, by omega⟩, by omega, ⟨⟨rfl, rfl, rfl, rfl, rfl, trivial⟩, trivial, rfl, rfl⟩⟩
                rw [List.take_add_one, ht, Option.toList_some, List.mem_append, List.mem_singleton] at hx
                rcases hx with hx | rfl
                · exact hall x hx
                · exact hS
              · obtain rfl : i = g.goals.length := by omega
                rw [List.take_length] at hall hle
                exact ret_gives (fin _ (by rw [List.take_length]) T hall (by rw [List.take_length]; exact hle)) rfl
            · refine ifnd (fun h => ret_gives (bad fun T => h (T.nm (by omega))) rfl) (fun hnm => ?_)
              refine ifnd (fun h => ret_gives (bad fun T => h (by have := T.ln0; omega)) rfl) (fun hl => ?_)
              refine ifnd (fun h => ret_gives (bad fun T => h (by have := T.gl1; omega)) rfl) (fun hg1 => ?_)
              obtain ⟨b, hb⟩ := at_some (l := g.goals) (i := 0) (by omega)
              obtain ⟨ad, p2, hel, hr⟩ := Gl.elem hgs hb
              refine elem_intro hel ?_
              refine ifnd (fun h => ret_gives (bad fun T => h (T.cl (by omega) b hb)) rfl) (fun hb9 => ?_)
              have T := top hnm (by omega) (by omega) (by omega) (fun _ x hx => by rw [hb] at hx; cases hx; exact hb9)
              refine loop_intro (fun i : Nat => i ≤ g.goals.length ∧ (∀ x ∈ g.goals.take i, x.Sh) ∧ 1 + (Gl.cnts (g.goals.take i) : Int) ≤ room) (fun i => ⟨[(1, .val (.int .i64 room)), (6, .val (.int .i64 (1 + (Gl.cnts (g.goals.take i) : Int)))), (124, .val (.slice p.2.1 g.goals.length p.2.2)), (125, .val (.int .i64 g.goals.length)), (126, .val (.int .i64 i))], [], 1, μ, h0⟩) (fun i => g.goals.length - i)
                0 ⟨by omega, by simp, by simp [Gl.cnts]; omega⟩ (fun i => ⟨rfl, rfl⟩) ⟨⟨rfl, rfl, rfl, rfl, rfl, trivial⟩, trivial, rfl, rfl⟩ ?_
              rintro i ⟨hi, hall, hle⟩
              refine ifd (fun h => ?_) (fun h => ?_)
              · obtain ⟨t, ht⟩ := at_some (l := g.goals) (i := i) (by omega)
                have hc := Gl.cnts_take ht
                have hc' := Gl.cnts_le g.goals (i + 1)
                obtain ⟨ad, p3, hel, hr⟩ := Gl.elem hgs ht
                refine elem_intro hel ?_
                intro r2
                refine num64 (by omega) (by omega) ?_
                refine call_gives (ih t (mem_at ht) hr (by omega) (by omega)) ?_
                refine ifd (fun h => ret_gives (Gl.nodes_neg fun k => Gl.nodes_lt h ⟨k.1.sub t (mem_at ht), by omega⟩) rfl) (fun h => ?_)
                obtain ⟨hS, hcnt, he⟩ := Gl.nodes_ge h
                refine num_eq (x := 1 + (Gl.cnts (g.goals.take (i + 1)) : Int)) (by rw [he, wrap64 (by omega) (by omega), hc]; omega) ?_
                refine num64 (by omega) (by omega) ⟨i + 1, ⟨by omega, fun x hx => ?_, by omega⟩, by omega, ⟨⟨rfl, rfl, rfl, rfl, rfl, trivial⟩, trivial, rfl, rfl⟩⟩
                rw [List.take_add_one, ht, Option.toList_some, List.mem_append, List.mem_singleton] at hx
                rcases hx with hx | rfl
                · exact hall x hx
                · exact hS
              · obtain rfl : i = g.goals.length := by omega
                rw [List.take_length] at hall hle
                exact ret_gives (fin _ (by rw [List.take_length]) T hall (by rw [List.take_length]; exact hle)) rfl
          · repeat (refine ifd (fun h => ?_) (fun h => ?_) <;> try (exfalso; omega))
            exact ret_gives (bad fun T => by have := T.k0; have := T.k1; omega) rfl
end
end Go.Vx

/- Contracts: goals visited; the variables of a goal. -/
namespace Go.Vx
open Go.Proofs Classical
/-! ### Plain -/
mutual
def Gl.all : Gl → List Gl
  | .mk k s ts gs => .mk k s ts gs :: Gl.alls gs
def Gl.alls : List Gl → List Gl
  | [] => []
  | g :: r => g.all ++ Gl.alls r
end
theorem Gl.alls_map : ∀ l : List Gl, Gl.alls l = l.flatMap Gl.all
  | [] => rfl
  | g :: r => by simp [Gl.alls, Gl.alls_map r]
theorem Gl.all_eq (g : Gl) : g.all = g :: g.goals.flatMap Gl.all := by
  cases g
  rw [Gl.all, Gl.alls_map]
  rfl
theorem Gl.Sh.all : ∀ (g : Gl), g.Sh → ∀ x ∈ g.all, x.Sh :=
  Gl.ind fun g ih h x hx => by
    rw [Gl.all_eq] at hx
    rcases List.mem_cons.1 hx with rfl | hx
    · exact h
    · obtain ⟨y, hy, hx⟩ := List.mem_flatMap.1 hx
      exact ih y hy (h.sub y hy) x hx
noncomputable def Gl.tvars (g : Gl) : List Int := (g.terms.map Tm.toT).flatMap T.vars
noncomputable def Gl.vars (g : Gl) : List Int := g.all.flatMap Gl.tvars
theorem foldl_snoc {α : Type} : ∀ (l s : List α), l.foldl (fun s n => s ++ [n]) s = s ++ l
  | [], s => by simp
  | a :: l, s => by rw [List.foldl_cons, foldl_snoc l]; simp
theorem foldl_app {α β : Type} (f : α → List β) : ∀ (l : List α) (s : List β), l.foldl (fun s x => s ++ f x) s = s ++ l.flatMap f
  | [], s => by simp
  | a :: l, s => by rw [List.foldl_cons, foldl_app f l]; simp
theorem toTs_tm' {xs : List T} : (xs.map T.tm).map Tm.toT = xs := by
  rw [List.map_map]
  exact (List.map_congr_left fun x _ => T.toT_tm x).trans (List.map_id _)
section
variable {μ : Mem}
theorem eachGoal_rel {S : Type} (J : S → Mem → Prop) (step : S → Gl → S) (Q : Gl → Prop) {k : FuncId} {caps : List Value}
    (hc : ∀ s h g v, Q g → RepV μ g.d v → J s h → SpecH Tryz.prog k (v :: caps) μ h fun r μ' h' => r = .tuple #[] ∧ μ' = μ ∧ J (step s g) h') :
    ∀ (g : Gl) {v : Value} (s : S) (h : Mem), RepV μ g.d v → (∀ x ∈ g.all, Q x) → J s h → SpecH Tryz.prog 292 [v, .func (.func k) #[] caps.toArray] μ h fun r μ' h' => r = .tuple #[] ∧ μ' = μ ∧ J (g.all.foldl step s) h' :=
  Gl.ind fun g ih v s h hv hq hj => by
    obtain ⟨p, rfl, hts, hgs⟩ := Gl.inv hv
    have hn := maxLen_le hgs.max
    rw [Gl.all_eq] at hq ⊢
    rw [List.foldl_cons]
    refine SpecH.mk [] Tryz.func292 (by kernel_rfl) ?_
    intro r
    refine call_own (hc s h g _ (hq g (by simp)) hv hj) fun v μ' h' hle hap hR => ?_
    obtain ⟨rfl, e2, hj'⟩ := hR
    obtain rfl := e2.symm
    refine loop_intro (fun p : Nat × Mem => p.1 ≤ g.goals.length ∧ J (((g.goals.take p.1).flatMap Gl.all).foldl step (step s g)) p.2)
      (fun (i, h) => ⟨[(1, .val (.func (.func k) #[] caps.toArray)), (10, .val (.slice p.2.1 g.goals.length p.2.2)), (11, .val (.int .i64 g.goals.length)), (12, .val (.int .i64 i))], [], 1, μ, h⟩) (fun p => g.goals.length - p.1)
      (0, h') ⟨by simp, by simpa using hj'⟩ (fun (_, _) => ⟨rfl, rfl⟩) ⟨⟨rfl, rfl, rfl, rfl, trivial⟩, trivial, rfl, rfl⟩ ?_
    rintro ⟨i, h1⟩ ⟨hi, hj1⟩
    dsimp only at hi hj1
    refine ifd (fun hlt => ?_) (fun hlt => ?_)
    · obtain ⟨t, ht⟩ := at_some (l := g.goals) (i := i) (by omega)
      obtain ⟨ad, p3, hel, hr⟩ := Gl.elem hgs ht
      refine elem_intro hel ?_
      intro r4
      refine call_own (ih t (mem_at ht) _ h1 hr (fun x hx => hq x (List.mem_cons_of_mem _ (List.mem_flatMap.2 ⟨t, mem_at ht, hx⟩))) hj1) fun v μ' h' hle hap hR => ?_
      obtain ⟨rfl, e2, hj2⟩ := hR
      obtain rfl := e2.symm
      refine num64 (by omega) (by omega) ⟨(i + 1, h'), ⟨by dsimp only; omega, ?_⟩, by dsimp only; omega, ⟨⟨rfl, rfl, rfl, rfl, trivial⟩, trivial, rfl, rfl⟩⟩
      dsimp only
      rw [List.take_add_one, ht, Option.toList_some, List.flatMap_append, List.foldl_append]
      simpa using hj2
    · obtain rfl : i = g.goals.length := by omega
      rw [List.take_length] at hj1
      exact ret_plain ⟨rfl, rfl, hj1⟩
/-- The map of variables: which it holds. -/
def KeysInv (rm : Nat) (s : List Int) (h : Mem) : Prop := ∃ r l, h rm = some (.cells #[.map (some r)] 299 (0, 0)) ∧ h r = some (mapO l) ∧ MapOk IntKey l ∧ ∀ n, (mget l (.int .i64 n)).isSome ↔ n ∈ s
theorem goalVars11_spec {rm : Nat} {s : List Int} {h : Mem} {n : Int} (H : KeysInv rm s h) : SpecH Tryz.prog 327 [.int .i64 n, .pointer (some ⟨rm, 0, none⟩)] μ h fun r μ' h' => r = .tuple #[] ∧ μ' = μ ∧ KeysInv rm (s ++ [n]) h' := by
  obtain ⟨r, l, h1, h2, hk, hg⟩ := H
  have e1 : rm ≠ r := ne_of_obj h1 h2 (by simp [mapO])
  refine SpecH.mk [] Tryz.func327 (by kernel_rfl) ?_
  refine own_intro [.map (some r)] rfl (box_at h1) ?_
  refine upd_intro l h2 (hk.weaken (by rintro _ ⟨n, rfl⟩; rfl)) rfl ?_
  refine ret_plain ⟨rfl, rfl, r, _, ?_, Mem.set_at _ _ _, hk.int _, fun m => ?_⟩
  · dsimp only; rw [Mem.set_ne e1]; exact h1
  · rw [mget_int, List.mem_append, List.mem_singleton]
    by_cases e : m = n
    · simp [e]
    · rw [if_neg e, hg]; simp [e]
theorem goalVars1_spec {rm : Nat} {s : List Int} {h : Mem} {g : Gl} {v : Value} (hok : ∀ t ∈ g.terms, t.Ok) (hv : RepV μ g.d v) (H : KeysInv rm s h) : SpecH Tryz.prog 326 [v, .pointer (some ⟨rm, 0, none⟩)] μ h fun r μ' h' => r = .tuple #[] ∧ μ' = μ ∧ KeysInv rm (s ++ g.tvars) h' := by
  obtain ⟨p, rfl, hts, hgs⟩ := Gl.inv hv
  obtain ⟨xs, hxs, hxo⟩ := lift_ok hok
  have htv : g.tvars = xs.flatMap T.vars := by
    rw [Gl.tvars, hxs, List.map_map]
    congr 1
    exact (List.map_congr_left fun x _ => T.toT_tm x).trans (List.map_id _)
  rw [htv]
  rw [hxs, List.length_map] at hts ⊢
  have hn := maxLen_le hts.max
  refine SpecH.mk [] Tryz.func326 (by kernel_rfl) ?_
  intro r
  refine loop_intro (fun p : Nat × Mem => p.1 ≤ xs.length ∧ KeysInv rm (s ++ (xs.take p.1).flatMap T.vars) p.2)
    (fun (i, h) => ⟨[(1, .val (.pointer (some ⟨rm, 0, none⟩))), (6, .val (.slice p.1.1 xs.length p.1.2)), (7, .val (.int .i64 xs.length)), (8, .val (.int .i64 i))], [], 1, μ, h⟩) (fun p => xs.length - p.1)
    (0, h) ⟨by simp, by simpa using H⟩ (fun (_, _) => ⟨rfl, rfl⟩) ⟨⟨rfl, rfl, rfl, rfl, trivial⟩, trivial, rfl, rfl⟩ ?_
  rintro ⟨i, h1⟩ ⟨hi, hj1⟩
  dsimp only at hi hj1
  refine ifd (fun hlt => ?_) (fun hlt => ?_)
  · obtain ⟨x, hx'⟩ := at_some (l := xs) (i := i) (by omega)
    obtain ⟨ad, p3, hel, hto⟩ := Tm.elem (i := i) (t := x.tm) hts (by simp [hx'])
    refine elem_intro hel ?_
    intro r4
    refine call_own (eachVar_rel (KeysInv rm) (fun s n => s ++ [n]) (fun _ _ => True) (fun s h n _ hj => goalVars11_spec hj) x _ h1 hto (fun _ _ _ _ => trivial) hj1) fun v μ' h' hle hap hR => ?_
    obtain ⟨rfl, e2, hj2⟩ := hR
    obtain rfl := e2.symm
    rw [foldl_snoc] at hj2
    refine num64 (by omega) (by omega) ⟨(i + 1, h'), ⟨by dsimp only; omega, ?_⟩, by dsimp only; omega, ⟨⟨rfl, rfl, rfl, rfl, trivial⟩, trivial, rfl, rfl⟩⟩
    dsimp only
    rw [List.take_add_one, hx', Option.toList_some, List.flatMap_append]
    simpa using hj2
  · obtain rfl : i = xs.length := by omega
    rw [List.take_length] at hj1
    exact ret_plain ⟨rfl, rfl, hj1⟩
theorem Gl.vars_range {g : Gl} (h : g.Sh) : ∀ n ∈ g.vars, 0 ≤ n ∧ n ≤ 100000 := fun n hn => by
  obtain ⟨x, hx, hn⟩ := List.mem_flatMap.1 hn
  obtain ⟨xs, hxs, hxo⟩ := lift_ok (h.all g x hx).top.tm
  rw [Gl.tvars, hxs, toTs_tm'] at hn
  obtain ⟨t, ht, hn⟩ := List.mem_flatMap.1 hn
  exact T.vars_range (hxo t ht).1 n hn
theorem goalVars_spec {g : Gl} {v : Value} (hS : g.Sh) (hv : RepV μ g.d v) : Spec Tryz.prog 291 [v] μ fun v μ' => ∃ xs : List Int, (∀ n, n ∈ xs ↔ n ∈ g.vars) ∧ xs.Pairwise (· < ·) ∧ Fresh μ μ' (.sl 1 (xs.map D.i)) v := by
  obtain ⟨p, rfl⟩ := Gl.invV hv
  refine Spec.mkO [3, 4] Tryz.func291 (by kernel_rfl) ?_
  intro r
  intro rM hmM hoM r3 hm3 ho3
  refine sto_intro [.map none] 299 (Mem.set_at _ _ _) rfl (Nat.le_refl _) ?_
  dsimp only at hmM hoM hm3 ho3
  have n1 : rM ≠ r3 := fun e => by subst e; simp [Mem.set_get] at ho3
  generalize hh : Mem.set (Mem.set _ r3 _) r3 _ = h0
  have H0 : KeysInv r3 [] h0 := by
    subst hh
    refine ⟨rM, [], ?_, ?_, MapOk.nil, fun n => by simp [mget]⟩
    · rw [Mem.set_at]; rfl
    · dsimp only; rw [Mem.set_ne n1, Mem.set_ne n1, Mem.set_at]
  refine call_own (eachGoal_rel (KeysInv r3) (fun s g => s ++ g.tvars) (fun g => ∀ t ∈ g.terms, t.Ok) (fun s h g v hq hv hj => goalVars1_spec hq hv hj) g [] h0 hv (fun x hx => (Gl.Sh.all g hS x hx).top.tm) H0) fun v μ' h' hle hap hR => ?_
  obtain ⟨rfl, e2, hj⟩ := hR
  obtain rfl := e2.symm
  rw [foldl_app] at hj
  obtain ⟨r, l, h1, h2, hk, hg⟩ := hj
  have hlen : l.length ≤ 1000000 := by
    obtain ⟨ks, hks, hnd⟩ := keys_ints hk
    have := nodup_range (N := 100001) hnd fun n hn => by
      have h3 := (hg n).1 ((mget_keys hks n).2 hn)
      have := Gl.vars_range hS n (by simpa [Gl.vars] using h3)
      omega
    have h4 := congrArg List.length hks
    simp only [ints, List.length_map] at h4
    omega
  refine own_intro [.map (some r)] rfl (box_at h1) ?_
  refine call_own (sortedInts_spec h2 hk hlen) fun v μ2 h2' hle2 hap2 hR2 => ?_
  obtain ⟨rfl, xs, g1, g2, g3⟩ := hR2
  exact ret_plain ⟨xs, fun n => (g1 n).trans ((hg n).trans (by simp [Gl.vars])), g2, g3⟩
theorem varsBelow_spec {g : Gl} {v : Value} {n : Int} (hS : g.Sh) (hv : RepV μ g.d v) : Spec Tryz.prog 211 [v, .int .i64 n] μ fun r _ => r = .bool (decide (∀ m ∈ g.vars, m < n)) := by
  obtain ⟨p, rfl⟩ := Gl.invV hv
  refine Spec.mk Tryz.func211 (by kernel_rfl) ?_
  intro r
  refine call_plain (goalVars_spec hS hv) fun v1 μ1 hle1 hR => ?_
  obtain ⟨xs, g1, g2, g3⟩ := hR
  obtain ⟨b, c, rfl, hsl⟩ := Rep.sl g3.rep
  rw [List.length_map] at hsl ⊢
  have hn := maxLen_le hsl.max
  refine loop_intro (fun i : Nat => i ≤ xs.length ∧ ∀ m ∈ xs.take i, m < n) (fun i => ⟨[(1, .val (.int .i64 n)), (8, .val (.slice b xs.length c)), (9, .val (.int .i64 xs.length)), (10, .val (.int .i64 i))], [], 1, μ1, Mem.nil⟩) (fun i => xs.length - i)
    0 ⟨by simp, by simp⟩ (fun _ => ⟨rfl, rfl⟩) ⟨⟨rfl, rfl, rfl, rfl, trivial⟩, trivial, rfl, rfl⟩ ?_
  rintro i ⟨hi, hall⟩
  refine ifd (fun hlt => ?_) (fun hlt => ?_)
  · obtain ⟨x, hx⟩ := at_some (l := xs) (i := i) (by omega)
    obtain ⟨ad, hel⟩ := Ints.elem hsl hx
    refine elem_intro hel ?_
    refine ifd (fun hge => ret_plain (isF fun hh => ?_)) (fun hge => ?_)
    · have := hh x ((g1 x).1 (mem_at hx)); omega
    refine num64 (by omega) (by omega) ⟨i + 1, ⟨by omega, fun y hy => ?_⟩, by omega, ⟨⟨rfl, rfl, rfl, rfl, trivial⟩, trivial, rfl, rfl⟩⟩
    rw [List.take_add_one, hx, Option.toList_some, List.mem_append, List.mem_singleton] at hy
    rcases hy with hy | rfl
    · exact hall y hy
    · omega
  · obtain rfl : i = xs.length := by omega
    rw [List.take_length] at hall
    exact ret_plain (isT fun m hm => hall m ((g1 m).2 hm))
end
end Go.Vx

/- Contracts: the laws' own functions on values of the type Rel: sizes, copies, equality, marks; what an argument reads. (By gen_types.py.) -/
namespace Go.Vx
open Go.Proofs Classical
structure Rl where
  name : ByteArray
  arity : Int
  locals : Int
  body : Gl
def Rl.d (x : Rl) : D := .st [.s x.name, .i x.arity, .i x.locals, x.body.d]
theorem Rl.d_eq (x : Rl) : x.d = .st [.s x.name, .i x.arity, .i x.locals, x.body.d] := rfl
theorem Rl.d_n (x : Rl) : x.d.n = 7 := by
  rw [Rl.d_eq]
  simp only [D.n, D.ns, Gl.d_n]
abbrev Rl.P := Gl.P
/-- The cells of a value. -/
def Rl.cs (x : Rl) (p : Rl.P) : List Value := [.string x.name, .int .i64 x.arity, .int .i64 x.locals, .int .i64 x.body.kind, .string x.body.name, .slice p.1.1 x.body.terms.length p.1.2, .slice p.2.1 x.body.goals.length p.2.2]
section
variable {μ : Mem}
def Rl.At (μ : Mem) (x : Rl) (p : Rl.P) : Prop := RepV μ x.body.d (.agg (x.body.cs p).toArray)
theorem Rl.invA {x : Rl} {cs : List Value} (h : Rep μ x.d cs) : ∃ p : Rl.P, cs = x.cs p ∧ Rl.At μ x p := by
  rw [Rl.d_eq] at h
  obtain ⟨a0, t0, rfl, h0, h⟩ := h
  have h0 : a0 = [.string x.name] := h0
  subst h0
  obtain ⟨a1, t1, rfl, h1, h⟩ := h
  have h1 : a1 = [.int .i64 x.arity] := h1
  subst h1
  obtain ⟨a2, t2, rfl, h2, h⟩ := h
  have h2 : a2 = [.int .i64 x.locals] := h2
  subst h2
  obtain ⟨a3, t3, rfl, h3, h⟩ := h
  obtain ⟨p3, rfl, r3⟩ := Gl.invR h3
  obtain rfl : t3 = [] := h
  exact ⟨p3, by simp [Rl.cs, Gl.cs], r3⟩
theorem Rl.rep {x : Rl} {cs : List Value} (h : Rep μ x.d cs) : RepV μ x.d (.agg cs.toArray) := by
  rw [Rl.d_eq] at h ⊢; exact ⟨cs, rfl, h⟩
theorem Rl.invR {x : Rl} {cs : List Value} (h : Rep μ x.d cs) : ∃ p : Rl.P, cs = x.cs p ∧ RepV μ x.d (.agg (x.cs p).toArray) := by
  obtain ⟨p, e, _⟩ := Rl.invA h
  subst e
  exact ⟨p, rfl, Rl.rep h⟩
theorem Rl.inv {x : Rl} {v : Value} (h : RepV μ x.d v) : ∃ p : Rl.P, v = .agg #[.string x.name, .int .i64 x.arity, .int .i64 x.locals, .int .i64 x.body.kind, .string x.body.name, .slice p.1.1 x.body.terms.length p.1.2, .slice p.2.1 x.body.goals.length p.2.2] ∧ Rl.At μ x p := by
  have h2 : ∃ cs, v = .agg (List.toArray cs) ∧ Rep μ x.d cs := by rw [Rl.d_eq] at h ⊢; exact h
  obtain ⟨cs, rfl, h3⟩ := h2
  obtain ⟨p, rfl, hA⟩ := Rl.invA h3
  exact ⟨p, rfl, hA⟩
theorem Rl.invV {x : Rl} {v : Value} (h : RepV μ x.d v) : ∃ p : Rl.P, v = .agg #[.string x.name, .int .i64 x.arity, .int .i64 x.locals, .int .i64 x.body.kind, .string x.body.name, .slice p.1.1 x.body.terms.length p.1.2, .slice p.2.1 x.body.goals.length p.2.2] := by
  obtain ⟨p, h, _⟩ := Rl.inv h
  exact ⟨p, h⟩
theorem Rl.elemA {l : List Rl} {base : Option Addr} {n : Nat} (h : Sl μ 7 base n (l.map Rl.d)) {i : Nat} {x : Rl} (hx : l[i]? = some x) : ∃ ad, ∃ p : Rl.P, ElemAt μ base n 7 i ad (x.cs p) ∧ RepV μ x.d (.agg (x.cs p).toArray) ∧ Rl.At μ x p := by
  obtain ⟨ad, cs, h1, h2⟩ := h.get i x.d (by simp [hx])
  obtain ⟨p, rfl, hA⟩ := Rl.invA h2
  exact ⟨ad, p, h1, Rl.rep h2, hA⟩
theorem Rl.elem {l : List Rl} {base : Option Addr} {n : Nat} (h : Sl μ 7 base n (l.map Rl.d)) {i : Nat} {x : Rl} (hx : l[i]? = some x) : ∃ ad, ∃ p : Rl.P, ElemAt μ base n 7 i ad (x.cs p) ∧ RepV μ x.d (.agg (x.cs p).toArray) := by
  obtain ⟨ad, p, h1, h2, _⟩ := Rl.elemA h hx
  exact ⟨ad, p, h1, h2⟩
theorem Rl.ownR {x : Rl} {h : Mem} {cs : List Value} (k : Own x.d h cs) : ∃ p : Rl.P, cs = x.cs p ∧ ∃ g1 g2, Parts h g1 g2 ∧ OwnV (.sl 4 (x.body.terms.map Tm.d)) g1 (.slice p.1.1 x.body.terms.length p.1.2) ∧ OwnV (.sl 4 (x.body.goals.map Gl.d)) g2 (.slice p.2.1 x.body.goals.length p.2.2) := by
  rw [Rl.d_eq] at k
  obtain ⟨a0, t0, h0, r0, rfl, q0, o0, k⟩ := k
  obtain ⟨rfl, rfl⟩ := o0
  obtain rfl := q0.eq (Parts.nil_left _)
  obtain ⟨a1, t1, h1, r1, rfl, q1, o1, k⟩ := k
  obtain ⟨rfl, rfl⟩ := o1
  obtain rfl := q1.eq (Parts.nil_left _)
  obtain ⟨a2, t2, h2, r2, rfl, q2, o2, k⟩ := k
  obtain ⟨rfl, rfl⟩ := o2
  obtain rfl := q2.eq (Parts.nil_left _)
  obtain ⟨a3, t3, h3, r3, rfl, q3, o3, k⟩ := k
  obtain ⟨p3, rfl, ch3⟩ := Gl.ownR o3
  obtain ⟨rfl, rfl⟩ := k
  obtain rfl := q3.eq (Parts.nil_right _)
  exact ⟨p3, by simp [Rl.cs, Gl.cs], ch3⟩
theorem Rl.sz_eq (x : Rl) : x.d.sz = x.name.size + x.body.d.sz := by
  rw [Rl.d_eq]
  simp [D.sz, D.szs]
theorem szRel_spec (x : Rl) {v : Value} {left : Int} (hv : RepV μ x.d v) (hl : 0 ≤ left) (hl2 : left ≤ 1048576) (hw : x.d.wd) : Gives Tryz.prog 199 [v, .int .i64 left] μ (.int .i64 (szR left x.d.sz)) := by
  obtain ⟨p, rfl, hA⟩ := Rl.inv hv
  have hsz := Rl.sz_eq x
  rw [Rl.d_eq] at hw
  have m0 := maxLen_le hw.1
  refine Spec.mk Tryz.func199 (by kernel_rfl) ?_
  intro r
  refine num64 (by omega) (by omega) (ifd (fun h => ret_gives (by rw [szR_neg (by omega)]) rfl) (fun h => ?_))
  refine call_gives (szGoal_spec x.body hA (by omega) (by omega) hw.2.2.2.1) ?_
  refine ifd (fun h => ret_gives (by have := szR_lt h; rw [szR_neg (by omega)]) rfl) (fun h => ?_)
  have q3 := szR_ge h
  rw [szR_pos q3] at h ⊢
  refine ret_gives ?_ rfl
  rw [szR_pos (by omega)]
  first | rfl | (congr 1; omega)
theorem szRelS_of {l : List Rl} (he : ∀ t ∈ l, ∀ {v : Value} {left : Int}, RepV μ t.d v → 0 ≤ left → left ≤ 1048576 → t.d.wd → Gives Tryz.prog 199 [v, .int .i64 left] μ (.int .i64 (szR left t.d.sz)))
    {base : Option Addr} {cap : Nat} {left : Int} (hsl : Sl μ 7 base l.length (l.map Rl.d)) (hl : 0 ≤ left) (hl2 : left ≤ 1048576) (hw : D.wds (l.map Rl.d)) :
    Gives Tryz.prog 110 [.slice base l.length cap, .int .i64 left] μ (.int .i64 (szR left (l.length + D.szs (l.map Rl.d)))) := by
  have hn := maxLen_le hsl.max
  refine Spec.mk Tryz.func110 (by kernel_rfl) ?_
  refine num64 (by omega) (by omega) (ifd (fun h => ret_gives ?_ rfl) (fun h => ?_))
  · rw [szR_neg (by omega)]
  refine loop_intro (fun i : Nat => i ≤ l.length ∧ (D.szs ((l.map Rl.d).take i) : Int) ≤ left - l.length) (fun i => ⟨[(0, .val (.slice base l.length cap)), (1, .val (.int .i64 (left - l.length - D.szs ((l.map Rl.d).take i)))), (5, .val (.int .i64 i))], [], 0, μ, Mem.nil⟩) (fun i => l.length - i)
    0 ⟨by omega, by simp [D.szs]; omega⟩ (fun i => ⟨rfl, rfl⟩) ⟨⟨rfl, by show some (SV.val (.int .i64 _)) = some (SV.val (.int .i64 _)); congr 3; simp [D.szs], rfl, trivial⟩, trivial, rfl, rfl⟩ ?_
  rintro i ⟨hi, hz⟩
  refine ifd (fun h => ?_) (fun h => ?_)
  · obtain ⟨t, ht⟩ := at_some (l := l) (i := i) (by omega)
    have hx := at_map (f := Rl.d) ht
    have hs := D.szs_take hx
    have hs' := D.szs_le (l.map Rl.d) (i + 1)
    obtain ⟨ad, p, hel, hr⟩ := Rl.elem hsl ht
    refine elem_intro hel (call_gives (he t (mem_at ht) hr (by omega) (by omega) (D.wds_mem hw _ (mem_at hx))) ?_)
    refine ifd (fun h => ret_gives ?_ rfl) (fun h => ?_)
    · have := szR_lt h
      rw [szR_neg (by omega)]
    · have := szR_ge h
      refine num64 (by omega) (by omega) ⟨i + 1, ⟨by omega, by omega⟩, by omega, ⟨⟨rfl, ?_, rfl, trivial⟩, trivial, rfl, rfl⟩⟩
      rw [szR_pos this, hs]
      show some (SV.val (.int .i64 _)) = some (SV.val (.int .i64 _))
      congr 3; omega
  · obtain rfl : i = l.length := by omega
    rw [List.take_of_length_le (by simp)] at hz ⊢
    refine ret_gives ?_ rfl
    rw [szR_pos (by omega)]; congr 1; omega
theorem szRelS_spec {l : List Rl} {base : Option Addr} {cap : Nat} {left : Int} (hsl : Sl μ 7 base l.length (l.map Rl.d)) (hl : 0 ≤ left) (hl2 : left ≤ 1048576) (hw : D.wds (l.map Rl.d)) :
    Gives Tryz.prog 110 [.slice base l.length cap, .int .i64 left] μ (.int .i64 (szR left (l.length + D.szs (l.map Rl.d)))) := szRelS_of (fun t _ _ _ => szRel_spec t) hsl hl hl2 hw
set_option maxRecDepth 4000 in
theorem toRel_spec (x : Rl) {μ : Mem} {v : Value} (hv : RepV μ x.d v) (hb : x.d.sz ≤ 1048576) : Spec Tryz.prog 205 [v] μ fun v μ' => Fresh μ μ' x.d v := by
  obtain ⟨p, rfl, hA⟩ := Rl.inv hv
  have hsz := Rl.sz_eq x
  have A0 := hA
  refine Spec.mk Tryz.func205 (by kernel_rfl) ?_
  intro r1 r2 r3
  refine call_plain (toGoal_spec x.body A0 (by omega)) fun u0 μ0 hle0 hf0 => ?_
  obtain ⟨pp0, rfl⟩ := Gl.invV hf0.rep
  rw [Rl.d_eq]
  exact ret_plain (FreshS.st (FreshS.str (FreshS.int (FreshS.int (FreshS.cons hf0 hle0 (Mem.Le.refl _) (FreshS.nil))))))
theorem toRelS_of {l : List Rl} (he : ∀ t ∈ l, ∀ {μ : Mem} {v : Value}, RepV μ t.d v → t.d.sz ≤ 1048576 → Spec Tryz.prog 205 [v] μ fun v μ' => Fresh μ μ' t.d v)
    {base : Option Addr} {cap : Nat} (hsl : Sl μ 7 base l.length (l.map Rl.d)) (hb : l.length + D.szs (l.map Rl.d) ≤ 1048576) :
    Spec Tryz.prog 118 [.slice base l.length cap] μ fun v μ' => Fresh μ μ' (.sl 7 (l.map Rl.d)) v := by
  refine Spec.mk Tryz.func118 (by kernel_rfl) ?_
  refine make_intro l.length rfl rfl (by simp only; omega) (Nat.le_trans (m := 1048576) (by omega) (by decide)) ?_
  intro r
  refine loop_intro (fun p : Nat × List Value × Mem => μ.Le p.2.2 ∧ ∃ g, Filled 7 (.agg #[.string ⟨#[]⟩, .int .i64 0, .int .i64 0, .int .i64 0, .string ⟨#[]⟩, .slice none 0 0, .slice none 0 0]) μ p.2.2 (l.map Rl.d) p.1 p.2.1 g)
    (fun (i, xs, μ') => ⟨[(0, .val (.slice base l.length cap)), (3, .row 0 (some r) l.length l.length), (4, .val (.int .i64 i))], [(0, some (.row (some r) l.length 143 7 xs))], 1, μ', Mem.nil⟩) (fun p => l.length - p.1)
    (0, List.replicate l.length (.agg #[.string ⟨#[]⟩, .int .i64 0, .int .i64 0, .int .i64 0, .string ⟨#[]⟩, .slice none 0 0, .slice none 0 0]), μ) ⟨Mem.Le.refl μ, _, Filled.start (by simp)⟩ (fun (_, _, _) => ⟨rfl, rfl⟩) ⟨⟨rfl, rfl, rfl, trivial⟩, ⟨rfl, trivial⟩, rfl, rfl⟩ ?_
  rintro ⟨i, xs, μ'⟩ ⟨hle, g, hf⟩
  dsimp only at hle hf
  have hi := hf.le
  have hlen := hf.len
  rw [List.length_map] at hi hlen
  refine ifd (fun h => ?_) (fun h => ?_)
  · obtain ⟨t, ht⟩ := at_some (l := l) (i := i) (by omega)
    have hx := at_map (f := Rl.d) ht
    have hs := D.szs_mem hx
    obtain ⟨ad, p, hel, hr⟩ := Rl.elem (hsl.mono hle) ht
    refine elem_intro hel (call_plain (he t (mem_at ht) hr (by omega)) fun v μ'' hle2 hfr => ?_)
    obtain ⟨g', hf'⟩ := hf.step hx (Rl.d_n t) hfr hle2
    obtain ⟨p2, rfl⟩ := Rl.invV hfr.rep
    refine rel_intro i rfl (by omega) ?_
    refine get_intro _ (hf.rest i (by omega) (by simpa using h)) ?_
    refine num64 (by omega) (by omega) ⟨(i + 1, _, μ''), ⟨hle.trans hle2, g', hf'⟩, by dsimp only; omega, ⟨⟨rfl, rfl, rfl, trivial⟩, ⟨rfl, trivial⟩, rfl, rfl⟩⟩
  · obtain rfl : i = l.length := by omega
    refine ret_frz [0] fun μ2 hle2 hno hrow => .inl ?_
    have := Fresh.ofRow (hf.all (by simp)) hf.sub hf.new hle hle2 hno hrow (Nat.le_trans (m := 1048576) (by omega) (by decide))
    rw [hlen] at this
    exact this
theorem toRelS_spec {l : List Rl} {base : Option Addr} {cap : Nat} (hsl : Sl μ 7 base l.length (l.map Rl.d)) (hb : l.length + D.szs (l.map Rl.d) ≤ 1048576) :
    Spec Tryz.prog 118 [.slice base l.length cap] μ fun v μ' => Fresh μ μ' (.sl 7 (l.map Rl.d)) v := toRelS_of (fun t _ _ _ => toRel_spec t) hsl hb
theorem eqRel_spec (x : Rl) {v v' : Value} (hv : RepV μ x.d v) (hv' : RepV μ x.d v') : Gives Tryz.prog 213 [v, v'] μ (.bool true) := by
  obtain ⟨p, rfl, hA⟩ := Rl.inv hv
  obtain ⟨p', rfl, hB⟩ := Rl.inv hv'
  have A0 := hA
  have B0 := hB
  refine Spec.mk Tryz.func213 (by kernel_rfl) ?_
  intro r1 r2
  refine ifnd (fun h => absurd rfl h) (fun _ => ?_)
  refine ifnd (fun h => absurd rfl h) (fun _ => ?_)
  refine ifnd (fun h => absurd rfl h) (fun _ => ?_)
  refine call_gives (eqGoal_spec x.body A0 B0) ?_
  refine if_intro (fun h => nomatch h) (fun _ => ?_)
  exact ret_gives rfl rfl
theorem eqRelS_of {l : List Rl} (he : ∀ t ∈ l, ∀ {v v' : Value}, RepV μ t.d v → RepV μ t.d v' → Gives Tryz.prog 213 [v, v'] μ (.bool true))
    {base base' : Option Addr} {cap cap' : Nat} (hl : Sl μ 7 base l.length (l.map Rl.d)) (hl' : Sl μ 7 base' l.length (l.map Rl.d)) :
    Gives Tryz.prog 128 [.slice base l.length cap, .slice base' l.length cap'] μ (.bool true) := by
  have hn := maxLen_le hl.max
  refine Spec.mk Tryz.func128 (by kernel_rfl) ?_
  refine ifnd (fun h => absurd rfl h) (fun _ => ?_)
  refine loop_intro (fun i : Nat => i ≤ l.length) (fun i => ⟨[(0, .val (.slice base l.length cap)), (1, .val (.slice base' l.length cap')), (5, .val (.int .i64 i))], [], 0, μ, Mem.nil⟩) (fun i => l.length - i)
    0 (by omega) (fun i => ⟨rfl, rfl⟩) ⟨⟨rfl, rfl, rfl, trivial⟩, trivial, rfl, rfl⟩ ?_
  intro i hi
  refine ifd (fun h => ?_) (fun h => ?_)
  · obtain ⟨t, ht⟩ := at_some (l := l) (i := i) (by omega)
    obtain ⟨ad, p, hel, hr⟩ := Rl.elem hl ht
    obtain ⟨ad', p', hel', hr'⟩ := Rl.elem hl' ht
    refine elem_intro hel (elem_intro hel' (call_gives (he t (mem_at ht) hr hr') ?_))
    refine if_intro (fun h => nomatch h) (fun _ => ?_)
    exact num64 (by omega) (by omega) ⟨i + 1, by omega, by omega, ⟨⟨rfl, rfl, rfl, trivial⟩, trivial, rfl, rfl⟩⟩
  · exact ret_gives rfl rfl
theorem eqRelS_spec {l : List Rl} {base base' : Option Addr} {cap cap' : Nat} (hl : Sl μ 7 base l.length (l.map Rl.d)) (hl' : Sl μ 7 base' l.length (l.map Rl.d)) :
    Gives Tryz.prog 128 [.slice base l.length cap, .slice base' l.length cap'] μ (.bool true) := eqRelS_of (fun t _ _ _ => eqRel_spec t) hl hl'
theorem Rl.mk_eq (x : Rl) (k : Int) : x.d.mk k = (.st [.s (mtext (k)), .i (k + 1), .i (k + 1 + 1), .st [.i (k + 1 + 1 + 1), .s (mtext (k + 1 + 1 + 1 + 1)), .sl 4 (D.mks (x.body.terms.map Tm.d) (k + 1 + 1 + 1 + 1 + 1)).1, .sl 4 (D.mks (x.body.goals.map Gl.d) ((D.mks (x.body.terms.map Tm.d) (k + 1 + 1 + 1 + 1 + 1)).2)).1]], (D.mks (x.body.goals.map Gl.d) ((D.mks (x.body.terms.map Tm.d) (k + 1 + 1 + 1 + 1 + 1)).2)).2) := by
  rw [Rl.d_eq]
  simp only [D.mk, D.mks, Gl.mk_eq]
theorem Rl.cnt_eq (x : Rl) : x.d.cnt = 5 + D.cnts (x.body.terms.map Tm.d) + D.cnts (x.body.goals.map Gl.d) := by
  rw [Rl.d_eq]
  simp only [D.cnt, D.cnts, Gl.cnt_eq]
  omega
set_option maxHeartbeats 1000000 in
theorem markRelS_spec {l : List Rl} {h : Mem} {v : Value} {k : Int} (ho : OwnV (.sl 7 (l.map Rl.d)) h v) (hk : 0 ≤ k) (hk2 : k + D.cnts (l.map Rl.d) ≤ 9223372036854775807) :
    SpecH Tryz.prog 129 [v, .int .i64 k] μ h fun r μ' h' => r = .int .i64 (D.mks (l.map Rl.d) k).2 ∧ μ' = μ ∧ OwnV (.sl 7 (D.mks (l.map Rl.d) k).1) h' v := by
  obtain ⟨base, cap, e, hm, hn, ho⟩ := ho
  simp only [List.cons.injEq, and_true] at e
  subst e
  have hm' : (l.map Rl.d).length ≤ 9223372036854775807 := Nat.le_trans hm.max (by decide)
  refine SpecH.mk [] Tryz.func129 (by kernel_rfl) ?_
  rcases ho with ⟨hnil, rfl⟩ | ⟨r, flat, rest, ty, h2, rfl, hr, rfl, ho⟩
  · rw [hnil]
    refine loop_intro (fun i : Nat => i = 0) (fun i => ⟨[(0, .val (.slice base 0 cap)), (1, .val (.int .i64 k)), (5, .val (.int .i64 i))], [], 0, μ, Mem.nil⟩) (fun i => 0 - i)
      0 rfl (fun i => ⟨rfl, rfl⟩) ⟨⟨rfl, rfl, rfl, trivial⟩, trivial, rfl, rfl⟩ ?_
    rintro i rfl
    refine ifd (fun h => by omega) (fun h => ret_plain ⟨rfl, rfl, base, cap, rfl, ⟨Nat.zero_le _, Nat.zero_le _⟩, by simp [D.mks], .inl ⟨rfl, rfl⟩⟩)
  · generalize hxs : l.map Rl.d = xs at *
    refine loop_intro (fun p : Nat × List Value × List Value × Mem => Marking xs k rest r p.1 p.2.1 p.2.2.1 p.2.2.2)
      (fun (i, pre, tail, hh) => ⟨[(0, .val (.slice (some ⟨r, 0, none⟩) xs.length cap)), (1, .val (.int .i64 (D.mks (xs.take i) k).2)), (5, .val (.int .i64 i))], [], 0, μ, hh.set r (.cells (List.toArray (pre ++ tail)) ty (0, 0))⟩) (fun p => xs.length - p.1)
      (0, [], flat ++ rest, h2) (Marking.start hr ho) (fun (_, _, _, _) => ⟨rfl, rfl⟩) ⟨⟨rfl, rfl, rfl, trivial⟩, trivial, rfl, rfl⟩ ?_
    rintro ⟨i, pre, tail, hh⟩ M
    dsimp only at M
    have hi := M.le
    have hge := D.mks_cnt (xs.take i) k
    refine ifd (fun h => ?_) (fun h => ?_)
    · obtain ⟨x, ht⟩ := at_some (l := l) (i := i) (by rw [← hxs] at h; simp at h; omega)
      have hx : xs[i]? = some x.d := by rw [← hxs]; simp [ht]
      obtain ⟨c, g, m, c2, rfl, hown, hp, hmr, back⟩ := M.next hx
      obtain ⟨p, rfl, ch⟩ := Rl.ownR hown
      have hlen := M.len hn
      have hcnt := Marking.cnt (k := k) hx
      rw [Rl.cnt_eq] at hcnt
      generalize hk0 : (D.mks (xs.take i) k).2 = k0 at *
      have hs0 := D.mks_cnt (x.body.terms.map Tm.d) (k0 + 1 + 1 + 1 + 1 + 1)
      have hs1 := D.mks_cnt (x.body.goals.map Gl.d) ((D.mks (x.body.terms.map Tm.d) (k0 + 1 + 1 + 1 + 1 + 1)).2)
      obtain ⟨g1, g2, q0, ch0, ch1⟩ := ch
      have q1 := Parts.nil_right g2
      have P0 := hp.symm
      have R0 := M.out
      refine call_gives (markText_spec _ (by omega)) ?_
      refine ptr_intro ⟨r, 0, none⟩ rfl (by omega) (by omega) ?_
      refine sto_at (j := 0) (by simp [Addr.add_lit', hlen]) (by simp [Rl.cs]) ?_
      refine num64 (by omega) (by omega) ?_
      refine ptr_intro ⟨r, 0, none⟩ rfl (by omega) (by omega) ?_
      refine sto_at (j := 1) (by simp [Addr.add_lit', hlen]) (by simp [Rl.cs]) ?_
      refine num64 (by omega) (by omega) ?_
      refine ptr_intro ⟨r, 0, none⟩ rfl (by omega) (by omega) ?_
      refine sto_at (j := 2) (by simp [Addr.add_lit', hlen]) (by simp [Rl.cs]) ?_
      refine num64 (by omega) (by omega) ?_
      refine ptr_intro ⟨r, 0, none⟩ rfl (by omega) (by omega) ?_
      refine sto_at (j := 3) (by simp [Addr.add_lit', hlen]) (by simp [Rl.cs]) ?_
      refine num64 (by omega) (by omega) ?_
      refine call_gives (markText_spec _ (by omega)) ?_
      refine ptr_intro ⟨r, 0, none⟩ rfl (by omega) (by omega) ?_
      refine sto_at (j := 4) (by simp [Addr.add_lit', hlen]) (by simp [Rl.cs]) ?_
      refine num64 (by omega) (by omega) ?_
      refine ptr_intro ⟨r, 0, none⟩ rfl (by omega) (by omega) ?_
      refine own_at (j := 5) (by simp [Addr.add_lit', hlen]) rfl ?_
      obtain ⟨mm0, st0⟩ := mark_step R0 P0 q0
      refine call_own (SpecH.frame (st0 _).1 (markTermS_spec ch0 (by omega) (by omega))) fun v0 μ0 H0 hle0 hap0 hR0 => ?_
      obtain ⟨y0, ⟨rfl, eμ0, oo0⟩, pp0⟩ := hR0
      subst eμ0
      obtain ⟨M1, hh1, rfl, R1, n0, ap0, mj0, P1⟩ := (st0 _).2 _ _ pp0
      refine ptr_intro ⟨r, 0, none⟩ rfl (by omega) (by omega) ?_
      refine own_at (j := 6) (by simp [Addr.add_lit', hlen]) rfl ?_
      obtain ⟨mm1, st1⟩ := mark_step R1 P1 q1
      refine call_own (SpecH.frame (st1 _).1 (markGoalS_spec ch1 (by omega) (by omega))) fun v1 μ1 H1 hle1 hap1 hR1 => ?_
      obtain ⟨y1, ⟨rfl, eμ1, oo1⟩, pp1⟩ := hR1
      subst eμ1
      obtain ⟨M2, hh2, rfl, R2, n1, ap1, mj1, P2⟩ := (st1 _).2 _ _ pp1
      have e1 := P2.eq (Parts.nil_right _)
      subst e1
      obtain ⟨gg, u1, u2⟩ := mj1.assoc mj0
      have e2 := u2.is_join
      subst e2
      have PP := u1.symm
      have hmk := D.mks_take hx k
      have hmk2 := Rl.mk_eq x k0
      rw [hk0] at hmk
      refine num64 (by omega) (by omega) ⟨(i + 1, pre ++ [.string (mtext (k0)), .int .i64 (k0 + 1), .int .i64 (k0 + 1 + 1), .int .i64 (k0 + 1 + 1 + 1), .string (mtext (k0 + 1 + 1 + 1 + 1)), .slice p.1.1 x.body.terms.length p.1.2, .slice p.2.1 x.body.goals.length p.2.2], c2 ++ rest, Mem.join gg m), back _ _ u2.apart (u1.none_of n1 n0) ?_, by dsimp only; omega, ⟨⟨rfl, ?_, rfl, trivial⟩, trivial, rfl, ?_⟩⟩
      · rw [hmk2]
        exact OwnS.str (OwnS.int (OwnS.int (OwnS.last (OwnS.int (OwnS.str (OwnS.cons (c1 := [_]) PP oo0 (OwnS.last oo1)))))))
      · rw [hmk, hmk2]
        rfl
      · simp [Rl.cs, Tm.cs, Bd.cs, Mem.nil_join]
    · have hi' : i = xs.length := by omega
      subst hi'
      obtain ⟨rfl, o1⟩ := M.last
      refine ret_plain ⟨by rw [List.take_length], rfl, some ⟨r, 0, none⟩, cap, by rw [D.mks_length], by rw [D.mks_length]; exact hm, D.mks_size k hn, .inr ⟨r, pre, tail, ty, hh, rfl, M.out, rfl, o1⟩⟩
theorem read_Rel : Reads Tryz.prog 217 fun d => ∃ x : Rl, d = x.d ∧ x.d.wd
  | 0 => ReadsTo.zero _
  | n + 1 => (reads_struct ti217 rfl (FieldsTo.cons ti9 (reads_str und_string n) (FieldsTo.cons ti3 (reads_int und_int n) (FieldsTo.cons ti3 (reads_int und_int n) (FieldsTo.cons ti51 (read_Goal n) FieldsTo.nil))))).weaken fun d h => by
    obtain ⟨ds, rfl, h⟩ := h
    obtain ⟨_, _, rfl, ⟨x0, rfl, w0⟩, q0⟩ := h.cons
    obtain ⟨_, _, rfl, ⟨x1, rfl, w1⟩, q1⟩ := q0.cons
    obtain ⟨_, _, rfl, ⟨x2, rfl, w2⟩, q2⟩ := q1.cons
    obtain ⟨_, _, rfl, ⟨x3, rfl, w3⟩, q3⟩ := q2.cons
    obtain rfl := q3.nil
    refine ⟨.mk x0 x1 x2 x3, (Rl.d_eq (.mk x0 x1 x2 x3)).symm, ?_⟩
    rw [Rl.d_eq]
    exact ⟨w0, w1, w2, w3, trivial⟩
theorem read_RelS : Reads Tryz.prog 61 fun d => ∃ l : List Rl, d = .sl 7 (l.map Rl.d) ∧ D.wds (l.map Rl.d) := fun n =>
  (reads_sl ti61.kind (cellsOf_tt ti217) (fun d h => by obtain ⟨a, rfl, _⟩ := h; exact Rl.d_n a) read_Rel n).weaken fun d h => by
    obtain ⟨xs, rfl, hx⟩ := h
    obtain ⟨l, rfl⟩ := lift_list (f := Rl.d) fun x h => by obtain ⟨t, h, _⟩ := hx x h; exact ⟨t, h⟩
    exact ⟨l, rfl, D.wds_of fun x hm => by obtain ⟨t, rfl, h⟩ := hx x hm; exact h⟩
end
end Go.Vx

/- Contracts: the laws' own functions on values of the type Program: sizes, copies, equality, marks; what an argument reads. (By gen_types.py.) -/
namespace Go.Vx
open Go.Proofs Classical
structure Pg where
  rels : List Rl
def Pg.d (x : Pg) : D := .st [.sl 7 (x.rels.map Rl.d)]
theorem Pg.d_eq (x : Pg) : x.d = .st [.sl 7 (x.rels.map Rl.d)] := rfl
theorem Pg.d_n (x : Pg) : x.d.n = 1 := by
  rw [Pg.d_eq]
  simp only [D.n, D.ns]
abbrev Pg.P := (Option Addr × Nat)
/-- The cells of a value. -/
def Pg.cs (x : Pg) (p : Pg.P) : List Value := [.slice p.1 x.rels.length p.2]
section
variable {μ : Mem}
def Pg.At (μ : Mem) (x : Pg) (p : Pg.P) : Prop := Sl μ 7 p.1 x.rels.length (x.rels.map Rl.d)
theorem Pg.invA {x : Pg} {cs : List Value} (h : Rep μ x.d cs) : ∃ p : Pg.P, cs = x.cs p ∧ Pg.At μ x p := by
  rw [Pg.d_eq] at h
  obtain ⟨a0, t0, rfl, h0, h⟩ := h
  obtain ⟨v0, rfl⟩ := one_of (Rep.len _ _ h0)
  obtain ⟨b0, c0, rfl, s0⟩ := Rep.sl h0
  rw [List.length_map] at s0
  obtain rfl : t0 = [] := h
  exact ⟨(b0, c0), by simp [Pg.cs], s0⟩
theorem Pg.rep {x : Pg} {cs : List Value} (h : Rep μ x.d cs) : RepV μ x.d (.agg cs.toArray) := by
  rw [Pg.d_eq] at h ⊢; exact ⟨cs, rfl, h⟩
theorem Pg.invR {x : Pg} {cs : List Value} (h : Rep μ x.d cs) : ∃ p : Pg.P, cs = x.cs p ∧ RepV μ x.d (.agg (x.cs p).toArray) := by
  obtain ⟨p, e, _⟩ := Pg.invA h
  subst e
  exact ⟨p, rfl, Pg.rep h⟩
theorem Pg.inv {x : Pg} {v : Value} (h : RepV μ x.d v) : ∃ p : Pg.P, v = .agg #[.slice p.1 x.rels.length p.2] ∧ Pg.At μ x p := by
  have h2 : ∃ cs, v = .agg (List.toArray cs) ∧ Rep μ x.d cs := by rw [Pg.d_eq] at h ⊢; exact h
  obtain ⟨cs, rfl, h3⟩ := h2
  obtain ⟨p, rfl, hA⟩ := Pg.invA h3
  exact ⟨p, rfl, hA⟩
theorem Pg.invV {x : Pg} {v : Value} (h : RepV μ x.d v) : ∃ p : Pg.P, v = .agg #[.slice p.1 x.rels.length p.2] := by
  obtain ⟨p, h, _⟩ := Pg.inv h
  exact ⟨p, h⟩
theorem Pg.elemA {l : List Pg} {base : Option Addr} {n : Nat} (h : Sl μ 1 base n (l.map Pg.d)) {i : Nat} {x : Pg} (hx : l[i]? = some x) : ∃ ad, ∃ p : Pg.P, ElemAt μ base n 1 i ad (x.cs p) ∧ RepV μ x.d (.agg (x.cs p).toArray) ∧ Pg.At μ x p := by
  obtain ⟨ad, cs, h1, h2⟩ := h.get i x.d (by simp [hx])
  obtain ⟨p, rfl, hA⟩ := Pg.invA h2
  exact ⟨ad, p, h1, Pg.rep h2, hA⟩
theorem Pg.elem {l : List Pg} {base : Option Addr} {n : Nat} (h : Sl μ 1 base n (l.map Pg.d)) {i : Nat} {x : Pg} (hx : l[i]? = some x) : ∃ ad, ∃ p : Pg.P, ElemAt μ base n 1 i ad (x.cs p) ∧ RepV μ x.d (.agg (x.cs p).toArray) := by
  obtain ⟨ad, p, h1, h2, _⟩ := Pg.elemA h hx
  exact ⟨ad, p, h1, h2⟩
theorem Pg.ownR {x : Pg} {h : Mem} {cs : List Value} (k : Own x.d h cs) : ∃ p : Pg.P, cs = x.cs p ∧ OwnV (.sl 7 (x.rels.map Rl.d)) h (.slice p.1 x.rels.length p.2) := by
  rw [Pg.d_eq] at k
  obtain ⟨a0, t0, h0, r0, rfl, q0, o0, k⟩ := k
  obtain ⟨v0, rfl⟩ := one_of (Own.len o0)
  obtain ⟨b0, c0, rfl⟩ := Own.sl o0
  rw [List.length_map] at o0
  obtain ⟨rfl, rfl⟩ := k
  obtain rfl := q0.eq (Parts.nil_right _)
  exact ⟨(b0, c0), by simp [Pg.cs], o0⟩
theorem Pg.sz_eq (x : Pg) : x.d.sz = (x.rels.length + D.szs (x.rels.map Rl.d)) := by
  rw [Pg.d_eq]
  simp [D.sz, D.szs]
theorem szProgram_spec (x : Pg) {v : Value} {left : Int} (hv : RepV μ x.d v) (hl : 0 ≤ left) (hl2 : left ≤ 1048576) (hw : x.d.wd) : Gives Tryz.prog 38 [v, .int .i64 left] μ (.int .i64 (szR left x.d.sz)) := by
  obtain ⟨p, rfl, hA⟩ := Pg.inv hv
  have hsz := Pg.sz_eq x
  rw [Pg.d_eq] at hw
  refine Spec.mk Tryz.func38 (by kernel_rfl) ?_
  intro r
  refine call_gives (szRelS_spec hA (by omega) (by omega) hw.1) ?_
  refine ifd (fun h => ret_gives (by have := szR_lt h; rw [szR_neg (by omega)]) rfl) (fun h => ?_)
  have q0 := szR_ge h
  rw [szR_pos q0] at h ⊢
  refine ret_gives ?_ rfl
  rw [szR_pos (by omega)]
  first | rfl | (congr 1; omega)
set_option maxRecDepth 4000 in
theorem toProgram_spec (x : Pg) {μ : Mem} {v : Value} (hv : RepV μ x.d v) (hb : x.d.sz ≤ 1048576) : Spec Tryz.prog 40 [v] μ fun v μ' => Fresh μ μ' x.d v := by
  obtain ⟨p, rfl, hA⟩ := Pg.inv hv
  have hsz := Pg.sz_eq x
  have A0 := hA
  refine Spec.mk Tryz.func40 (by kernel_rfl) ?_
  intro r1 r2 r3
  refine call_plain (toRelS_spec A0 (by omega)) fun u0 μ0 hle0 hf0 => ?_
  obtain ⟨bb0, cc0, rfl, _⟩ := Rep.sl hf0.rep
  rw [Pg.d_eq]
  exact ret_plain (FreshS.st (FreshS.cons hf0 hle0 (Mem.Le.refl _) (FreshS.nil)))
theorem eqProgram_spec (x : Pg) {v v' : Value} (hv : RepV μ x.d v) (hv' : RepV μ x.d v') : Gives Tryz.prog 42 [v, v'] μ (.bool true) := by
  obtain ⟨p, rfl, hA⟩ := Pg.inv hv
  obtain ⟨p', rfl, hB⟩ := Pg.inv hv'
  have A0 := hA
  have B0 := hB
  refine Spec.mk Tryz.func42 (by kernel_rfl) ?_
  intro r1 r2
  refine call_gives (eqRelS_spec A0 B0) ?_
  refine if_intro (fun h => nomatch h) (fun _ => ?_)
  exact ret_gives rfl rfl
theorem Pg.mk_eq (x : Pg) (k : Int) : x.d.mk k = (.st [.sl 7 (D.mks (x.rels.map Rl.d) (k)).1], (D.mks (x.rels.map Rl.d) (k)).2) := by
  rw [Pg.d_eq]
  simp only [D.mk, D.mks]
theorem Pg.cnt_eq (x : Pg) : x.d.cnt = 0 + D.cnts (x.rels.map Rl.d) := by
  rw [Pg.d_eq]
  simp only [D.cnt, D.cnts]
  omega
theorem Pg.mt_eq (x : Pg) (k : Int) : x.d.mt k = (.st [.sl 7 (D.mks (x.rels.map Rl.d) (k)).1], (D.mks (x.rels.map Rl.d) (k)).2) := by
  rw [Pg.d_eq]
  simp only [D.mt, D.mts]
theorem markProgram_spec (x : Pg) {h : Mem} {v : Value} {k : Int} (ho : OwnV x.d h v) (hk : 0 ≤ k) (hk2 : k + (D.cnts (x.rels.map Rl.d)) ≤ 9223372036854775807) :
    SpecH Tryz.prog 43 [v, .int .i64 k] μ h fun r μ' h' => r = .int .i64 (x.d.mt k).2 ∧ μ' = μ ∧ OwnV (x.d.mt k).1 h' v := by
  have ho2 : ∃ cs, v = .agg (List.toArray cs) ∧ Own x.d h cs := by rw [Pg.d_eq] at ho ⊢; exact ho
  obtain ⟨cs, rfl, ho2⟩ := ho2
  obtain ⟨p, rfl, ch⟩ := Pg.ownR ho2
  rw [Pg.mt_eq]
  have hs0 := D.mks_cnt (x.rels.map Rl.d) (k)
  refine SpecH.mk [] Tryz.func43 (by kernel_rfl) ?_
  intro r
  refine call_own (markRelS_spec ch (by omega) (by omega)) fun v μ' h' hle hap hR => ?_
  obtain ⟨rfl, e, oo0⟩ := hR
  subst e
  exact ret_plain ⟨rfl, rfl, _, rfl, OwnS.last oo0⟩
theorem read_Program : Reads Tryz.prog 63 fun d => ∃ x : Pg, d = x.d ∧ x.d.wd
  | 0 => ReadsTo.zero _
  | n + 1 => (reads_struct ti63 rfl (FieldsTo.cons ti61 (read_RelS n) FieldsTo.nil)).weaken fun d h => by
    obtain ⟨ds, rfl, h⟩ := h
    obtain ⟨_, _, rfl, ⟨x0, rfl, w0⟩, q0⟩ := h.cons
    obtain rfl := q0.nil
    refine ⟨.mk x0, (Pg.d_eq (.mk x0)).symm, ?_⟩
    rw [Pg.d_eq]
    exact ⟨w0, trivial⟩
end
end Go.Vx

/- Contracts: relations of a program, calls that fit. -/
namespace Go.Vx
open Go.Proofs Classical
noncomputable def relFrom : List Rl → Nat → ByteArray → Int
  | [], _, _ => -1
  | r :: l, i, s => if r.name = s then i else relFrom l (i + 1) s
noncomputable def relAt (p : Pg) (s : ByteArray) : Int := relFrom p.rels 0 s
theorem relFrom_some {s : ByteArray} : ∀ {l : List Rl} {i : Nat}, 0 ≤ relFrom l i s → ∃ (j : Nat) (r : Rl), relFrom l i s = ((i + j : Nat) : Int) ∧ l[j]? = some r ∧ r.name = s
  | [], i, h => by simp [relFrom] at h
  | r :: l, i, h => by
    rw [relFrom] at h ⊢
    by_cases e : r.name = s
    · rw [if_pos e]; exact ⟨0, r, by simp, rfl, e⟩
    · rw [if_neg e] at h ⊢
      obtain ⟨j, r', h1, h2, h3⟩ := relFrom_some h
      exact ⟨j + 1, r', by rw [h1]; congr 1; omega, h2, h3⟩
/-- A call that fits the program. -/
def CallFits (p : Pg) (g : Gl) : Prop := g.kind = 9 → ∃ (i : Nat) (r : Rl), relAt p g.name = i ∧ p.rels[i]? = some r ∧ r.arity = g.terms.length
section
variable {μ : Mem}
theorem relation_spec {p : Pg} {s : ByteArray} {v : Value} (hv : RepV μ p.d v) : Gives Tryz.prog 151 [v, .string s] μ (.int .i64 (relAt p s)) := by
  obtain ⟨q, rfl, hsl⟩ := Pg.inv hv
  have hn := maxLen_le hsl.max
  refine Spec.mk Tryz.func151 (by kernel_rfl) ?_
  intro r
  refine loop_intro (fun i : Nat => i ≤ p.rels.length ∧ relFrom (p.rels.drop i) i s = relAt p s) (fun i => ⟨[(1, .val (.string s)), (8, .val (.slice q.1 p.rels.length q.2)), (9, .val (.int .i64 p.rels.length)), (10, .val (.int .i64 i))], [], 1, μ, Mem.nil⟩) (fun i => p.rels.length - i)
    0 ⟨by omega, rfl⟩ (fun _ => ⟨rfl, rfl⟩) ⟨⟨rfl, rfl, rfl, rfl, trivial⟩, trivial, rfl, rfl⟩ ?_
  rintro i ⟨hi, hJ⟩
  refine ifd (fun hlt => ?_) (fun hlt => ?_)
  · obtain ⟨x, hx⟩ := at_some (l := p.rels) (i := i) (by omega)
    obtain ⟨ad, q2, hel, hr⟩ := Rl.elem hsl hx
    rw [drop_at hx, relFrom] at hJ
    refine elem_intro hel ?_
    intro r2
    refine ifd (fun e => ?_) (fun e => ?_)
    · rw [if_pos e] at hJ
      exact ret_gives (by rw [← hJ]) rfl
    · rw [if_neg e] at hJ
      exact num64 (by omega) (by omega) ⟨i + 1, ⟨by omega, hJ⟩, by omega, ⟨⟨rfl, rfl, rfl, rfl, trivial⟩, trivial, rfl, rfl⟩⟩
  · obtain rfl : i = p.rels.length := by omega
    rw [List.drop_length] at hJ
    exact ret_gives (by rw [← hJ]; rfl) rfl
theorem l14Find_spec {p : Pg} {s : ByteArray} {v : Value} (hv : RepV μ p.d v) : Gives Tryz.prog 137 [v, .string s] μ (.int .i64 (relAt p s)) := by
  obtain ⟨q, rfl, hsl⟩ := Pg.inv hv
  have hn := maxLen_le hsl.max
  refine Spec.mk Tryz.func137 (by kernel_rfl) ?_
  intro r
  refine loop_intro (fun i : Nat => i ≤ p.rels.length ∧ relFrom (p.rels.drop i) i s = relAt p s) (fun i => ⟨[(1, .val (.string s)), (8, .val (.slice q.1 p.rels.length q.2)), (9, .val (.int .i64 p.rels.length)), (10, .val (.int .i64 i))], [], 1, μ, Mem.nil⟩) (fun i => p.rels.length - i)
    0 ⟨by omega, rfl⟩ (fun _ => ⟨rfl, rfl⟩) ⟨⟨rfl, rfl, rfl, rfl, trivial⟩, trivial, rfl, rfl⟩ ?_
  rintro i ⟨hi, hJ⟩
  refine ifd (fun hlt => ?_) (fun hlt => ?_)
  · obtain ⟨x, hx⟩ := at_some (l := p.rels) (i := i) (by omega)
    obtain ⟨ad, q2, hel, hr⟩ := Rl.elem hsl hx
    rw [drop_at hx, relFrom] at hJ
    refine elem_intro hel ?_
    intro r2
    refine ifd (fun e => ?_) (fun e => ?_)
    · rw [if_pos e] at hJ
      exact ret_gives (by rw [← hJ]) rfl
    · rw [if_neg e] at hJ
      exact num64 (by omega) (by omega) ⟨i + 1, ⟨by omega, hJ⟩, by omega, ⟨⟨rfl, rfl, rfl, rfl, trivial⟩, trivial, rfl, rfl⟩⟩
  · obtain rfl : i = p.rels.length := by omega
    rw [List.drop_length] at hJ
    exact ret_gives (by rw [← hJ]; rfl) rfl
theorem relAt_some {p : Pg} {s : ByteArray} (h : 0 ≤ relAt p s) : ∃ (j : Nat) (r : Rl), relAt p s = (j : Int) ∧ p.rels[j]? = some r := by
  obtain ⟨j, r, h1, h2, h3⟩ := relFrom_some h
  exact ⟨j, r, by rw [relAt, h1]; simp, h2⟩
theorem callFits_iff {p : Pg} {g : Gl} (h9 : g.kind = 9) {j : Nat} {r : Rl} (e : relAt p g.name = (j : Int)) (hr : p.rels[j]? = some r) : CallFits p g ↔ r.arity = g.terms.length := by
  constructor
  · intro h
    obtain ⟨i, r', h1, h2, h3⟩ := h h9
    rw [e] at h1
    obtain rfl : j = i := by omega
    rw [hr] at h2; cases h2
    exact h3
  · intro h _
    exact ⟨j, r, e, hr, h⟩
theorem callFits_neg {p : Pg} {g : Gl} (h9 : g.kind = 9) (h : ¬ 0 ≤ relAt p g.name) : ¬ CallFits p g := fun k => by
  obtain ⟨i, r', h1, _, _⟩ := k h9
  omega
/-- All calls in a goal fit. -/
inductive FitAll (p : Pg) : Gl → Prop
  | mk {g : Gl} (top : CallFits p g) (sub : ∀ x ∈ g.goals, FitAll p x) : FitAll p g
theorem FitAll.top {p : Pg} {g : Gl} (h : FitAll p g) : CallFits p g := by cases h; assumption
theorem FitAll.sub {p : Pg} {g : Gl} (h : FitAll p g) : ∀ x ∈ g.goals, FitAll p x := by cases h; assumption
theorem l14Calls_spec {p : Pg} {vp : Value} (hp : RepV μ p.d vp) : ∀ (g : Gl) {v : Value}, g.Sh → RepV μ g.d v → Gives Tryz.prog 288 [vp, v] μ (.bool (decide (FitAll p g))) := by
  obtain ⟨q, rfl, hrl⟩ := Pg.inv hp
  refine Gl.ind fun g ih v hS hv => ?_
  obtain ⟨q2, rfl, hts, hgs⟩ := Gl.inv hv
  have hn := maxLen_le hgs.max
  refine Spec.mk Tryz.func288 (by kernel_rfl) ?_
  intro r1 r2
  refine ifd (fun h9 => ?_) (fun h9 => ?_)
  · have hg0 : g.goals = [] := List.eq_nil_of_length_eq_zero (hS.top.gl0 (.inr h9))
    have hiff : FitAll p g ↔ CallFits p g := ⟨fun h => h.top, fun h => .mk h (by rw [hg0]; simp)⟩
    refine call_gives (l14Find_spec hp) ?_
    refine ifd (fun h0 => ?_) (fun h0 => ret_gives (isF fun h => callFits_neg h9 h0 h.top) rfl)
    obtain ⟨j, rl, e, hr⟩ := relAt_some h0
    obtain ⟨ad, q3, hel, hrr⟩ := Rl.elem hrl hr
    rw [e]
    refine elem_intro hel ?_
    exact ret_gives (isI ((callFits_iff h9 e hr).symm.trans hiff.symm)) rfl
  · refine loop_intro (fun i : Nat => i ≤ g.goals.length ∧ ∀ x ∈ g.goals.take i, FitAll p x) (fun i => ⟨[(2, .loc 0 r1 0), (30, .val (.slice q2.2.1 g.goals.length q2.2.2)), (31, .val (.int .i64 g.goals.length)), (32, .val (.int .i64 i))], [(0, some (.cells r1 [.val (.slice q.1 p.rels.length q.2)] 67))], 2, μ, Mem.nil⟩) (fun i => g.goals.length - i)
      0 ⟨by omega, by simp⟩ (fun _ => ⟨rfl, rfl⟩) ⟨⟨rfl, rfl, rfl, rfl, trivial⟩, ⟨rfl, trivial⟩, rfl, rfl⟩ ?_
    rintro i ⟨hi, hall⟩
    refine ifd (fun hlt => ?_) (fun hlt => ?_)
    · obtain ⟨t, ht⟩ := at_some (l := g.goals) (i := i) (by omega)
      obtain ⟨ad, q3, hel, hr⟩ := Gl.elem hgs ht
      refine elem_intro hel ?_
      intro r3
      refine call_gives (ih t (mem_at ht) (hS.sub t (mem_at ht)) hr) ?_
      refine ifnd (fun h => ret_gives (isF fun S => h (S.sub t (mem_at ht))) rfl) (fun h => ?_)
      refine num64 (by omega) (by omega) ⟨i + 1, ⟨by omega, fun x hx => ?_⟩, by omega, ⟨⟨rfl, rfl, rfl, rfl, trivial⟩, ⟨rfl, trivial⟩, rfl, rfl⟩⟩
      rw [List.take_add_one, ht, Option.toList_some, List.mem_append, List.mem_singleton] at hx
      rcases hx with hx | rfl
      · exact hall x hx
      · exact h
    · obtain rfl : i = g.goals.length := by omega
      rw [List.take_length] at hall
      exact ret_gives (isT (.mk (fun h => absurd h h9) hall)) rfl
end
end Go.Vx

/- Contracts: calls that fit, the program's side. -/
namespace Go.Vx
open Go.Proofs Classical
theorem FitAll.all {p : Pg} : ∀ {g : Gl}, FitAll p g → ∀ x ∈ g.all, CallFits p x := fun {g} => by
  refine Gl.ind (q := fun g => FitAll p g → ∀ x ∈ g.all, CallFits p x) (fun g ih h x hx => ?_) g
  rw [Gl.all_eq] at hx
  rcases List.mem_cons.1 hx with rfl | hx
  · exact h.top
  · obtain ⟨y, hy, hx⟩ := List.mem_flatMap.1 hx
    exact ih y hy (h.sub y hy) x hx
theorem FitAll.of {p : Pg} : ∀ {g : Gl}, (∀ x ∈ g.all, CallFits p x) → FitAll p g := fun {g} => by
  refine Gl.ind (q := fun g => (∀ x ∈ g.all, CallFits p x) → FitAll p g) (fun g ih h => ?_) g
  rw [Gl.all_eq] at h
  exact .mk (h g (by simp)) fun y hy => ih y hy fun x hx => h x (List.mem_cons_of_mem _ (List.mem_flatMap.2 ⟨y, hy, hx⟩))
theorem foldl_and {α : Type} (f : α → Prop) : ∀ (l : List α) (b : Bool), l.foldl (fun b x => b && decide (f x)) b = (b && decide (∀ x ∈ l, f x))
  | [], b => by simp
  | a :: l, b => by
    rw [List.foldl_cons, foldl_and f l, Bool.and_assoc]
    congr 1
    by_cases h : f a
    · simp [h]
    · simp [h]
section
variable {μ : Mem}
theorem callsFit1_spec {p : Pg} {q : Pg.P} {rp rf : Nat} {b : Bool} {h : Mem} {g : Gl} {v : Value} (hp : RepV μ p.d (.agg #[.slice q.1 p.rels.length q.2])) (hrl : Sl μ 7 q.1 p.rels.length (p.rels.map Rl.d)) (hat : μ rp = some (.cells #[.slice q.1 p.rels.length q.2] 67 (0, 0)))
    (hv : RepV μ g.d v) (hf : h rf = some (.cells #[.bool b] 4 (0, 0))) :
    SpecH Tryz.prog 293 [v, .pointer (some ⟨rp, 0, none⟩), .pointer (some ⟨rf, 0, none⟩)] μ h fun r μ' h' => r = .tuple #[] ∧ μ' = μ ∧ h' rf = some (.cells #[.bool (b && decide (CallFits p g))] 4 (0, 0)) := by
  obtain ⟨q2, rfl, hts, hgs⟩ := Gl.inv hv
  refine SpecH.mk [] Tryz.func293 (by kernel_rfl) ?_
  intro r
  refine ifd (fun h9 => ?_) (fun h9 => ?_)
  rotate_left
  · have : CallFits p g := fun k => absurd k h9
    exact ret_plain ⟨rfl, rfl, by rw [decide_eq_true this, Bool.and_true]; exact hf⟩
  refine ext_intro [.slice q.1 p.rels.length q.2] rfl (box_at hat) ?_
  refine call_gives (relation_spec hp) ?_
  refine ifd (fun h0 => ?_) (fun h0 => ?_)
  · have : ¬ CallFits p g := callFits_neg h9 (by omega)
    refine sto_intro [.bool b] 4 hf rfl (Nat.le_refl _) ?_
    exact ret_plain ⟨rfl, rfl, by rw [decide_eq_false this, Bool.and_false]; exact Mem.set_at _ _ _⟩
  · obtain ⟨j, rl, e, hr⟩ := relAt_some (Int.not_lt.1 h0)
    obtain ⟨ad, q3, hel, hrr⟩ := Rl.elem hrl hr
    have hiff := callFits_iff h9 e hr
    refine ext_intro [.slice q.1 p.rels.length q.2] rfl (fun j v hj => by show μ.cell (((⟨rp, 0, none⟩ : Addr).add 0).add j) = some v; rw [add_add, Nat.zero_add]; exact box_at hat j v hj) ?_
    rw [e]
    refine elem_intro hel ?_
    refine ifnd (fun hne => ?_) (fun heq => ?_)
    · have : ¬ CallFits p g := fun k => hne (hiff.1 k)
      refine sto_intro [.bool b] 4 hf rfl (Nat.le_refl _) ?_
      exact ret_plain ⟨rfl, rfl, by rw [decide_eq_false this, Bool.and_false]; exact Mem.set_at _ _ _⟩
    · have : CallFits p g := hiff.2 heq
      exact ret_plain ⟨rfl, rfl, by rw [decide_eq_true this, Bool.and_true]; exact hf⟩
theorem callsFit_spec {p : Pg} {vp v : Value} {g : Gl} (hp : RepV μ p.d vp) (hv : RepV μ g.d v) : Spec Tryz.prog 212 [vp, v] μ fun r _ => r = .bool (decide (FitAll p g)) := by
  obtain ⟨q, rfl, hrl⟩ := Pg.inv hp
  obtain ⟨q2, rfl⟩ := Gl.invV hv
  refine Spec.mkO [5] Tryz.func212 (by kernel_rfl) ?_
  intro r1 r2
  intro rf hmf hof
  refine sto_intro [.bool false] 4 (Mem.set_at _ _ _) rfl (Nat.le_refl _) ?_
  generalize hh : Mem.set (Mem.set _ rf _) rf _ = h0
  have hf0 : h0 rf = some (.cells #[.bool true] 4 (0, 0)) := by subst hh; rw [Mem.set_at]; rfl
  refine call_gen [0] [] (fun _ => rfl) ?_
  intro μ1 hle1 hno1 hat1
  refine own_go (eachGoal_rel (fun b h => h rf = some (.cells #[.bool b] 4 (0, 0))) (fun b x => b && decide (CallFits p x)) (fun _ => True) (fun b h x w _ hw hj => callsFit1_spec (hp.mono hle1) (hrl.mono hle1) hat1 hw hj) g true h0 (hv.mono hle1) (fun _ _ => trivial) hf0) fun v μ2 h' hle hap hR => ?_
  obtain ⟨rfl, e2, hj⟩ := hR
  obtain rfl := e2.symm
  rw [foldl_and, Bool.true_and] at hj
  refine own_intro [.bool _] rfl (box_at hj) ?_
  exact ret_plain (isI ⟨fun h => FitAll.of h, fun h => h.all⟩)
end
end Go.Vx

/- Contracts: well-formed programs, the program's side. -/
namespace Go.Vx
open Go.Proofs Classical
structure RelOk (p : Pg) (i : Nat) (r : Rl) : Prop where
  at_ : relAt p r.name = i
  name : IsRel r.name
  ar0 : 0 ≤ r.arity
  ar4 : r.arity ≤ 4
  lo0 : 0 ≤ r.locals
  lo8 : r.locals ≤ 8
  body : r.body.Sh
  size : r.body.cnt ≤ 60
  vars : ∀ n ∈ r.body.vars, n < r.arity + r.locals
  calls : FitAll p r.body
def Pg.Ok (p : Pg) : Prop := p.rels.length ≤ 8 ∧ ∀ (i : Nat) (r : Rl), p.rels[i]? = some r → RelOk p i r
section
variable {μ : Mem}
theorem impl_ProgramOk_spec {p : Pg} {v : Value} (hp : RepV μ p.d v) : Spec Tryz.prog 127 [v] μ fun r _ => r = .bool (decide p.Ok) := by
  obtain ⟨q, rfl, hrl⟩ := Pg.inv hp
  refine Spec.mk Tryz.func127 (by kernel_rfl) ?_
  intro r1
  refine ifd (fun h8 => ret_plain (isF fun h => by have := h.1; omega)) (fun h8 => ?_)
  refine loop_intro (fun x : Nat × Mem => x.1 ≤ p.rels.length ∧ μ.Le x.2 ∧ ∀ (j : Nat) (r : Rl), j < x.1 → p.rels[j]? = some r → RelOk p j r)
    (fun (i, μ') => ⟨[(1, .loc 0 r1 0), (10, .val (.slice q.1 p.rels.length q.2)), (11, .val (.int .i64 p.rels.length)), (12, .val (.int .i64 i))], [(0, some (.cells r1 [.val (.slice q.1 p.rels.length q.2)] 67))], 1, μ', Mem.nil⟩) (fun x => p.rels.length - x.1)
    (0, μ) ⟨by simp, Mem.Le.refl _, fun j r hj => by simp at hj⟩ (fun (_, _) => ⟨rfl, rfl⟩) ⟨⟨rfl, rfl, rfl, rfl, trivial⟩, ⟨rfl, trivial⟩, rfl, rfl⟩ ?_
  rintro ⟨i, μ'⟩ ⟨hi, hle, hall⟩
  dsimp only at hi hle hall
  refine ifd (fun hlt => ?_) (fun hlt => ?_)
  · obtain ⟨x, hx⟩ := at_some (l := p.rels) (i := i) (by omega)
    obtain ⟨ad, q2, hel, hr, hb⟩ := Rl.elemA (hrl.mono hle) hx
    have hb : RepV μ' x.body.d (.agg (x.body.cs q2).toArray) := hb
    have bad : ¬ RelOk p i x → Value.bool false = .bool (decide p.Ok) := fun h => isF fun k => h (k.2 i x hx)
    refine elem_intro hel ?_
    intro r2
    refine call_gives (impl_IsRelName_spec _ _) ?_
    refine ifnd (fun h => ret_plain (bad fun k => h k.name)) (fun g1 => ?_)
    refine call_gives (relation_spec (hp.mono hle)) ?_
    refine ifnd (fun h => ret_plain (bad fun k => h k.at_)) (fun g2 => ?_)
    refine ifd (fun h => ret_plain (bad fun k => by have := k.ar0; omega)) (fun g3 => ?_)
    refine ifd (fun h => ret_plain (bad fun k => by have := k.ar4; omega)) (fun g4 => ?_)
    refine ifd (fun h => ret_plain (bad fun k => by have := k.lo0; omega)) (fun g5 => ?_)
    refine ifd (fun h => ret_plain (bad fun k => by have := k.lo8; omega)) (fun g6 => ?_)
    refine call_gives (goalNodes_spec x.body hb (by decide) (by decide)) ?_
    refine ifd (fun h => ret_plain (bad fun k => Gl.nodes_lt h ⟨k.body, by have := k.size; omega⟩)) (fun h => ?_)
    obtain ⟨g7, g8, _⟩ := Gl.nodes_ge h
    refine num64 (by omega) (by omega) ?_
    refine call_plain (varsBelow_spec g7 hb) fun v1 μ1 hle1 hR => ?_
    obtain rfl := hR
    refine ifnd (fun h => ret_plain (bad fun k => h k.vars)) (fun g9 => ?_)
    refine call_plain (callsFit_spec ((hp.mono hle).mono hle1) (hb.mono hle1)) fun v2 μ2 hle2 hR => ?_
    obtain rfl := hR
    refine ifnd (fun h => ret_plain (bad fun k => h k.calls)) (fun g10 => ?_)
    have hok : RelOk p i x := ⟨g2, g1, by omega, by omega, by omega, by omega, g7, by omega, g9, g10⟩
    refine num64 (by omega) (by omega) ⟨(i + 1, μ2), ⟨by dsimp only; omega, (hle.trans hle1).trans hle2, fun j r hj hr => ?_⟩, by dsimp only; omega, ⟨⟨rfl, rfl, rfl, rfl, trivial⟩, ⟨rfl, trivial⟩, rfl, rfl⟩⟩
    rcases Nat.lt_or_ge j i with h6 | h6
    · exact hall j r h6 hr
    · obtain rfl : j = i := by omega
      rw [hx] at hr; cases hr; exact hok
  · obtain rfl : i = p.rels.length := by omega
    exact ret_plain (isT ⟨by omega, fun j r hr => hall j r (List.getElem?_eq_some_iff.1 hr).1 hr⟩)
/-- How many nodes a goal has; none if it is not well-formed. -/
noncomputable def Gl.count (g : Gl) : Int := if g.Ok then g.cnt else 0
theorem spec_GoalSize_spec (g : Gl) {v : Value} (hv : RepV μ g.d v) (hw : g.d.wd) : Gives Tryz.prog 204 [v] μ (.int .i64 g.count) := by
  obtain ⟨p, rfl⟩ := Gl.invV hv
  refine Spec.mk Tryz.func204 (by kernel_rfl) ?_
  intro r
  refine call_gives (spec_GoalOk_spec g hv hw) ?_
  refine ifnd (fun h => ret_gives (by rw [Gl.count, if_neg h]) rfl) (fun h => ?_)
  refine call_gives (l13Count_spec g hv (by decide) (by decide)) ?_
  refine ret_gives ?_ rfl
  congr 1
  have := h.2
  have := g.cnt_pos
  rw [Gl.count, if_pos h, upTo]
  omega
end
end Go.Vx

/- Contracts: the reference's lists of variables, sorted; goals that fit. -/
namespace Go.Vx
open Go.Proofs Classical
theorem ins_sorted {l : List Int} {n : Int} {k : Nat} (hs : l.Pairwise (· < ·)) (h1 : ∀ y ∈ l.take k, y < n) (h2 : ∀ y ∈ l.drop k, n < y) : (insInt l n k).Pairwise (· < ·) := by
  unfold insInt
  rw [List.pairwise_append]
  refine ⟨hs.sublist (List.take_sublist _ _), ?_, ?_⟩
  · rw [List.singleton_append, List.pairwise_cons]
    exact ⟨h2, hs.sublist (List.drop_sublist _ _)⟩
  · intro a ha b hb
    rcases List.mem_append.1 hb with hb | hb
    · rw [List.mem_singleton] at hb; subst hb; exact h1 a ha
    · have := h1 a ha; have := h2 b hb; omega
theorem srt_get {l : List Int} (hs : l.Pairwise (· < ·)) {i j : Nat} {x y : Int} (h : i < j) (hx : l[i]? = some x) (hy : l[j]? = some y) : x < y := by
  obtain ⟨h1, rfl⟩ := List.getElem?_eq_some_iff.1 hx
  obtain ⟨h2, rfl⟩ := List.getElem?_eq_some_iff.1 hy
  exact List.pairwise_iff_getElem.1 hs i j h1 h2 h
theorem take_lt {l : List Int} (hs : l.Pairwise (· < ·)) {k : Nat} {n : Int} (h : k = 0 ∨ ∃ x, l[k - 1]? = some x ∧ x < n) : ∀ y ∈ l.take k, y < n := fun y hy => by
  obtain ⟨i, hi⟩ := List.mem_iff_getElem?.1 hy
  rw [List.getElem?_take] at hi
  split at hi
  · rename_i hik
    rcases h with rfl | ⟨x, hx, hxn⟩
    · omega
    · rcases Nat.lt_or_ge i (k - 1) with h1 | h1
      · have := srt_get hs h1 hi hx; omega
      · obtain rfl : i = k - 1 := by omega
        rw [hx] at hi; cases hi; exact hxn
  · cases hi
theorem drop_gt {l : List Int} (hs : l.Pairwise (· < ·)) {k : Nat} {n : Int} (h : ∀ (j : Nat) y, k ≤ j → l[j]? = some y → n ≤ y) (hne : ∀ y, l[k]? = some y → y ≠ n) : ∀ y ∈ l.drop k, n < y := fun y hy => by
  obtain ⟨i, hi⟩ := List.mem_iff_getElem?.1 hy
  rw [List.getElem?_drop] at hi
  have h1 := h (k + i) y (by omega) hi
  rcases Nat.eq_zero_or_pos i with rfl | h2
  · have := hne y (by simpa using hi)
    omega
  · have hk : k < l.length := by have := (List.getElem?_eq_some_iff.1 hi).1; omega
    have hkk : l[k]? = some l[k] := List.getElem?_eq_getElem hk
    have h3 := h k _ (Nat.le_refl _) hkk
    have := srt_get hs (by omega : k < k + i) hkk hi
    omega
section
variable {μ : Mem}
theorem l02InsertS_spec {l : List Int} {v : Value} {n : Int} (hv : RepV μ (.sl 1 (l.map D.i)) v) (hb : l.length ≤ 1000000000) (hs : l.Pairwise (· < ·)) : Spec Tryz.prog 252 [v, .int .i64 n] μ fun v μ' => ∃ r : List Int, RepV μ' (.sl 1 (r.map D.i)) v ∧ (∀ x, x ∈ r ↔ x = n ∨ x ∈ l) ∧ r.Pairwise (· < ·) := by
  obtain ⟨base, cap, rfl, hsl⟩ := Rep.sl hv
  have hcap := Rep.lens hv
  rw [List.length_map] at hsl hcap hv ⊢
  refine Spec.mk Tryz.func252 (by kernel_rfl) ?_
  refine loop_intro (fun k : Nat => k ≤ l.length ∧ ∀ (j : Nat) y, k ≤ j → l[j]? = some y → n ≤ y) (fun k => ⟨[(0, .val (.slice base l.length cap)), (1, .val (.int .i64 n)), (5, .val (.int .i64 k))], [], 0, μ, Mem.nil⟩) (fun k => k)
    l.length ⟨Nat.le_refl _, fun j y hj hy => absurd (List.getElem?_eq_some_iff.1 hy).1 (by omega)⟩ (fun i => ⟨rfl, rfl⟩) ⟨⟨rfl, rfl, rfl, trivial⟩, trivial, rfl, rfl⟩ ?_
  rintro k ⟨hk, hge⟩
  refine ifd (fun h1 => ?_) (fun h1 => ?_)
  · obtain ⟨x, hx⟩ := at_some (l := l) (i := k - 1) (by omega)
    obtain ⟨ad, hel⟩ := Ints.elem hsl hx
    refine num_eq (x := ((k - 1 : Nat) : Int)) (by rw [wrap64 (by omega) (by omega)]; omega) ?_
    refine elem_intro hel ?_
    refine ifd (fun h2 => ?_) (fun h2 => ?_)
    · refine num_eq (x := ((k - 1 : Nat) : Int)) (by rw [wrap64 (by omega) (by omega)]; omega) ⟨k - 1, ⟨by omega, fun j y hj hy => ?_⟩, by omega, ⟨⟨rfl, rfl, rfl, trivial⟩, trivial, rfl, rfl⟩⟩
      rcases Nat.lt_or_ge j k with h3 | h3
      · obtain rfl : j = k - 1 := by omega
        rw [hx] at hy; cases hy; exact h2
      · exact hge j y h3 hy
    · have htk := take_lt hs (k := k) (n := n) (.inr ⟨x, hx, by omega⟩)
      refine ifd (fun h3 => ?_) (fun h3 => ?_)
      · obtain ⟨y, hy⟩ := at_some (l := l) (i := k) (by omega)
        obtain ⟨ad2, hel2⟩ := Ints.elem hsl hy
        refine elem_intro hel2 ?_
        refine ifd (fun h4 => ret_plain ⟨l, hv, fun x => ⟨.inr, fun hx => hx.elim (fun e => by rw [e, ← h4]; exact mem_at hy) id⟩, hs⟩) (fun h4 => ?_)
        have hgt := drop_gt hs hge (fun z hz => by rw [hy] at hz; cases hz; exact h4)
        intro r0
        refine cut_intro 0 k rfl rfl (by omega) (by omega) ?_
        refine src_intro _ (Ints.src hsl (a := 0) (b := k) (by omega) hk hcap) ?_
        refine grow_intro ?_ ?_ fun b1 c1 _ => ?_
        · show (0 + (ints _).length) * 8 ≤ _; simp [ints]; omega
        · show 0 + (ints _).length ≤ 9223372036854775807; simp [ints]; omega
        intro r1
        refine grow_intro ?_ ?_ fun b2 c2 _ => ?_
        · show (([] ++ ints _).length + 1) * 8 ≤ _; simp [ints]; omega
        · show ([] ++ ints _).length + 1 ≤ 9223372036854775807; simp [ints]; omega
        refine cut_intro k l.length rfl rfl hk (by omega) ?_
        refine src_intro _ (Ints.src hsl (a := k) (b := l.length) hk (Nat.le_refl _) hcap) ?_
        refine grow_intro ?_ ?_ fun b3 c3 _ => ?_
        · show (([] ++ ints _ ++ [_]).length + (ints _).length) * 8 ≤ _; simp [ints]; omega
        · show ([] ++ ints _ ++ [_]).length + (ints _).length ≤ 9223372036854775807; simp [ints]; omega
        refine ret_frz [0] fun μ' hle hno hrow => .inl ⟨insInt l n k, ?_, insInt_mem l n k, ins_sorted hs htk hgt⟩
        have e : [] ++ ints ((l.drop 0).take (k - 0)) ++ [.int .i64 n] ++ ints ((l.drop k).take (l.length - k)) = ints (insInt l n k) := by
          simp [ints, insInt]
          rw [List.take_of_length_le (by simp)]
        rw [e] at hrow ⊢
        exact Ints.sl hrow (Nat.le_trans (m := 2000000000) (by simp [insInt]; omega) (by decide))
      · have hgt := drop_gt hs hge (fun z hz => by have := (List.getElem?_eq_some_iff.1 hz).1; omega)
        intro r0
        refine cut_intro 0 k rfl rfl (by omega) (by omega) ?_
        refine src_intro _ (Ints.src hsl (a := 0) (b := k) (by omega) hk hcap) ?_
        refine grow_intro ?_ ?_ fun b1 c1 _ => ?_
        · show (0 + (ints _).length) * 8 ≤ _; simp [ints]; omega
        · show 0 + (ints _).length ≤ 9223372036854775807; simp [ints]; omega
        intro r1
        refine grow_intro ?_ ?_ fun b2 c2 _ => ?_
        · show (([] ++ ints _).length + 1) * 8 ≤ _; simp [ints]; omega
        · show ([] ++ ints _).length + 1 ≤ 9223372036854775807; simp [ints]; omega
        refine cut_intro k l.length rfl rfl hk (by omega) ?_
        refine src_intro _ (Ints.src hsl (a := k) (b := l.length) hk (Nat.le_refl _) hcap) ?_
        refine grow_intro ?_ ?_ fun b3 c3 _ => ?_
        · show (([] ++ ints _ ++ [_]).length + (ints _).length) * 8 ≤ _; simp [ints]; omega
        · show ([] ++ ints _ ++ [_]).length + (ints _).length ≤ 9223372036854775807; simp [ints]; omega
        refine ret_frz [0] fun μ' hle hno hrow => .inl ⟨insInt l n k, ?_, insInt_mem l n k, ins_sorted hs htk hgt⟩
        have e : [] ++ ints ((l.drop 0).take (k - 0)) ++ [.int .i64 n] ++ ints ((l.drop k).take (l.length - k)) = ints (insInt l n k) := by
          simp [ints, insInt]
          rw [List.take_of_length_le (by simp)]
        rw [e] at hrow ⊢
        exact Ints.sl hrow (Nat.le_trans (m := 2000000000) (by simp [insInt]; omega) (by decide))
  · have htk := take_lt hs (k := k) (n := n) (.inl (by omega))
    refine ifd (fun h3 => ?_) (fun h3 => ?_)
    · obtain ⟨y, hy⟩ := at_some (l := l) (i := k) (by omega)
      obtain ⟨ad2, hel2⟩ := Ints.elem hsl hy
      refine elem_intro hel2 ?_
      refine ifd (fun h4 => ret_plain ⟨l, hv, fun x => ⟨.inr, fun hx => hx.elim (fun e => by rw [e, ← h4]; exact mem_at hy) id⟩, hs⟩) (fun h4 => ?_)
      have hgt := drop_gt hs hge (fun z hz => by rw [hy] at hz; cases hz; exact h4)
      intro r0
      refine cut_intro 0 k rfl rfl (by omega) (by omega) ?_
      refine src_intro _ (Ints.src hsl (a := 0) (b := k) (by omega) hk hcap) ?_
      refine grow_intro ?_ ?_ fun b1 c1 _ => ?_
      · show (0 + (ints _).length) * 8 ≤ _; simp [ints]; omega
      · show 0 + (ints _).length ≤ 9223372036854775807; simp [ints]; omega
      intro r1
      refine grow_intro ?_ ?_ fun b2 c2 _ => ?_
      · show (([] ++ ints _).length + 1) * 8 ≤ _; simp [ints]; omega
      · show ([] ++ ints _).length + 1 ≤ 9223372036854775807; simp [ints]; omega
      refine cut_intro k l.length rfl rfl hk (by omega) ?_
      refine src_intro _ (Ints.src hsl (a := k) (b := l.length) hk (Nat.le_refl _) hcap) ?_
      refine grow_intro ?_ ?_ fun b3 c3 _ => ?_
      · show (([] ++ ints _ ++ [_]).length + (ints _).length) * 8 ≤ _; simp [ints]; omega
      · show ([] ++ ints _ ++ [_]).length + (ints _).length ≤ 9223372036854775807; simp [ints]; omega
      refine ret_frz [0] fun μ' hle hno hrow => .inl ⟨insInt l n k, ?_, insInt_mem l n k, ins_sorted hs htk hgt⟩
      have e : [] ++ ints ((l.drop 0).take (k - 0)) ++ [.int .i64 n] ++ ints ((l.drop k).take (l.length - k)) = ints (insInt l n k) := by
        simp [ints, insInt]
        rw [List.take_of_length_le (by simp)]
      rw [e] at hrow ⊢
      exact Ints.sl hrow (Nat.le_trans (m := 2000000000) (by simp [insInt]; omega) (by decide))
    · have hgt := drop_gt hs hge (fun z hz => by have := (List.getElem?_eq_some_iff.1 hz).1; omega)
      intro r0
      refine cut_intro 0 k rfl rfl (by omega) (by omega) ?_
      refine src_intro _ (Ints.src hsl (a := 0) (b := k) (by omega) hk hcap) ?_
      refine grow_intro ?_ ?_ fun b1 c1 _ => ?_
      · show (0 + (ints _).length) * 8 ≤ _; simp [ints]; omega
      · show 0 + (ints _).length ≤ 9223372036854775807; simp [ints]; omega
      intro r1
      refine grow_intro ?_ ?_ fun b2 c2 _ => ?_
      · show (([] ++ ints _).length + 1) * 8 ≤ _; simp [ints]; omega
      · show ([] ++ ints _).length + 1 ≤ 9223372036854775807; simp [ints]; omega
      refine cut_intro k l.length rfl rfl hk (by omega) ?_
      refine src_intro _ (Ints.src hsl (a := k) (b := l.length) hk (Nat.le_refl _) hcap) ?_
      refine grow_intro ?_ ?_ fun b3 c3 _ => ?_
      · show (([] ++ ints _ ++ [_]).length + (ints _).length) * 8 ≤ _; simp [ints]; omega
      · show ([] ++ ints _ ++ [_]).length + (ints _).length ≤ 9223372036854775807; simp [ints]; omega
      refine ret_frz [0] fun μ' hle hno hrow => .inl ⟨insInt l n k, ?_, insInt_mem l n k, ins_sorted hs htk hgt⟩
      have e : [] ++ ints ((l.drop 0).take (k - 0)) ++ [.int .i64 n] ++ ints ((l.drop k).take (l.length - k)) = ints (insInt l n k) := by
        simp [ints, insInt]
        rw [List.take_of_length_le (by simp)]
      rw [e] at hrow ⊢
      exact Ints.sl hrow (Nat.le_trans (m := 2000000000) (by simp [insInt]; omega) (by decide))
/-- A list of variables: sorted, in range. -/
structure VL (l : List Int) : Prop where
  srt : l.Pairwise (· < ·)
  rng : ∀ x ∈ l, 0 ≤ x ∧ x ≤ 100000
theorem VL.len {l : List Int} (h : VL l) : l.length ≤ 100001 := by
  refine nodup_range (N := 100001) ?_ fun n hn => by have := h.rng n hn; omega
  rw [List.nodup_iff_pairwise_ne]
  exact h.srt.imp fun hab e => by omega
def VarsS (μ' : Mem) (l vs : List Int) (v : Value) : Prop := ∃ r : List Int, RepV μ' (.sl 1 (r.map D.i)) v ∧ (∀ x, x ∈ r ↔ x ∈ vs ∨ x ∈ l) ∧ VL r
theorem l02VarsS_spec : ∀ (x : T) {μ : Mem} {l : List Int} {w v : Value}, x.good → RepV μ x.tm.d w → RepV μ (.sl 1 (l.map D.i)) v → VL l → Spec Tryz.prog 167 [w, v] μ fun v μ' => VarsS μ' l x.vars v :=
  T.ind fun x ih μ l w v hgd hw hv hb => by
    have hrng := T.vars_range hgd
    obtain ⟨base, cap, rfl, hsl⟩ := T.inv hw
    have hn := maxLen_le hsl.max
    refine Spec.mk Tryz.func167 (by kernel_rfl) ?_
    intro r
    refine ifd (fun h => ?_) (fun h => ?_)
    · have e : x.vars = [x.tm.num] := by cases x <;> simp_all [T.vars, T.tm, Tm.kind, Tm.num]
      refine call_plain (l02InsertS_spec hv (by have := hb.len; omega) hb.srt) fun v' μ' hle hR => ret_plain ?_
      obtain ⟨r, h1, h2, h3⟩ := hR
      refine ⟨r, h1, by simpa [e] using h2, h3, fun y hy => ?_⟩
      rcases (h2 y).1 hy with rfl | hy
      · exact hrng _ (by rw [e]; simp)
      · exact hb.rng y hy
    have e := T.vars_args h
    have hgs : ∀ y ∈ x.args, y.good := fun y hy => by
      cases x with
      | pair a b =>
        simp only [T.args, List.mem_cons, List.not_mem_nil, or_false] at hy
        rcases hy with rfl | rfl
        · exact hgd.1
        · exact hgd.2
      | _ => simp [T.args] at hy
    refine loop_intro (fun p : Nat × Value × Mem => p.1 ≤ x.args.length ∧ μ.Le p.2.2 ∧ VarsS p.2.2 l ((x.args.take p.1).flatMap T.vars) p.2.1)
      (fun (i, v, μ') => ⟨[(1, .val v), (15, .val (.slice base x.args.length cap)), (16, .val (.int .i64 x.args.length)), (17, .val (.int .i64 i))], [], 1, μ', Mem.nil⟩) (fun p => x.args.length - p.1)
      (0, v, μ) ⟨by simp, Mem.Le.refl μ, l, hv, by simp, hb⟩ (fun (_, _, _) => ⟨rfl, rfl⟩) ⟨⟨rfl, rfl, rfl, rfl, trivial⟩, trivial, rfl, rfl⟩ ?_
    rintro ⟨i, v, μ'⟩ ⟨hi, hle, r, h1, h2, h3⟩
    dsimp only at hi hle h1 h2 h3
    refine ifd (fun h => ?_) (fun h => ?_)
    · obtain ⟨t, ht⟩ := at_some (l := x.args) (i := i) (by omega)
      have ht' : (x.args.map T.tm)[i]? = some t.tm := by simp [ht]
      obtain ⟨ad, p, hel, hr⟩ := Tm.elem (hsl.mono hle) ht'
      have hsucc : (x.args.take (i + 1)).flatMap T.vars = (x.args.take i).flatMap T.vars ++ t.vars := by
        rw [List.take_add_one, ht, Option.toList_some, List.flatMap_append]; simp
      refine elem_intro hel ?_
      intro r2
      refine call_plain (ih t (mem_at ht) (hgs t (mem_at ht)) hr h1 h3) fun v' μ'' hle2 hR => ?_
      obtain ⟨q, g1, g2, g3⟩ := hR
      refine num64 (by omega) (by omega) ⟨(i + 1, v', μ''), ⟨by dsimp only; omega, hle.trans hle2, q, g1, fun y => ?_, g3⟩, by dsimp only; omega, ⟨⟨rfl, rfl, rfl, rfl, trivial⟩, trivial, rfl, rfl⟩⟩
      dsimp only
      rw [g2, h2, hsucc, List.mem_append]
      constructor
      · rintro (h | h | h) <;> simp [h]
      · rintro ((h | h) | h) <;> simp [h]
    · obtain rfl : i = x.args.length := by omega
      rw [List.take_length] at h2
      exact ret_plain ⟨r, h1, by rw [e]; exact h2, h3⟩
end
end Go.Vx

/- Contracts: well-formed programs, the reference's side; goals counted. -/
namespace Go.Vx
open Go.Proofs Classical
theorem Gl.vars_eq (g : Gl) : g.vars = g.tvars ++ g.goals.flatMap Gl.vars := by
  rw [Gl.vars, Gl.all_eq, List.flatMap_cons, List.flatMap_assoc]
  rfl
section
variable {μ : Mem}
theorem l13Vars_spec : ∀ (g : Gl) {μ : Mem} {l : List Int} {w v : Value}, g.Sh → RepV μ g.d w → RepV μ (.sl 1 (l.map D.i)) v → VL l → Spec Tryz.prog 289 [w, v] μ fun v μ' => VarsS μ' l g.vars v :=
  Gl.ind fun g ih μ l w v hS hw hv hb => by
    obtain ⟨p, rfl, hts, hgs⟩ := Gl.inv hw
    obtain ⟨xs, hxs, hxo⟩ := lift_ok hS.top.tm
    have htv : g.tvars = xs.flatMap T.vars := by rw [Gl.tvars, hxs, toTs_tm']
    rw [hxs, List.length_map] at hts ⊢
    have hn := maxLen_le hts.max
    have hn2 := maxLen_le hgs.max
    refine Spec.mk Tryz.func289 (by kernel_rfl) ?_
    intro r1
    refine loop_intro (fun p : Nat × Value × Mem => p.1 ≤ xs.length ∧ μ.Le p.2.2 ∧ VarsS p.2.2 l ((xs.take p.1).flatMap T.vars) p.2.1)
      (fun (i, v, μ') => ⟨[(1, .val v), (2, .loc 0 r1 0), (10, .val (.slice p.1.1 xs.length p.1.2)), (11, .val (.int .i64 xs.length)), (12, .val (.int .i64 i))], [(0, some (.cells r1 [.val (.int .i64 g.kind), .val (.string g.name), .val (.slice p.1.1 xs.length p.1.2), .val (.slice p.2.1 g.goals.length p.2.2)] 55))], 1, μ', Mem.nil⟩) (fun p => xs.length - p.1)
      (0, v, μ) ⟨by simp, Mem.Le.refl μ, l, hv, by simp, hb⟩ (fun (_, _, _) => ⟨rfl, rfl⟩) ⟨⟨rfl, rfl, rfl, rfl, rfl, trivial⟩, ⟨rfl, trivial⟩, rfl, rfl⟩ ?_
    rintro ⟨i, v, μ'⟩ ⟨hi, hle, r, h1, h2, h3⟩
    dsimp only at hi hle h1 h2 h3
    refine ifd (fun h => ?_) (fun h => ?_)
    · obtain ⟨t, ht⟩ := at_some (l := xs) (i := i) (by omega)
      obtain ⟨ad, p3, hel, hr⟩ := Tm.elem (i := i) (t := t.tm) (hts.mono hle) (by simp [ht])
      have hsucc : (xs.take (i + 1)).flatMap T.vars = (xs.take i).flatMap T.vars ++ t.vars := by
        rw [List.take_add_one, ht, Option.toList_some, List.flatMap_append]; simp
      refine elem_intro hel ?_
      intro r2
      refine call_plain (l02VarsS_spec t (hxo t (mem_at ht)).1 hr h1 h3) fun v' μ'' hle2 hR => ?_
      obtain ⟨q, g1, g2, g3⟩ := hR
      refine num64 (by omega) (by omega) ⟨(i + 1, v', μ''), ⟨by dsimp only; omega, hle.trans hle2, q, g1, fun y => ?_, g3⟩, by dsimp only; omega, ⟨⟨rfl, rfl, rfl, rfl, rfl, trivial⟩, ⟨rfl, trivial⟩, rfl, rfl⟩⟩
      dsimp only
      rw [g2, h2, hsucc, List.mem_append]
      constructor
      · rintro (h | h | h) <;> simp [h]
      · rintro ((h | h) | h) <;> simp [h]
    · obtain rfl : i = xs.length := by omega
      rw [List.take_length] at h2
      have hgs1 := hgs.mono hle
      refine loop_intro (fun x : Nat × Value × Mem => x.1 ≤ g.goals.length ∧ μ'.Le x.2.2 ∧ VarsS x.2.2 l (g.tvars ++ (g.goals.take x.1).flatMap Gl.vars) x.2.1)
        (fun (i, v, μ'') => ⟨[(1, .val v), (21, .val (.slice p.2.1 g.goals.length p.2.2)), (22, .val (.int .i64 g.goals.length)), (23, .val (.int .i64 i))], [], 1, μ'', Mem.nil⟩) (fun x => g.goals.length - x.1)
        (0, v, μ') ⟨by simp, Mem.Le.refl μ', r, h1, by simpa [htv] using h2, h3⟩ (fun (_, _, _) => ⟨rfl, rfl⟩) ⟨⟨rfl, rfl, rfl, rfl, trivial⟩, trivial, rfl, rfl⟩ ?_
      rintro ⟨i, v2, μ2⟩ ⟨hi, hle2, r2, k1, k2, k3⟩
      dsimp only at hi hle2 k1 k2 k3
      refine ifd (fun h => ?_) (fun h => ?_)
      · obtain ⟨t, ht⟩ := at_some (l := g.goals) (i := i) (by omega)
        obtain ⟨ad, p3, hel, hr⟩ := Gl.elem (hgs1.mono hle2) ht
        have hsucc : (g.goals.take (i + 1)).flatMap Gl.vars = (g.goals.take i).flatMap Gl.vars ++ t.vars := by
          rw [List.take_add_one, ht, Option.toList_some, List.flatMap_append]; simp
        refine elem_intro hel ?_
        intro r3
        refine call_plain (ih t (mem_at ht) (hS.sub t (mem_at ht)) hr k1 k3) fun v' μ3 hle3 hR => ?_
        obtain ⟨q, g1, g2, g3⟩ := hR
        refine num64 (by omega) (by omega) ⟨(i + 1, v', μ3), ⟨by dsimp only; omega, hle2.trans hle3, q, g1, fun y => ?_, g3⟩, by dsimp only; omega, ⟨⟨rfl, rfl, rfl, rfl, trivial⟩, trivial, rfl, rfl⟩⟩
        dsimp only
        rw [g2, k2, hsucc, ← List.append_assoc, List.mem_append (s := g.tvars ++ _)]
        constructor
        · rintro (h | h | h) <;> simp [h]
        · rintro ((h | h) | h) <;> simp [h]
      · obtain rfl : i = g.goals.length := by omega
        rw [List.take_length, ← Gl.vars_eq] at k2
        exact ret_plain ⟨r2, k1, k2, k3⟩
theorem VL.last {l : List Int} (h : VL l) {n x : Int} (hx : l[l.length - 1]? = some x) : (∀ y ∈ l, y < n) ↔ x < n := by
  constructor
  · intro k; exact k x (List.mem_of_getElem? hx)
  · intro k y hy
    obtain ⟨i, hi⟩ := List.mem_iff_getElem?.1 hy
    have hil := (List.getElem?_eq_some_iff.1 hi).1
    rcases Nat.lt_or_ge i (l.length - 1) with h1 | h1
    · have := srt_get h.srt h1 hi hx; omega
    · obtain rfl : i = l.length - 1 := by omega
      rw [hx] at hi; cases hi; exact k
def Fits (p : Pg) (g : Gl) (n : Int) : Prop := g.Ok ∧ FitAll p g ∧ ∀ m ∈ g.vars, m < n
theorem l14Fits_spec {p : Pg} {g : Gl} {n : Int} {vp v : Value} (hp : RepV μ p.d vp) (hv : RepV μ g.d v) (hw : g.d.wd) : Spec Tryz.prog 203 [vp, v, .int .i64 n] μ fun r _ => r = .bool (decide (Fits p g n)) := by
  obtain ⟨q, rfl, hrl⟩ := Pg.inv hp
  obtain ⟨q2, rfl⟩ := Gl.invV hv
  refine Spec.mk Tryz.func203 (by kernel_rfl) ?_
  intro r1 r2
  refine call_gives (spec_GoalOk_spec g hv hw) ?_
  refine ifnd (fun h => ret_plain (isF fun k => h k.1)) (fun h1 => ?_)
  refine call_gives (l14Calls_spec hp g h1.1 hv) ?_
  refine ifnd (fun h => ret_plain (isF fun k => h k.2.1)) (fun h2 => ?_)
  refine call_plain (l13Vars_spec (l := []) (v := .slice none 0 0) g h1.1 hv ⟨none, 0, rfl, ⟨Nat.zero_le _, Nat.zero_le _⟩, by simp, .inl rfl⟩ ⟨List.Pairwise.nil, by simp⟩) fun v1 μ1 hle1 hR => ?_
  obtain ⟨r, g1, g2, g3⟩ := hR
  obtain ⟨b, c, rfl, hsl⟩ := Rep.sl g1
  rw [List.length_map] at hsl ⊢
  have hlen := g3.len
  have hmem : ∀ x, x ∈ r ↔ x ∈ g.vars := fun x => by rw [g2]; simp
  refine ifd (fun h => ret_plain (isT ⟨h1, h2, fun m hm => ?_⟩)) (fun h => ?_)
  · have h3 : r = [] := List.eq_nil_of_length_eq_zero (by omega)
    have := (hmem m).2 hm
    rw [h3] at this; simp at this
  · obtain ⟨x, hx⟩ := at_some (l := r) (i := r.length - 1) (by omega)
    obtain ⟨ad, hel⟩ := Ints.elem hsl hx
    refine num_eq (x := ((r.length - 1 : Nat) : Int)) (by rw [wrap64 (by omega) (by omega)]; omega) ?_
    refine elem_intro hel ?_
    refine ret_plain (isI ⟨fun k => ⟨h1, h2, fun m hm => ((VL.last g3 hx).2 k) m ((hmem m).2 hm)⟩, fun k => (VL.last g3 hx).1 fun y hy => k.2.2 y ((hmem y).1 hy)⟩)
end
end Go.Vx

/- Contracts: well-formed programs, the reference's side; goals counted. -/
namespace Go.Vx
open Go.Proofs Classical
section
variable {μ : Mem}
theorem spec_ProgramOk_spec {p : Pg} {v : Value} (hp : RepV μ p.d v) (hw : p.d.wd) : Spec Tryz.prog 117 [v] μ fun r _ => r = .bool (decide p.Ok) := by
  obtain ⟨q, rfl, hrl⟩ := Pg.inv hp
  have hws : D.wds (p.rels.map Rl.d) := by rw [Pg.d_eq] at hw; exact hw.1
  refine Spec.mk Tryz.func117 (by kernel_rfl) ?_
  intro r1
  refine ifd (fun h8 => ret_plain (isF fun h => by have := h.1; omega)) (fun h8 => ?_)
  refine loop_intro (fun x : Nat × Mem => x.1 ≤ p.rels.length ∧ μ.Le x.2 ∧ ∀ (j : Nat) (r : Rl), j < x.1 → p.rels[j]? = some r → RelOk p j r)
    (fun (i, μ') => ⟨[(1, .loc 0 r1 0), (10, .val (.slice q.1 p.rels.length q.2)), (11, .val (.int .i64 p.rels.length)), (12, .val (.int .i64 i))], [(0, some (.cells r1 [.val (.slice q.1 p.rels.length q.2)] 67))], 1, μ', Mem.nil⟩) (fun x => p.rels.length - x.1)
    (0, μ) ⟨by simp, Mem.Le.refl _, fun j r hj => by simp at hj⟩ (fun (_, _) => ⟨rfl, rfl⟩) ⟨⟨rfl, rfl, rfl, rfl, trivial⟩, ⟨rfl, trivial⟩, rfl, rfl⟩ ?_
  rintro ⟨i, μ'⟩ ⟨hi, hle, hall⟩
  dsimp only at hi hle hall
  refine ifd (fun hlt => ?_) (fun hlt => ?_)
  · obtain ⟨x, hx⟩ := at_some (l := p.rels) (i := i) (by omega)
    obtain ⟨ad, q2, hel, hr, hb⟩ := Rl.elemA (hrl.mono hle) hx
    have hb : RepV μ' x.body.d (.agg (x.body.cs q2).toArray) := hb
    have hxw : x.d.wd := D.wds_mem hws _ (mem_at (at_map (f := Rl.d) hx))
    rw [Rl.d_eq] at hxw
    have hnm : x.name.size ≤ maxLen := hxw.1
    have hbw : x.body.d.wd := hxw.2.2.2.1
    have bad : ¬ RelOk p i x → Value.bool false = .bool (decide p.Ok) := fun h => isF fun k => h (k.2 i x hx)
    refine elem_intro hel ?_
    intro r2
    refine call_gives (l14Find_spec (hp.mono hle)) ?_
    refine ifnd (fun h => ret_plain (bad fun k => h k.at_)) (fun g2 => ?_)
    refine call_gives (spec_IsRelName_spec _ hnm _) ?_
    refine ifnd (fun h => ret_plain (bad fun k => h k.name)) (fun g1 => ?_)
    refine call_gives (l01In_spec _ _ _ _) ?_
    refine ifnd (fun h => ret_plain (bad fun k => h ⟨k.ar0, k.ar4⟩)) (fun g3 => ?_)
    refine call_gives (l01In_spec _ _ _ _) ?_
    refine ifnd (fun h => ret_plain (bad fun k => h ⟨k.lo0, k.lo8⟩)) (fun g4 => ?_)
    refine num64 (by omega) (by omega) ?_
    refine call_plain (l14Fits_spec (hp.mono hle) hb hbw) fun v1 μ1 hle1 hR => ?_
    obtain rfl := hR
    refine ifnd (fun h => ret_plain (bad fun k => h ⟨⟨k.body, by have := k.size; omega⟩, k.calls, k.vars⟩)) (fun g5 => ?_)
    refine call_gives (spec_GoalSize_spec x.body (hb.mono hle1) hbw) ?_
    have hc : x.body.count = x.body.cnt := by rw [Gl.count, if_pos g5.1]
    refine ifd (fun h => ret_plain (bad fun k => by have := k.size; omega)) (fun g6 => ?_)
    have hok : RelOk p i x := ⟨g2, g1, by omega, by omega, by omega, by omega, g5.1.1, by omega, g5.2.2, g5.2.1⟩
    refine num64 (by omega) (by omega) ⟨(i + 1, μ1), ⟨by dsimp only; omega, hle.trans hle1, fun j r hj hr => ?_⟩, by dsimp only; omega, ⟨⟨rfl, rfl, rfl, rfl, trivial⟩, ⟨rfl, trivial⟩, rfl, rfl⟩⟩
    rcases Nat.lt_or_ge j i with h6 | h6
    · exact hall j r h6 hr
    · obtain rfl : j = i := by omega
      rw [hx] at hr; cases hr; exact hok
  · obtain rfl : i = p.rels.length := by omega
    exact ret_plain (isT ⟨by omega, fun j r hr => hall j r (List.getElem?_eq_some_iff.1 hr).1 hr⟩)
end
end Go.Vx

/- Contracts: which substitutions are fine. -/
namespace Go.Vx
open Go.Proofs Classical
/-! ### Plain -/
def bndOk (bs : List B) (b : B) : Prop := ¬ (b.to.tm.kind = 1 ∧ b.var ≤ b.to.tm.num) ∧ ∀ n ∈ b.to.vars, sub bs n = none
def substOk (l : List Bd) : Prop := valsOk l ∧ ∀ b ∈ l.map Bd.b, bndOk (l.map Bd.b) b
theorem B.bd_b (b : B) : b.bd.b = b := by
  cases b; simp [B.bd, Bd.b, T.toT_tm]
theorem B.map_b (bs : List B) : (bs.map B.bd).map Bd.b = bs := by
  rw [List.map_map]
  conv => rhs; rw [← List.map_id bs]
  exact List.map_congr_left fun b _ => B.bd_b b
/-- A fine list of bindings, as terms. -/
structure Vals (bs : List B) : Prop where
  ok : valsOk (bs.map B.bd)
theorem Vals.len {bs : List B} (h : Vals bs) : bs.length ≤ 400 := by have := h.ok.1; simpa using this
theorem Vals.srt {bs : List B} (h : Vals bs) : Srt bs := by have := h.ok.srt; rwa [B.map_b] at this
theorem Vals.var {bs : List B} (h : Vals bs) : ∀ b ∈ bs, 0 ≤ b.var ∧ b.var ≤ 100000 := fun b hb => by
  obtain ⟨i, hi⟩ := List.mem_iff_getElem?.1 hb
  exact (h.ok.2 i b.bd (by simp [hi])).1
theorem valsOk.vals {l : List Bd} (h : valsOk l) : ∃ bs : List B, l = bs.map B.bd ∧ Vals bs := ⟨l.map Bd.b, h.lift.1.symm, ⟨by rw [h.lift.1]; exact h⟩⟩
structure Subst (bs : List B) : Prop where
  vals : Vals bs
  bnd : ∀ b ∈ bs, bndOk bs b
theorem substOk_iff (bs : List B) : substOk (bs.map B.bd) ↔ Subst bs := by
  unfold substOk
  rw [B.map_b]
  exact ⟨fun h => ⟨⟨h.1⟩, h.2⟩, fun h => ⟨h.1.1, h.2⟩⟩
theorem substOk.subst {l : List Bd} (h : substOk l) : ∃ bs : List B, l = bs.map B.bd ∧ Subst bs := by
  obtain ⟨bs, rfl, _⟩ := h.1.vals
  exact ⟨bs, rfl, (substOk_iff bs).1 h⟩
section
variable {μ : Mem}
/-- A cell of one's own beside other memory. -/
def boolOn (H : Mem) (r : Nat) (b : Bool) : Mem := H.set r (.cells #[.bool b] 4 (0, 0))
end
end Go.Vx

/- Contracts: programs without negation. -/
namespace Go.Vx
open Go.Proofs Classical
/-- No negation in a goal. -/
def Gl.Pos (g : Gl) : Prop := ∀ x ∈ g.all, x.kind ≠ 10
theorem Gl.pos_eq (g : Gl) : g.Pos ↔ g.kind ≠ 10 ∧ ∀ x ∈ g.goals, x.Pos := by
  unfold Gl.Pos
  rw [Gl.all_eq]
  constructor
  · exact fun h => ⟨h g (by simp), fun x hx y hy => h y (List.mem_cons_of_mem _ (List.mem_flatMap.2 ⟨x, hx, hy⟩))⟩
  · rintro ⟨h1, h2⟩ x hx
    rcases List.mem_cons.1 hx with rfl | hx
    · exact h1
    · obtain ⟨y, hy, hx⟩ := List.mem_flatMap.1 hx
      exact h2 y hy x hx
def Pg.Pos (p : Pg) : Prop := p.Ok ∧ ∀ r ∈ p.rels, r.body.Pos
section
variable {μ : Mem}
theorem l14Only_spec : ∀ (g : Gl) {v : Value}, RepV μ g.d v → Gives Tryz.prog 300 [v, .bool false] μ (.bool (decide g.Pos)) :=
  Gl.ind fun g ih v hv => by
    obtain ⟨p, rfl, hts, hgs⟩ := Gl.inv hv
    have hn := maxLen_le hgs.max
    refine Spec.mk Tryz.func300 (by kernel_rfl) ?_
    intro r
    refine loop_intro (fun i : Nat => i ≤ g.goals.length ∧ ∀ (j : Nat) x, j < i → g.goals[j]? = some x → x.Pos)
      (fun i => ⟨[(1, .val (.bool false)), (2, .loc 0 r 0), (8, .val (.slice p.2.1 g.goals.length p.2.2)), (9, .val (.int .i64 g.goals.length)), (10, .val (.int .i64 i))], [(0, some (.cells r [.val (.int .i64 g.kind), .val (.string g.name), .val (.slice p.1.1 g.terms.length p.1.2), .val (.slice p.2.1 g.goals.length p.2.2)] 55))], 1, μ, Mem.nil⟩) (fun i => g.goals.length - i)
      0 ⟨Nat.zero_le _, fun j x h => by omega⟩ (fun _ => ⟨rfl, rfl⟩) ⟨⟨rfl, rfl, rfl, rfl, rfl, trivial⟩, ⟨rfl, trivial⟩, rfl, rfl⟩ ?_
    rintro i ⟨hi, hall⟩
    refine ifd (fun hlt => ?_) (fun hlt => ?_)
    · obtain ⟨t, ht⟩ := at_some (l := g.goals) (i := i) (by omega)
      obtain ⟨ad, p3, hel, hr⟩ := Gl.elem hgs ht
      refine elem_intro hel ?_
      intro r2
      refine call_gives (ih t (mem_at ht) hr) ?_
      refine ifnd (fun h => ret_gives ?_ rfl) (fun h => ?_)
      · rw [decide_eq_false fun k => h (((Gl.pos_eq g).1 k).2 t (mem_at ht))]
      · refine num64 (by omega) (by omega) ⟨i + 1, ⟨by omega, fun j y hj hy => ?_⟩, by omega, ⟨⟨rfl, rfl, rfl, rfl, rfl, trivial⟩, ⟨rfl, trivial⟩, rfl, rfl⟩⟩
        rcases Nat.lt_or_ge j i with h6 | h6
        · exact hall j y h6 hy
        · obtain rfl : j = i := by omega
          rw [ht] at hy; cases hy; exact h
    · obtain rfl : i = g.goals.length := by omega
      have hsub : ∀ x ∈ g.goals, x.Pos := fun x hx => by
        obtain ⟨j, hj⟩ := List.mem_iff_getElem?.1 hx
        exact hall j x (List.getElem?_eq_some_iff.1 hj).1 hj
      refine ifnd (fun h => ?_) (fun h => ?_)
      · refine if_intro (fun h => nomatch h) (fun _ => ?_)
        exact ret_gives (by rw [decide_eq_true ((Gl.pos_eq g).2 ⟨h, hsub⟩)]; rfl) rfl
      · exact ret_gives (by rw [decide_eq_false fun k => ((Gl.pos_eq g).1 k).1 h]) rfl
theorem l14All_spec {p : Pg} {v : Value} (hp : RepV μ p.d v) (hw : p.d.wd) : Spec Tryz.prog 228 [v, .bool false] μ fun r _ => r = .bool (decide p.Pos) := by
  obtain ⟨q, rfl, hrl⟩ := Pg.inv hp
  refine Spec.mk Tryz.func228 (by kernel_rfl) ?_
  intro r1
  refine call_plain (spec_ProgramOk_spec hp hw) fun v1 μ1 hle1 hR => ?_
  obtain rfl := hR
  refine ifnd (fun h => ret_plain (isF fun k => h k.1)) (fun hok => ?_)
  have hn := hok.1
  refine loop_intro (fun i : Nat => i ≤ p.rels.length ∧ ∀ (j : Nat) x, j < i → p.rels[j]? = some x → x.body.Pos)
    (fun i => ⟨[(1, .val (.bool false)), (11, .val (.slice q.1 p.rels.length q.2)), (12, .val (.int .i64 p.rels.length)), (13, .val (.int .i64 i))], [], 1, μ1, Mem.nil⟩) (fun i => p.rels.length - i)
    0 ⟨Nat.zero_le _, fun j x h => by omega⟩ (fun _ => ⟨rfl, rfl⟩) ⟨⟨rfl, rfl, rfl, rfl, trivial⟩, trivial, rfl, rfl⟩ ?_
  rintro i ⟨hi, hall⟩
  refine ifd (fun hlt => ?_) (fun hlt => ?_)
  · obtain ⟨x, hx⟩ := at_some (l := p.rels) (i := i) (by omega)
    obtain ⟨ad, q2, hel, hr, hb⟩ := Rl.elemA (hrl.mono hle1) hx
    have hb : RepV μ1 x.body.d (.agg (x.body.cs q2).toArray) := hb
    refine elem_intro hel ?_
    intro r2
    refine call_gives (l14Only_spec x.body hb) ?_
    refine ifnd (fun h => ret_plain (isF fun k => h (k.2 x (mem_at hx)))) (fun h => ?_)
    refine num64 (by omega) (by omega) ⟨i + 1, ⟨by omega, fun j y hj hy => ?_⟩, by omega, ⟨⟨rfl, rfl, rfl, rfl, trivial⟩, trivial, rfl, rfl⟩⟩
    rcases Nat.lt_or_ge j i with h6 | h6
    · exact hall j y h6 hy
    · obtain rfl : j = i := by omega
      rw [hx] at hy; cases hy; exact h
  · obtain rfl : i = p.rels.length := by omega
    exact ret_plain (isT ⟨hok, fun x hx => by
      obtain ⟨j, hj⟩ := List.mem_iff_getElem?.1 hx
      exact hall j x (List.getElem?_eq_some_iff.1 hj).1 hj⟩)
theorem spec_IsPositive_spec {p : Pg} {v : Value} (hp : RepV μ p.d v) (hw : p.d.wd) : Spec Tryz.prog 158 [v] μ fun r _ => r = .bool (decide p.Pos) := by
  obtain ⟨q, rfl, hrl⟩ := Pg.inv hp
  refine Spec.mk Tryz.func158 (by kernel_rfl) ?_
  intro r1
  refine call_plain (l14All_spec hp hw) fun v1 μ1 hle1 hR => ?_
  obtain rfl := hR
  exact ret_plain rfl
/-! ### The program's side -/
theorem negative1_spec (n : Int) : Gives Tryz.prog 339 [.int .i64 n] μ (.bool (decide (n = 10))) := by
  refine Spec.mk Tryz.func339 (by kernel_rfl) ?_
  exact ret_gives rfl rfl
theorem hasKind1_spec {H : Mem} {r3 : Nat} (r : Nat) (b : Bool) {g : Gl} {v : Value} (hv : RepV μ g.d v) (hne : r3 ≠ r) (h3 : H r3 = some (.cells #[.func (.func 339) #[] #[]] 238 (0, 0))) :
    SpecH Tryz.prog 303 [v, .pointer (some ⟨r, 0, none⟩), .pointer (some ⟨r3, 0, none⟩)] μ (boolOn H r b) fun r' μ' h' => r' = .tuple #[] ∧ μ' = μ ∧ h' = boolOn H r (b || decide (g.kind = 10)) := by
  obtain ⟨p, rfl, -, -⟩ := Gl.inv hv
  refine SpecH.mk [] Tryz.func303 (by kernel_rfl) ?_
  intro r0
  refine own_intro [.bool b] rfl (box_at (set_self _ _ _)) ?_
  refine if_intro (fun hb => ?_) (fun hb => ?_)
  · refine sto_intro (h := boolOn H r b) (a := ⟨r, 0, none⟩) [.bool b] 4 (set_self _ _ _) rfl (Nat.le_refl _) ?_
    exact ret_plain ⟨rfl, rfl, by rw [hb]; exact Mem.set_set _ _ _ _⟩
  · refine own_intro [.func (.func 339) #[] #[]] rfl (box_at ((Mem.set_ne hne).trans h3)) ?_
    refine call_gives (negative1_spec _) ?_
    refine sto_intro (h := boolOn H r b) (a := ⟨r, 0, none⟩) [.bool b] 4 (set_self _ _ _) rfl (Nat.le_refl _) ?_
    exact ret_plain ⟨rfl, rfl, by rw [hb]; exact Mem.set_set _ _ _ _⟩
theorem or_fold : ∀ (l : List Gl) (b : Bool), l.foldl (fun b g => b || decide (g.kind = 10)) b = (b || !decide (∀ x ∈ l, x.kind ≠ 10))
  | [], b => by simp
  | a :: l, b => by
    rw [List.foldl_cons, or_fold l]
    by_cases h : a.kind = 10 <;> cases b <;> simp [h]
theorem hasKind_spec {g : Gl} {v : Value} (hv : RepV μ g.d v) : Spec Tryz.prog 233 [v, .func (.func 339) #[] #[]] μ fun r μ' => r = .bool (!decide g.Pos) ∧ μ' = μ := by
  obtain ⟨p, rfl, -, -⟩ := Gl.inv hv
  refine Spec.mkO [3, 5] Tryz.func233 (by kernel_rfl) ?_
  intro r1 r3 hm3 ho3 r5 hm5 ho5
  have hne : r3 ≠ r5 := fun e => by
    subst e
    have h : Mem.set Mem.nil r3 _ r3 = none := ho5
    rw [Mem.set_at] at h; cases h
  refine sto_intro [.bool false] 4 (Mem.set_at _ _ _) rfl (Nat.le_refl _) ?_
  refine call_own (R := fun r μ' h' => r = .tuple #[] ∧ μ' = μ ∧ h' = boolOn (Mem.nil.set r3 (.cells #[.func (.func 339) #[] #[]] 238 (0, 0))) r5 (g.all.foldl (fun b g => b || decide (g.kind = 10)) false)) ?_ fun v μ' h' hle hap hR => ?_
  · have := eachGoal_rel (μ := μ) (fun b h => h = boolOn (Mem.nil.set r3 (.cells #[.func (.func 339) #[] #[]] 238 (0, 0))) r5 b) (fun b g => b || decide (g.kind = 10)) (fun _ => True) (k := 303) (caps := [.pointer (some ⟨r5, 0, none⟩), .pointer (some ⟨r3, 0, none⟩)])
      (fun s h x v _ hx hj => by subst hj; exact hasKind1_spec r5 s hx hne (Mem.set_at _ _ _)) g false _ hv (fun _ _ => trivial) rfl
    have e : ∀ X : Mem, ((X.set r5 (.cells #[.bool false] 4 (0, 0))).set r5 (.cells #[.bool false] 4 (0, 0))) = boolOn X r5 false := fun X => Mem.set_set _ _ _ _
    rw [← e] at this
    exact this
  obtain ⟨rfl, e4, rfl⟩ := hR
  obtain rfl := e4.symm
  rw [or_fold, Bool.false_or]
  refine own_intro [.bool (!decide (∀ x ∈ g.all, x.kind ≠ 10))] rfl (box_at (set_self _ _ _)) ?_
  exact ret_plain ⟨congrArg (fun b => Value.bool (!b)) (decide_eq_decide.2 Iff.rfl), rfl⟩
theorem negative_spec {g : Gl} {v : Value} (hv : RepV μ g.d v) : Spec Tryz.prog 328 [v] μ fun r μ' => r = .bool (!decide g.Pos) ∧ μ' = μ := by
  have hv0 := hv
  obtain ⟨p, rfl, -, -⟩ := Gl.inv hv
  refine Spec.mk Tryz.func328 (by kernel_rfl) ?_
  intro r1
  refine call_plain (hasKind_spec hv0) fun v1 μ1 hle1 hR => ?_
  obtain ⟨rfl, e⟩ := hR
  obtain rfl := e.symm
  exact ret_plain ⟨rfl, rfl⟩
theorem positive_spec {p : Pg} {v : Value} (hp : RepV μ p.d v) : Spec Tryz.prog 296 [v] μ fun r μ' => r = .bool (decide (∀ r ∈ p.rels, r.body.Pos)) ∧ μ' = μ := by
  obtain ⟨q, rfl, hrl⟩ := Pg.inv hp
  have hn := maxLen_le hrl.max
  refine Spec.mk Tryz.func296 (by kernel_rfl) ?_
  intro r1
  refine loop_intro (fun i : Nat => i ≤ p.rels.length ∧ ∀ (j : Nat) x, j < i → p.rels[j]? = some x → x.body.Pos)
    (fun i => ⟨[(6, .val (.slice q.1 p.rels.length q.2)), (7, .val (.int .i64 p.rels.length)), (8, .val (.int .i64 i))], [], 1, μ, Mem.nil⟩) (fun i => p.rels.length - i)
    0 ⟨Nat.zero_le _, fun j x h => by omega⟩ (fun _ => ⟨rfl, rfl⟩) ⟨⟨rfl, rfl, rfl, trivial⟩, trivial, rfl, rfl⟩ ?_
  rintro i ⟨hi, hall⟩
  refine ifd (fun hlt => ?_) (fun hlt => ?_)
  · obtain ⟨x, hx⟩ := at_some (l := p.rels) (i := i) (by omega)
    obtain ⟨ad, q2, hel, hr, hb⟩ := Rl.elemA hrl hx
    have hb : RepV μ x.body.d (.agg (x.body.cs q2).toArray) := hb
    refine elem_intro hel ?_
    intro r2
    refine call_plain (negative_spec hb) fun v1 μ1 hle1 hR => ?_
    obtain ⟨rfl, e⟩ := hR
    obtain rfl := e.symm
    refine if_intro (fun h => ret_plain ⟨isF fun k => ?_, rfl⟩) (fun h => ?_)
    · have := k x (mem_at hx); simp [this] at h
    · have hpos : x.body.Pos := by simpa using h
      refine num64 (by omega) (by omega) ⟨i + 1, ⟨by omega, fun j y hj hy => ?_⟩, by omega, ⟨⟨rfl, rfl, rfl, trivial⟩, trivial, rfl, rfl⟩⟩
      rcases Nat.lt_or_ge j i with h6 | h6
      · exact hall j y h6 hy
      · obtain rfl : j = i := by omega
        rw [hx] at hy; cases hy; exact hpos
  · obtain rfl : i = p.rels.length := by omega
    exact ret_plain ⟨isT fun x hx => by
      obtain ⟨j, hj⟩ := List.mem_iff_getElem?.1 hx
      exact hall j x (List.getElem?_eq_some_iff.1 hj).1 hj, rfl⟩
theorem impl_IsPositive_spec {p : Pg} {v : Value} (hp : RepV μ p.d v) : Spec Tryz.prog 215 [v] μ fun r _ => r = .bool (decide p.Pos) := by
  obtain ⟨q, rfl, hrl⟩ := Pg.inv hp
  refine Spec.mk Tryz.func215 (by kernel_rfl) ?_
  intro r1
  refine call_plain (impl_ProgramOk_spec hp) fun v1 μ1 hle1 hR => ?_
  obtain rfl := hR
  refine ifd (fun hok => ?_) (fun hok => ret_plain (isF fun k => hok k.1))
  refine call_plain (positive_spec (hp.mono hle1)) fun v2 μ2 hle2 hR => ?_
  obtain ⟨rfl, e⟩ := hR
  refine ret_plain ?_
  by_cases h : ∀ r ∈ p.rels, r.body.Pos
  · rw [decide_eq_true h, decide_eq_true (show p.Pos from ⟨hok, h⟩)]
  · rw [decide_eq_false h, decide_eq_false fun k : p.Pos => h k.2]
end
end Go.Vx

/- Marks counted; the term of an answer. -/
namespace Go.Vx
open Go.Proofs Classical
theorem tm_cnt_sz : ∀ t : Tm, t.d.cnt ≤ 3 + 3 * t.d.sz :=
  Tm.ind fun k n s l ih => by
    have : D.cnts (l.map Tm.d) ≤ 3 * l.length + 3 * D.szs (l.map Tm.d) := by
      induction l with
      | nil => simp [D.cnts, D.szs]
      | cons t l ih2 =>
        have h1 := ih t (by simp)
        have h2 := ih2 fun t ht => ih t (by simp [ht])
        simp only [List.map_cons, D.cnts, D.szs, List.length_cons]; omega
    rw [Tm.cnt_eq, Tm.d_mk]
    show 3 + D.cnts (l.map Tm.d) ≤ _
    simp only [D.sz, D.szs, List.length_map]
    omega
end Go.Vx

/- Contracts: what texts on substitutions share: rows out of slices, terms under a substitution, a bound variable replaced. -/
namespace Go.Vx
open Go.Proofs Classical
section
variable {μ : Mem}
theorem Rep.srcAll {es n cap : Nat} {base : Option Addr} {ds : List D} (h : RepV μ (.sl es ds) (.slice base n cap)) : ∃ vs, Rows μ es ds vs ∧ vs.length = n ∧ SrcAt μ base n es vs := by
  obtain ⟨vs, hrows, hvl, hcap, hsrc⟩ := Rep.src h
  have := hsrc 0 n (Nat.zero_le _) (Nat.le_refl _)
  have e1 : (if cap = 0 then base else base.map (·.add (0 * es))) = base := by
    split
    · rfl
    · cases base with
      | none => rfl
      | some a => simp [Addr.add]
  rw [e1, Nat.sub_zero, List.drop_zero, List.take_of_length_le (by omega)] at this
  exact ⟨vs, hrows, hvl, this⟩
end
end Go.Vx

/- Contracts: the clauses of a goal, the reference's side. -/
namespace Go.Vx
open Go.Proofs Classical
/-! ### Plain -/
def prodC (a l : List (List Gl)) : List (List Gl) := a.flatMap fun x => l.map fun y => x ++ y
mutual
noncomputable def Gl.cl : Gl → Option (List (List Gl))
  | .mk k s ts gs => if k = 0 then some [[]] else if k = 1 then some [] else if k = 8 then Gl.clOr gs [] else if k = 7 then Gl.clAnd gs [[]] else some [[.mk k s ts gs]]
noncomputable def Gl.clOr : List Gl → List (List Gl) → Option (List (List Gl))
  | [], acc => some acc
  | g :: r, acc => (g.cl).bind fun l => if (acc ++ l).length ≤ 64 then Gl.clOr r (acc ++ l) else none
noncomputable def Gl.clAnd : List Gl → List (List Gl) → Option (List (List Gl))
  | [], acc => some acc
  | g :: r, acc => (g.cl).bind fun l => if (prodC acc l).length ≤ 64 then Gl.clAnd r (prodC acc l) else none
end
theorem Gl.cl_eq (g : Gl) : g.cl = if g.kind = 0 then some [[]] else if g.kind = 1 then some [] else if g.kind = 8 then Gl.clOr g.goals [] else if g.kind = 7 then Gl.clAnd g.goals [[]] else some [[g]] := by
  cases g; rw [Gl.cl]; rfl
theorem prodC_len (a l : List (List Gl)) : (prodC a l).length = a.length * l.length := by
  unfold prodC
  induction a with
  | nil => simp
  | cons x a ih => rw [List.flatMap_cons, List.length_append, ih, List.length_map, List.length_cons, Nat.succ_mul]; omega
theorem prodC_mem {a l : List (List Gl)} {z : List Gl} (h : z ∈ prodC a l) : ∃ x ∈ a, ∃ y ∈ l, z = x ++ y := by
  obtain ⟨x, hx, h⟩ := List.mem_flatMap.1 h
  obtain ⟨y, hy, rfl⟩ := List.mem_map.1 h
  exact ⟨x, hx, y, hy, rfl⟩
theorem prodC_step {a l : List (List Gl)} {j : Nat} {x : List Gl} (h : a[j]? = some x) : prodC (a.take (j + 1)) l = prodC (a.take j) l ++ l.map fun y => x ++ y := by
  rw [prodC, List.take_add_one, h, Option.toList_some, List.flatMap_append]
  simp [prodC]
/-- A clause as data. -/
def csD (c : List Gl) : D := .sl 4 (c.map Gl.d)
section
variable {μ : Mem}
abbrev Cls (μ : Mem) (L : List (List Gl)) (v : Value) : Prop := RepV μ (.sl 1 (L.map csD)) v
theorem csD_inv {c : List Gl} {v : Value} (h : RepV μ (csD c) v) : ∃ p : Option Addr × Nat, v = .slice p.1 c.length p.2 := by
  obtain ⟨b, k, rfl, _⟩ := Rep.sl (xs := c.map Gl.d) h
  exact ⟨(b, k), by rw [List.length_map]⟩
theorem cls_elem {L : List (List Gl)} {base : Option Addr} {n : Nat} (h : Sl μ 1 base n (L.map csD)) {i : Nat} {c : List Gl} (hc : L[i]? = some c) :
    ∃ ad, ∃ p : Option Addr × Nat, ElemAt μ base n 1 i ad [.slice p.1 c.length p.2] ∧ RepV μ (csD c) (.slice p.1 c.length p.2) := by
  obtain ⟨ad, cs, h1, h2⟩ := h.get i (csD c) (by simp [hc])
  have h3 : Rep μ (.sl 4 (c.map Gl.d)) cs := h2
  have hl := Rep.len _ _ h3
  match cs, hl with
  | [v], _ =>
    obtain ⟨p, rfl⟩ := csD_inv (c := c) h3
    exact ⟨ad, p, h1, h3⟩
theorem Cls.sl {L : List (List Gl)} {b : Option Addr} {n c : Nat} (h : Cls μ L (.slice b n c)) : Sl μ 1 b L.length (L.map csD) ∧ n = L.length := by
  obtain ⟨b', c', e1, hs⟩ := Rep.sl h
  obtain ⟨rfl, e2, _⟩ := Value.slice.inj e1
  rw [List.length_map] at hs e2
  exact ⟨hs, e2⟩
theorem Cls.inv {L : List (List Gl)} {v : Value} (h : Cls μ L v) : ∃ p : Option Addr × Nat, v = .slice p.1 L.length p.2 := by
  obtain ⟨b, k, rfl, _⟩ := Rep.sl h
  exact ⟨(b, k), by rw [List.length_map]⟩
theorem csD_src {c : List Gl} {p : Option Addr × Nat} (h : RepV μ (csD c) (.slice p.1 c.length p.2)) : ∃ vs, Rows μ 4 (c.map Gl.d) vs ∧ vs.length = c.length ∧ SrcAt μ p.1 c.length 4 vs := Rep.srcAll h
/-- What the reference answers: the clauses, or too many of something. -/
structure ClsOk (μ : Mem) (g : Gl) (v : Value) (L : List (List Gl)) : Prop where
  rep : Cls μ L v
  cl : g.cl = if L.length ≤ 64 then some L else none
  len : ∀ c ∈ L, c.length ≤ g.cnt
  max : L.length ≤ 4096
set_option maxHeartbeats 8000000 in
theorem l16Clauses_spec : ∀ (g : Gl) {μ : Mem} {v : Value}, RepV μ g.d v → g.Sh → g.cnt ≤ 80 → Spec Tryz.prog 219 [v] μ fun v μ' => ∃ L, ClsOk μ' g v L :=
  Gl.ind fun g ih μ v hv hS hcnt => by
    have hv0 := hv
    obtain ⟨p, rfl, hts, hgs⟩ := Gl.inv hv
    have hg8 := hS.top.gl
    have hce := Gl.cnt_eq1 g
    refine Spec.mk Tryz.func219 (by kernel_rfl) ?_
    intro r1 r15
    refine ifd (fun h0 => ?_) (fun h0 => ?_)
    · intro r20 μ1 hle1 hno1 hat1 r21
      refine ret_frz [3] fun μ2 hle2 hno2 hat2 => .inl ⟨[[]], ?_, ?_, ?_, ?_⟩
      · exact Rows.sl hat2 (Rows.one (d := csD []) ((Rows.sl (μ := μ1) (ds := []) hat1 .nil (Nat.zero_le _)).mono hle2) rfl) (show 1 ≤ maxLen by decide)
      · rw [Gl.cl_eq, if_pos h0]; rfl
      · simp
      · simp
    refine ifd (fun h1 => ?_) (fun h1 => ?_)
    · refine ret_frz [1] fun μ2 hle2 hno2 hat2 => .inl ⟨[], ?_, ?_, ?_, ?_⟩
      · exact Rows.sl hat2 .nil (Nat.zero_le _)
      · rw [Gl.cl_eq, if_neg h0, if_pos h1]; rfl
      · simp
      · simp
    refine ifd (fun h8 => ?_) (fun h8 => ?_)
    · have hcl : g.cl = Gl.clOr g.goals [] := by rw [Gl.cl_eq, if_neg h0, if_neg h1, if_pos h8]
      refine loop_intro (fun q : Nat × List (List Gl) × Option Nat × Nat × List Value × Mem => q.1 ≤ g.goals.length ∧ μ.Le q.2.2.2.2.2 ∧ Rows q.2.2.2.2.2 1 (q.2.1.map csD) q.2.2.2.2.1 ∧ g.cl = (if q.2.1.length ≤ 64 then Gl.clOr (g.goals.drop q.1) q.2.1 else none) ∧ (∀ c ∈ q.2.1, c.length ≤ Gl.cnts (g.goals.take q.1)) ∧ q.2.1.length ≤ 64 * q.1)
        (fun (i, acc, b, c, ys, μ') => ⟨[(3, .row 1 b ys.length c), (28, .val (.slice p.2.1 g.goals.length p.2.2)), (29, .val (.int .i64 g.goals.length)), (30, .val (.int .i64 i))], [(1, some (.row b c 53 1 ys))], 2, μ', Mem.nil⟩) (fun q => g.goals.length - q.1)
        (0, [], some r15, 0, [], μ) ⟨Nat.zero_le _, Mem.Le.refl _, .nil, by rw [hcl]; rfl, by simp, by simp⟩ (fun (_, _, _, _, _, _) => ⟨rfl, rfl⟩) ⟨⟨rfl, rfl, rfl, rfl, trivial⟩, ⟨rfl, trivial⟩, rfl, rfl⟩ ?_
      rintro ⟨i, acc, b, c, ys, μ'⟩ ⟨hi, hle, hrows, hJ, hlen, hmax⟩
      dsimp only at hi hle hrows hJ hlen hmax
      have hyl := hrows.len
      rw [List.length_map] at hyl
      refine ifd (fun hlt => ?_) (fun hlt => ?_)
      · obtain ⟨x, hx⟩ := at_some (l := g.goals) (i := i) (by omega)
        obtain ⟨ad, q, hel, hr⟩ := Gl.elem (hgs.mono hle) hx
        have hxc := Gl.cnts_take hx
        have hxl := Gl.cnts_le g.goals (i + 1)
        refine elem_intro hel ?_
        intro r5
        refine call_plain (ih x (mem_at hx) hr (hS.sub x (mem_at hx)) (by omega)) fun v1 μ1 hle1 hR => ?_
        obtain ⟨L, hL⟩ := hR
        obtain ⟨pv, rfl⟩ := hL.rep.inv
        obtain ⟨vs, hvr, hvl, hsrc⟩ := Rep.srcAll hL.rep
        have hLm := hL.max
        rw [drop_at hx, Gl.clOr, hL.cl] at hJ
        refine src_intro vs hsrc ?_
        refine grow_intro ?_ ?_ fun b9 c9 _ => ?_
        · show (ys.length + vs.length) * 24 ≤ _; omega
        · exact Nat.le_trans (m := 100000000) (show ys.length + vs.length ≤ _ by omega) (by decide)
        refine ifd (fun h64 => ?_) (fun h64 => ?_)
        · refine ret_plain ⟨L, hL.rep, ?_, fun c hc => Nat.le_trans (hL.len c hc) (by omega), hLm⟩
          rw [if_neg (show ¬ L.length ≤ 64 by omega)] at hJ ⊢
          rw [hJ]
          split <;> rfl
        · rw [if_pos (show L.length ≤ 64 by omega), Option.bind_some] at hJ
          refine num64 (by omega) (by omega) ⟨(i + 1, acc ++ L, b9, c9, _, μ1), ⟨by dsimp only; omega, hle.trans hle1, ?_, ?_, ?_, ?_⟩, by dsimp only; omega, ⟨⟨rfl, rfl, rfl, rfl, trivial⟩, ⟨rfl, trivial⟩, rfl, rfl⟩⟩
          · dsimp only
            rw [List.map_append]
            exact (hrows.mono hle1).append hvr
          · dsimp only
            rw [hJ]
            by_cases ha : acc.length ≤ 64
            · rw [if_pos ha]
            · rw [if_neg ha, if_neg (by rw [List.length_append]; omega)]
          · dsimp only
            intro c hc
            rcases List.mem_append.1 hc with hc | hc
            · have := hlen c hc; omega
            · have := hL.len c hc; omega
          · dsimp only
            rw [List.length_append]; omega
      · obtain rfl : i = g.goals.length := by omega
        rw [List.drop_length, Gl.clOr] at hJ
        rw [List.take_length] at hlen
        refine ret_frz [1] fun μ2 hle2 hno2 hat2 => .inl ⟨acc, ?_, hJ, fun c hc => by have := hlen c hc; omega, by omega⟩
        exact Rows.sl hat2 (hrows.mono hle2) (Nat.le_trans (m := 100000000) (by omega) (by decide))
    refine ifd (fun h7 => ?_) (fun h7 => ?_)
    rotate_left
    · intro r96 μ1 hle1 hno1 hat1 r97
      refine grow_intro ?_ ?_ fun b9 c9 _ => ?_
      · show (0 + 1) * 24 ≤ _; decide
      · show 0 + 1 ≤ maxLen; decide
      refine ret_frz [1] fun μ2 hle2 hno2 hat2 => .inl ⟨[[g]], ?_, ?_, ?_, ?_⟩
      · refine Rows.sl hat2 (Rows.one (d := csD [g]) ((Rows.sl (μ := μ1) (ds := [g.d]) hat1 (Rows.one (hv0.mono hle1) (Gl.d_n g)) (show 1 ≤ maxLen by decide)).mono hle2) rfl) (show 1 ≤ maxLen by decide)
      · rw [Gl.cl_eq, if_neg h0, if_neg h1, if_neg h8, if_neg h7]; rfl
      · intro c hc
        rw [List.mem_singleton.1 hc]
        have := g.cnt_pos
        simpa using this
      · simp
    have hcl : g.cl = Gl.clAnd g.goals [[]] := by rw [Gl.cl_eq, if_neg h0, if_neg h1, if_neg h8, if_pos h7]
    intro r48 μ1 hle1 hno1 hat1 r49
    refine grow_intro ?_ ?_ fun b9 c9 _ => ?_
    · show (0 + 1) * 24 ≤ _; decide
    · show 0 + 1 ≤ maxLen; decide
    refine loop_frz (fun q : Nat × List (List Gl) × Option Addr × Nat × Mem => q.1 ≤ g.goals.length ∧ μ.Le q.2.2.2.2 ∧ Cls q.2.2.2.2 q.2.1 (.slice q.2.2.1 q.2.1.length q.2.2.2.1) ∧ g.cl = Gl.clAnd (g.goals.drop q.1) q.2.1 ∧ (∀ c ∈ q.2.1, c.length ≤ Gl.cnts (g.goals.take q.1)) ∧ q.2.1.length ≤ 64)
      (fun (i, acc, b, c, μ') => ⟨[(3, .val (.slice b acc.length c)), (52, .val (.slice p.2.1 g.goals.length p.2.2)), (53, .val (.int .i64 g.goals.length)), (54, .val (.int .i64 i))], [], 0, μ', Mem.nil⟩) (fun q => g.goals.length - q.1) [1]
      (fun (_, _, _, _, _) => ⟨rfl, rfl⟩) (fun μ2 hle2 hno2 hat2 => ⟨(0, [[]], b9.map (fun r => ⟨r, 0, none⟩), c9, μ2), ⟨Nat.zero_le _, hle1.trans hle2, Rows.sl hat2 (Rows.one (d := csD []) ((Rows.sl (μ := μ1) (ds := []) hat1 .nil (Nat.zero_le _)).mono hle2) rfl) (show 1 ≤ maxLen by decide), hcl, by simp, by simp⟩, ⟨rfl, rfl, rfl, rfl, trivial⟩, trivial, rfl, rfl⟩) ?_
    rintro ⟨i, acc, b, c, μ'⟩ ⟨hi, hle, hacc, hJ, hlen, hmax⟩
    dsimp only at hi hle hacc hJ hlen hmax
    refine ifd (fun hlt => ?_) (fun hlt => ?_)
    rotate_left
    · obtain rfl : i = g.goals.length := by omega
      rw [List.drop_length, Gl.clAnd] at hJ
      rw [List.take_length] at hlen
      exact ret_plain ⟨acc, hacc, by rw [hJ, if_pos hmax], fun c hc => by have := hlen c hc; omega, by omega⟩
    obtain ⟨x, hx⟩ := at_some (l := g.goals) (i := i) (by omega)
    obtain ⟨ad, q, hel, hr⟩ := Gl.elem (hgs.mono hle) hx
    have hxc := Gl.cnts_take hx
    have hxl := Gl.cnts_le g.goals (i + 1)
    refine elem_intro hel ?_
    intro r8
    refine call_plain (ih x (mem_at hx) hr (hS.sub x (mem_at hx)) (by omega)) fun v3 μ3 hle3 hR => ?_
    obtain ⟨L, hL⟩ := hR
    obtain ⟨pv, rfl⟩ := hL.rep.inv
    have hLm := hL.max
    rw [drop_at hx, Gl.clAnd, hL.cl] at hJ
    refine ifd (fun h64 => ?_) (fun h64 => ?_)
    · refine ret_plain ⟨L, hL.rep, ?_, fun c hc => Nat.le_trans (hL.len c hc) (by omega), hLm⟩
      rw [if_neg (show ¬ L.length ≤ 64 by omega)] at hJ ⊢
      exact hJ
    rw [if_pos (show L.length ≤ 64 by omega), Option.bind_some] at hJ
    intro r64
    have hasl := (Cls.sl (RepV.mono hle3 hacc)).1
    refine loop_intro (fun q : Nat × Option Nat × Nat × List Value × Mem => q.1 ≤ acc.length ∧ μ3.Le q.2.2.2.2 ∧ Rows q.2.2.2.2 1 ((prodC (acc.take q.1) L).map csD) q.2.2.2.1)
      (fun (j, b1, c1, ys, μ4) => ⟨[(9, .val (.slice pv.1 L.length pv.2)), (10, .row 1 b1 ys.length c1), (52, .val (.slice p.2.1 g.goals.length p.2.2)), (53, .val (.int .i64 g.goals.length)), (54, .val (.int .i64 i)), (65, .val (.slice b acc.length c)), (66, .val (.int .i64 acc.length)), (67, .val (.int .i64 j))], [(1, some (.row b1 c1 53 1 ys))], 2, μ4, Mem.nil⟩) (fun q => acc.length - q.1)
      (0, some r64, 0, [], μ3) ⟨Nat.zero_le _, Mem.Le.refl _, .nil⟩ (fun (_, _, _, _, _) => ⟨rfl, rfl⟩) ⟨⟨rfl, rfl, rfl, rfl, rfl, rfl, rfl, rfl, trivial⟩, ⟨rfl, trivial⟩, rfl, rfl⟩ ?_
    rintro ⟨j, b1, c1, ys, μ4⟩ ⟨hj, hle4, hrows⟩
    dsimp only at hj hle4 hrows
    have hyl := hrows.len
    rw [List.length_map, prodC_len, List.length_take] at hyl
    have hmul : min j acc.length * L.length ≤ 64 * 64 := Nat.mul_le_mul (by omega) (by omega)
    refine ifd (fun hlt2 => ?_) (fun hlt2 => ?_)
    · obtain ⟨xa, hxa⟩ := at_some (l := acc) (i := j) (by omega)
      obtain ⟨ad2, pa, hel2, hra⟩ := cls_elem (hasl.mono hle4) hxa
      have hxal := hlen xa (mem_at hxa)
      have hmul2 : j * L.length ≤ 64 * 64 := Nat.mul_le_mul (by omega) (by omega)
      rw [Nat.min_eq_left (by omega)] at hyl
      refine elem_intro hel2 ?_
      refine loop_intro (fun q : Nat × Option Nat × Nat × List Value × Mem => q.1 ≤ L.length ∧ μ4.Le q.2.2.2.2 ∧ Rows q.2.2.2.2 1 ((prodC (acc.take j) L ++ (L.take q.1).map fun y => xa ++ y).map csD) q.2.2.2.1)
        (fun (k, b1, c1, ys, μ5) => ⟨[(9, .val (.slice pv.1 L.length pv.2)), (10, .row 1 b1 ys.length c1), (12, .val (.slice pa.1 xa.length pa.2)), (52, .val (.slice p.2.1 g.goals.length p.2.2)), (53, .val (.int .i64 g.goals.length)), (54, .val (.int .i64 i)), (65, .val (.slice b acc.length c)), (66, .val (.int .i64 acc.length)), (67, .val (.int .i64 j)), (71, .val (.slice pv.1 L.length pv.2)), (72, .val (.int .i64 L.length)), (73, .val (.int .i64 k))], [(1, some (.row b1 c1 53 1 ys))], 2, μ5, Mem.nil⟩) (fun q => L.length - q.1)
        (0, b1, c1, ys, μ4) ⟨Nat.zero_le _, Mem.Le.refl _, by simpa using hrows⟩ (fun (_, _, _, _, _) => ⟨rfl, rfl⟩) ⟨⟨rfl, rfl, rfl, rfl, rfl, rfl, rfl, rfl, rfl, rfl, rfl, rfl, trivial⟩, ⟨rfl, trivial⟩, rfl, rfl⟩ ?_
      clear hrows
      rintro ⟨k, b2, c2, zs, μ5⟩ ⟨hk, hle5, hrows2⟩
      dsimp only at hk hle5 hrows2
      have hzl := hrows2.len
      rw [List.length_map, List.length_append, prodC_len, List.length_map, List.length_take, List.length_take, Nat.min_eq_left (show j ≤ acc.length by omega), Nat.min_eq_left hk] at hzl
      refine ifd (fun hlt3 => ?_) (fun hlt3 => ?_)
      · obtain ⟨y, hy⟩ := at_some (l := L) (i := k) (by omega)
        obtain ⟨ad3, py, hel3, hry⟩ := cls_elem (((Cls.sl hL.rep).1.mono hle4).mono hle5) hy
        have hyl2 := hL.len y (mem_at hy)
        obtain ⟨vx, hvx, hvxl, hsx⟩ := csD_src (hra.mono hle5)
        obtain ⟨vy, hvy, hvyl, hsy⟩ := csD_src hry
        refine elem_intro hel3 ?_
        intro r78
        refine src_intro vx hsx ?_
        refine grow_intro ?_ ?_ fun b6 c6 _ => ?_
        · show (0 + vx.length) * 72 ≤ _; omega
        · exact Nat.le_trans (m := 100000000) (show 0 + vx.length ≤ _ by omega) (by decide)
        refine src_intro vy hsy ?_
        refine grow_intro ?_ ?_ fun b7 c7 _ => ?_
        · show ((([] : List Value) ++ vx).length + vy.length) * 72 ≤ _; simp; omega
        · exact Nat.le_trans (m := 100000000) (show (([] : List Value) ++ vx).length + vy.length ≤ _ by simp; omega) (by decide)
        intro μ6 hle6 hno6 hat6 r83
        refine grow_intro ?_ ?_ fun b8 c8 _ => ?_
        · show (zs.length + 1) * 24 ≤ _; omega
        · exact Nat.le_trans (m := 100000000) (show zs.length + 1 ≤ _ by omega) (by decide)
        have hrow : RepV μ6 (csD (xa ++ y)) (.slice (b7.map fun r => ⟨r, 0, none⟩) (([] : List Value) ++ vx ++ vy).length c7) := by
          have := Rows.sl hat6 ((hvx.append hvy).mono hle6) (Nat.le_trans (m := 100000000) (by simp; omega) (by decide))
          rw [← List.map_append] at this
          exact this
        refine num64 (by omega) (by omega) ⟨(k + 1, b8, c8, _, μ6), ⟨by dsimp only; omega, hle5.trans hle6, ?_⟩, by dsimp only; omega, ⟨⟨rfl, rfl, rfl, rfl, rfl, rfl, rfl, rfl, rfl, rfl, rfl, rfl, trivial⟩, ⟨rfl, trivial⟩, rfl, rfl⟩⟩
        dsimp only
        rw [List.take_add_one, hy, Option.toList_some, List.map_append (f := fun y => xa ++ y), ← List.append_assoc, List.map_append (f := csD)]
        exact (hrows2.mono hle6).append (Rows.one hrow rfl)
      · obtain rfl : k = L.length := by omega
        rw [List.take_length, ← prodC_step hxa] at hrows2
        exact num64 (by omega) (by omega) ⟨(j + 1, b2, c2, zs, μ5), ⟨by dsimp only; omega, hle4.trans hle5, hrows2⟩, by dsimp only; omega, ⟨⟨rfl, rfl, rfl, rfl, rfl, rfl, rfl, rfl, trivial⟩, ⟨rfl, trivial⟩, rfl, rfl⟩⟩
    · obtain rfl : j = acc.length := by omega
      rw [List.take_length] at hrows
      rw [Nat.min_self] at hyl hmul
      have hpl := prodC_len acc L
      have hzlen : ∀ c ∈ prodC acc L, c.length ≤ Gl.cnts (g.goals.take (i + 1)) := fun c hc => by
        obtain ⟨u, hu, w, hw, rfl⟩ := prodC_mem hc
        have h1 := hlen u hu
        have h2 := hL.len w hw
        rw [List.length_append]; omega
      refine ifd (fun hb => ?_) (fun hb => ?_)
      · refine ret_frz [1] fun μ5 hle5 hno5 hat5 => .inl ⟨prodC acc L, ?_, ?_, fun c hc => by have := hzlen c hc; omega, by omega⟩
        · have := Rows.sl hat5 (hrows.mono hle5) (Nat.le_trans (m := 100000000) (by omega) (by decide))
          exact this
        · rw [if_neg (by omega)] at hJ ⊢
          exact hJ
      · rw [if_pos (by omega)] at hJ
        refine num64 (by omega) (by omega) ⟨[1], fun μ5 hle5 hno5 hat5 => ⟨(i + 1, prodC acc L, b1.map (fun r => ⟨r, 0, none⟩), c1, μ5), ⟨by dsimp only; omega, ((hle.trans hle3).trans hle4).trans hle5, ?_, hJ, hzlen, by dsimp only; omega⟩, by dsimp only; omega, ⟨⟨?_, rfl, rfl, rfl, trivial⟩, trivial, rfl, rfl⟩⟩⟩
        · have := Rows.sl hat5 (hrows.mono hle5) (Nat.le_trans (m := 100000000) (by omega) (by decide))
          rw [← hyl, ← hpl] at this
          exact this
        · show some (SV.val (.slice _ _ _)) = some (SV.val (.slice _ _ _))
          rw [hpl, hyl]
end
end Go.Vx

/- Contracts: the clauses of a goal, the program's side. -/
namespace Go.Vx
open Go.Proofs Classical
theorem prodC_size {a l : List (List Gl)} {m n : Nat} (h1 : ∀ c ∈ a, c.length ≤ m) (h2 : ∀ c ∈ l, c.length ≤ n) : ∀ c ∈ prodC a l, c.length ≤ m + n := fun c hc => by
  obtain ⟨u, hu, w, hw, rfl⟩ := prodC_mem hc
  have := h1 u hu
  have := h2 w hw
  rw [List.length_append]; omega
mutual
theorem Gl.cl_bnd : ∀ (g : Gl) {L : List (List Gl)}, g.cl = some L → (∀ c ∈ L, c.length ≤ g.cnt) ∧ L.length ≤ 64
  | .mk k s ts gs, L, h => by
    rw [Gl.cl] at h
    rw [Gl.cnt]
    split at h
    · cases h; simp
    split at h
    · cases h; simp
    split at h
    · have := Gl.clOr_bnd gs (acc := []) (n := 0) (by simp) (by simp) h
      exact ⟨fun c hc => by have := this.1 c hc; omega, this.2⟩
    split at h
    · have := Gl.clAnd_bnd gs (acc := [[]]) (n := 0) (by simp) (by simp) h
      exact ⟨fun c hc => by have := this.1 c hc; omega, this.2⟩
    · cases h
      refine ⟨fun c hc => ?_, by simp⟩
      rw [List.mem_singleton.1 hc, List.length_singleton]; omega
theorem Gl.clOr_bnd : ∀ (gs : List Gl) {acc L : List (List Gl)} {n : Nat}, (∀ c ∈ acc, c.length ≤ n) → acc.length ≤ 64 → Gl.clOr gs acc = some L → (∀ c ∈ L, c.length ≤ n + Gl.cnts gs) ∧ L.length ≤ 64
  | [], acc, L, n, h1, h2, h => by
    rw [Gl.clOr] at h; cases h
    exact ⟨fun c hc => Nat.le_trans (h1 c hc) (Nat.le_add_right _ _), h2⟩
  | g :: gs, acc, L, n, h1, h2, h => by
    rw [Gl.clOr] at h
    cases e : g.cl with
    | none => rw [e] at h; cases h
    | some l =>
      rw [e, Option.bind_some] at h
      have hb := Gl.cl_bnd g e
      split at h
      · rename_i h64
        have := Gl.clOr_bnd gs (acc := acc ++ l) (n := n + g.cnt) (fun c hc => by
          rcases List.mem_append.1 hc with hc | hc
          · have := h1 c hc; omega
          · have := hb.1 c hc; omega) h64 h
        rw [Gl.cnts]
        exact ⟨fun c hc => by have := this.1 c hc; omega, this.2⟩
      · cases h
theorem Gl.clAnd_bnd : ∀ (gs : List Gl) {acc L : List (List Gl)} {n : Nat}, (∀ c ∈ acc, c.length ≤ n) → acc.length ≤ 64 → Gl.clAnd gs acc = some L → (∀ c ∈ L, c.length ≤ n + Gl.cnts gs) ∧ L.length ≤ 64
  | [], acc, L, n, h1, h2, h => by
    rw [Gl.clAnd] at h; cases h
    exact ⟨fun c hc => Nat.le_trans (h1 c hc) (Nat.le_add_right _ _), h2⟩
  | g :: gs, acc, L, n, h1, h2, h => by
    rw [Gl.clAnd] at h
    cases e : g.cl with
    | none => rw [e] at h; cases h
    | some l =>
      rw [e, Option.bind_some] at h
      have hb := Gl.cl_bnd g e
      split at h
      · rename_i h64
        have := Gl.clAnd_bnd gs (acc := prodC acc l) (n := n + g.cnt) (prodC_size h1 hb.1) h64 h
        rw [Gl.cnts]
        exact ⟨fun c hc => by have := this.1 c hc; omega, this.2⟩
      · cases h
end
/-- The clauses and whether there are not too many. -/
def optC (P : List (List Gl) → Value → Prop) (o : Option (List (List Gl))) (v : Value) : Prop := match o with
  | some L => ∃ tv, v = .tuple #[tv, .bool true] ∧ P L tv
  | none => v = .tuple #[.slice none 0 0, .bool false]
section
variable {μ : Mem}
set_option maxHeartbeats 8000000 in
theorem clausesOf_spec : ∀ (g : Gl) {μ : Mem} {v : Value}, RepV μ g.d v → g.Sh → g.cnt ≤ 80 → Spec Tryz.prog 150 [v] μ fun v μ' => optC (Cls μ') g.cl v :=
  Gl.ind fun g ih μ v hv hS hcnt => by
    have hv0 := hv
    obtain ⟨p, rfl, hts, hgs⟩ := Gl.inv hv
    have hg8 := hS.top.gl
    have hce := Gl.cnt_eq1 g
    refine Spec.mk Tryz.func150 (by kernel_rfl) ?_
    intro r1 r19
    refine ifd (fun h0 => ?_) (fun h0 => ?_)
    · intro r27 μ1 hle1 hno1 hat1 r28
      refine ret_frz [3] fun μ2 hle2 hno2 hat2 => .inl ?_
      rw [Gl.cl_eq, if_pos h0]
      exact ⟨_, rfl, Rows.sl hat2 (Rows.one (d := csD []) ((Rows.sl (μ := μ1) (ds := []) hat1 .nil (Nat.zero_le _)).mono hle2) rfl) (show 1 ≤ maxLen by decide)⟩
    refine ifd (fun h1 => ?_) (fun h1 => ?_)
    · refine ret_frz [1] fun μ2 hle2 hno2 hat2 => .inl ?_
      rw [Gl.cl_eq, if_neg h0, if_pos h1]
      exact ⟨_, rfl, Rows.sl hat2 .nil (Nat.zero_le _)⟩
    refine ifd (fun h8 => ?_) (fun h8 => ?_)
    · have hcl : g.cl = Gl.clOr g.goals [] := by rw [Gl.cl_eq, if_neg h0, if_neg h1, if_pos h8]
      refine loop_intro (fun q : Nat × List (List Gl) × Option Nat × Nat × List Value × Mem => q.1 ≤ g.goals.length ∧ μ.Le q.2.2.2.2.2 ∧ Rows q.2.2.2.2.2 1 (q.2.1.map csD) q.2.2.2.2.1 ∧ g.cl = Gl.clOr (g.goals.drop q.1) q.2.1 ∧ q.2.1.length ≤ 64)
        (fun (i, acc, b, c, ys, μ') => ⟨[(4, .row 1 b ys.length c), (34, .val (.slice p.2.1 g.goals.length p.2.2)), (35, .val (.int .i64 g.goals.length)), (36, .val (.int .i64 i))], [(1, some (.row b c 53 1 ys))], 2, μ', Mem.nil⟩) (fun q => g.goals.length - q.1)
        (0, [], some r19, 0, [], μ) ⟨Nat.zero_le _, Mem.Le.refl _, .nil, hcl, by simp⟩ (fun (_, _, _, _, _, _) => ⟨rfl, rfl⟩) ⟨⟨rfl, rfl, rfl, rfl, trivial⟩, ⟨rfl, trivial⟩, rfl, rfl⟩ ?_
      rintro ⟨i, acc, b, c, ys, μ'⟩ ⟨hi, hle, hrows, hJ, hmax⟩
      dsimp only at hi hle hrows hJ hmax
      have hyl := hrows.len
      rw [List.length_map] at hyl
      refine ifd (fun hlt => ?_) (fun hlt => ?_)
      · obtain ⟨x, hx⟩ := at_some (l := g.goals) (i := i) (by omega)
        obtain ⟨ad, q, hel, hr⟩ := Gl.elem (hgs.mono hle) hx
        have hxc := Gl.cnts_take hx
        have hxl := Gl.cnts_le g.goals (i + 1)
        refine elem_intro hel ?_
        intro r5
        refine call_plain (ih x (mem_at hx) hr (hS.sub x (mem_at hx)) (by omega)) fun v1 μ1 hle1 hR => ?_
        rw [drop_at hx, Gl.clOr] at hJ
        cases e : x.cl with
        | none =>
          rw [e] at hR hJ
          obtain rfl := hR
          refine if_intro (fun _ => ?_) (fun h => nomatch h)
          exact ret_plain (by rw [hJ]; rfl)
        | some L =>
          rw [e] at hR
          rw [e, Option.bind_some] at hJ
          obtain ⟨tv, rfl, hLr⟩ := hR
          obtain ⟨pv, rfl⟩ := hLr.inv
          have hLb := Gl.cl_bnd x e
          obtain ⟨vs, hvr, hvl, hsrc⟩ := Rep.srcAll hLr
          refine if_intro (fun h => nomatch h) (fun _ => ?_)
          refine src_intro vs hsrc ?_
          refine grow_intro ?_ ?_ fun b9 c9 _ => ?_
          · show (ys.length + vs.length) * 24 ≤ _; omega
          · exact Nat.le_trans (m := 100000000) (show ys.length + vs.length ≤ _ by omega) (by decide)
          have hal : (ys ++ vs).length = (acc ++ L).length := by rw [List.length_append, List.length_append]; omega
          refine ifd (fun h64 => ?_) (fun h64 => ?_)
          · rw [if_neg (by omega)] at hJ
            exact ret_plain (by rw [hJ]; rfl)
          · rw [if_pos (by omega)] at hJ
            refine num64 (by omega) (by omega) ⟨(i + 1, acc ++ L, b9, c9, _, μ1), ⟨by dsimp only; omega, hle.trans hle1, ?_, hJ, by dsimp only; omega⟩, by dsimp only; omega, ⟨⟨rfl, rfl, rfl, rfl, trivial⟩, ⟨rfl, trivial⟩, rfl, rfl⟩⟩
            dsimp only
            rw [List.map_append]
            exact (hrows.mono hle1).append hvr
      · obtain rfl : i = g.goals.length := by omega
        rw [List.drop_length, Gl.clOr] at hJ
        refine ret_frz [1] fun μ2 hle2 hno2 hat2 => .inl ?_
        rw [hJ]
        exact ⟨_, rfl, Rows.sl hat2 (hrows.mono hle2) (Nat.le_trans (m := 100000000) (by omega) (by decide))⟩
    refine ifd (fun h7 => ?_) (fun h7 => ?_)
    rotate_left
    · intro r23 μ1 hle1 hno1 hat1 r24
      refine ret_frz [3] fun μ2 hle2 hno2 hat2 => .inl ?_
      rw [Gl.cl_eq, if_neg h0, if_neg h1, if_neg h8, if_neg h7]
      exact ⟨_, rfl, Rows.sl hat2 (Rows.one (d := csD [g]) ((Rows.sl (μ := μ1) (ds := [g.d]) hat1 (Rows.one (hv0.mono hle1) (Gl.d_n g)) (show 1 ≤ maxLen by decide)).mono hle2) rfl) (show 1 ≤ maxLen by decide)⟩
    have hcl : g.cl = Gl.clAnd g.goals [[]] := by rw [Gl.cl_eq, if_neg h0, if_neg h1, if_neg h8, if_pos h7]
    intro r56 μ1 hle1 hno1 hat1 r57
    refine loop_frz (fun q : Nat × List (List Gl) × Option Addr × Nat × Mem => q.1 ≤ g.goals.length ∧ μ.Le q.2.2.2.2 ∧ Cls q.2.2.2.2 q.2.1 (.slice q.2.2.1 q.2.1.length q.2.2.2.1) ∧ g.cl = Gl.clAnd (g.goals.drop q.1) q.2.1 ∧ (∀ c ∈ q.2.1, c.length ≤ Gl.cnts (g.goals.take q.1)) ∧ q.2.1.length ≤ 64)
      (fun (i, acc, b, c, μ') => ⟨[(4, .val (.slice b acc.length c)), (9, .val (.bool false)), (59, .val (.slice p.2.1 g.goals.length p.2.2)), (60, .val (.int .i64 g.goals.length)), (61, .val (.int .i64 i))], [], 0, μ', Mem.nil⟩) (fun q => g.goals.length - q.1) [3]
      (fun (_, _, _, _, _) => ⟨rfl, rfl⟩) (fun μ2 hle2 hno2 hat2 => ⟨(0, [[]], some ⟨r57, 0, none⟩, 1, μ2), ⟨Nat.zero_le _, hle1.trans hle2, Rows.sl hat2 (Rows.one (d := csD []) ((Rows.sl (μ := μ1) (ds := []) hat1 .nil (Nat.zero_le _)).mono hle2) rfl) (show 1 ≤ maxLen by decide), hcl, by simp, by simp⟩, ⟨rfl, rfl, rfl, rfl, rfl, trivial⟩, trivial, rfl, rfl⟩) ?_
    rintro ⟨i, acc, b, c, μ'⟩ ⟨hi, hle, hacc, hJ, hlen, hmax⟩
    dsimp only at hi hle hacc hJ hlen hmax
    refine ifd (fun hlt => ?_) (fun hlt => ?_)
    rotate_left
    · obtain rfl : i = g.goals.length := by omega
      rw [List.drop_length, Gl.clAnd] at hJ
      exact ret_plain (by rw [hJ]; exact ⟨_, rfl, hacc⟩)
    obtain ⟨x, hx⟩ := at_some (l := g.goals) (i := i) (by omega)
    obtain ⟨ad, q, hel, hr⟩ := Gl.elem (hgs.mono hle) hx
    have hxc := Gl.cnts_take hx
    have hxl := Gl.cnts_le g.goals (i + 1)
    refine elem_intro hel ?_
    intro r11
    refine call_plain (ih x (mem_at hx) hr (hS.sub x (mem_at hx)) (by omega)) fun v3 μ3 hle3 hR => ?_
    rw [drop_at hx, Gl.clAnd] at hJ
    obtain ⟨o, e⟩ : ∃ o, x.cl = o := ⟨_, rfl⟩
    rw [e] at hR hJ
    match o, e, hR, hJ with
    | none, e, hR, hJ =>
    obtain rfl := hR
    refine if_intro (fun _ => ?_) (fun h => nomatch h)
    exact ret_plain (by rw [hJ]; rfl)
    | some L, e, hR, hJ =>
    obtain ⟨tv, rfl, hLr⟩ := hR
    obtain ⟨pv, rfl⟩ := hLr.inv
    have hLb := Gl.cl_bnd x e
    have hLl := hLb.1
    have hLm := hLb.2
    rw [Option.bind_some] at hJ
    refine if_intro (fun h => nomatch h) (fun _ => ?_)
    intro r64
    have hasl := (Cls.sl (RepV.mono hle3 hacc)).1
    refine loop_intro (fun q : Nat × Option Nat × Nat × List Value × Mem => q.1 ≤ acc.length ∧ μ3.Le q.2.2.2.2 ∧ Rows q.2.2.2.2 1 ((prodC (acc.take q.1) L).map csD) q.2.2.2.1)
      (fun (j, b1, c1, ys, μ4) => ⟨[(9, .val (.bool false)), (12, .val (.slice pv.1 L.length pv.2)), (14, .row 1 b1 ys.length c1), (59, .val (.slice p.2.1 g.goals.length p.2.2)), (60, .val (.int .i64 g.goals.length)), (61, .val (.int .i64 i)), (73, .val (.slice b acc.length c)), (74, .val (.int .i64 acc.length)), (75, .val (.int .i64 j))], [(1, some (.row b1 c1 53 1 ys))], 2, μ4, Mem.nil⟩) (fun q => acc.length - q.1)
      (0, some r64, 0, [], μ3) ⟨Nat.zero_le _, Mem.Le.refl _, .nil⟩ (fun (_, _, _, _, _) => ⟨rfl, rfl⟩) ⟨⟨rfl, rfl, rfl, rfl, rfl, rfl, rfl, rfl, rfl, trivial⟩, ⟨rfl, trivial⟩, rfl, rfl⟩ ?_
    rintro ⟨j, b1, c1, ys, μ4⟩ ⟨hj, hle4, hrows⟩
    dsimp only at hj hle4 hrows
    have hyl := hrows.len
    rw [List.length_map, prodC_len, List.length_take] at hyl
    have hmul : min j acc.length * L.length ≤ 64 * 64 := Nat.mul_le_mul (by omega) (by omega)
    refine ifd (fun hlt2 => ?_) (fun hlt2 => ?_)
    · obtain ⟨xa, hxa⟩ := at_some (l := acc) (i := j) (by omega)
      obtain ⟨ad2, pa, hel2, hra⟩ := cls_elem (hasl.mono hle4) hxa
      have hxal := hlen xa (mem_at hxa)
      have hmul2 : j * L.length ≤ 64 * 64 := Nat.mul_le_mul (by omega) (by omega)
      rw [Nat.min_eq_left (by omega)] at hyl
      refine elem_intro hel2 ?_
      refine loop_intro (fun q : Nat × Option Nat × Nat × List Value × Mem => q.1 ≤ L.length ∧ μ4.Le q.2.2.2.2 ∧ Rows q.2.2.2.2 1 ((prodC (acc.take j) L ++ (L.take q.1).map fun y => xa ++ y).map csD) q.2.2.2.1)
        (fun (k, b1, c1, ys, μ5) => ⟨[(9, .val (.bool false)), (12, .val (.slice pv.1 L.length pv.2)), (14, .row 1 b1 ys.length c1), (16, .val (.slice pa.1 xa.length pa.2)), (59, .val (.slice p.2.1 g.goals.length p.2.2)), (60, .val (.int .i64 g.goals.length)), (61, .val (.int .i64 i)), (73, .val (.slice b acc.length c)), (74, .val (.int .i64 acc.length)), (75, .val (.int .i64 j)), (79, .val (.slice pv.1 L.length pv.2)), (80, .val (.int .i64 L.length)), (81, .val (.int .i64 k))], [(1, some (.row b1 c1 53 1 ys))], 2, μ5, Mem.nil⟩) (fun q => L.length - q.1)
        (0, b1, c1, ys, μ4) ⟨Nat.zero_le _, Mem.Le.refl _, by simpa using hrows⟩ (fun (_, _, _, _, _) => ⟨rfl, rfl⟩) ⟨⟨rfl, rfl, rfl, rfl, rfl, rfl, rfl, rfl, rfl, rfl, rfl, rfl, rfl, trivial⟩, ⟨rfl, trivial⟩, rfl, rfl⟩ ?_
      clear hrows
      rintro ⟨k, b2, c2, zs, μ5⟩ ⟨hk, hle5, hrows2⟩
      dsimp only at hk hle5 hrows2
      have hzl := hrows2.len
      rw [List.length_map, List.length_append, prodC_len, List.length_map, List.length_take, List.length_take, Nat.min_eq_left (show j ≤ acc.length by omega), Nat.min_eq_left hk] at hzl
      refine ifd (fun hlt3 => ?_) (fun hlt3 => ?_)
      · obtain ⟨y, hy⟩ := at_some (l := L) (i := k) (by omega)
        obtain ⟨ad3, py, hel3, hry⟩ := cls_elem (((Cls.sl hLr).1.mono hle4).mono hle5) hy
        have hyl2 := hLl y (mem_at hy)
        obtain ⟨vx, hvx, hvxl, hsx⟩ := csD_src (hra.mono hle5)
        obtain ⟨vy, hvy, hvyl, hsy⟩ := csD_src hry
        refine elem_intro hel3 ?_
        intro r78
        refine src_intro vx hsx ?_
        refine grow_intro ?_ ?_ fun b6 c6 _ => ?_
        · show (0 + vx.length) * 72 ≤ _; omega
        · exact Nat.le_trans (m := 100000000) (show 0 + vx.length ≤ _ by omega) (by decide)
        refine src_intro vy hsy ?_
        refine grow_intro ?_ ?_ fun b7 c7 _ => ?_
        · show ((([] : List Value) ++ vx).length + vy.length) * 72 ≤ _; simp; omega
        · exact Nat.le_trans (m := 100000000) (show (([] : List Value) ++ vx).length + vy.length ≤ _ by simp; omega) (by decide)
        intro μ6 hle6 hno6 hat6 r83
        refine grow_intro ?_ ?_ fun b8 c8 _ => ?_
        · show (zs.length + 1) * 24 ≤ _; omega
        · exact Nat.le_trans (m := 100000000) (show zs.length + 1 ≤ _ by omega) (by decide)
        have hrow : RepV μ6 (csD (xa ++ y)) (.slice (b7.map fun r => ⟨r, 0, none⟩) (([] : List Value) ++ vx ++ vy).length c7) := by
          have := Rows.sl hat6 ((hvx.append hvy).mono hle6) (Nat.le_trans (m := 100000000) (by simp; omega) (by decide))
          rw [← List.map_append] at this
          exact this
        refine num64 (by omega) (by omega) ⟨(k + 1, b8, c8, _, μ6), ⟨by dsimp only; omega, hle5.trans hle6, ?_⟩, by dsimp only; omega, ⟨⟨rfl, rfl, rfl, rfl, rfl, rfl, rfl, rfl, rfl, rfl, rfl, rfl, rfl, trivial⟩, ⟨rfl, trivial⟩, rfl, rfl⟩⟩
        dsimp only
        rw [List.take_add_one, hy, Option.toList_some, List.map_append (f := fun y => xa ++ y), ← List.append_assoc, List.map_append (f := csD)]
        exact (hrows2.mono hle6).append (Rows.one hrow rfl)
      · obtain rfl : k = L.length := by omega
        rw [List.take_length, ← prodC_step hxa] at hrows2
        exact num64 (by omega) (by omega) ⟨(j + 1, b2, c2, zs, μ5), ⟨by dsimp only; omega, hle4.trans hle5, hrows2⟩, by dsimp only; omega, ⟨⟨rfl, rfl, rfl, rfl, rfl, rfl, rfl, rfl, rfl, trivial⟩, ⟨rfl, trivial⟩, rfl, rfl⟩⟩
    · obtain rfl : j = acc.length := by omega
      rw [List.take_length] at hrows
      rw [Nat.min_self] at hyl hmul
      have hpl := prodC_len acc L
      have hzlen : ∀ c ∈ prodC acc L, c.length ≤ Gl.cnts (g.goals.take (i + 1)) := fun c hc => by
        obtain ⟨u, hu, w, hw, rfl⟩ := prodC_mem hc
        have h1 := hlen u hu
        have h2 := hLl w hw
        rw [List.length_append]; omega
      refine if_intro (fun h => nomatch h) (fun _ => ?_)
      refine ifd (fun hb => ?_) (fun hb => ?_)
      · rw [if_neg (by omega)] at hJ
        exact ret_plain (by rw [hJ]; rfl)
      · rw [if_pos (by omega)] at hJ
        refine num64 (by omega) (by omega) ⟨[1], fun μ5 hle5 hno5 hat5 => ⟨(i + 1, prodC acc L, b1.map (fun r => ⟨r, 0, none⟩), c1, μ5), ⟨by dsimp only; omega, ((hle.trans hle3).trans hle4).trans hle5, ?_, hJ, hzlen, by dsimp only; omega⟩, by dsimp only; omega, ⟨⟨?_, ?_, rfl, rfl, rfl, trivial⟩, trivial, rfl, rfl⟩⟩⟩
        · have := Rows.sl hat5 (hrows.mono hle5) (Nat.le_trans (m := 100000000) (by omega) (by decide))
          rw [← hyl, ← hpl] at this
          exact this
        · show some (SV.val (.slice _ _ _)) = some (SV.val (.slice _ _ _))
          rw [hpl, hyl]
        · show some (SV.val (.bool _)) = some (SV.val (.bool _))
          rw [decide_eq_false hb]
theorem clausesFine_spec {p : Pg} {v : Value} (hp : RepV μ p.d v) (hok : p.Ok) : Spec Tryz.prog 216 [v] μ fun r _ => r = .bool (decide (∀ r ∈ p.rels, r.body.cl ≠ none)) := by
  obtain ⟨q, rfl, hrl⟩ := Pg.inv hp
  have hn := hok.1
  refine Spec.mk Tryz.func216 (by kernel_rfl) ?_
  intro r1
  refine loop_intro (fun s : Nat × Mem => s.1 ≤ p.rels.length ∧ μ.Le s.2 ∧ ∀ (j : Nat) x, j < s.1 → p.rels[j]? = some x → x.body.cl ≠ none)
    (fun (i, μ') => ⟨[(8, .val (.slice q.1 p.rels.length q.2)), (9, .val (.int .i64 p.rels.length)), (10, .val (.int .i64 i))], [], 1, μ', Mem.nil⟩) (fun s => p.rels.length - s.1)
    (0, μ) ⟨Nat.zero_le _, Mem.Le.refl _, fun j x h => by dsimp only at h; omega⟩ (fun (_, _) => ⟨rfl, rfl⟩) ⟨⟨rfl, rfl, rfl, trivial⟩, trivial, rfl, rfl⟩ ?_
  rintro ⟨i, μ'⟩ ⟨hi, hle, hall⟩
  dsimp only at hi hle hall
  refine ifd (fun hlt => ?_) (fun hlt => ?_)
  · obtain ⟨x, hx⟩ := at_some (l := p.rels) (i := i) (by omega)
    obtain ⟨ad, q2, hel, hr, hb⟩ := Rl.elemA (hrl.mono hle) hx
    have hb : RepV μ' x.body.d (.agg (x.body.cs q2).toArray) := hb
    have hrok := hok.2 i x hx
    refine elem_intro hel ?_
    intro r2
    refine call_plain (clausesOf_spec x.body hb hrok.body (by have := hrok.size; omega)) fun v1 μ1 hle1 hR => ?_
    cases e : x.body.cl with
    | none =>
      rw [e] at hR
      obtain rfl := hR
      refine if_intro (fun _ => ?_) (fun h => nomatch h)
      exact ret_plain (isF fun k => k x (mem_at hx) e)
    | some L =>
      rw [e] at hR
      obtain ⟨tv, rfl, hLr⟩ := hR
      obtain ⟨pv, rfl⟩ := hLr.inv
      refine if_intro (fun h => nomatch h) (fun _ => ?_)
      refine num64 (by omega) (by omega) ⟨(i + 1, μ1), ⟨by dsimp only; omega, hle.trans hle1, fun j y hj hy => ?_⟩, by dsimp only; omega, ⟨⟨rfl, rfl, rfl, trivial⟩, trivial, rfl, rfl⟩⟩
      rcases Nat.lt_or_ge j i with h6 | h6
      · exact hall j y h6 hy
      · obtain rfl : j = i := by omega
        rw [hx] at hy; cases hy; rw [e]; exact fun h => nomatch h
  · obtain rfl : i = p.rels.length := by omega
    exact ret_plain (isT fun x hx => by
      obtain ⟨j, hj⟩ := List.mem_iff_getElem?.1 hx
      exact hall j x (List.getElem?_eq_some_iff.1 hj).1 hj)
end
end Go.Vx

/- Contracts: goals copied, the reference's side. -/
namespace Go.Vx
open Go.Proofs Classical
section
variable {μ : Mem}
theorem l02CopyAll_spec {xs : List T} {base : Option Addr} {cap : Nat} (hsl : Sl μ 4 base xs.length ((xs.map T.tm).map Tm.d)) (hn : xs.length ≤ 10000000) :
    Spec Tryz.prog 187 [.slice base xs.length cap] μ fun v μ' => RepV μ' (.sl 4 ((xs.map T.tm).map Tm.d)) v := by
  refine Spec.mk Tryz.func187 (by kernel_rfl) ?_
  intro r6
  refine loop_intro (fun p : Nat × Option Nat × Nat × List Value × Mem => p.1 ≤ xs.length ∧ μ.Le p.2.2.2.2 ∧ Rows p.2.2.2.2 4 (((xs.take p.1).map T.tm).map Tm.d) p.2.2.2.1)
    (fun (i, b, c, ys, μ') => ⟨[(3, .row 0 b ys.length c), (7, .val (.slice base xs.length cap)), (8, .val (.int .i64 xs.length)), (9, .val (.int .i64 i))], [(0, some (.row b c 44 4 ys))], 1, μ', Mem.nil⟩) (fun p => xs.length - p.1)
    (0, some r6, 0, [], μ) ⟨by simp, Mem.Le.refl _, .nil⟩ (fun (_, _, _, _, _) => ⟨rfl, rfl⟩) ⟨⟨rfl, rfl, rfl, rfl, trivial⟩, ⟨rfl, trivial⟩, rfl, rfl⟩ ?_
  rintro ⟨i, b, c, ys, μ'⟩ ⟨hi, hle, hrows⟩
  dsimp only at hi hle hrows
  have hlen := hrows.len
  simp only [List.length_map, List.length_take] at hlen
  refine ifd (fun h => ?_) (fun h => ?_)
  · obtain ⟨x, hx'⟩ := at_some (l := xs) (i := i) (by omega)
    obtain ⟨ad, p, hel, hto⟩ := Tm.elem (i := i) (t := x.tm) (hsl.mono hle) (by simp [hx'])
    refine elem_intro hel ?_
    intro r
    refine call_plain (l02Copy_spec _ hto) fun v4 μ4 hle4 hR4 => ?_
    obtain ⟨q, rfl⟩ := Tm.invV hR4
    intro r5
    refine grow_intro ?_ ?_ fun b' c' _ => ?_
    · show (ys.length + 1) * 56 ≤ _; omega
    · exact Nat.le_trans (m := 100000000) (show ys.length + 1 ≤ _ by omega) (by decide)
    refine num64 (by omega) (by omega) ⟨(i + 1, b', c', _, μ4), ⟨by dsimp only; omega, hle.trans hle4, ?_⟩, by dsimp only; omega, ⟨⟨rfl, rfl, rfl, rfl, trivial⟩, ⟨rfl, trivial⟩, rfl, rfl⟩⟩
    dsimp only
    rw [List.take_add_one, hx', Option.toList_some]
    simp only [List.map_append, List.map_cons, List.map_nil]
    exact (hrows.mono hle4).append (Rows.one hR4 (Tm.d_n _))
  · obtain rfl : i = xs.length := by omega
    rw [List.take_length] at hrows
    refine ret_frz [0] fun μ' hle' hno hrow => .inl ?_
    exact Rows.sl hrow (hrows.mono hle') (Nat.le_trans (m := 100000000) (by omega) (by decide))
theorem RepS.cons1 {d : D} {r : List D} {v : Value} {cs : List Value} (k1 : Rep μ d [v]) (k2 : RepS μ r cs) : RepS μ (d :: r) (v :: cs) := ⟨[v], cs, rfl, k1, k2⟩
theorem l13Copy_spec : ∀ (g : Gl) {μ : Mem} {v : Value}, RepV μ g.d v → g.Sh → Spec Tryz.prog 100 [v] μ fun v μ' => RepV μ' g.d v :=
  Gl.ind fun g ih μ v hv hS => by
    obtain ⟨p, rfl, hts, hgs⟩ := Gl.inv hv
    obtain ⟨xs, hxs, hok⟩ := lift_ok hS.top.tm
    have hg8 := hS.top.gl
    have hx4 : xs.length ≤ 4 := by
      have T := hS.top
      have e9 := T.ln9; have e2 := T.ln2; have e1 := T.ln1; have e0 := T.ln0; have k0 := T.k0; have k1 := T.k1
      have : g.terms.length = xs.length := by rw [hxs, List.length_map]
      omega
    rw [hxs, List.length_map] at hts ⊢
    refine Spec.mk Tryz.func100 (by kernel_rfl) ?_
    intro r1 r2
    refine call_plain (l02CopyAll_spec hts (by omega)) fun v1 μ1 hle1 hR1 => ?_
    obtain ⟨b1, c1, rfl, hs1⟩ := Rep.sl hR1
    intro r3
    have hgs1 := hgs.mono hle1
    refine loop_nil (fun p : Nat × Option Nat × Nat × List Value × Mem => p.1 ≤ g.goals.length ∧ μ1.Le p.2.2.2.2 ∧ Rows p.2.2.2.2 4 ((g.goals.take p.1).map Gl.d) p.2.2.2.1)
      (fun (i, b, c, ys, μ') => ⟨[(2, .loc 1 r2 0), (3, .loc 2 r3 0), (15, .val (.slice p.2.1 g.goals.length p.2.2)), (16, .val (.int .i64 g.goals.length)), (17, .val (.int .i64 i))],
        [(1, some (.cells r2 [.val (.int .i64 0), .val (.string ⟨#[]⟩), .val (.slice none 0 0), .val (.slice none 0 0)] 55)), (2, some (.cells r3 [.val (.int .i64 g.kind), .val (.string g.name), .val (.slice b1 ((xs.map T.tm).map Tm.d).length c1), .row 3 b ys.length c] 55)), (3, some (.row b c 55 4 ys))], 4, μ', Mem.nil⟩) (fun p => g.goals.length - p.1)
      (0, none, 0, [], μ1) ⟨by simp, Mem.Le.refl _, .nil⟩ (fun (_, _, _, _, _) => ⟨rfl, rfl⟩) ⟨⟨⟨_, rfl, .inl rfl⟩, ⟨_, rfl, .inl rfl⟩, ⟨_, rfl, .inl rfl⟩, ⟨_, rfl, .inl rfl⟩, ⟨_, rfl, .inl rfl⟩, trivial⟩, ⟨.inl rfl, .inr (.inr ⟨_, _, _, _, rfl, rfl, .inl rfl, .inl rfl, .inl rfl, .inr ⟨3, rfl, rfl, Nat.le_refl _⟩, trivial⟩), .inr (.inl ⟨_, _, rfl, Nat.le_refl _⟩), trivial⟩, rfl, rfl⟩ ?_
    rintro ⟨i, b, c, ys, μ'⟩ ⟨hi, hle, hrows⟩
    dsimp only at hi hle hrows
    have hlen := hrows.len
    simp only [List.length_map, List.length_take] at hlen
    refine ifd (fun h => ?_) (fun h => ?_)
    · obtain ⟨t, ht⟩ := at_some (l := g.goals) (i := i) (by omega)
      obtain ⟨ad, p3, hel, hr⟩ := Gl.elem (hgs1.mono hle) ht
      refine elem_intro hel ?_
      intro r4
      refine call_plain (ih t (mem_at ht) hr (hS.sub t (mem_at ht))) fun v' μ'' hle2 hR => ?_
      obtain ⟨q, rfl⟩ := Gl.invV hR
      intro r5
      refine grow_intro ?_ ?_ fun b' c' _ => ?_
      · show (ys.length + 1) * 72 ≤ _; omega
      · exact Nat.le_trans (m := 100000000) (show ys.length + 1 ≤ _ by omega) (by decide)
      have hsucc : (g.goals.take (i + 1)).map Gl.d = (g.goals.take i).map Gl.d ++ [t.d] := by
        rw [List.take_add_one, ht, Option.toList_some]; simp
      exact num64 (by omega) (by omega) ⟨(i + 1, b', c', _, μ''), ⟨by dsimp only; omega, hle.trans hle2, by rw [hsucc]; exact (hrows.mono hle2).append (Rows.one hR (Gl.d_n _))⟩, by dsimp only; omega, ⟨⟨rfl, rfl, rfl, rfl, rfl, trivial⟩, ⟨rfl, rfl, rfl, trivial⟩, rfl, rfl⟩⟩
    · obtain rfl : i = g.goals.length := by omega
      rw [List.take_length] at hrows
      refine ret_frz [3] fun μ2 hle2 hno hrow => .inl ?_
      rw [Gl.d_eq, hxs]
      exact ⟨_, rfl, RepS.int (RepS.str (RepS.cons1 ((hR1.mono hle).mono hle2) (RepS.last (Rows.sl hrow (hrows.mono hle2) (Nat.le_trans (m := 100000000) (by omega) (by decide))))))⟩
end
end Go.Vx

/- Contracts: rows of a program's relations. -/
namespace Go.Vx
open Go.Proofs Classical
/-- Rows fit a program. -/
structure RowsFit (p : Pg) (rows : List Int) : Prop where
  pos : p.Pos
  cls : ∀ r ∈ p.rels, r.body.cl ≠ none
  len : rows.length = p.rels.length
  rng : ∀ (i : Nat) n r, rows[i]? = some n → p.rels[i]? = some r → 0 ≤ n ∧ n < 2 ^ (2 ^ r.arity.toNat)
section
variable {μ : Mem}
theorem l16Copy_spec {c : List Gl} {base : Option Addr} {cap : Nat} (hsl : Sl μ 4 base c.length (c.map Gl.d)) (hn : c.length ≤ 1000000) (hS : ∀ x ∈ c, x.Sh) :
    Spec Tryz.prog 220 [.slice base c.length cap] μ fun v μ' => RepV μ' (csD c) v := by
  refine Spec.mk Tryz.func220 (by kernel_rfl) ?_
  intro r6
  refine loop_intro (fun p : Nat × Option Nat × Nat × List Value × Mem => p.1 ≤ c.length ∧ μ.Le p.2.2.2.2 ∧ Rows p.2.2.2.2 4 ((c.take p.1).map Gl.d) p.2.2.2.1)
    (fun (i, b, k, ys, μ') => ⟨[(3, .row 0 b ys.length k), (7, .val (.slice base c.length cap)), (8, .val (.int .i64 c.length)), (9, .val (.int .i64 i))], [(0, some (.row b k 55 4 ys))], 1, μ', Mem.nil⟩) (fun p => c.length - p.1)
    (0, some r6, 0, [], μ) ⟨by simp, Mem.Le.refl _, .nil⟩ (fun (_, _, _, _, _) => ⟨rfl, rfl⟩) ⟨⟨rfl, rfl, rfl, rfl, trivial⟩, ⟨rfl, trivial⟩, rfl, rfl⟩ ?_
  rintro ⟨i, b, k, ys, μ'⟩ ⟨hi, hle, hrows⟩
  dsimp only at hi hle hrows
  have hlen := hrows.len
  simp only [List.length_map, List.length_take] at hlen
  refine ifd (fun h => ?_) (fun h => ?_)
  · obtain ⟨x, hx⟩ := at_some (l := c) (i := i) (by omega)
    obtain ⟨ad, p, hel, hr⟩ := Gl.elem (hsl.mono hle) hx
    refine elem_intro hel ?_
    intro r5
    refine call_plain (l13Copy_spec x hr (hS x (mem_at hx))) fun v4 μ4 hle4 hR4 => ?_
    obtain ⟨q, rfl⟩ := Gl.invV hR4
    intro r16
    refine grow_intro ?_ ?_ fun b' c' _ => ?_
    · show (ys.length + 1) * 72 ≤ _; omega
    · exact Nat.le_trans (m := 100000000) (show ys.length + 1 ≤ _ by omega) (by decide)
    refine num64 (by omega) (by omega) ⟨(i + 1, b', c', _, μ4), ⟨by dsimp only; omega, hle.trans hle4, ?_⟩, by dsimp only; omega, ⟨⟨rfl, rfl, rfl, rfl, trivial⟩, ⟨rfl, trivial⟩, rfl, rfl⟩⟩
    dsimp only
    rw [List.take_add_one, hx, Option.toList_some, List.map_append]
    exact (hrows.mono hle4).append (Rows.one hR4 (Gl.d_n _))
  · obtain rfl : i = c.length := by omega
    rw [List.take_length] at hrows
    refine ret_frz [0] fun μ' hle' hno hrow => .inl ?_
    exact Rows.sl hrow (hrows.mono hle') (Nat.le_trans (m := 100000000) (by omega) (by decide))
mutual
theorem Gl.cl_Sh : ∀ (g : Gl) {L : List (List Gl)}, g.Sh → g.cl = some L → ∀ c ∈ L, ∀ x ∈ c, x.Sh
  | .mk k s ts gs, L, hS, h => by
    have hsub : ∀ x ∈ gs, x.Sh := hS.sub
    rw [Gl.cl] at h
    split at h
    · cases h; simp
    split at h
    · cases h; simp
    split at h
    · exact Gl.clOr_Sh gs hsub (by simp) h
    split at h
    · exact Gl.clAnd_Sh gs hsub (by simp) h
    · cases h
      intro c hc x hx
      rw [List.mem_singleton.1 hc] at hx
      rw [List.mem_singleton.1 hx]; exact hS
theorem Gl.clOr_Sh : ∀ (gs : List Gl) {acc L : List (List Gl)}, (∀ x ∈ gs, x.Sh) → (∀ c ∈ acc, ∀ x ∈ c, x.Sh) → Gl.clOr gs acc = some L → ∀ c ∈ L, ∀ x ∈ c, x.Sh
  | [], acc, L, _, h1, h => by
    rw [Gl.clOr] at h; cases h; exact h1
  | g :: gs, acc, L, hS, h1, h => by
    rw [Gl.clOr] at h
    cases e : g.cl with
    | none => rw [e] at h; cases h
    | some l =>
      rw [e, Option.bind_some] at h
      have hb := Gl.cl_Sh g (hS g (by simp)) e
      split at h
      · exact Gl.clOr_Sh gs (acc := acc ++ l) (fun x hx => hS x (by simp [hx])) (fun c hc => by
          rcases List.mem_append.1 hc with hc | hc
          · exact h1 c hc
          · exact hb c hc) h
      · cases h
theorem Gl.clAnd_Sh : ∀ (gs : List Gl) {acc L : List (List Gl)}, (∀ x ∈ gs, x.Sh) → (∀ c ∈ acc, ∀ x ∈ c, x.Sh) → Gl.clAnd gs acc = some L → ∀ c ∈ L, ∀ x ∈ c, x.Sh
  | [], acc, L, _, h1, h => by
    rw [Gl.clAnd] at h; cases h; exact h1
  | g :: gs, acc, L, hS, h1, h => by
    rw [Gl.clAnd] at h
    cases e : g.cl with
    | none => rw [e] at h; cases h
    | some l =>
      rw [e, Option.bind_some] at h
      have hb := Gl.cl_Sh g (hS g (by simp)) e
      split at h
      · exact Gl.clAnd_Sh gs (acc := prodC acc l) (fun x hx => hS x (by simp [hx])) (fun c hc => by
          obtain ⟨u, hu, w, hw, rfl⟩ := prodC_mem hc
          intro x hx
          rcases List.mem_append.1 hx with hx | hx
          · exact h1 u hu x hx
          · exact hb w hw x hx) h
      · cases h
end
theorem ClausesOf_spec {g : Gl} {v : Value} (hv : RepV μ g.d v) (hw : g.d.wd) (hok : g.Ok) : Spec Tryz.prog 138 [v] μ fun v μ' => optC (Cls μ') g.cl v := by
  have hv0 := hv
  obtain ⟨p, rfl, -, -⟩ := Gl.inv hv
  refine Spec.mk Tryz.func138 (by kernel_rfl) ?_
  intro r1
  refine call_gives (spec_GoalOk_spec g hv0 hw) ?_
  refine ifnd (fun h => absurd hok h) (fun _ => ?_)
  refine call_plain (l16Clauses_spec g hv0 hok.1 hok.2) fun v1 μ1 hle1 hR => ?_
  obtain ⟨L, hL⟩ := hR
  obtain ⟨pv, rfl⟩ := hL.rep.inv
  have hcl := hL.cl
  refine ifd (fun h64 => ?_) (fun h64 => ?_)
  · rw [if_neg (by omega)] at hcl
    exact ret_plain (by rw [hcl]; rfl)
  rw [if_pos (by omega)] at hcl
  rw [hcl]
  have hSh := Gl.cl_Sh g hok.1 hcl
  have hbd := Gl.cl_bnd g hcl
  have h80 := hok.2
  have hsl := (Cls.sl hL.rep).1
  intro r16
  refine loop_intro (fun p : Nat × Option Nat × Nat × List Value × Mem => p.1 ≤ L.length ∧ μ1.Le p.2.2.2.2 ∧ Rows p.2.2.2.2 1 ((L.take p.1).map csD) p.2.2.2.1)
    (fun (i, b, k, ys, μ') => ⟨[(5, .row 1 b ys.length k), (17, .val (.slice pv.1 L.length pv.2)), (18, .val (.int .i64 L.length)), (19, .val (.int .i64 i))], [(1, some (.row b k 53 1 ys))], 2, μ', Mem.nil⟩) (fun p => L.length - p.1)
    (0, some r16, 0, [], μ1) ⟨by simp, Mem.Le.refl _, .nil⟩ (fun (_, _, _, _, _) => ⟨rfl, rfl⟩) ⟨⟨rfl, rfl, rfl, rfl, trivial⟩, ⟨rfl, trivial⟩, rfl, rfl⟩ ?_
  rintro ⟨i, b, k, ys, μ'⟩ ⟨hi, hle, hrows⟩
  dsimp only at hi hle hrows
  have hlen := hrows.len
  simp only [List.length_map, List.length_take] at hlen
  refine ifd (fun h => ?_) (fun h => ?_)
  · obtain ⟨c, hc⟩ := at_some (l := L) (i := i) (by omega)
    obtain ⟨ad, pc, hel, hrc⟩ := cls_elem (hsl.mono hle) hc
    have hcl2 := hbd.1 c (mem_at hc)
    have hcs : Sl μ' 4 pc.1 c.length (c.map Gl.d) := by
      obtain ⟨b', c', e1, hs⟩ := Rep.sl (xs := c.map Gl.d) hrc
      obtain ⟨rfl, _, _⟩ := Value.slice.inj e1
      simpa using hs
    refine elem_intro hel ?_
    refine call_plain (l16Copy_spec hcs (by omega) (hSh c (mem_at hc))) fun v4 μ4 hle4 hR4 => ?_
    obtain ⟨q, rfl⟩ := csD_inv hR4
    intro r26
    refine grow_intro ?_ ?_ fun b' c' _ => ?_
    · show (ys.length + 1) * 24 ≤ _; omega
    · exact Nat.le_trans (m := 100000000) (show ys.length + 1 ≤ _ by omega) (by decide)
    refine num64 (by omega) (by omega) ⟨(i + 1, b', c', _, μ4), ⟨by dsimp only; omega, hle.trans hle4, ?_⟩, by dsimp only; omega, ⟨⟨rfl, rfl, rfl, rfl, trivial⟩, ⟨rfl, trivial⟩, rfl, rfl⟩⟩
    dsimp only
    rw [List.take_add_one, hc, Option.toList_some, List.map_append]
    exact (hrows.mono hle4).append (Rows.one hR4 rfl)
  · obtain rfl : i = L.length := by omega
    rw [List.take_length] at hrows
    refine ret_frz [1] fun μ' hle' hno hrow => .inl ⟨_, rfl, ?_⟩
    exact Rows.sl hrow (hrows.mono hle') (Nat.le_trans (m := 100000000) (by omega) (by decide))
theorem shift16 {a : Int} (h0 : 0 ≤ a) (h4 : a ≤ 4) : IntKind.u64.wrap (1 * 2 ^ (min a.toNat 64)) = ((2 ^ a.toNat : Nat) : Int) ∧ IntKind.i64.wrap (1 * 2 ^ (min ((2 ^ a.toNat : Nat) : Int).toNat 64)) = 2 ^ (2 ^ a.toNat) ∧ (2 : Int) ^ (2 ^ a.toNat) ≤ 65536 ∧ 2 ≤ (2 : Int) ^ (2 ^ a.toNat) := by
  obtain ⟨n, rfl⟩ := Int.eq_ofNat_of_zero_le h0
  match n, h4 with
  | 0, _ => decide
  | 1, _ => decide
  | 2, _ => decide
  | 3, _ => decide
  | 4, _ => decide
  | n + 5, h => omega
end
end Go.Vx

/- Contracts: rows of a program's relations: both sides. -/
namespace Go.Vx
open Go.Proofs Classical
section
variable {μ : Mem}
theorem spec_RowsOk_spec {p : Pg} {v : Value} {rows : List Int} {base : Option Addr} {cap : Nat} (hp : RepV μ p.d v) (hw : p.d.wd) (hsl : Sl μ 1 base rows.length (rows.map D.i)) :
    Spec Tryz.prog 131 [v, .slice base rows.length cap] μ fun r _ => r = .bool (decide (RowsFit p rows)) := by
  have hp0 := hp
  obtain ⟨q, rfl, hrl⟩ := Pg.inv hp
  refine Spec.mk Tryz.func131 (by kernel_rfl) ?_
  intro r1
  refine call_plain (spec_IsPositive_spec hp0 hw) fun v1 μ1 hle1 hR => ?_
  obtain rfl := hR
  refine ifnd (fun h => ret_plain (isF fun k => h k.pos)) (fun hpos => ?_)
  have hok := hpos.1
  have hn := hok.1
  refine ifnd (fun h => ret_plain (isF fun k => h (by have := k.len; omega))) (fun hlen => ?_)
  have hw2 : D.wds (p.rels.map Rl.d) := by rw [Pg.d_eq] at hw; exact hw.1
  refine loop_intro (fun s : Nat × Mem => s.1 ≤ p.rels.length ∧ μ.Le s.2 ∧ ∀ (j : Nat) n x, j < s.1 → rows[j]? = some n → p.rels[j]? = some x → x.body.cl ≠ none ∧ 0 ≤ n ∧ n < 2 ^ (2 ^ x.arity.toNat))
    (fun (i, μ') => ⟨[(1, .val (.slice base rows.length cap)), (21, .val (.slice q.1 p.rels.length q.2)), (22, .val (.int .i64 p.rels.length)), (23, .val (.int .i64 i))], [], 1, μ', Mem.nil⟩) (fun s => p.rels.length - s.1)
    (0, μ1) ⟨Nat.zero_le _, hle1, fun j n x h => by dsimp only at h; omega⟩ (fun (_, _) => ⟨rfl, rfl⟩) ⟨⟨rfl, rfl, rfl, rfl, trivial⟩, trivial, rfl, rfl⟩ ?_
  rintro ⟨i, μ'⟩ ⟨hi, hle, hall⟩
  dsimp only at hi hle hall
  refine ifd (fun hlt => ?_) (fun hlt => ?_)
  · obtain ⟨x, hx⟩ := at_some (l := p.rels) (i := i) (by omega)
    obtain ⟨nn, hnn⟩ := at_some (l := rows) (i := i) (by omega)
    obtain ⟨ad, q2, hel, hr, hb⟩ := Rl.elemA (hrl.mono hle) hx
    have hb : RepV μ' x.body.d (.agg (x.body.cs q2).toArray) := hb
    have hrok := hok.2 i x hx
    obtain ⟨hsh1, hsh2, hsh3, hsh4⟩ := shift16 hrok.ar0 hrok.ar4
    have hbw : x.body.d.wd := by
      have h := D.wds_mem hw2 _ (mem_at (at_map (f := Rl.d) hx))
      rw [Rl.d_eq] at h; exact h.2.2.2.1
    refine elem_intro hel ?_
    intro r2
    refine call_plain (ClausesOf_spec hb hbw ⟨hrok.body, by have := hrok.size; omega⟩) fun v3 μ3 hle3 hR => ?_
    cases e : x.body.cl with
    | none =>
      rw [e] at hR
      obtain rfl := hR
      refine if_intro (fun _ => ?_) (fun h => nomatch h)
      exact ret_plain (isF fun k => k.cls x (mem_at hx) e)
    | some L =>
      rw [e] at hR
      obtain ⟨tv, rfl, hLr⟩ := hR
      obtain ⟨pv, rfl⟩ := hLr.inv
      refine if_intro (fun h => nomatch h) (fun _ => ?_)
      obtain ⟨ad2, hel2⟩ := Ints.elem ((hsl.mono hle).mono hle3) hnn
      refine elem_intro hel2 ?_
      refine need_intro hrok.ar0 ?_
      refine num_eq hsh1 ?_
      refine need_intro (Int.natCast_nonneg _) ?_
      refine num_eq hsh2 ?_
      refine num64 (by omega) (by omega) ?_
      refine call_gives (l01In_spec _ _ _ _) ?_
      refine ifnd (fun h => ret_plain (isF fun k => h (by have := k.rng i nn x hnn hx; omega))) (fun h => ?_)
      refine num64 (by omega) (by omega) ⟨(i + 1, μ3), ⟨by dsimp only; omega, hle.trans hle3, fun j n y hj hn2 hy => ?_⟩, by dsimp only; omega, ⟨⟨rfl, rfl, rfl, rfl, trivial⟩, trivial, rfl, rfl⟩⟩
      rcases Nat.lt_or_ge j i with h6 | h6
      · exact hall j n y h6 hn2 hy
      · obtain rfl : j = i := by omega
        rw [hx] at hy; rw [hnn] at hn2; cases hy; cases hn2
        exact ⟨by rw [e]; exact (fun h => nomatch h), h.1, by omega⟩
  · obtain rfl : i = p.rels.length := by omega
    refine ret_plain (isT ⟨hpos, fun x hx => ?_, by omega, fun i n x hn2 hx => (hall i n x (List.getElem?_eq_some_iff.1 hx).1 hn2 hx).2⟩)
    obtain ⟨j, hj⟩ := List.mem_iff_getElem?.1 hx
    have hj2 := (List.getElem?_eq_some_iff.1 hj).1
    obtain ⟨n, hn2⟩ := at_some (l := rows) (i := j) (by omega)
    exact (hall j n x hj2 hn2 hj).1
theorem impl_RowsOk_spec {p : Pg} {v : Value} {rows : List Int} {base : Option Addr} {cap : Nat} (hp : RepV μ p.d v) (hsl : Sl μ 1 base rows.length (rows.map D.i)) :
    Spec Tryz.prog 133 [v, .slice base rows.length cap] μ fun r _ => r = .bool (decide (RowsFit p rows)) := by
  have hp0 := hp
  obtain ⟨q, rfl, hrl⟩ := Pg.inv hp
  refine Spec.mk Tryz.func133 (by kernel_rfl) ?_
  intro r1
  refine call_plain (impl_IsPositive_spec hp0) fun v1 μ1 hle1 hR => ?_
  obtain rfl := hR
  refine ifnd (fun h => ret_plain (isF fun k => h k.pos)) (fun hpos => ?_)
  have hok := hpos.1
  have hn := hok.1
  refine call_plain (clausesFine_spec (hp0.mono hle1) hok) fun v2 μ2 hle2 hR => ?_
  obtain rfl := hR
  refine ifnd (fun h => ret_plain (isF fun k => h k.cls)) (fun hcls => ?_)
  refine ifnd (fun h => ret_plain (isF fun k => h (by have := k.len; omega))) (fun hlen => ?_)
  have hle := hle1.trans hle2
  generalize μ2 = μ' at *
  refine loop_intro (fun i : Nat => i ≤ p.rels.length ∧ ∀ (j : Nat) n x, j < i → rows[j]? = some n → p.rels[j]? = some x → 0 ≤ n ∧ n < 2 ^ (2 ^ x.arity.toNat))
    (fun i => ⟨[(1, .val (.slice base rows.length cap)), (24, .val (.slice q.1 p.rels.length q.2)), (25, .val (.int .i64 p.rels.length)), (26, .val (.int .i64 i))], [], 1, μ', Mem.nil⟩) (fun i => p.rels.length - i)
    0 ⟨Nat.zero_le _, fun j n x h => by omega⟩ (fun _ => ⟨rfl, rfl⟩) ⟨⟨rfl, rfl, rfl, rfl, trivial⟩, trivial, rfl, rfl⟩ ?_
  rintro i ⟨hi, hall⟩
  refine ifd (fun hlt => ?_) (fun hlt => ?_)
  · obtain ⟨x, hx⟩ := at_some (l := p.rels) (i := i) (by omega)
    obtain ⟨nn, hnn⟩ := at_some (l := rows) (i := i) (by omega)
    obtain ⟨ad, q2, hel, hr, hb⟩ := Rl.elemA (hrl.mono hle) hx
    have hb : RepV μ' x.body.d (.agg (x.body.cs q2).toArray) := hb
    have hrok := hok.2 i x hx
    obtain ⟨hsh1, hsh2, hsh3, hsh4⟩ := shift16 hrok.ar0 hrok.ar4
    obtain ⟨ad2, hel2⟩ := Ints.elem (hsl.mono hle) hnn
    refine elem_intro hel ?_
    intro r2
    refine elem_intro hel2 ?_
    refine ifd (fun h => ret_plain (isF fun k => by have := k.rng i nn x hnn hx; omega)) (fun h => ?_)
    refine elem_intro hel2 ?_
    refine need_intro hrok.ar0 ?_
    refine num_eq hsh1 ?_
    refine need_intro (Int.natCast_nonneg _) ?_
    refine num_eq hsh2 ?_
    refine ifd (fun h2 => ret_plain (isF fun k => by have := k.rng i nn x hnn hx; omega)) (fun h2 => ?_)
    refine num64 (by omega) (by omega) ⟨i + 1, ⟨by omega, fun j n y hj hn2 hy => ?_⟩, by omega, ⟨⟨rfl, rfl, rfl, rfl, trivial⟩, trivial, rfl, rfl⟩⟩
    rcases Nat.lt_or_ge j i with h6 | h6
    · exact hall j n y h6 hn2 hy
    · obtain rfl : j = i := by omega
      rw [hx] at hy; rw [hnn] at hn2; cases hy; cases hn2
      exact ⟨by omega, by omega⟩
  · obtain rfl : i = p.rels.length := by omega
    exact ret_plain (isT ⟨hpos, hcls, by omega, fun i n x hn2 hx => hall i n x (List.getElem?_eq_some_iff.1 hx).1 hn2 hx⟩)
/-! ### The law's own functions on lists of numbers -/
theorem eqIntS_spec {l : List Int} {base base' : Option Addr} {cap cap' : Nat} (hl : Sl μ 1 base l.length (l.map D.i)) (hl' : Sl μ 1 base' l.length (l.map D.i)) :
    Gives Tryz.prog 48 [.slice base l.length cap, .slice base' l.length cap'] μ (.bool true) := by
  have hn := maxLen_le hl.max
  refine Spec.mk Tryz.func48 (by kernel_rfl) ?_
  refine ifnd (fun h => absurd rfl h) (fun _ => ?_)
  refine loop_intro (fun i : Nat => i ≤ l.length) (fun i => ⟨[(0, .val (.slice base l.length cap)), (1, .val (.slice base' l.length cap')), (5, .val (.int .i64 i))], [], 0, μ, Mem.nil⟩) (fun i => l.length - i)
    0 (by omega) (fun i => ⟨rfl, rfl⟩) ⟨⟨rfl, rfl, rfl, trivial⟩, trivial, rfl, rfl⟩ ?_
  intro i hi
  refine ifd (fun h => ?_) (fun h => ?_)
  · obtain ⟨t, ht⟩ := at_some (l := l) (i := i) (by omega)
    obtain ⟨ad, hel⟩ := Ints.elem hl ht
    obtain ⟨ad', hel'⟩ := Ints.elem hl' ht
    refine elem_intro hel (elem_intro hel' ?_)
    refine ifnd (fun h => absurd rfl h) (fun _ => ?_)
    exact num64 (by omega) (by omega) ⟨i + 1, by omega, by omega, ⟨⟨rfl, rfl, rfl, trivial⟩, trivial, rfl, rfl⟩⟩
  · exact ret_gives rfl rfl
theorem toIntS_spec {l : List Int} {base : Option Addr} {cap : Nat} (hsl : Sl μ 1 base l.length (l.map D.i)) (hb : l.length ≤ 1048576) :
    Spec Tryz.prog 46 [.slice base l.length cap] μ fun v μ' => Fresh μ μ' (.sl 1 (l.map D.i)) v := by
  refine Spec.mk Tryz.func46 (by kernel_rfl) ?_
  refine make_intro l.length rfl rfl (by simp only; omega) (Nat.le_trans (m := 1048576) (by omega) (by decide)) ?_
  intro r
  refine loop_intro (fun p : Nat × List Value => ∃ g, Filled 1 (Value.int .i64 0) μ μ (l.map D.i) p.1 p.2 g)
    (fun (i, xs) => ⟨[(0, .val (.slice base l.length cap)), (3, .row 0 (some r) l.length l.length), (4, .val (.int .i64 i))], [(0, some (.row (some r) l.length 3 1 xs))], 1, μ, Mem.nil⟩) (fun p => l.length - p.1)
    (0, List.replicate l.length (Value.int .i64 0)) ⟨_, Filled.start (by simp)⟩ (fun (_, _) => ⟨rfl, rfl⟩) ⟨⟨rfl, rfl, rfl, trivial⟩, ⟨rfl, trivial⟩, rfl, rfl⟩ ?_
  rintro ⟨i, xs⟩ ⟨g, hf⟩
  dsimp only at hf
  have hi := hf.le
  have hlen := hf.len
  rw [List.length_map] at hi hlen
  refine ifd (fun h => ?_) (fun h => ?_)
  · obtain ⟨t, ht⟩ := at_some (l := l) (i := i) (by omega)
    have hx := at_map (f := D.i) ht
    obtain ⟨ad, hel⟩ := Ints.elem hsl ht
    refine elem_intro hel ?_
    have hfr : Fresh μ μ (.i t) (.int .i64 t) := ⟨Mem.nil, ⟨rfl, rfl⟩, (fun _ _ h => nomatch h), fun _ h => absurd rfl h⟩
    obtain ⟨g', hf'⟩ := hf.step hx rfl hfr (Mem.Le.refl _)
    refine rel_intro i rfl (by omega) ?_
    refine get_intro _ (hf.rest i (by omega) (by simpa using h)) ?_
    exact num64 (by omega) (by omega) ⟨(i + 1, _), ⟨g', hf'⟩, by dsimp only; omega, ⟨⟨rfl, rfl, rfl, trivial⟩, ⟨rfl, trivial⟩, rfl, rfl⟩⟩
  · obtain rfl : i = l.length := by omega
    refine ret_frz [0] fun μ2 hle2 hno hrow => .inl ?_
    have := Fresh.ofRow (hf.all (by simp)) hf.sub hf.new (Mem.Le.refl _) hle2 hno hrow (Nat.le_trans (m := 1048576) (by omega) (by decide))
    rw [hlen] at this
    exact this
end
end Go.Vx

/- Contracts: reified terms, both sides. -/
namespace Go.Vx
open Go.Proofs Classical
/-! ### Plain -/
noncomputable def fits (bs : List B) (x : T) : Option T := fit (x.subst (sub bs))
theorem tms_cnt : ∀ l : List Tm, D.cnts (l.map Tm.d) ≤ 3 * l.length + 3 * D.szs (l.map Tm.d)
  | [] => by simp [D.cnts, D.szs]
  | t :: l => by
    have h1 := tms_cnt l
    have h2 := tm_cnt_sz t
    simp only [List.map_cons, D.cnts, D.szs, List.length_cons]; omega
section
variable {μ : Mem}
end
end Go.Vx

/- Contracts: the laws' own functions on lists of numbers and programs: marks. -/
namespace Go.Vx
open Go.Proofs Classical
theorem ints_cnt : ∀ l : List Int, D.cnts (l.map D.i) = l.length
  | [] => rfl
  | k :: l => by
    have ih := ints_cnt l
    simp only [List.map_cons, D.cnts, D.cnt, List.length_cons]
    omega
theorem gl_cnt_sz3 : ∀ g : Gl, g.d.cnt ≤ 3 + 3 * g.d.sz :=
  Gl.ind fun g ih => by
    have h1 := tms_cnt g.terms
    have h2 : D.cnts (g.goals.map Gl.d) ≤ 3 * g.goals.length + 3 * D.szs (g.goals.map Gl.d) := by
      generalize g.goals = l at ih
      induction l with
      | nil => simp [D.cnts, D.szs]
      | cons t l ih2 =>
        have h1 := ih t (by simp)
        have h2 := ih2 fun t ht => ih t (by simp [ht])
        simp only [List.map_cons, D.cnts, D.szs, List.length_cons]; omega
    rw [Gl.cnt_eq, Gl.sz_eq]; omega
theorem rls_cnt : ∀ l : List Rl, D.cnts (l.map Rl.d) ≤ 10 * l.length + 3 * D.szs (l.map Rl.d)
  | [] => by simp [D.cnts, D.szs]
  | x :: l => by
    have h1 := rls_cnt l
    have h2 := gl_cnt_sz3 x.body
    have h3 := Rl.sz_eq x
    rw [Gl.cnt_eq] at h2
    simp only [List.map_cons, D.cnts, D.szs, List.length_cons]
    rw [Rl.cnt_eq, Rl.sz_eq]; omega
theorem pg_cnt_sz (p : Pg) : p.d.cnt ≤ 10 * p.d.sz := by
  have h1 := rls_cnt p.rels
  rw [Pg.cnt_eq, Pg.sz_eq]; omega
theorem pg_mt (p : Pg) (k : Int) : (p.d.mt k).2 = k + D.cnts (p.rels.map Rl.d) := by
  rw [Pg.mt_eq]
  exact D.mks_cnt (p.rels.map Rl.d) k
theorem Ints.own1 {n : Int} {g : Mem} {c : List Value} (h : Own (.i n) g c) : c = [.int .i64 n] ∧ g = Mem.nil := h
section
variable {μ : Mem}
set_option maxHeartbeats 1000000 in
theorem markIntS_spec {l : List Int} {h : Mem} {v : Value} {k : Int} (ho : OwnV (.sl 1 (l.map D.i)) h v) (hk : 0 ≤ k) (hk2 : k + D.cnts (l.map D.i) ≤ 9223372036854775807) :
    SpecH Tryz.prog 49 [v, .int .i64 k] μ h fun r μ' h' => r = .int .i64 (D.mks (l.map D.i) k).2 ∧ μ' = μ ∧ OwnV (.sl 1 (D.mks (l.map D.i) k).1) h' v := by
  obtain ⟨base, cap, e, hm, hn, ho⟩ := ho
  simp only [List.cons.injEq, and_true] at e
  subst e
  have hm' : (l.map D.i).length ≤ 9223372036854775807 := Nat.le_trans hm.max (by decide)
  refine SpecH.mk [] Tryz.func49 (by kernel_rfl) ?_
  rcases ho with ⟨hnil, rfl⟩ | ⟨r, flat, rest, ty, h2, rfl, hr, rfl, ho⟩
  · rw [hnil]
    refine loop_intro (fun i : Nat => i = 0) (fun i => ⟨[(0, .val (.slice base 0 cap)), (1, .val (.int .i64 k)), (5, .val (.int .i64 i))], [], 0, μ, Mem.nil⟩) (fun i => 0 - i)
      0 rfl (fun i => ⟨rfl, rfl⟩) ⟨⟨rfl, rfl, rfl, trivial⟩, trivial, rfl, rfl⟩ ?_
    rintro i rfl
    refine ifd (fun h => by omega) (fun h => ret_plain ⟨rfl, rfl, base, cap, rfl, ⟨Nat.zero_le _, Nat.zero_le _⟩, by simp [D.mks], .inl ⟨rfl, rfl⟩⟩)
  · generalize hxs : l.map D.i = xs at *
    refine loop_intro (fun p : Nat × List Value × List Value × Mem => Marking xs k rest r p.1 p.2.1 p.2.2.1 p.2.2.2)
      (fun (i, pre, tail, hh) => ⟨[(0, .val (.slice (some ⟨r, 0, none⟩) xs.length cap)), (1, .val (.int .i64 (D.mks (xs.take i) k).2)), (5, .val (.int .i64 i))], [], 0, μ, hh.set r (.cells (List.toArray (pre ++ tail)) ty (0, 0))⟩) (fun p => xs.length - p.1)
      (0, [], flat ++ rest, h2) (Marking.start hr ho) (fun (_, _, _, _) => ⟨rfl, rfl⟩) ⟨⟨rfl, rfl, rfl, trivial⟩, trivial, rfl, rfl⟩ ?_
    rintro ⟨i, pre, tail, hh⟩ M
    dsimp only at M
    have hi := M.le
    have hge := D.mks_cnt (xs.take i) k
    refine ifd (fun h => ?_) (fun h => ?_)
    · obtain ⟨x, ht⟩ := at_some (l := l) (i := i) (by rw [← hxs] at h; simp at h; omega)
      have hx : xs[i]? = some (.i x) := by rw [← hxs]; simp [ht]
      obtain ⟨c, g, m, c2, rfl, hown, hp, hmr, back⟩ := M.next hx
      obtain ⟨rfl, rfl⟩ := Ints.own1 hown
      have hlen := M.len hn
      have hcnt := Marking.cnt (k := k) hx
      rw [show (D.i x).cnt = 1 from rfl] at hcnt
      generalize hk0 : (D.mks (xs.take i) k).2 = k0 at *
      refine ptr_intro ⟨r, 0, none⟩ rfl (by omega) (by omega) ?_
      refine sto_at (j := 0) (by simp [Addr.add_lit', hlen]) (by simp) ?_
      obtain rfl := hp.eq (Parts.nil_left _)
      have hmk := D.mks_take hx k
      have hmk2 : (D.i x).mk k0 = (.i k0, k0 + 1) := rfl
      rw [hk0] at hmk
      refine num64 (by omega) (by omega) ?_
      refine num64 (by omega) (by omega) ⟨(i + 1, pre ++ [.int .i64 k0], c2 ++ rest, Mem.join Mem.nil hh), back _ _ (Apart.nil_left _) rfl ?_, by dsimp only; omega, ⟨⟨rfl, ?_, rfl, trivial⟩, trivial, rfl, ?_⟩⟩
      · rw [hmk2]
        exact ⟨rfl, rfl⟩
      · rw [hmk, hmk2]
        rfl
      · simp [Mem.nil_join]
    · have hi' : i = xs.length := by omega
      subst hi'
      obtain ⟨rfl, o1⟩ := M.last
      refine ret_plain ⟨by rw [List.take_length], rfl, some ⟨r, 0, none⟩, cap, by rw [D.mks_length], by rw [D.mks_length]; exact hm, D.mks_size k hn, .inr ⟨r, pre, tail, ty, hh, rfl, M.out, rfl, o1⟩⟩
set_option maxHeartbeats 1000000 in
theorem heldIntS_spec {l : List Int} {v : Value} {k : Int} (ho : RepV μ (.sl 1 (D.mks (l.map D.i) k).1) v) (hk : 0 ≤ k) (hk2 : k + D.cnts (l.map D.i) ≤ 9223372036854775807) :
    Gives Tryz.prog 50 [v, .int .i64 k] μ (.int .i64 (D.mks (l.map D.i) k).2) := by
  obtain ⟨base, cap, rfl, hsl⟩ := Rep.sl ho
  have hm' := Nat.le_trans hsl.max (show maxLen ≤ 9223372036854775807 by decide)
  rw [D.mks_length] at hm' hsl ⊢
  refine Spec.mk Tryz.func50 (by kernel_rfl) ?_
  generalize hxs : l.map D.i = xs at *
  refine loop_intro (fun i : Nat => i ≤ xs.length) (fun i => ⟨[(0, .val (.slice base xs.length cap)), (1, .val (.int .i64 (D.mks (xs.take i) k).2)), (5, .val (.int .i64 i))], [], 0, μ, Mem.nil⟩) (fun i => xs.length - i)
    0 (by simp) (fun i => ⟨rfl, rfl⟩) ⟨⟨rfl, rfl, rfl, trivial⟩, trivial, rfl, rfl⟩ ?_
  intro i hi
  have hge := D.mks_cnt (xs.take i) k
  refine ifd (fun h => ?_) (fun h => ?_)
  · obtain ⟨x, ht⟩ := at_some (l := l) (i := i) (by rw [← hxs] at h; simp at h; omega)
    have hx : xs[i]? = some (.i x) := by rw [← hxs]; simp [ht]
    have hcnt := Marking.cnt (k := k) hx
    rw [show (D.i x).cnt = 1 from rfl] at hcnt
    obtain ⟨ad, cs, hel, hcs⟩ := hsl.get i _ (D.mks_get hx k)
    have hmk := D.mks_take hx k
    generalize hk0 : (D.mks (xs.take i) k).2 = k0 at *
    have hmk2 : (D.i x).mk k0 = (.i k0, k0 + 1) := rfl
    rw [hmk2] at hcs
    have hcs : cs = [.int .i64 k0] := hcs
    subst hcs
    refine elem_intro hel ?_
    refine ifnd (fun h => absurd rfl h) fun _ => ?_
    refine num64 (by omega) (by omega) ?_
    exact num64 (by omega) (by omega) ⟨i + 1, by omega, by omega, ⟨⟨rfl, by rw [hmk, hmk2]; rfl, rfl, trivial⟩, trivial, rfl, rfl⟩⟩
  · have hi' : i = xs.length := by omega
    subst hi'
    rw [List.take_length]
    exact ret_gives rfl rfl
end
end Go.Vx

/- Plain: groundness: rows as sets of bits; one step; the rows in the end. -/
namespace Go.Vx
open Go.Proofs Classical
/-! ### Numbers with given bits -/
noncomputable def numTo (P : Nat → Prop) : Nat → Nat
  | 0 => 0
  | n + 1 => numTo P n + if P n then 2 ^ n else 0
theorem numTo_succ (P : Nat → Prop) (n : Nat) : numTo P (n + 1) = numTo P n + if P n then 2 ^ n else 0 := rfl
theorem numTo_lt (P : Nat → Prop) : ∀ n, numTo P n < 2 ^ n
  | 0 => by simp [numTo]
  | n + 1 => by
    have h := numTo_lt P n
    have e : 2 ^ (n + 1) = 2 ^ n + 2 ^ n := by rw [Nat.pow_succ]; omega
    rw [numTo, e]
    split <;> omega
theorem numTo_bit (P : Nat → Prop) : ∀ n k, (numTo P n).testBit k = decide (k < n ∧ P k)
  | 0, k => by simp [numTo]
  | n + 1, k => by
    have ih := numTo_bit P n k
    have hlt := numTo_lt P n
    rw [numTo]
    split
    · rename_i h
      rw [Nat.add_comm]
      rcases Nat.lt_trichotomy k n with h1 | h1 | h1
      · rw [Nat.testBit_two_pow_add_gt h1, ih]
        congr 1
        exact propext ⟨fun k => ⟨by omega, k.2⟩, fun k => ⟨h1, k.2⟩⟩
      · subst h1
        rw [Nat.testBit_two_pow_add_eq, ih]
        simp [h]
      · rw [Nat.testBit_lt_two_pow]
        · simp; omega
        · have : 2 ^ (n + 1) ≤ 2 ^ k := Nat.pow_le_pow_right (by omega) h1
          rw [Nat.pow_succ] at this; omega
    · rename_i h
      rw [Nat.add_zero, ih]
      congr 1
      refine propext ⟨fun g => ⟨by omega, g.2⟩, fun g => ⟨?_, g.2⟩⟩
      have : k ≠ n := fun e => by subst e; exact h g.2
      omega
theorem eq_numTo {P : Nat → Prop} {n m : Nat} (hm : m < 2 ^ n) (h : ∀ k, k < n → (m.testBit k = true ↔ P k)) : m = numTo P n := by
  refine Nat.eq_of_testBit_eq fun k => ?_
  rw [numTo_bit]
  by_cases hk : k < n
  · rw [Bool.eq_iff_iff, h k hk, decide_eq_true_eq]; simp [hk]
  · have : 2 ^ n ≤ 2 ^ k := Nat.pow_le_pow_right (by omega) (by omega)
    rw [Nat.testBit_lt_two_pow (by omega)]
    simp [hk]
/-! ### Groundness -/
/-- Every variable of a term is in the set. -/
def gndBy (s : Nat) (x : T) : Prop := ∀ n ∈ x.vars, s.testBit n.toNat = true
def fitEq (s : Nat) : T → T → Prop
  | .pair a b, .pair c d => fitEq s a c ∧ fitEq s b d
  | x, y => if x.tm.kind = 1 ∨ y.tm.kind = 1 then (gndBy s x ↔ gndBy s y) else x = y
noncomputable def callRow (s : Nat) (l : List T) : Nat → Nat := numTo fun i => ∃ x, l[i]? = some x ∧ gndBy s x
/-- A set fits a goal of a clause. -/
noncomputable def fitG (p : Pg) (rows : List Nat) (s : Nat) (g : Gl) : Prop :=
  if g.kind = 2 then ∃ x y, g.terms = [x, y] ∧ fitEq s x.toT y.toT
  else if g.kind = 9 then ∃ n, rows[(relAt p g.name).toNat]? = some n ∧ n.testBit (callRow s (g.terms.map Tm.toT) g.terms.length) = true
  else True
/-- A row of a relation that one step finds. -/
def rowHit (p : Pg) (rows : List Nat) (r : Rl) (k : Nat) : Prop :=
  ∃ s L c, s < 2 ^ (r.arity + r.locals).toNat ∧ s % 2 ^ r.arity.toNat = k ∧ r.body.cl = some L ∧ c ∈ L ∧ ∀ g ∈ c, fitG p rows s g
noncomputable def stepN (p : Pg) (rows : List Nat) : List Nat := p.rels.map fun r => numTo (rowHit p rows r) (2 ^ r.arity.toNat)
/-- Rows within rows. -/
def RowsLe (a b : List Nat) : Prop := a.length = b.length ∧ ∀ (i : Nat) x y, a[i]? = some x → b[i]? = some y → ∀ k, x.testBit k = true → y.testBit k = true
theorem fitG_mono {p : Pg} {a b : List Nat} (h : RowsLe a b) {s : Nat} {g : Gl} (hf : fitG p a s g) : fitG p b s g := by
  unfold fitG at hf ⊢
  split
  · rename_i h2; rwa [if_pos h2] at hf
  · rename_i h2
    rw [if_neg h2] at hf
    split
    · rename_i h9
      rw [if_pos h9] at hf
      obtain ⟨n, hn, hb⟩ := hf
      have hl := (List.getElem?_eq_some_iff.1 hn).1
      obtain ⟨m, hm⟩ := at_some (l := b) (i := (relAt p g.name).toNat) (by have := h.1; omega)
      exact ⟨m, hm, h.2 _ n m hn hm _ hb⟩
    · trivial
theorem stepN_mono {p : Pg} {a b : List Nat} (h : RowsLe a b) : RowsLe (stepN p a) (stepN p b) := by
  refine ⟨by simp [stepN], fun i x y hx hy k hk => ?_⟩
  simp only [stepN, List.getElem?_map] at hx hy
  obtain ⟨r, hr, rfl⟩ := Option.map_eq_some_iff.1 hx
  rw [hr] at hy
  cases hy
  rw [numTo_bit, decide_eq_true_eq] at hk ⊢
  refine ⟨hk.1, ?_⟩
  obtain ⟨s, L, c, h1, h2, h3, h4, h5⟩ := hk.2
  exact ⟨s, L, c, h1, h2, h3, h4, fun g hg => fitG_mono h (h5 g hg)⟩
noncomputable def stepsN (p : Pg) : Nat → List Nat
  | 0 => p.rels.map fun _ => 0
  | n + 1 => stepN p (stepsN p n)
theorem stepsN_len (p : Pg) : ∀ n, (stepsN p n).length = p.rels.length
  | 0 => by simp [stepsN]
  | n + 1 => by simp [stepsN, stepN]
theorem stepsN_le (p : Pg) : ∀ n, RowsLe (stepsN p n) (stepsN p (n + 1))
  | 0 => ⟨by simp [stepsN, stepN], fun i x y hx hy k hk => by
      simp only [stepsN, List.getElem?_map] at hx
      obtain ⟨r, _, rfl⟩ := Option.map_eq_some_iff.1 hx
      simp at hk⟩
  | n + 1 => stepN_mono (stepsN_le p n)
theorem stepsN_lt {p : Pg} (h4 : ∀ r ∈ p.rels, r.arity.toNat ≤ 4) : ∀ n, ∀ x ∈ stepsN p n, x < 65536
  | 0, x, hx => by
    simp only [stepsN, List.mem_map] at hx
    obtain ⟨_, _, rfl⟩ := hx
    omega
  | n + 1, x, hx => by
    simp only [stepsN, stepN, List.mem_map] at hx
    obtain ⟨r, hr, rfl⟩ := hx
    have h1 := numTo_lt (rowHit p (stepsN p n) r) (2 ^ r.arity.toNat)
    have h2 : 2 ^ r.arity.toNat ≤ 2 ^ 4 := Nat.pow_le_pow_right (by omega) (h4 r hr)
    have h3 : 2 ^ (2 ^ r.arity.toNat) ≤ 2 ^ (2 ^ 4) := Nat.pow_le_pow_right (by omega) h2
    have : (2 : Nat) ^ (2 ^ 4) = 65536 := by decide
    omega
theorem le_of_bits {x y : Nat} (h : ∀ k, x.testBit k = true → y.testBit k = true) : x ≤ y := by
  have : x ||| y = y := Nat.eq_of_testBit_eq fun k => by
    rw [Nat.testBit_or]
    cases e : x.testBit k with
    | false => simp
    | true => rw [h k e]; rfl
  rw [← this]
  exact Nat.left_le_or
theorem sum_le : ∀ {a b : List Nat}, a.length = b.length → (∀ (i : Nat) x y, a[i]? = some x → b[i]? = some y → x ≤ y) → a.sum ≤ b.sum ∧ (a.sum = b.sum → a = b)
  | [], [], _, _ => ⟨Nat.le_refl _, fun _ => rfl⟩
  | [], _ :: _, h, _ => by simp at h
  | _ :: _, [], h, _ => by simp at h
  | x :: a, y :: b, hl, h => by
    have h0 := h 0 x y rfl rfl
    obtain ⟨h1, h2⟩ := sum_le (a := a) (b := b) (by simpa using hl) fun i x y hx hy => h (i + 1) x y (by simpa using hx) (by simpa using hy)
    rw [List.sum_cons, List.sum_cons]
    refine ⟨by omega, fun e => ?_⟩
    rw [h2 (by omega)]
    congr 1
    omega
theorem stepsN_sum (p : Pg) (n : Nat) (h : stepsN p (n + 1) ≠ stepsN p n) : (stepsN p n).sum < (stepsN p (n + 1)).sum := by
  have hl := stepsN_le p n
  obtain ⟨h1, h2⟩ := sum_le hl.1 fun i x y hx hy => le_of_bits (hl.2 i x y hx hy)
  rcases Nat.lt_or_ge (stepsN p n).sum (stepsN p (n + 1)).sum with h3 | h3
  · exact h3
  · exact absurd (h2 (by omega)).symm h
theorem sum_bnd {N : Nat} : ∀ {l : List Nat}, (∀ x ∈ l, x ≤ N) → l.sum ≤ N * l.length
  | [], _ => by simp
  | x :: l, h => by
    have h1 := h x (by simp)
    have h2 := sum_bnd (l := l) fun y hy => h y (by simp [hy])
    rw [List.sum_cons, List.length_cons, Nat.mul_succ]; omega
theorem stepsN_more {p : Pg} {n : Nat} (h : stepsN p (n + 1) = stepsN p n) : ∀ m, stepsN p (n + m) = stepsN p n
  | 0 => rfl
  | m + 1 => by
    have ih := stepsN_more h m
    show stepN p (stepsN p (n + m)) = _
    rw [ih]; exact h
/-- The rows in the end. -/
theorem stepsN_uniq {p : Pg} {n m : Nat} (hn : stepsN p (n + 1) = stepsN p n) (hm : stepsN p (m + 1) = stepsN p m) : stepsN p n = stepsN p m := by
  rcases Nat.le_total n m with h | h
  · obtain ⟨k, rfl⟩ := Nat.exists_eq_add_of_le h
    exact (stepsN_more hn k).symm
  · obtain ⟨k, rfl⟩ := Nat.exists_eq_add_of_le h
    exact stepsN_more hm k
end Go.Vx

/- Contracts: groundness by a set of variables: terms and equations, both sides. -/
namespace Go.Vx
open Go.Proofs Classical
/-! ### Plain: bits -/
theorem bits_and_i64 (a b : Nat) (ha : a < 9223372036854775808) (hb : b < 9223372036854775808) : bits .and .i64 (a : Int) (b : Int) = ((a &&& b : Nat) : Int) := by
  have hx : a &&& b < 2 ^ 63 := Nat.and_lt_two_pow _ (by omega)
  have h1 : (BitVec.ofInt 64 (a : Int)).toNat = a := by
    rw [BitVec.ofInt_natCast, BitVec.toNat_ofNat]; exact Nat.mod_eq_of_lt (by omega)
  have h2 : (BitVec.ofInt 64 (b : Int)).toNat = b := by
    rw [BitVec.ofInt_natCast, BitVec.toNat_ofNat]; exact Nat.mod_eq_of_lt (by omega)
  show IntKind.i64.wrap ((BitVec.ofInt 64 (a : Int) &&& BitVec.ofInt 64 (b : Int)).toNat : Int) = _
  rw [BitVec.toNat_and, h1, h2, wrap64 (by omega) (by omega)]
theorem bits_or_i64 (a b : Nat) (ha : a < 9223372036854775808) (hb : b < 9223372036854775808) : bits .or .i64 (a : Int) (b : Int) = ((a ||| b : Nat) : Int) := by
  have hx : a ||| b < 2 ^ 63 := Nat.or_lt_two_pow (by omega) (by omega)
  have h1 : (BitVec.ofInt 64 (a : Int)).toNat = a := by
    rw [BitVec.ofInt_natCast, BitVec.toNat_ofNat]; exact Nat.mod_eq_of_lt (by omega)
  have h2 : (BitVec.ofInt 64 (b : Int)).toNat = b := by
    rw [BitVec.ofInt_natCast, BitVec.toNat_ofNat]; exact Nat.mod_eq_of_lt (by omega)
  show IntKind.i64.wrap ((BitVec.ofInt 64 (a : Int) ||| BitVec.ofInt 64 (b : Int)).toNat : Int) = _
  rw [BitVec.toNat_or, h1, h2, wrap64 (by omega) (by omega)]
theorem shr_i64 (s : Nat) {n : Int} (h0 : 0 ≤ n) (h6 : n ≤ 64) : ((s : Nat) : Int).fdiv (2 ^ (min n.toNat IntKind.i64.bits)) = ((s / 2 ^ n.toNat : Nat) : Int) := by
  have e : min n.toNat IntKind.i64.bits = n.toNat := by
    show min n.toNat 64 = n.toNat
    omega
  rw [e, Int.fdiv_eq_ediv_of_nonneg _ (Int.pow_nonneg (by omega))]
  push_cast
  rfl
theorem and_one_i64 (a : Nat) (ha : a < 9223372036854775808) : bits .and .i64 (a : Int) 1 = ((a % 2 : Nat) : Int) := by
  have := bits_and_i64 a 1 ha (by omega)
  rw [Nat.and_one_is_mod] at this
  exact this
theorem bit_one (s : Nat) {n : Int} : decide (((s / 2 ^ n.toNat % 2 : Nat) : Int) = 1) = s.testBit n.toNat := by
  rw [Nat.testBit_eq_decide_div_mod_eq]
  congr 1
  exact propext (by omega)
theorem shl_one {n : Nat} (h : n ≤ 62) : IntKind.i64.wrap (1 * 2 ^ (min ((n : Nat) : Int).toNat IntKind.i64.bits)) = ((2 ^ n : Nat) : Int) := by
  have e : min ((n : Nat) : Int).toNat IntKind.i64.bits = n := by
    show min ((n : Nat) : Int).toNat 64 = n
    omega
  have h1 : (2 : Nat) ^ n ≤ 2 ^ 62 := Nat.pow_le_pow_right (by omega) h
  have h2 : (2 : Nat) ^ 62 = 4611686018427387904 := by decide
  rw [e, Int.one_mul]
  have e2 : (2 : Int) ^ n = ((2 ^ n : Nat) : Int) := by push_cast; rfl
  rw [e2]
  generalize (2 : Nat) ^ n = m at *
  exact wrap64 (by omega) (by omega)
theorem gndBy_args (s : Nat) (x : T) : gndBy s x ↔ (x.tm.kind = 1 → s.testBit x.tm.num.toNat = true) ∧ ∀ y ∈ x.args, gndBy s y := by
  cases x with
  | var n => simp [gndBy, T.vars, T.tm, Tm.kind, Tm.num, T.args]
  | pair a b =>
    simp only [gndBy, T.vars, T.tm, Tm.kind, T.args, List.mem_append, List.mem_cons, List.not_mem_nil, or_false]
    constructor
    · intro h
      exact ⟨fun k => absurd k (by decide), fun y hy n hn => by
        rcases hy with rfl | rfl
        · exact h n (.inl hn)
        · exact h n (.inr hn)⟩
    · rintro ⟨-, h⟩ n (hn | hn)
      · exact h a (.inl rfl) n hn
      · exact h b (.inr rfl) n hn
  | _ => simp [gndBy, T.vars, T.tm, Tm.kind, T.args]
theorem foldl_gnd (s : Nat) : ∀ (l : List Int) (b : Bool), l.foldl (fun b n => b && s.testBit n.toNat) b = (b && decide (∀ n ∈ l, s.testBit n.toNat = true))
  | [], b => by simp
  | a :: l, b => by
    rw [List.foldl_cons, foldl_gnd s l]
    cases b <;> cases h : s.testBit a.toNat <;> simp [h]
/-- Small variables. -/
def Low (x : T) : Prop := ∀ n ∈ x.vars, 0 ≤ n ∧ n ≤ 60
theorem Low.arg {x y : T} (h : Low x) (hy : y ∈ x.args) : Low y := fun n hn => by
  cases x with
  | pair a b =>
    simp only [T.args, List.mem_cons, List.not_mem_nil, or_false] at hy
    refine h n ?_
    rw [T.vars, List.mem_append]
    rcases hy with rfl | rfl
    · exact .inl hn
    · exact .inr hn
  | _ => simp [T.args] at hy
theorem Low.var {x : T} (h : Low x) (hk : x.tm.kind = 1) : 0 ≤ x.tm.num ∧ x.tm.num ≤ 60 := by
  cases x with
  | var n => exact h n (by simp [T.vars])
  | _ => simp [T.tm, Tm.kind] at hk
theorem fitEq_var {s : Nat} {x y : T} (h : x.tm.kind = 1 ∨ y.tm.kind = 1) : fitEq s x y ↔ (gndBy s x ↔ gndBy s y) := by
  cases x <;> cases y <;> simp_all [fitEq, T.tm, Tm.kind]
theorem fitEq_else {s : Nat} {x y : T} (h1 : ¬ x.tm.kind = 1) (h2 : ¬ y.tm.kind = 1) (h3 : ¬ (x.tm.kind = 4 ∧ y.tm.kind = 4)) : fitEq s x y ↔ x = y := by
  cases x <;> cases y <;> simp_all [fitEq, T.tm, Tm.kind]
section
variable {μ : Mem}
def GInv (rf rb : Nat) (s : Nat) (b : Bool) (h : Mem) : Prop := h rf = some (.cells #[.bool b] 4 (0, 0)) ∧ h rb = some (.cells #[.int .i64 s] 3 (0, 0))
theorem groundBy1_spec {rf rb s : Nat} {b : Bool} {h : Mem} {n : Int} (hs : s < 4611686018427387904) (h0 : 0 ≤ n ∧ n ≤ 60) (H : GInv rf rb s b h) (hne : rf ≠ rb) :
    SpecH Tryz.prog 329 [.int .i64 n, .pointer (some ⟨rf, 0, none⟩), .pointer (some ⟨rb, 0, none⟩)] μ h fun r μ' h' => r = .tuple #[] ∧ μ' = μ ∧ GInv rf rb s (b && s.testBit n.toNat) h' := by
  obtain ⟨h1, h2⟩ := H
  refine SpecH.mk [] Tryz.func329 (by kernel_rfl) ?_
  refine own_intro [.bool b] rfl (box_at h1) ?_
  have hd : s / 2 ^ n.toNat ≤ s := Nat.div_le_self _ _
  refine if_intro (fun hb => ?_) (fun hb => ?_)
  · refine own_intro [.int .i64 s] rfl (box_at h2) ?_
    refine need_intro h0.1 ?_
    refine num_eq (shr_i64 s h0.1 (by omega)) ?_
    refine num_eq (and_one_i64 _ (by omega)) ?_
    refine sto_intro [.bool b] 4 h1 rfl (Nat.le_refl _) ?_
    refine ret_plain ⟨rfl, rfl, ?_, (Mem.set_ne hne.symm).trans h2⟩
    dsimp only
    rw [Mem.set_at, hb, Bool.true_and, ← bit_one]
    rfl
  · refine sto_intro [.bool b] 4 h1 rfl (Nat.le_refl _) ?_
    refine ret_plain ⟨rfl, rfl, ?_, (Mem.set_ne hne.symm).trans h2⟩
    dsimp only
    rw [Mem.set_at, hb, Bool.false_and]
    rfl
theorem groundBy_spec {s : Nat} (hs : s < 4611686018427387904) (x : T) {v : Value} (hv : RepV μ x.tm.d v) (hl : Low x) : Gives Tryz.prog 298 [v, .int .i64 s] μ (.bool (decide (gndBy s x))) := by
  obtain ⟨p, rfl⟩ := Tm.invV hv
  refine Spec.mkO [3, 5] Tryz.func298 (by kernel_rfl) ?_
  intro r2 r3 hm3 ho3 r5 hm5 ho5
  have n1 : r3 ≠ r5 := fun e => by
    subst e
    have ho5 : (Mem.nil.set r3 (.cells #[.int .i64 s] 3 (0, 0))) r3 = none := ho5
    rw [Mem.set_at] at ho5; cases ho5
  refine sto_intro [.bool false] 4 (Mem.set_at _ _ _) rfl (Nat.le_refl _) ?_
  generalize hh : Mem.set (Mem.set _ r5 _) r5 _ = h0
  have H0 : GInv r5 r3 s true h0 := by
    subst hh
    refine ⟨?_, ?_⟩
    · rw [Mem.set_at]; rfl
    · dsimp only; rw [Mem.set_ne n1, Mem.set_ne n1, Mem.set_at]
  refine call_own (eachVar_rel (GInv r5 r3 s) (fun b n => b && s.testBit n.toNat) (fun _ n => 0 ≤ n ∧ n ≤ 60) (fun b h n hq hj => groundBy1_spec hs hq hj n1.symm) x true h0 hv (fun pre n post e => hl n (by rw [e]; simp)) H0) fun v μ' h' hle hap hR => ?_
  obtain ⟨rfl, rfl, hj⟩ := hR
  refine own_intro [.bool _] rfl (box_at hj.1) ?_
  refine ret_plain ⟨?_, rfl⟩
  rw [foldl_gnd, Bool.true_and]
  congr 1
  rw [Bool.eq_iff_iff, decide_eq_true_eq, decide_eq_true_eq]
  exact Iff.rfl
theorem l30Ground_spec {s : Nat} (hs : s < 4611686018427387904) : ∀ (x : T) {v : Value}, RepV μ x.tm.d v → Low x → Gives Tryz.prog 295 [v, .int .i64 s] μ (.bool (decide (gndBy s x))) :=
  T.ind fun x ih v hv hl => by
    obtain ⟨base, cap, rfl, hsl⟩ := T.inv hv
    have hn := maxLen_le hsl.max
    refine Spec.mk Tryz.func295 (by kernel_rfl) ?_
    intro r
    refine loop_intro (fun i : Nat => i ≤ x.args.length ∧ ∀ j y, j < i → x.args[j]? = some y → gndBy s y)
      (fun i => ⟨[(1, .val (.int .i64 s)), (2, .loc 0 r 0), (8, .val (.slice base x.args.length cap)), (9, .val (.int .i64 x.args.length)), (10, .val (.int .i64 i))], [(0, some (.cells r [.val (.int .i64 x.tm.kind), .val (.int .i64 x.tm.num), .val (.string x.tm.name), .val (.slice base x.args.length cap)] 44))], 1, μ, Mem.nil⟩) (fun i => x.args.length - i)
      0 ⟨by omega, fun j y hj => by omega⟩ (fun _ => ⟨rfl, rfl⟩) ⟨⟨rfl, rfl, rfl, rfl, rfl, trivial⟩, ⟨rfl, trivial⟩, rfl, rfl⟩ ?_
    rintro i ⟨hi, hall⟩
    refine ifd (fun h => ?_) (fun h => ?_)
    · obtain ⟨t, ht⟩ := at_some (l := x.args) (i := i) (by omega)
      obtain ⟨ad, p, hel, hto⟩ := T.arg hsl ht
      refine elem_intro hel ?_
      intro r2
      refine call_gives (ih t (mem_at ht) hto (hl.arg (mem_at ht))) ?_
      refine ifnd (fun hy => ret_gives (isF fun k => hy (((gndBy_args s x).1 k).2 t (mem_at ht))) rfl) (fun hy => ?_)
      refine num64 (by omega) (by omega) ⟨i + 1, ⟨by omega, fun j y hj hy2 => ?_⟩, by omega, ⟨⟨rfl, rfl, rfl, rfl, rfl, trivial⟩, ⟨rfl, trivial⟩, rfl, rfl⟩⟩
      rcases Nat.lt_or_ge j i with h6 | h6
      · exact hall j y h6 hy2
      · obtain rfl : j = i := by omega
        rw [ht] at hy2; cases hy2; exact hy
    · obtain rfl : i = x.args.length := by omega
      have hargs : ∀ y ∈ x.args, gndBy s y := fun y hy => by
        obtain ⟨j, hj⟩ := List.mem_iff_getElem?.1 hy
        exact hall j y (List.getElem?_eq_some_iff.1 hj).1 hj
      refine ifnd (fun h2 => ret_gives (isT ((gndBy_args s x).2 ⟨fun k => absurd k h2, hargs⟩)) rfl) (fun h2 => ?_)
      have hv2 := hl.var h2
      have hd : s / 2 ^ x.tm.num.toNat ≤ s := Nat.div_le_self _ _
      refine need_intro hv2.1 ?_
      refine num_eq (shr_i64 s hv2.1 (by omega)) ?_
      refine num_eq (and_one_i64 _ (by omega)) ?_
      refine ret_gives ?_ rfl
      rw [bit_one]
      congr 1
      rw [Bool.eq_iff_iff, decide_eq_true_eq, gndBy_args]
      exact ⟨fun k => ⟨fun _ => k, hargs⟩, fun k => k.1 h2⟩
theorem fitsEqual_spec {s : Nat} (hs : s < 4611686018427387904) : ∀ (x y : T) {v w : Value}, RepV μ x.tm.d v → RepV μ y.tm.d w → Low x → Low y → Gives Tryz.prog 297 [v, w, .int .i64 s] μ (.bool (decide (fitEq s x y))) :=
  T.ind fun x ih y v w hv hw hlx hly => by
    have hv0 := hv
    have hw0 := hw
    obtain ⟨b1, c1, rfl, hs1⟩ := T.inv hv
    obtain ⟨b2, c2, rfl, hs2⟩ := T.inv hw
    refine Spec.mk Tryz.func297 (by kernel_rfl) ?_
    intro r1 r2
    refine ifd (fun h1 => ?_) (fun h1 => ?_)
    · refine call_gives (groundBy_spec hs x hv0 hlx) (call_gives (groundBy_spec hs y hw0 hly) (ret_gives ?_ rfl))
      congr 1
      rw [Bool.eq_iff_iff, beq_iff_eq, decide_eq_true_eq, fitEq_var (.inl h1), Bool.eq_iff_iff, decide_eq_true_eq, decide_eq_true_eq]
    refine ifd (fun h2 => ?_) (fun h2 => ?_)
    · refine call_gives (groundBy_spec hs x hv0 hlx) (call_gives (groundBy_spec hs y hw0 hly) (ret_gives ?_ rfl))
      congr 1
      rw [Bool.eq_iff_iff, beq_iff_eq, decide_eq_true_eq, fitEq_var (.inr h2), Bool.eq_iff_iff, decide_eq_true_eq, decide_eq_true_eq]
    refine ifd (fun h4 => ?_) (fun h4 => ?_)
    · refine ifd (fun h5 => ?_) (fun h5 => ?_)
      · obtain ⟨a, b, rfl⟩ := T.kind4 h4
        obtain ⟨c, d, rfl⟩ := T.kind4 h5
        obtain ⟨ad1, p1, e1, g1⟩ := T.arg hs1 (i := 0) rfl
        obtain ⟨ad2, p2, e2, g2⟩ := T.arg hs2 (i := 0) rfl
        obtain ⟨ad3, p3, e3, g3⟩ := T.arg hs1 (i := 1) rfl
        obtain ⟨ad4, p4, e4, g4⟩ := T.arg hs2 (i := 1) rfl
        refine elem_intro e1 (elem_intro e2 (call_gives (ih a (by simp [T.args]) c g1 g2 (hlx.arg (by simp [T.args])) (hly.arg (by simp [T.args]))) ?_))
        refine ifd (fun h => ?_) (fun h => ret_gives (isF fun k => h k.1) rfl)
        refine elem_intro e3 (elem_intro e4 (call_gives (ih b (by simp [T.args]) d g3 g4 (hlx.arg (by simp [T.args])) (hly.arg (by simp [T.args]))) (ret_gives ?_ rfl)))
        congr 1
        rw [Bool.eq_iff_iff, decide_eq_true_eq, decide_eq_true_eq]
        exact ⟨fun k => ⟨h, k⟩, fun k => k.2⟩
      · refine ifnd (fun h => absurd h4 h) (fun _ => ?_)
        refine ret_gives (isF fun k => ?_) rfl
        rw [fitEq_else h1 h2 (fun k => h5 k.2)] at k
        subst k; exact h5 h4
    · refine ifnd (fun _ => ?_) (fun h => absurd h h4)
      refine ifnd (fun h5 => ?_) (fun h5 => ?_)
      · refine call_gives (equalTerms_spec x y hv0 hw0) (ret_gives ?_ rfl)
        congr 1
        rw [Bool.eq_iff_iff, decide_eq_true_eq, decide_eq_true_eq, fitEq_else h1 h2 (fun k => h4 k.1)]
      · refine ret_gives (isF fun k => ?_) rfl
        rw [fitEq_else h1 h2 (fun k => h4 k.1)] at k
        subst k; exact h4 h5
theorem l30Equal_spec {s : Nat} (hs : s < 4611686018427387904) : ∀ (x y : T) {v w : Value}, RepV μ x.tm.d v → RepV μ y.tm.d w → Low x → Low y → Gives Tryz.prog 294 [v, w, .int .i64 s] μ (.bool (decide (fitEq s x y))) :=
  T.ind fun x ih y v w hv hw hlx hly => by
    have hv0 := hv
    have hw0 := hw
    obtain ⟨b1, c1, rfl, hs1⟩ := T.inv hv
    obtain ⟨b2, c2, rfl, hs2⟩ := T.inv hw
    refine Spec.mk Tryz.func294 (by kernel_rfl) ?_
    intro r1 r2
    refine ifd (fun h1 => ?_) (fun h1 => ?_)
    · refine call_gives (l30Ground_spec hs x hv0 hlx) (call_gives (l30Ground_spec hs y hw0 hly) (ret_gives ?_ rfl))
      congr 1
      rw [Bool.eq_iff_iff, beq_iff_eq, decide_eq_true_eq, fitEq_var (.inl h1), Bool.eq_iff_iff, decide_eq_true_eq, decide_eq_true_eq]
    refine ifd (fun h2 => ?_) (fun h2 => ?_)
    · refine call_gives (l30Ground_spec hs x hv0 hlx) (call_gives (l30Ground_spec hs y hw0 hly) (ret_gives ?_ rfl))
      congr 1
      rw [Bool.eq_iff_iff, beq_iff_eq, decide_eq_true_eq, fitEq_var (.inr h2), Bool.eq_iff_iff, decide_eq_true_eq, decide_eq_true_eq]
    refine ifd (fun h4 => ?_) (fun h4 => ?_)
    · refine ifd (fun h5 => ?_) (fun h5 => ?_)
      · obtain ⟨a, b, rfl⟩ := T.kind4 h4
        obtain ⟨c, d, rfl⟩ := T.kind4 h5
        obtain ⟨ad1, p1, e1, g1⟩ := T.arg hs1 (i := 0) rfl
        obtain ⟨ad2, p2, e2, g2⟩ := T.arg hs2 (i := 0) rfl
        obtain ⟨ad3, p3, e3, g3⟩ := T.arg hs1 (i := 1) rfl
        obtain ⟨ad4, p4, e4, g4⟩ := T.arg hs2 (i := 1) rfl
        refine elem_intro e1 (elem_intro e2 (call_gives (ih a (by simp [T.args]) c g1 g2 (hlx.arg (by simp [T.args])) (hly.arg (by simp [T.args]))) ?_))
        refine ifd (fun h => ?_) (fun h => ret_gives (isF fun k => h k.1) rfl)
        refine elem_intro e3 (elem_intro e4 (call_gives (ih b (by simp [T.args]) d g3 g4 (hlx.arg (by simp [T.args])) (hly.arg (by simp [T.args]))) (ret_gives ?_ rfl)))
        congr 1
        rw [Bool.eq_iff_iff, decide_eq_true_eq, decide_eq_true_eq]
        exact ⟨fun k => ⟨h, k⟩, fun k => k.2⟩
      · refine call_gives (l02Same_spec x y hv0 hw0) (ret_gives ?_ rfl)
        congr 1
        rw [Bool.eq_iff_iff, decide_eq_true_eq, decide_eq_true_eq, fitEq_else h1 h2 (fun k => h5 k.2)]
    · refine call_gives (l02Same_spec x y hv0 hw0) (ret_gives ?_ rfl)
      congr 1
      rw [Bool.eq_iff_iff, decide_eq_true_eq, decide_eq_true_eq, fitEq_else h1 h2 (fun k => h4 k.1)]
end
end Go.Vx

/- Contracts: groundness: goals and clauses that fit a set, both sides. -/
namespace Go.Vx
open Go.Proofs Classical
/-! ### Plain -/
def Gl.single (x : Gl) : Prop := x.kind ≠ 0 ∧ x.kind ≠ 1 ∧ x.kind ≠ 7 ∧ x.kind ≠ 8
mutual
theorem Gl.cl_all : ∀ (g : Gl) {L : List (List Gl)}, g.cl = some L → ∀ c ∈ L, ∀ x ∈ c, x ∈ g.all ∧ x.single
  | .mk k s ts gs, L, h => by
    have hsub : ∀ y ∈ gs, ∀ x ∈ y.all, x ∈ (Gl.mk k s ts gs).all := fun y hy x hx => by
      rw [Gl.all_eq]
      exact List.mem_cons_of_mem _ (List.mem_flatMap.2 ⟨y, hy, hx⟩)
    rw [Gl.cl] at h
    split at h
    · cases h; simp
    rename_i h0
    split at h
    · cases h; simp
    rename_i h1
    split at h
    · exact Gl.clOr_all gs (fun x => x ∈ (Gl.mk k s ts gs).all ∧ x.single) (fun y hy x hx hs => ⟨hsub y hy x hx, hs⟩) (by simp) h
    rename_i h8
    split at h
    · exact Gl.clAnd_all gs (fun x => x ∈ (Gl.mk k s ts gs).all ∧ x.single) (fun y hy x hx hs => ⟨hsub y hy x hx, hs⟩) (by simp) h
    · rename_i h7
      cases h
      intro c hc x hx
      rw [List.mem_singleton.1 hc] at hx
      rw [List.mem_singleton.1 hx]
      exact ⟨by rw [Gl.all_eq]; simp, h0, h1, h7, h8⟩
theorem Gl.clOr_all : ∀ (gs : List Gl) (Q : Gl → Prop) {acc L : List (List Gl)}, (∀ y ∈ gs, ∀ x ∈ y.all, x.single → Q x) → (∀ c ∈ acc, ∀ x ∈ c, Q x) → Gl.clOr gs acc = some L → ∀ c ∈ L, ∀ x ∈ c, Q x
  | [], Q, acc, L, _, h1, h => by
    rw [Gl.clOr] at h; cases h; exact h1
  | g :: gs, Q, acc, L, hQ, h1, h => by
    rw [Gl.clOr] at h
    cases e : g.cl with
    | none => rw [e] at h; cases h
    | some l =>
      rw [e, Option.bind_some] at h
      have hb := Gl.cl_all g e
      split at h
      · exact Gl.clOr_all gs Q (acc := acc ++ l) (fun y hy => hQ y (by simp [hy])) (fun c hc x hx => by
          rcases List.mem_append.1 hc with hc | hc
          · exact h1 c hc x hx
          · exact hQ g (by simp) x (hb c hc x hx).1 (hb c hc x hx).2) h
      · cases h
theorem Gl.clAnd_all : ∀ (gs : List Gl) (Q : Gl → Prop) {acc L : List (List Gl)}, (∀ y ∈ gs, ∀ x ∈ y.all, x.single → Q x) → (∀ c ∈ acc, ∀ x ∈ c, Q x) → Gl.clAnd gs acc = some L → ∀ c ∈ L, ∀ x ∈ c, Q x
  | [], Q, acc, L, _, h1, h => by
    rw [Gl.clAnd] at h; cases h; exact h1
  | g :: gs, Q, acc, L, hQ, h1, h => by
    rw [Gl.clAnd] at h
    cases e : g.cl with
    | none => rw [e] at h; cases h
    | some l =>
      rw [e, Option.bind_some] at h
      have hb := Gl.cl_all g e
      split at h
      · exact Gl.clAnd_all gs Q (acc := prodC acc l) (fun y hy => hQ y (by simp [hy])) (fun c hc => by
          obtain ⟨u, hu, w, hw, rfl⟩ := prodC_mem hc
          intro x hx
          rcases List.mem_append.1 hx with hx | hx
          · exact h1 u hu x hx
          · exact hQ g (by simp) x (hb w hw x hx).1 (hb w hw x hx).2) h
      · cases h
end
def rI (rows : List Nat) : List Int := rows.map fun n : Nat => (n : Int)
theorem rI_at {rows : List Nat} {k n : Nat} (h : rows[k]? = some n) : (rI rows)[k]? = some (n : Int) := by simp [rI, h]
/-- A goal that may stand in a clause of a program whose rows these are. -/
structure GOk (p : Pg) (rows : List Nat) (g : Gl) : Prop where
  sh : g.Sh
  one : g.single
  low : ∀ t ∈ g.terms, Low t.toT
  rel : g.kind = 9 → ∃ k n : Nat, relAt p g.name = (k : Int) ∧ rows[k]? = some n ∧ n < 65536
theorem GOk.of {p : Pg} (hp : p.Ok) {rows : List Nat} (hl : rows.length = p.rels.length) (hr : ∀ n ∈ rows, n < 65536) {i : Nat} {r : Rl} (hi : p.rels[i]? = some r) {L : List (List Gl)} (hL : r.body.cl = some L) {c : List Gl} (hc : c ∈ L) {g : Gl} (hg : g ∈ c) : GOk p rows g := by
  have hrel := hp.2 i r hi
  obtain ⟨h1, h2⟩ := Gl.cl_all r.body hL c hc g hg
  have hsh := hrel.body.all _ g h1
  refine ⟨hsh, h2, fun t ht n hn => ?_, fun h9 => ?_⟩
  · have hv : n ∈ r.body.vars := by
      rw [Gl.vars]
      exact List.mem_flatMap.2 ⟨g, h1, List.mem_flatMap.2 ⟨t.toT, List.mem_map.2 ⟨t, ht, rfl⟩, hn⟩⟩
    have hlt := hrel.vars n hv
    have hge := Gl.vars_range hrel.body n hv
    have := hrel.ar4; have := hrel.lo8
    omega
  · obtain ⟨k, q, hk, hq, _⟩ := hrel.calls.all g h1 h9
    have hlen := (List.getElem?_eq_some_iff.1 hq).1
    obtain ⟨n, hn⟩ := at_some (l := rows) (i := k) (by omega)
    exact ⟨k, n, hk, hn, hr n (mem_at hn)⟩
theorem callRow_len {s : Nat} {ts : List Tm} {xs : List T} (h : ts = xs.map T.tm) : callRow s (ts.map Tm.toT) ts.length = numTo (fun i => ∃ x, xs[i]? = some x ∧ gndBy s x) xs.length := by
  subst h
  rw [callRow, toTs_tm', List.length_map]
theorem fitG_eq {p : Pg} {rows : List Nat} {s : Nat} {g : Gl} (h2 : g.kind = 2) {x y : T} (e : g.terms = [x.tm, y.tm]) : fitG p rows s g ↔ fitEq s x y := by
  unfold fitG
  rw [if_pos h2, e]
  constructor
  · rintro ⟨a, b, e2, h⟩
    cases e2
    rwa [T.toT_tm, T.toT_tm] at h
  · exact fun h => ⟨_, _, rfl, by rwa [T.toT_tm, T.toT_tm]⟩
theorem fitG_call {p : Pg} {rows : List Nat} {s : Nat} {g : Gl} (h9 : g.kind = 9) {k n : Nat} (hk : relAt p g.name = (k : Int)) (hn : rows[k]? = some n) {xs : List T} (e : g.terms = xs.map T.tm) : fitG p rows s g ↔ n.testBit (numTo (fun i => ∃ x, xs[i]? = some x ∧ gndBy s x) xs.length) = true := by
  unfold fitG
  rw [if_neg (by omega), if_pos h9, hk, Int.toNat_natCast, hn, callRow_len e]
  exact ⟨fun ⟨m, e, h⟩ => by cases e; exact h, fun h => ⟨n, rfl, h⟩⟩
section
variable {μ : Mem}
theorem fitsGoal_spec {p : Pg} {pv gv : Value} {rows : List Nat} {base : Option Addr} {cap s : Nat} {g : Gl} (hp : RepV μ p.d pv) (hr : Sl μ 1 base rows.length ((rI rows).map D.i)) (hg : RepV μ g.d gv) (hs : s < 4611686018427387904) (hok : GOk p rows g) :
    Gives Tryz.prog 217 [pv, .slice base rows.length cap, gv, .int .i64 s] μ (.bool (decide (fitG p rows s g))) := by
  have hp0 := hp
  obtain ⟨q, rfl, _⟩ := Pg.inv hp
  obtain ⟨pg, rfl, hts, _⟩ := Gl.inv hg
  obtain ⟨xs, hxs, _⟩ := lift_ok hok.sh.top.tm
  have hlow : ∀ x ∈ xs, Low x := fun x hx => by
    have := hok.low x.tm (by rw [hxs]; exact List.mem_map.2 ⟨x, hx, rfl⟩)
    rwa [T.toT_tm] at this
  have hlen : g.terms.length = xs.length := by rw [hxs, List.length_map]
  rw [hxs, List.length_map] at hts
  have hsh := hok.sh.top
  refine Spec.mk Tryz.func217 (by kernel_rfl) ?_
  intro r4 r6
  refine ifd (fun h => absurd h hok.one.2.1) (fun h1 => ?_)
  refine ifd (fun h2 => ?_) (fun h2 => ?_)
  · have h22 := hsh.ln2 (.inl h2)
    rw [hlen] at h22
    match xs, h22 with
    | [x, y], _ =>
      rw [hlen]
      obtain ⟨ad1, p1, e1, g1⟩ := Tm.elem (i := 0) (t := x.tm) hts rfl
      obtain ⟨ad2, p2, e2, g2⟩ := Tm.elem (i := 1) (t := y.tm) hts rfl
      refine elem_intro e1 (elem_intro e2 (call_gives (fitsEqual_spec hs x y g1 g2 (hlow x (by simp)) (hlow y (by simp))) (ret_gives ?_ rfl)))
      congr 1
      rw [Bool.eq_iff_iff, decide_eq_true_eq, decide_eq_true_eq, fitG_eq h2 hxs]
  refine ifd (fun h9 => ?_) (fun h9 => ?_)
  rotate_left
  · refine ret_gives (isT ?_) rfl
    unfold fitG
    rw [if_neg h2, if_neg h9]; trivial
  have h94 := hsh.ln9 h9
  obtain ⟨k, n, hk, hn, hn6⟩ := hok.rel h9
  rw [hlen] at h94 ⊢
  refine loop_intro (fun j : Nat => j ≤ xs.length)
    (fun j => ⟨[(1, .val (.slice base rows.length cap)), (3, .val (.int .i64 s)), (4, .loc 0 r4 0), (6, .loc 1 r6 0), (9, .val (.int .i64 (numTo (fun i => ∃ x, xs[i]? = some x ∧ gndBy s x) j : Nat))), (31, .val (.slice pg.1.1 xs.length pg.1.2)), (32, .val (.int .i64 xs.length)), (33, .val (.int .i64 j))], [(0, some (.cells r4 [.val (.slice q.1 p.rels.length q.2)] 67)), (1, some (.cells r6 [.val (.int .i64 g.kind), .val (.string g.name), .val (.slice pg.1.1 xs.length pg.1.2), .val (.slice pg.2.1 g.goals.length pg.2.2)] 55))], 2, μ, Mem.nil⟩) (fun j => xs.length - j)
    0 (by omega) (fun _ => ⟨rfl, rfl⟩) ⟨⟨rfl, rfl, rfl, rfl, rfl, rfl, rfl, rfl, trivial⟩, ⟨rfl, rfl, trivial⟩, rfl, rfl⟩ ?_
  intro j hj
  have hP := numTo_lt (fun i => ∃ x, xs[i]? = some x ∧ gndBy s x) j
  have hp4 : 2 ^ j ≤ 2 ^ 4 := Nat.pow_le_pow_right (by omega) (by omega)
  have hsucc := numTo_succ (fun i => ∃ x, xs[i]? = some x ∧ gndBy s x) j
  have e16 : (2 : Nat) ^ 4 = 16 := by decide
  rw [e16] at hp4
  refine ifd (fun hlt => ?_) (fun hlt => ?_)
  · obtain ⟨x, hx⟩ := at_some (l := xs) (i := j) (by omega)
    obtain ⟨ad, px, hel, hto⟩ := Tm.elem (i := j) (t := x.tm) hts (by simp [hx])
    refine elem_intro hel ?_
    intro rx
    refine call_gives (groundBy_spec hs x hto (hlow x (mem_at hx))) ?_
    refine ifd (fun hg => ?_) (fun hg => ?_)
    · rw [if_pos ⟨x, hx, hg⟩] at hsucc
      refine need_intro (Int.natCast_nonneg _) ?_
      refine num_eq (shl_one (by omega)) ?_
      refine num_eq (x := ((numTo (fun i => ∃ x, xs[i]? = some x ∧ gndBy s x) (j + 1) : Nat) : Int)) (by rw [hsucc, wrap64 (by omega) (by omega)]; push_cast; rfl) ?_
      refine num64 (by omega) (by omega) ⟨j + 1, by omega, by omega, ⟨⟨rfl, rfl, rfl, rfl, rfl, rfl, rfl, rfl, trivial⟩, ⟨rfl, rfl, trivial⟩, rfl, rfl⟩⟩
    · have : ¬ ∃ x, xs[j]? = some x ∧ gndBy s x := fun ⟨y, hy, h⟩ => by
        rw [hx] at hy; cases hy; exact hg h
      rw [if_neg this, Nat.add_zero] at hsucc
      exact num64 (by omega) (by omega) ⟨j + 1, by omega, by omega, ⟨⟨rfl, rfl, rfl, rfl, by rw [hsucc]; rfl, rfl, rfl, rfl, trivial⟩, ⟨rfl, rfl, trivial⟩, rfl, rfl⟩⟩
  obtain rfl : j = xs.length := by omega
  refine call_gives (relation_spec hp0) ?_
  obtain ⟨ad, hel⟩ := Ints.elem (l := rI rows) hr (rI_at hn)
  rw [← hk] at hel
  refine elem_intro hel ?_
  have hd : n / 2 ^ (numTo (fun i => ∃ x, xs[i]? = some x ∧ gndBy s x) xs.length) ≤ n := Nat.div_le_self _ _
  refine need_intro (Int.natCast_nonneg _) ?_
  refine num_eq (shr_i64 n (Int.natCast_nonneg _) (by omega)) ?_
  refine num_eq (and_one_i64 _ (by rw [Int.toNat_natCast]; omega)) ?_
  refine ret_gives ?_ rfl
  rw [bit_one, Int.toNat_natCast]
  congr 1
  rw [Bool.eq_iff_iff, decide_eq_true_eq, fitG_call h9 hk hn hxs]
theorem l30Fits_spec {p : Pg} {pv : Value} {rows : List Nat} {base base2 : Option Addr} {cap cap2 s : Nat} {c : List Gl} (hp : RepV μ p.d pv) (hr : Sl μ 1 base rows.length ((rI rows).map D.i)) (hc : Sl μ 4 base2 c.length (c.map Gl.d)) (hs : s < 4611686018427387904) (hok : ∀ g ∈ c, GOk p rows g) :
    Gives Tryz.prog 214 [pv, .slice base rows.length cap, .slice base2 c.length cap2, .int .i64 s] μ (.bool (decide (∀ g ∈ c, fitG p rows s g))) := by
  have hp0 := hp
  have hn := maxLen_le hc.max
  obtain ⟨q, rfl, _⟩ := Pg.inv hp
  refine Spec.mk Tryz.func214 (by kernel_rfl) ?_
  intro r4
  refine loop_intro (fun i : Nat => i ≤ c.length ∧ ∀ j g, j < i → c[j]? = some g → fitG p rows s g)
    (fun i => ⟨[(1, .val (.slice base rows.length cap)), (3, .val (.int .i64 s)), (4, .loc 0 r4 0), (14, .val (.slice base2 c.length cap2)), (15, .val (.int .i64 c.length)), (16, .val (.int .i64 i))], [(0, some (.cells r4 [.val (.slice q.1 p.rels.length q.2)] 67))], 1, μ, Mem.nil⟩) (fun i => c.length - i)
    0 ⟨by omega, fun j y hj => by omega⟩ (fun _ => ⟨rfl, rfl⟩) ⟨⟨rfl, rfl, rfl, rfl, rfl, rfl, trivial⟩, ⟨rfl, trivial⟩, rfl, rfl⟩ ?_
  rintro i ⟨hi, hall⟩
  refine ifd (fun hlti => ?_) (fun hlti => ?_)
  rotate_left
  · obtain rfl : i = c.length := by omega
    refine ret_gives (isT fun g hg => ?_) rfl
    obtain ⟨j, hj⟩ := List.mem_iff_getElem?.1 hg
    exact hall j g (List.getElem?_eq_some_iff.1 hj).1 hj
  obtain ⟨g, hg⟩ := at_some (l := c) (i := i) (by omega)
  have hgo := hok g (mem_at hg)
  obtain ⟨ad0, pg, hel0, hr0, hA⟩ := Gl.elemA hc hg
  obtain ⟨xs, hxs, _⟩ := lift_ok hgo.sh.top.tm
  have hlow : ∀ x ∈ xs, Low x := fun x hx => by
    have := hgo.low x.tm (by rw [hxs]; exact List.mem_map.2 ⟨x, hx, rfl⟩)
    rwa [T.toT_tm] at this
  have hlen : g.terms.length = xs.length := by rw [hxs, List.length_map]
  have hts := hA.1
  rw [hxs, List.length_map] at hts
  have hsh := hgo.sh.top
  have bad : ¬ fitG p rows s g → Value.bool false = .bool (decide (∀ g ∈ c, fitG p rows s g)) := fun h => isF fun k => h (k g (mem_at hg))
  have next : fitG p rows s g → ∀ j y, j < i + 1 → c[j]? = some y → fitG p rows s y := fun h j y hj hy => by
    rcases Nat.lt_or_ge j i with h6 | h6
    · exact hall j y h6 hy
    · obtain rfl : j = i := by omega
      rw [hg] at hy; cases hy; exact h
  refine elem_intro hel0 ?_
  intro r10
  refine ifd (fun h2 => ?_) (fun h2 => ?_)
  · have h22 := hsh.ln2 (.inl h2)
    rw [hlen] at h22
    match xs, h22 with
    | [x, y], _ =>
      rw [hlen]
      obtain ⟨ad1, p1, e1, g1⟩ := Tm.elem (i := 0) (t := x.tm) hts rfl
      obtain ⟨ad2, p2, e2, g2⟩ := Tm.elem (i := 1) (t := y.tm) hts rfl
      refine elem_intro e1 (elem_intro e2 (call_gives (l30Equal_spec hs x y g1 g2 (hlow x (by simp)) (hlow y (by simp))) ?_))
      refine ifnd (fun h => ret_gives (bad fun k => h ((fitG_eq h2 hxs).1 k)) rfl) (fun h => ?_)
      exact num64 (by omega) (by omega) ⟨i + 1, ⟨by omega, next ((fitG_eq h2 hxs).2 h)⟩, by omega, ⟨⟨rfl, rfl, rfl, rfl, rfl, rfl, trivial⟩, ⟨rfl, trivial⟩, rfl, rfl⟩⟩
  refine ifd (fun h9 => ?_) (fun h9 => ?_)
  rotate_left
  · refine num64 (by omega) (by omega) ⟨i + 1, ⟨by omega, next ?_⟩, by omega, ⟨⟨rfl, rfl, rfl, rfl, rfl, rfl, trivial⟩, ⟨rfl, trivial⟩, rfl, rfl⟩⟩
    unfold fitG
    rw [if_neg h2, if_neg h9]; trivial
  have h94 := hsh.ln9 h9
  obtain ⟨k, n, hk, hn1, hn6⟩ := hgo.rel h9
  rw [hlen] at h94 ⊢
  refine loop_intro (fun j : Nat => j ≤ xs.length)
    (fun j => ⟨[(1, .val (.slice base rows.length cap)), (3, .val (.int .i64 s)), (4, .loc 0 r4 0), (10, .loc 1 r10 0), (11, .val (.int .i64 (numTo (fun i => ∃ x, xs[i]? = some x ∧ gndBy s x) j : Nat))), (14, .val (.slice base2 c.length cap2)), (15, .val (.int .i64 c.length)), (16, .val (.int .i64 i)), (38, .val (.slice pg.1.1 xs.length pg.1.2)), (39, .val (.int .i64 xs.length)), (40, .val (.int .i64 j))], [(0, some (.cells r4 [.val (.slice q.1 p.rels.length q.2)] 67)), (1, some (.cells r10 [.val (.int .i64 g.kind), .val (.string g.name), .val (.slice pg.1.1 xs.length pg.1.2), .val (.slice pg.2.1 g.goals.length pg.2.2)] 55))], 2, μ, Mem.nil⟩) (fun j => xs.length - j)
    0 (by omega) (fun _ => ⟨rfl, rfl⟩) ⟨⟨rfl, rfl, rfl, rfl, rfl, rfl, rfl, rfl, rfl, rfl, rfl, trivial⟩, ⟨rfl, rfl, trivial⟩, rfl, rfl⟩ ?_
  intro j hj
  have hP := numTo_lt (fun i => ∃ x, xs[i]? = some x ∧ gndBy s x) j
  have hp4 : 2 ^ j ≤ 2 ^ 4 := Nat.pow_le_pow_right (by omega) (by omega)
  have hsucc := numTo_succ (fun i => ∃ x, xs[i]? = some x ∧ gndBy s x) j
  have e16 : (2 : Nat) ^ 4 = 16 := by decide
  rw [e16] at hp4
  refine ifd (fun hlt => ?_) (fun hlt => ?_)
  · obtain ⟨x, hx⟩ := at_some (l := xs) (i := j) (by omega)
    obtain ⟨ad, px, hel, hto⟩ := Tm.elem (i := j) (t := x.tm) hts (by simp [hx])
    refine elem_intro hel ?_
    intro rx
    refine call_gives (l30Ground_spec hs x hto (hlow x (mem_at hx))) ?_
    refine ifd (fun hg => ?_) (fun hg => ?_)
    · rw [if_pos ⟨x, hx, hg⟩] at hsucc
      refine need_intro (Int.natCast_nonneg _) ?_
      refine num_eq (shl_one (by omega)) ?_
      refine num_eq (x := ((numTo (fun i => ∃ x, xs[i]? = some x ∧ gndBy s x) (j + 1) : Nat) : Int)) (by rw [hsucc, wrap64 (by omega) (by omega)]; push_cast; rfl) ?_
      refine num64 (by omega) (by omega) ⟨j + 1, by omega, by omega, ⟨⟨rfl, rfl, rfl, rfl, rfl, rfl, rfl, rfl, rfl, rfl, rfl, trivial⟩, ⟨rfl, rfl, trivial⟩, rfl, rfl⟩⟩
    · have : ¬ ∃ x, xs[j]? = some x ∧ gndBy s x := fun ⟨y, hy, h⟩ => by
        rw [hx] at hy; cases hy; exact hg h
      rw [if_neg this, Nat.add_zero] at hsucc
      exact num64 (by omega) (by omega) ⟨j + 1, by omega, by omega, ⟨⟨rfl, rfl, rfl, rfl, by rw [hsucc]; rfl, rfl, rfl, rfl, rfl, rfl, rfl, trivial⟩, ⟨rfl, rfl, trivial⟩, rfl, rfl⟩⟩
  obtain rfl : j = xs.length := by omega
  refine call_gives (l14Find_spec hp0) ?_
  obtain ⟨ad, hel⟩ := Ints.elem (l := rI rows) hr (rI_at hn1)
  rw [← hk] at hel
  refine elem_intro hel ?_
  have hd : n / 2 ^ (numTo (fun i => ∃ x, xs[i]? = some x ∧ gndBy s x) xs.length) ≤ n := Nat.div_le_self _ _
  refine need_intro (Int.natCast_nonneg _) ?_
  refine num_eq (shr_i64 n (Int.natCast_nonneg _) (by omega)) ?_
  refine num_eq (and_one_i64 _ (by rw [Int.toNat_natCast]; omega)) ?_
  have hb : fitG p rows s g ↔ n / 2 ^ (((numTo (fun i => ∃ x, xs[i]? = some x ∧ gndBy s x) xs.length : Nat) : Int)).toNat % 2 = 1 := by
    rw [fitG_call h9 hk hn1 hxs, Nat.testBit_eq_decide_div_mod_eq, decide_eq_true_eq, Int.toNat_natCast]
  refine ifd (fun h => ret_gives (bad fun k => ?_) rfl) (fun h => ?_)
  · have := hb.1 k; omega
  · exact num64 (by omega) (by omega) ⟨i + 1, ⟨by omega, next (hb.2 (by omega))⟩, by omega, ⟨⟨rfl, rfl, rfl, rfl, rfl, rfl, trivial⟩, ⟨rfl, trivial⟩, rfl, rfl⟩⟩
end
end Go.Vx

/- Contracts: one step of groundness, both sides. -/
namespace Go.Vx
open Go.Proofs Classical
/-! ### Plain -/
/-- A number whose bits are the rows of the pairs that are done and fit. -/
structure BitsOf (p : Pg) (rows : List Nat) (a N : Nat) (D : Nat → List Gl → Prop) : Prop where
  lt : N < 2 ^ (2 ^ a)
  bit : ∀ k, k < 2 ^ a → (N.testBit k = true ↔ ∃ s c, D s c ∧ s % 2 ^ a = k ∧ ∀ g ∈ c, fitG p rows s g)
section
variable {p : Pg} {rows : List Nat} {a N : Nat} {D D' : Nat → List Gl → Prop}
theorem BitsOf.zero (h : ∀ s c, ¬ D s c) : BitsOf p rows a 0 D where
  lt := Nat.two_pow_pos _
  bit := fun k _ => by
    simp only [Nat.zero_testBit, Bool.false_eq_true, false_iff]
    rintro ⟨s, c, h1, _⟩
    exact h s c h1
theorem BitsOf.congr (h : BitsOf p rows a N D) (e : ∀ s c, D' s c ↔ D s c) : BitsOf p rows a N D' where
  lt := h.lt
  bit := fun k hk => by simp only [e]; exact h.bit k hk
theorem BitsOf.miss (h : BitsOf p rows a N D) {s0 : Nat} {c0 : List Gl} (hf : ¬ ∀ g ∈ c0, fitG p rows s0 g) (e : ∀ s c, D' s c ↔ D s c ∨ (s = s0 ∧ c = c0)) : BitsOf p rows a N D' where
  lt := h.lt
  bit := fun k hk => by
    rw [h.bit k hk]
    constructor
    · rintro ⟨s, c, h1, h2, h3⟩
      exact ⟨s, c, (e s c).2 (.inl h1), h2, h3⟩
    · rintro ⟨s, c, h1, h2, h3⟩
      rcases (e s c).1 h1 with h1 | ⟨rfl, rfl⟩
      · exact ⟨s, c, h1, h2, h3⟩
      · exact absurd h3 hf
theorem BitsOf.hit (h : BitsOf p rows a N D) {s0 : Nat} {c0 : List Gl} (hf : ∀ g ∈ c0, fitG p rows s0 g) (e : ∀ s c, D' s c ↔ D s c ∨ (s = s0 ∧ c = c0)) : BitsOf p rows a (N ||| 2 ^ (s0 % 2 ^ a)) D' where
  lt := Nat.or_lt_two_pow h.lt (Nat.pow_lt_pow_right (by omega) (Nat.mod_lt _ (Nat.two_pow_pos _)))
  bit := fun k hk => by
    rw [Nat.testBit_or, Bool.or_eq_true, h.bit k hk, Nat.testBit_two_pow]
    simp only [decide_eq_true_eq]
    constructor
    · rintro (⟨s, c, h1, h2, h3⟩ | h1)
      · exact ⟨s, c, (e s c).2 (.inl h1), h2, h3⟩
      · exact ⟨s0, c0, (e s0 c0).2 (.inr ⟨rfl, rfl⟩), h1, hf⟩
    · rintro ⟨s, c, h1, h2, h3⟩
      rcases (e s c).1 h1 with h1 | ⟨rfl, rfl⟩
      · exact .inl ⟨s, c, h1, h2, h3⟩
      · exact .inr h2
end
def DI (L : List (List Gl)) (M j b : Nat) (s : Nat) (c : List Gl) : Prop := (c ∈ L.take j ∧ s < M) ∨ (L[j]? = some c ∧ s < b)
def DS (L : List (List Gl)) (s0 j : Nat) (s : Nat) (c : List Gl) : Prop := (s < s0 ∧ c ∈ L) ∨ (s = s0 ∧ c ∈ L.take j)
theorem DI.next {L : List (List Gl)} {M j b : Nat} {c0 : List Gl} (h : L[j]? = some c0) (s : Nat) (c : List Gl) : DI L M j (b + 1) s c ↔ DI L M j b s c ∨ (s = b ∧ c = c0) := by
  unfold DI
  rw [h]
  constructor
  · rintro (k | ⟨k1, k2⟩)
    · exact .inl (.inl k)
    · cases k1
      rcases Nat.lt_or_ge s b with k3 | k3
      · exact .inl (.inr ⟨rfl, k3⟩)
      · exact .inr ⟨by omega, rfl⟩
  · rintro ((k | ⟨k1, k2⟩) | ⟨rfl, rfl⟩)
    · exact .inl k
    · exact .inr ⟨k1, by omega⟩
    · exact .inr ⟨rfl, by omega⟩
theorem DI.over {L : List (List Gl)} {M j : Nat} {c0 : List Gl} (h : L[j]? = some c0) (s : Nat) (c : List Gl) : DI L M (j + 1) 0 s c ↔ DI L M j M s c := by
  unfold DI
  rw [List.take_add_one, h, Option.toList_some, List.mem_append, List.mem_singleton]
  constructor
  · rintro (⟨k | rfl, k2⟩ | ⟨_, k2⟩)
    · exact .inl ⟨k, k2⟩
    · exact .inr ⟨rfl, k2⟩
    · omega
  · rintro (⟨k, k2⟩ | ⟨k, k2⟩)
    · exact .inl ⟨.inl k, k2⟩
    · cases k; exact .inl ⟨.inr rfl, k2⟩
theorem DS.next {L : List (List Gl)} {s0 j : Nat} {c0 : List Gl} (h : L[j]? = some c0) (s : Nat) (c : List Gl) : DS L s0 (j + 1) s c ↔ DS L s0 j s c ∨ (s = s0 ∧ c = c0) := by
  unfold DS
  rw [List.take_add_one, h, Option.toList_some, List.mem_append, List.mem_singleton]
  constructor
  · rintro (k | ⟨rfl, k | rfl⟩)
    · exact .inl (.inl k)
    · exact .inl (.inr ⟨rfl, k⟩)
    · exact .inr ⟨rfl, rfl⟩
  · rintro ((k | ⟨rfl, k⟩) | ⟨rfl, rfl⟩)
    · exact .inl k
    · exact .inr ⟨rfl, .inl k⟩
    · exact .inr ⟨rfl, .inr rfl⟩
theorem DS.over {L : List (List Gl)} {s0 : Nat} (s : Nat) (c : List Gl) : DS L (s0 + 1) 0 s c ↔ DS L s0 L.length s c := by
  unfold DS
  rw [List.take_length, List.take_zero]
  constructor
  · rintro (⟨k, k2⟩ | ⟨_, k⟩)
    · rcases Nat.lt_or_ge s s0 with k3 | k3
      · exact .inl ⟨k3, k2⟩
      · exact .inr ⟨by omega, k2⟩
    · simp at k
  · rintro (⟨k, k2⟩ | ⟨rfl, k⟩)
    · exact .inl ⟨by omega, k2⟩
    · exact .inl ⟨by omega, k⟩
/-- What the pairs of a relation's clauses and sets make is its row. -/
theorem BitsOf.row {p : Pg} {rows : List Nat} {r : Rl} {L : List (List Gl)} (hL : r.body.cl = some L) {a l N : Nat} (ha : r.arity = (a : Int)) (hl : r.locals = (l : Int)) {D : Nat → List Gl → Prop} (h : BitsOf p rows a N D) (e : ∀ s c, D s c ↔ c ∈ L ∧ s < 2 ^ (a + l)) : N = numTo (rowHit p rows r) (2 ^ r.arity.toNat) := by
  have e1 : r.arity.toNat = a := by omega
  have e2 : (r.arity + r.locals).toNat = a + l := by omega
  rw [e1]
  refine eq_numTo h.lt fun k hk => ?_
  rw [h.bit k hk]
  constructor
  · rintro ⟨s, c, h1, h2, h3⟩
    obtain ⟨h4, h5⟩ := (e s c).1 h1
    exact ⟨s, L, c, by rw [e2]; exact h5, by rw [e1]; exact h2, hL, h4, h3⟩
  · rintro ⟨s, L', c, h1, h2, h3, h4, h5⟩
    rw [hL] at h3
    cases h3
    rw [e2] at h1
    rw [e1] at h2
    exact ⟨s, c, (e s c).2 ⟨h4, h1⟩, h2, h5⟩
theorem take_stepN {p : Pg} {rows : List Nat} {i : Nat} {r : Rl} (h : p.rels[i]? = some r) : (stepN p rows).take (i + 1) = (stepN p rows).take i ++ [numTo (rowHit p rows r) (2 ^ r.arity.toNat)] := by
  rw [List.take_add_one]
  congr 1
  simp [stepN, h]
theorem rI_append (l m : List Nat) : rI (l ++ m) = rI l ++ rI m := by simp [rI]
theorem rI_length (l : List Nat) : (rI l).length = l.length := by simp [rI]
theorem ints_append (l m : List Int) : ints (l ++ m) = ints l ++ ints m := by simp [ints]
/-- A program and rows that fit it. -/
structure RowsIn (p : Pg) (rows : List Nat) : Prop where
  ok : p.Ok
  cls : ∀ r ∈ p.rels, r.body.cl ≠ none
  len : rows.length = p.rels.length
  lt : ∀ n ∈ rows, n < 65536
section
variable {μ : Mem}
set_option maxHeartbeats 8000000 in
theorem groundStep_spec {p : Pg} {v : Value} {rows : List Nat} {base : Option Addr} {cap : Nat} (hp : RepV μ p.d v) (hr : Sl μ 1 base rows.length ((rI rows).map D.i)) (hin : RowsIn p rows) :
    Spec Tryz.prog 134 [v, .slice base rows.length cap] μ fun v μ' => Fresh μ μ' (.sl 1 ((rI (stepN p rows)).map D.i)) v := by
  have hp0 := hp
  obtain ⟨q, rfl, hrl⟩ := Pg.inv hp
  have hn := hin.ok.1
  have hsl : (stepN p rows).length = p.rels.length := by simp [stepN]
  refine Spec.mk Tryz.func134 (by kernel_rfl) ?_
  intro r2 r17
  refine loop_intro (fun z : Nat × Option Nat × Nat × Mem => z.1 ≤ p.rels.length ∧ μ.Le z.2.2.2)
    (fun (i, b, k, μ') => ⟨[(1, .val (.slice base rows.length cap)), (2, .loc 0 r2 0), (5, .row 1 b (ints (rI ((stepN p rows).take i))).length k), (19, .val (.slice q.1 p.rels.length q.2)), (20, .val (.int .i64 p.rels.length)), (21, .val (.int .i64 i))], [(0, some (.cells r2 [.val (.slice q.1 p.rels.length q.2)] 67)), (1, some (.row b k 3 1 (ints (rI ((stepN p rows).take i)))))], 2, μ', Mem.nil⟩) (fun z => p.rels.length - z.1)
    (0, some r17, 0, μ) ⟨Nat.zero_le _, Mem.Le.refl _⟩ (fun (_, _, _, _) => ⟨rfl, rfl⟩) ⟨⟨rfl, rfl, rfl, rfl, rfl, rfl, trivial⟩, ⟨rfl, rfl, trivial⟩, rfl, rfl⟩ ?_
  rintro ⟨i, b, k, μ'⟩ ⟨hi, hle⟩
  dsimp only at hi hle
  refine ifd (fun hlt => ?_) (fun hlt => ?_)
  rotate_left
  · obtain rfl : i = p.rels.length := by omega
    rw [List.take_of_length_le (by omega)]
    refine ret_frz [1] fun μ2 hle2 hno hat => .inl ?_
    have hil : (ints (rI (stepN p rows))).length = p.rels.length := by rw [ints, List.length_map, rI_length, hsl]
    have := Fresh.ofRow (ints_own (rI (stepN p rows))) (fun _ _ h => nomatch h) (fun _ h => absurd rfl h) hle hle2 hno hat (Nat.le_trans (m := 1000) (by omega) (by decide))
    simpa [ints] using this
  obtain ⟨x, hx⟩ := at_some (l := p.rels) (i := i) (by omega)
  obtain ⟨ad, q2, hel, _, hb⟩ := Rl.elemA (hrl.mono hle) hx
  have hb : RepV μ' x.body.d (.agg (x.body.cs q2).toArray) := hb
  have hrok := hin.ok.2 i x hx
  obtain ⟨a, ha⟩ := Int.eq_ofNat_of_zero_le hrok.ar0
  obtain ⟨l, hl⟩ := Int.eq_ofNat_of_zero_le hrok.lo0
  have har4 := hrok.ar4
  have hlo8 := hrok.lo8
  have hsh : IntKind.i64.wrap (1 * 2 ^ (min x.arity.toNat IntKind.i64.bits)) = ((2 ^ a : Nat) : Int) := by rw [ha]; exact shl_one (by omega)
  have h2a : 2 ^ a ≤ 2 ^ 4 := Nat.pow_le_pow_right (by omega) (by omega)
  have h2m : 2 ^ (a + l) ≤ 2 ^ 12 := Nat.pow_le_pow_right (by omega) (by omega)
  have e24 : (2 : Nat) ^ 4 = 16 := by decide
  have e212 : (2 : Nat) ^ 12 = 4096 := by decide
  have h1a : 0 < 2 ^ a := Nat.two_pow_pos _
  have h22 : (2 : Nat) ^ (2 ^ a) ≤ 2 ^ 16 := Nat.pow_le_pow_right (by omega) (by omega)
  have e216 : (2 : Nat) ^ 16 = 65536 := by decide
  refine elem_intro hel ?_
  intro r7
  refine call_plain (clausesOf_spec x.body hb hrok.body (by have := hrok.size; omega)) fun v1 μ1 hle1 hR => ?_
  obtain ⟨L, hL⟩ := Option.ne_none_iff_exists'.1 (hin.cls x (mem_at hx))
  rw [hL] at hR
  obtain ⟨tv, rfl, hLr⟩ := hR
  obtain ⟨pv, rfl⟩ := hLr.inv
  have hLs := (Cls.sl hLr).1
  have hLb := Gl.cl_bnd x.body hL
  have hsz := hrok.size
  refine loop_intro (fun z : Nat × Nat => z.1 ≤ L.length ∧ BitsOf p rows a z.2 (DI L (2 ^ (a + l)) z.1 0))
    (fun (j, N) => ⟨[(1, .val (.slice base rows.length cap)), (2, .loc 0 r2 0), (5, .row 1 b (ints (rI ((stepN p rows).take i))).length k), (7, .loc 2 r7 0), (8, .val (.int .i64 (N : Nat))), (19, .val (.slice q.1 p.rels.length q.2)), (20, .val (.int .i64 p.rels.length)), (21, .val (.int .i64 i)), (31, .val (.slice pv.1 L.length pv.2)), (32, .val (.int .i64 L.length)), (33, .val (.int .i64 j))], [(0, some (.cells r2 [.val (.slice q.1 p.rels.length q.2)] 67)), (1, some (.row b k 3 1 (ints (rI ((stepN p rows).take i))))), (2, some (.cells r7 [.val (.string x.name), .val (.int .i64 x.arity), .val (.int .i64 x.locals), .val (.int .i64 x.body.kind), .val (.string x.body.name), .val (.slice q2.1.1 x.body.terms.length q2.1.2), .val (.slice q2.2.1 x.body.goals.length q2.2.2)] 143))], 3, μ1, Mem.nil⟩) (fun z => L.length - z.1)
    (0, 0) ⟨Nat.zero_le _, BitsOf.zero fun s c h => by rcases h with ⟨h, _⟩ | ⟨_, h⟩ <;> simp at h⟩ (fun (_, _) => ⟨rfl, rfl⟩) ⟨⟨rfl, rfl, rfl, rfl, rfl, rfl, rfl, rfl, rfl, rfl, rfl, trivial⟩, ⟨rfl, rfl, rfl, trivial⟩, rfl, rfl⟩ ?_
  rintro ⟨j, N⟩ ⟨hj, hB⟩
  dsimp only at hj hB
  refine ifd (fun hltj => ?_) (fun hltj => ?_)
  rotate_left
  · obtain rfl : j = L.length := by omega
    have hN := hB.row hL ha hl fun s c => by
      unfold DI
      rw [List.take_length]
      constructor
      · rintro (h | ⟨_, h⟩)
        · exact h
        · omega
      · exact .inl
    intro r75
    have hil : (ints (rI ((stepN p rows).take i))).length ≤ 8 := by rw [ints, List.length_map, rI_length, List.length_take]; omega
    refine grow_intro ?_ ?_ fun b' k' _ => ?_
    · show (_ + 1) * 8 ≤ _; omega
    · exact Nat.le_trans (m := 1000) (show _ + 1 ≤ _ by omega) (by decide)
    have ez : ints (rI ((stepN p rows).take (i + 1))) = ints (rI ((stepN p rows).take i)) ++ [.int .i64 (N : Nat)] := by
      rw [take_stepN hx, rI_append, ints_append, ← hN]; rfl
    refine num64 (by omega) (by omega) ⟨(i + 1, b', k', μ1), ⟨by dsimp only; omega, hle.trans hle1⟩, by dsimp only; omega, ?_⟩
    dsimp only
    rw [ez]
    exact ⟨⟨rfl, rfl, by rw [List.length_append]; rfl, rfl, rfl, rfl, trivial⟩, ⟨rfl, rfl, trivial⟩, rfl, rfl⟩
  obtain ⟨c, hc⟩ := at_some (l := L) (i := j) (by omega)
  obtain ⟨ad2, pc, hel2, hrc⟩ := cls_elem hLs hc
  have hcl := hLb.1 c (mem_at hc)
  have hcs : Sl μ1 4 pc.1 c.length (c.map Gl.d) := by
    obtain ⟨b', c', e1, hs⟩ := Rep.sl (xs := c.map Gl.d) hrc
    obtain ⟨rfl, _, _⟩ := Value.slice.inj e1
    simpa using hs
  refine elem_intro hel2 ?_
  refine loop_intro (fun z : Nat × Nat => z.1 ≤ 2 ^ (a + l) ∧ BitsOf p rows a z.2 (DI L (2 ^ (a + l)) j z.1))
    (fun (s, N) => ⟨[(1, .val (.slice base rows.length cap)), (2, .loc 0 r2 0), (5, .row 1 b (ints (rI ((stepN p rows).take i))).length k), (7, .loc 2 r7 0), (8, .val (.int .i64 (N : Nat))), (12, .val (.slice pc.1 c.length pc.2)), (13, .val (.int .i64 (s : Nat))), (19, .val (.slice q.1 p.rels.length q.2)), (20, .val (.int .i64 p.rels.length)), (21, .val (.int .i64 i)), (31, .val (.slice pv.1 L.length pv.2)), (32, .val (.int .i64 L.length)), (33, .val (.int .i64 j))], [(0, some (.cells r2 [.val (.slice q.1 p.rels.length q.2)] 67)), (1, some (.row b k 3 1 (ints (rI ((stepN p rows).take i))))), (2, some (.cells r7 [.val (.string x.name), .val (.int .i64 x.arity), .val (.int .i64 x.locals), .val (.int .i64 x.body.kind), .val (.string x.body.name), .val (.slice q2.1.1 x.body.terms.length q2.1.2), .val (.slice q2.2.1 x.body.goals.length q2.2.2)] 143))], 3, μ1, Mem.nil⟩) (fun z => 2 ^ (a + l) - z.1)
    (0, N) ⟨Nat.zero_le _, hB⟩ (fun (_, _) => ⟨rfl, rfl⟩) ⟨⟨rfl, rfl, rfl, rfl, rfl, rfl, rfl, rfl, rfl, rfl, rfl, rfl, rfl, trivial⟩, ⟨rfl, rfl, rfl, trivial⟩, rfl, rfl⟩ ?_
  clear hB
  rintro ⟨s, N⟩ ⟨hs, hB⟩
  dsimp only at hs hB
  have hNlt := hB.lt
  refine num_eq (x := ((a + l : Nat) : Int)) (by rw [wrap64 (by omega) (by omega)]; omega) ?_
  refine need_intro (Int.natCast_nonneg _) ?_
  refine num_eq (shl_one (by omega)) ?_
  refine ifd (fun hlts => ?_) (fun hlts => ?_)
  rotate_left
  · obtain rfl : s = 2 ^ (a + l) := by omega
    exact num64 (by omega) (by omega) ⟨(j + 1, N), ⟨by dsimp only; omega, hB.congr (DI.over hc)⟩, by dsimp only; omega, ⟨⟨rfl, rfl, rfl, rfl, rfl, rfl, rfl, rfl, rfl, rfl, rfl, trivial⟩, ⟨rfl, rfl, rfl, trivial⟩, rfl, rfl⟩⟩
  refine loop_intro (fun z : Nat × Bool => z.1 ≤ c.length ∧ (z.2 = true ↔ ∀ g ∈ c.take z.1, fitG p rows s g))
    (fun (m, f) => ⟨[(1, .val (.slice base rows.length cap)), (2, .loc 0 r2 0), (5, .row 1 b (ints (rI ((stepN p rows).take i))).length k), (7, .loc 2 r7 0), (8, .val (.int .i64 (N : Nat))), (12, .val (.slice pc.1 c.length pc.2)), (13, .val (.int .i64 (s : Nat))), (14, .val (.bool f)), (19, .val (.slice q.1 p.rels.length q.2)), (20, .val (.int .i64 p.rels.length)), (21, .val (.int .i64 i)), (31, .val (.slice pv.1 L.length pv.2)), (32, .val (.int .i64 L.length)), (33, .val (.int .i64 j)), (47, .val (.slice pc.1 c.length pc.2)), (48, .val (.int .i64 c.length)), (49, .val (.int .i64 m))], [(0, some (.cells r2 [.val (.slice q.1 p.rels.length q.2)] 67)), (1, some (.row b k 3 1 (ints (rI ((stepN p rows).take i))))), (2, some (.cells r7 [.val (.string x.name), .val (.int .i64 x.arity), .val (.int .i64 x.locals), .val (.int .i64 x.body.kind), .val (.string x.body.name), .val (.slice q2.1.1 x.body.terms.length q2.1.2), .val (.slice q2.2.1 x.body.goals.length q2.2.2)] 143))], 3, μ1, Mem.nil⟩) (fun z => c.length - z.1)
    (0, true) ⟨Nat.zero_le _, by simp⟩ (fun (_, _) => ⟨rfl, rfl⟩) ⟨⟨rfl, rfl, rfl, rfl, rfl, rfl, rfl, rfl, rfl, rfl, rfl, rfl, rfl, rfl, rfl, rfl, rfl, trivial⟩, ⟨rfl, rfl, rfl, trivial⟩, rfl, rfl⟩ ?_
  rintro ⟨m, f⟩ ⟨hm, hfine⟩
  dsimp only at hm hfine
  refine ifd (fun hltm => ?_) (fun hltm => ?_)
  · obtain ⟨g, hg⟩ := at_some (l := c) (i := m) (by omega)
    obtain ⟨ad3, pg, hel3, hrg⟩ := Gl.elem hcs hg
    have hgo := GOk.of hin.ok hin.len hin.lt hx hL (mem_at hc) (mem_at hg)
    have htk : (∀ y ∈ c.take (m + 1), fitG p rows s y) ↔ (∀ y ∈ c.take m, fitG p rows s y) ∧ fitG p rows s g := by
      rw [List.take_add_one, hg, Option.toList_some]
      constructor
      · exact fun h => ⟨fun y hy => h y (by simp [hy]), h g (by simp)⟩
      · rintro ⟨h1, h2⟩ y hy
        rcases List.mem_append.1 hy with hy | hy
        · exact h1 y hy
        · rw [List.mem_singleton.1 hy]; exact h2
    refine elem_intro hel3 ?_
    intro r16
    refine if_intro (fun hf => ?_) (fun hf => ?_)
    · refine call_gives (fitsGoal_spec ((hp0.mono hle).mono hle1) ((hr.mono hle).mono hle1) hrg (by omega) hgo) ?_
      refine num64 (by omega) (by omega) ⟨(m + 1, decide (fitG p rows s g)), ⟨by dsimp only; omega, ?_⟩, by dsimp only; omega, ⟨⟨rfl, rfl, rfl, rfl, rfl, rfl, rfl, rfl, rfl, rfl, rfl, rfl, rfl, rfl, rfl, rfl, rfl, trivial⟩, ⟨rfl, rfl, rfl, trivial⟩, rfl, rfl⟩⟩
      dsimp only
      rw [htk, decide_eq_true_eq]
      exact ⟨fun h => ⟨hfine.1 hf, h⟩, fun h => h.2⟩
    · refine num64 (by omega) (by omega) ⟨(m + 1, false), ⟨by dsimp only; omega, ?_⟩, by dsimp only; omega, ⟨⟨rfl, rfl, rfl, rfl, rfl, rfl, rfl, rfl, rfl, rfl, rfl, rfl, rfl, rfl, rfl, rfl, rfl, trivial⟩, ⟨rfl, rfl, rfl, trivial⟩, rfl, rfl⟩⟩
      dsimp only
      rw [htk]
      exact ⟨(fun h => nomatch h), fun h => by rw [hfine.2 h.1] at hf; cases hf⟩
  obtain rfl : m = c.length := by omega
  rw [List.take_length] at hfine
  have hmod : s % 2 ^ a < 2 ^ a := Nat.mod_lt _ h1a
  have hp2 : 2 ^ (s % 2 ^ a) ≤ 2 ^ 16 := Nat.pow_le_pow_right (by omega) (by omega)
  refine if_intro (fun hf => ?_) (fun hf => ?_)
  · have hfit := hfine.1 hf
    refine need_intro hrok.ar0 ?_
    refine num_eq hsh ?_
    refine num_eq (x := ((2 ^ a - 1 : Nat) : Int)) (by rw [wrap64 (by omega) (by omega)]; omega) ?_
    refine num_eq (x := ((s % 2 ^ a : Nat) : Int)) (by rw [bits_and_i64 _ _ (by omega) (by omega), Nat.and_two_pow_sub_one_eq_mod]) ?_
    refine need_intro (Int.natCast_nonneg _) ?_
    refine num_eq (shl_one (by omega)) ?_
    refine num_eq (bits_or_i64 _ _ (by omega) (by omega)) ?_
    exact num64 (by omega) (by omega) ⟨(s + 1, N ||| 2 ^ (s % 2 ^ a)), ⟨by dsimp only; omega, hB.hit hfit (DI.next hc)⟩, by dsimp only; omega, ⟨⟨rfl, rfl, rfl, rfl, rfl, rfl, rfl, rfl, rfl, rfl, rfl, rfl, rfl, trivial⟩, ⟨rfl, rfl, rfl, trivial⟩, rfl, rfl⟩⟩
  · have hnf : ¬ ∀ g ∈ c, fitG p rows s g := fun k => by rw [hfine.2 k] at hf; cases hf
    exact num64 (by omega) (by omega) ⟨(s + 1, N), ⟨by dsimp only; omega, hB.miss hnf (DI.next hc)⟩, by dsimp only; omega, ⟨⟨rfl, rfl, rfl, rfl, rfl, rfl, rfl, rfl, rfl, rfl, rfl, rfl, rfl, trivial⟩, ⟨rfl, rfl, rfl, trivial⟩, rfl, rfl⟩⟩
end
end Go.Vx

/- Contracts: one step of groundness, the reference's side. -/
namespace Go.Vx
open Go.Proofs Classical
section
variable {μ : Mem}
theorem rel_wd {p : Pg} (hw : p.d.wd) {i : Nat} {x : Rl} (hx : p.rels[i]? = some x) : x.body.d.wd := by
  have hw2 : D.wds (p.rels.map Rl.d) := by rw [Pg.d_eq] at hw; exact hw.1
  have h := D.wds_mem hw2 _ (mem_at (at_map (f := Rl.d) hx))
  rw [Rl.d_eq] at h; exact h.2.2.2.1
set_option maxHeartbeats 8000000 in
theorem l30Step_spec {p : Pg} {v : Value} {rows : List Nat} {base : Option Addr} {cap : Nat} (hp : RepV μ p.d v) (hw : p.d.wd) (hr : Sl μ 1 base rows.length ((rI rows).map D.i)) (hin : RowsIn p rows) :
    Spec Tryz.prog 132 [v, .slice base rows.length cap] μ fun v μ' => RepV μ' (.sl 1 ((rI (stepN p rows)).map D.i)) v := by
  have hp0 := hp
  obtain ⟨q, rfl, hrl⟩ := Pg.inv hp
  have hn := hin.ok.1
  have hsl : (stepN p rows).length = p.rels.length := by simp [stepN]
  refine Spec.mk Tryz.func132 (by kernel_rfl) ?_
  intro r2 r17
  refine loop_intro (fun z : Nat × Option Nat × Nat × Mem => z.1 ≤ p.rels.length ∧ μ.Le z.2.2.2)
    (fun (i, b, k, μ') => ⟨[(1, .val (.slice base rows.length cap)), (2, .loc 0 r2 0), (5, .row 1 b (ints (rI ((stepN p rows).take i))).length k), (16, .val (.slice q.1 p.rels.length q.2)), (17, .val (.int .i64 p.rels.length)), (18, .val (.int .i64 i))], [(0, some (.cells r2 [.val (.slice q.1 p.rels.length q.2)] 67)), (1, some (.row b k 3 1 (ints (rI ((stepN p rows).take i)))))], 2, μ', Mem.nil⟩) (fun z => p.rels.length - z.1)
    (0, some r17, 0, μ) ⟨Nat.zero_le _, Mem.Le.refl _⟩ (fun (_, _, _, _) => ⟨rfl, rfl⟩) ⟨⟨rfl, rfl, rfl, rfl, rfl, rfl, trivial⟩, ⟨rfl, rfl, trivial⟩, rfl, rfl⟩ ?_
  rintro ⟨i, b, k, μ'⟩ ⟨hi, hle⟩
  dsimp only at hi hle
  refine ifd (fun hlt => ?_) (fun hlt => ?_)
  rotate_left
  · obtain rfl : i = p.rels.length := by omega
    rw [List.take_of_length_le (by omega)]
    refine ret_frz [1] fun μ2 hle2 hno hat => .inl ?_
    have hil : (ints (rI (stepN p rows))).length = p.rels.length := by rw [ints, List.length_map, rI_length, hsl]
    exact Ints.sl hat (Nat.le_trans (m := 1000) (by rw [rI_length]; omega) (by decide))
  obtain ⟨x, hx⟩ := at_some (l := p.rels) (i := i) (by omega)
  obtain ⟨ad, q2, hel, _, hb⟩ := Rl.elemA (hrl.mono hle) hx
  have hb : RepV μ' x.body.d (.agg (x.body.cs q2).toArray) := hb
  have hrok := hin.ok.2 i x hx
  obtain ⟨a, ha⟩ := Int.eq_ofNat_of_zero_le hrok.ar0
  obtain ⟨l, hl⟩ := Int.eq_ofNat_of_zero_le hrok.lo0
  have har4 := hrok.ar4
  have hlo8 := hrok.lo8
  have hsh : IntKind.i64.wrap (1 * 2 ^ (min x.arity.toNat IntKind.i64.bits)) = ((2 ^ a : Nat) : Int) := by rw [ha]; exact shl_one (by omega)
  have h2a : 2 ^ a ≤ 2 ^ 4 := Nat.pow_le_pow_right (by omega) (by omega)
  have h2m : 2 ^ (a + l) ≤ 2 ^ 12 := Nat.pow_le_pow_right (by omega) (by omega)
  have e24 : (2 : Nat) ^ 4 = 16 := by decide
  have e212 : (2 : Nat) ^ 12 = 4096 := by decide
  have h1a : 0 < 2 ^ a := Nat.two_pow_pos _
  have h22 : (2 : Nat) ^ (2 ^ a) ≤ 2 ^ 16 := Nat.pow_le_pow_right (by omega) (by omega)
  have e216 : (2 : Nat) ^ 16 = 65536 := by decide
  refine elem_intro hel ?_
  intro r7
  refine call_plain (ClausesOf_spec hb (rel_wd hw hx) ⟨hrok.body, by have := hrok.size; omega⟩) fun v1 μ1 hle1 hR => ?_
  obtain ⟨L, hL⟩ := Option.ne_none_iff_exists'.1 (hin.cls x (mem_at hx))
  rw [hL] at hR
  obtain ⟨tv, rfl, hLr⟩ := hR
  obtain ⟨pv, rfl⟩ := hLr.inv
  have hLs := (Cls.sl hLr).1
  have hLb := Gl.cl_bnd x.body hL
  have hsz := hrok.size
  refine loop_intro (fun z : Nat × Nat => z.1 ≤ 2 ^ (a + l) ∧ BitsOf p rows a z.2 (DS L z.1 0))
    (fun (s, N) => ⟨[(1, .val (.slice base rows.length cap)), (2, .loc 0 r2 0), (5, .row 1 b (ints (rI ((stepN p rows).take i))).length k), (7, .loc 2 r7 0), (8, .val (.slice pv.1 L.length pv.2)), (10, .val (.int .i64 (N : Nat))), (11, .val (.int .i64 (s : Nat))), (16, .val (.slice q.1 p.rels.length q.2)), (17, .val (.int .i64 p.rels.length)), (18, .val (.int .i64 i))], [(0, some (.cells r2 [.val (.slice q.1 p.rels.length q.2)] 67)), (1, some (.row b k 3 1 (ints (rI ((stepN p rows).take i))))), (2, some (.cells r7 [.val (.string x.name), .val (.int .i64 x.arity), .val (.int .i64 x.locals), .val (.int .i64 x.body.kind), .val (.string x.body.name), .val (.slice q2.1.1 x.body.terms.length q2.1.2), .val (.slice q2.2.1 x.body.goals.length q2.2.2)] 143))], 3, μ1, Mem.nil⟩) (fun z => 2 ^ (a + l) - z.1)
    (0, 0) ⟨Nat.zero_le _, BitsOf.zero fun s c h => by rcases h with ⟨h, _⟩ | ⟨_, h⟩ <;> simp at h⟩ (fun (_, _) => ⟨rfl, rfl⟩) ⟨⟨rfl, rfl, rfl, rfl, rfl, rfl, rfl, rfl, rfl, rfl, trivial⟩, ⟨rfl, rfl, rfl, trivial⟩, rfl, rfl⟩ ?_
  rintro ⟨s, N⟩ ⟨hs, hB⟩
  dsimp only at hs hB
  refine num_eq (x := ((a + l : Nat) : Int)) (by rw [wrap64 (by omega) (by omega)]; omega) ?_
  refine need_intro (Int.natCast_nonneg _) ?_
  refine num_eq (shl_one (by omega)) ?_
  refine ifd (fun hlts => ?_) (fun hlts => ?_)
  rotate_left
  · obtain rfl : s = 2 ^ (a + l) := by omega
    have hN := hB.row hL ha hl fun s c => by
      unfold DS
      constructor
      · rintro (⟨h1, h2⟩ | ⟨_, h⟩)
        · exact ⟨h2, h1⟩
        · simp at h
      · exact fun h => .inl ⟨h.2, h.1⟩
    intro r75
    have hil : (ints (rI ((stepN p rows).take i))).length ≤ 8 := by rw [ints, List.length_map, rI_length, List.length_take]; omega
    refine grow_intro ?_ ?_ fun b' k' _ => ?_
    · show (_ + 1) * 8 ≤ _; omega
    · exact Nat.le_trans (m := 1000) (show _ + 1 ≤ _ by omega) (by decide)
    have ez : ints (rI ((stepN p rows).take (i + 1))) = ints (rI ((stepN p rows).take i)) ++ [.int .i64 (N : Nat)] := by
      rw [take_stepN hx, rI_append, ints_append, ← hN]; rfl
    refine num64 (by omega) (by omega) ⟨(i + 1, b', k', μ1), ⟨by dsimp only; omega, hle.trans hle1⟩, by dsimp only; omega, ?_⟩
    dsimp only
    rw [ez]
    exact ⟨⟨rfl, rfl, by rw [List.length_append]; rfl, rfl, rfl, rfl, trivial⟩, ⟨rfl, rfl, trivial⟩, rfl, rfl⟩
  refine loop_intro (fun z : Nat × Nat => z.1 ≤ L.length ∧ BitsOf p rows a z.2 (DS L s z.1))
    (fun (j, N) => ⟨[(1, .val (.slice base rows.length cap)), (2, .loc 0 r2 0), (5, .row 1 b (ints (rI ((stepN p rows).take i))).length k), (7, .loc 2 r7 0), (8, .val (.slice pv.1 L.length pv.2)), (10, .val (.int .i64 (N : Nat))), (11, .val (.int .i64 (s : Nat))), (16, .val (.slice q.1 p.rels.length q.2)), (17, .val (.int .i64 p.rels.length)), (18, .val (.int .i64 i)), (38, .val (.slice pv.1 L.length pv.2)), (39, .val (.int .i64 L.length)), (40, .val (.int .i64 j))], [(0, some (.cells r2 [.val (.slice q.1 p.rels.length q.2)] 67)), (1, some (.row b k 3 1 (ints (rI ((stepN p rows).take i))))), (2, some (.cells r7 [.val (.string x.name), .val (.int .i64 x.arity), .val (.int .i64 x.locals), .val (.int .i64 x.body.kind), .val (.string x.body.name), .val (.slice q2.1.1 x.body.terms.length q2.1.2), .val (.slice q2.2.1 x.body.goals.length q2.2.2)] 143))], 3, μ1, Mem.nil⟩) (fun z => L.length - z.1)
    (0, N) ⟨Nat.zero_le _, hB⟩ (fun (_, _) => ⟨rfl, rfl⟩) ⟨⟨rfl, rfl, rfl, rfl, rfl, rfl, rfl, rfl, rfl, rfl, rfl, rfl, rfl, trivial⟩, ⟨rfl, rfl, rfl, trivial⟩, rfl, rfl⟩ ?_
  clear hB
  rintro ⟨j, N⟩ ⟨hj, hB⟩
  dsimp only at hj hB
  have hNlt := hB.lt
  refine ifd (fun hltj => ?_) (fun hltj => ?_)
  rotate_left
  · obtain rfl : j = L.length := by omega
    exact num64 (by omega) (by omega) ⟨(s + 1, N), ⟨by dsimp only; omega, hB.congr DS.over⟩, by dsimp only; omega, ⟨⟨rfl, rfl, rfl, rfl, rfl, rfl, rfl, rfl, rfl, rfl, trivial⟩, ⟨rfl, rfl, rfl, trivial⟩, rfl, rfl⟩⟩
  obtain ⟨c, hc⟩ := at_some (l := L) (i := j) (by omega)
  obtain ⟨ad2, pc, hel2, hrc⟩ := cls_elem hLs hc
  have hcs : Sl μ1 4 pc.1 c.length (c.map Gl.d) := by
    obtain ⟨b', c', e1, hs⟩ := Rep.sl (xs := c.map Gl.d) hrc
    obtain ⟨rfl, _, _⟩ := Value.slice.inj e1
    simpa using hs
  refine elem_intro hel2 ?_
  refine call_gives (l30Fits_spec ((hp0.mono hle).mono hle1) ((hr.mono hle).mono hle1) hcs (by omega) fun g hg => ?_) ?_
  · exact GOk.of hin.ok hin.len hin.lt hx hL (mem_at hc) hg
  have hmod : s % 2 ^ a < 2 ^ a := Nat.mod_lt _ h1a
  have hp2 : 2 ^ (s % 2 ^ a) ≤ 2 ^ 16 := Nat.pow_le_pow_right (by omega) (by omega)
  refine ifd (fun hfit => ?_) (fun hnf => ?_)
  · refine need_intro hrok.ar0 ?_
    refine num_eq hsh ?_
    refine num_eq (x := ((2 ^ a - 1 : Nat) : Int)) (by rw [wrap64 (by omega) (by omega)]; omega) ?_
    refine num_eq (x := ((s % 2 ^ a : Nat) : Int)) (by rw [bits_and_i64 _ _ (by omega) (by omega), Nat.and_two_pow_sub_one_eq_mod]) ?_
    refine need_intro (Int.natCast_nonneg _) ?_
    refine num_eq (shl_one (by omega)) ?_
    refine num_eq (bits_or_i64 _ _ (by omega) (by omega)) ?_
    exact num64 (by omega) (by omega) ⟨(j + 1, N ||| 2 ^ (s % 2 ^ a)), ⟨by dsimp only; omega, hB.hit hfit (DS.next hc)⟩, by dsimp only; omega, ⟨⟨rfl, rfl, rfl, rfl, rfl, rfl, rfl, rfl, rfl, rfl, rfl, rfl, rfl, trivial⟩, ⟨rfl, rfl, rfl, trivial⟩, rfl, rfl⟩⟩
  · exact num64 (by omega) (by omega) ⟨(j + 1, N), ⟨by dsimp only; omega, hB.miss hnf (DS.next hc)⟩, by dsimp only; omega, ⟨⟨rfl, rfl, rfl, rfl, rfl, rfl, rfl, rfl, rfl, rfl, rfl, rfl, rfl, trivial⟩, ⟨rfl, rfl, rfl, trivial⟩, rfl, rfl⟩⟩
end
end Go.Vx

/- Contracts: one step of groundness asked for; the rows in the end: both sides. -/
namespace Go.Vx
open Go.Proofs Classical
def optI (P : List Int → Value → Prop) (o : Option (List Int)) (v : Value) : Prop := match o with
  | some y => ∃ tv, v = .tuple #[tv, .bool true] ∧ P y tv
  | none => v = .tuple #[.slice none 0 0, .bool false]
noncomputable def endN (p : Pg) : List Nat := if h : ∃ n, stepsN p (n + 1) = stepsN p n then stepsN p h.choose else []
theorem endN_eq {p : Pg} {n : Nat} (h : stepsN p (n + 1) = stepsN p n) : endN p = stepsN p n := by
  have k : ∃ n, stepsN p (n + 1) = stepsN p n := ⟨n, h⟩
  rw [endN, dif_pos k]
  exact stepsN_uniq k.choose_spec h
noncomputable def gRows (p : Pg) : Option (List Int) := if RowsFit p (rI (stepsN p 0)) then some (rI (endN p)) else none
theorem rI_inj {a b : List Nat} (h : rI a = rI b) : a = b := by
  have := congrArg (List.map Int.toNat) h
  simpa [rI, List.map_map, Function.comp_def] using this
theorem zeros_ints (p : Pg) : List.replicate p.rels.length (Value.int .i64 0) = ints (rI (stepsN p 0)) := by
  simp only [ints, rI, stepsN, List.map_map, Function.comp_def]
  rw [List.map_const']
  rfl
section
variable {μ : Mem}
theorem l30Same_spec {l m : List Int} {base base2 : Option Addr} {cap cap2 : Nat} (hl : Sl μ 1 base l.length (l.map D.i)) (hm : Sl μ 1 base2 m.length (m.map D.i)) :
    Gives Tryz.prog 135 [.slice base l.length cap, .slice base2 m.length cap2] μ (.bool (decide (l = m))) := by
  have hn := maxLen_le hl.max
  refine Spec.mk Tryz.func135 (by kernel_rfl) ?_
  refine ifnd (fun h => ret_gives (isF fun k => h (by rw [k])) rfl) (fun h => ?_)
  have hlen : l.length = m.length := by omega
  refine loop_intro (fun i : Nat => i ≤ l.length ∧ l.take i = m.take i)
    (fun i => ⟨[(1, .val (.slice base2 m.length cap2)), (12, .val (.slice base l.length cap)), (13, .val (.int .i64 l.length)), (14, .val (.int .i64 i))], [], 0, μ, Mem.nil⟩) (fun i => l.length - i)
    0 ⟨Nat.zero_le _, by simp⟩ (fun _ => ⟨rfl, rfl⟩) ⟨⟨rfl, rfl, rfl, rfl, trivial⟩, trivial, rfl, rfl⟩ ?_
  rintro i ⟨hi, hall⟩
  refine ifd (fun hlt => ?_) (fun hlt => ?_)
  · obtain ⟨x, hx⟩ := at_some (l := l) (i := i) (by omega)
    obtain ⟨y, hy⟩ := at_some (l := m) (i := i) (by omega)
    obtain ⟨ad, hel⟩ := Ints.elem hl hx
    obtain ⟨ad2, hel2⟩ := Ints.elem hm hy
    refine elem_intro hel (elem_intro hel2 ?_)
    refine ifnd (fun h => ret_gives (isF fun k => h ?_) rfl) (fun h => ?_)
    · rw [k, hy] at hx; cases hx; rfl
    · refine num64 (by omega) (by omega) ⟨i + 1, ⟨by omega, ?_⟩, by omega, ⟨⟨rfl, rfl, rfl, rfl, trivial⟩, trivial, rfl, rfl⟩⟩
      have h : x = y := h
      rw [List.take_add_one, List.take_add_one, hx, hy, hall, h]
  · obtain rfl : i = l.length := by omega
    rw [List.take_length, hlen, List.take_length] at hall
    exact ret_gives (isT hall) rfl
/-- What a round knows of its rows. -/
theorem steps_in {p : Pg} (h : RowsFit p (rI (stepsN p 0))) (n : Nat) : RowsIn p (stepsN p n) :=
  ⟨h.pos.1, h.cls, stepsN_len p n, stepsN_lt (fun r hr => by
    obtain ⟨i, hi⟩ := List.mem_iff_getElem?.1 hr
    have := (h.pos.1.2 i r hi).ar4
    omega) n⟩
theorem steps_more {p : Pg} (h : RowsFit p (rI (stepsN p 0))) {n : Nat} (k : stepsN p (n + 1) ≠ stepsN p n) : 65536 * p.rels.length + 1 - (stepsN p (n + 1)).sum < 65536 * p.rels.length + 1 - (stepsN p n).sum := by
  have h1 := stepsN_sum p n k
  have h2 := sum_bnd (N := 65536) (l := stepsN p (n + 1)) fun x hx => Nat.le_of_lt ((steps_in h (n + 1)).lt x hx)
  rw [stepsN_len] at h2
  omega
set_option maxHeartbeats 2000000 in
theorem spec_GroundRows_spec {p : Pg} {v : Value} (hp : RepV μ p.d v) (hw : p.d.wd) (hsz : p.rels.length ≤ 1048576) :
    Spec Tryz.prog 51 [v] μ fun v μ' => optI (fun y tv => RepV μ' (.sl 1 (y.map D.i)) tv) (gRows p) v := by
  have hp0 := hp
  obtain ⟨q, rfl, hrl⟩ := Pg.inv hp
  have hzl : (rI (stepsN p 0)).length = p.rels.length := by rw [rI_length, stepsN_len]
  refine Spec.mk Tryz.func51 (by kernel_rfl) ?_
  intro r1
  refine make_intro p.rels.length rfl rfl (by simp only; omega) (Nat.le_trans (m := 1048576) (by omega) (by decide)) ?_
  intro r11
  refine call_frz [1] fun μ1 hle1 hno1 hat1 => ?_
  have hat1 : RowAt μ1 (some r11) p.rels.length 1 (List.replicate p.rels.length (Value.int .i64 0)) := hat1
  rw [zeros_ints] at hat1
  have hz := Ints.sl hat1 (Nat.le_trans (m := 1048576) (by omega) (by decide))
  have hil : (ints (rI (stepsN p 0))).length = p.rels.length := by rw [ints, List.length_map, hzl]
  rw [hil] at hz
  have hzs : Sl μ1 1 (some ⟨r11, 0, none⟩) (rI (stepsN p 0)).length ((rI (stepsN p 0)).map D.i) := by
    obtain ⟨bz, cz, ez, hzs⟩ := Rep.sl hz
    obtain ⟨e1, _, _⟩ := Value.slice.inj ez
    rw [← e1, List.length_map] at hzs
    exact hzs
  have hok := spec_RowsOk_spec (hp0.mono hle1) hw (rows := rI (stepsN p 0)) (cap := p.rels.length) hzs
  rw [hzl] at hok
  refine call_go hok fun v2 μ2 hle2 hR => ?_
  obtain rfl := hR
  refine ifnd (fun h => ret_plain (by rw [gRows, if_neg h]; rfl)) (fun hfit => ?_)
  refine loop_frz (fun z : Nat × Option Addr × Nat × Mem => μ.Le z.2.2.2 ∧ RepV z.2.2.2 (.sl 1 ((rI (stepsN p z.1)).map D.i)) (.slice z.2.1 p.rels.length z.2.2.1))
    (fun (n, b, k, μ') => ⟨[(1, .loc 0 r1 0), (4, .val (.slice b p.rels.length k))], [(0, some (.cells r1 [.val (.slice q.1 p.rels.length q.2)] 67))], 2, μ', Mem.nil⟩) (fun z => 65536 * p.rels.length + 1 - (stepsN p z.1).sum) [1]
    (fun (_, _, _, _) => ⟨rfl, rfl⟩) ⟨(0, _, _, μ2), ⟨hle1.trans hle2, hz.mono hle2⟩, ⟨⟨rfl, rfl, trivial⟩, ⟨rfl, trivial⟩, rfl, rfl⟩⟩ ?_
  rintro ⟨n, b, k, μ'⟩ ⟨hle, hrep⟩
  dsimp only at hle hrep
  have hs : Sl μ' 1 b p.rels.length ((rI (stepsN p n)).map D.i) := by
    obtain ⟨bz, cz, ez, hzs⟩ := Rep.sl hrep
    obtain ⟨e1, _, _⟩ := Value.slice.inj ez
    rw [← e1, List.length_map, rI_length, stepsN_len] at hzs
    exact hzs
  have hst := l30Step_spec (hp0.mono hle) hw (rows := stepsN p n) (base := b) (cap := k) (by rw [stepsN_len]; exact hs) (steps_in hfit n)
  rw [stepsN_len] at hst
  refine call_plain hst fun v3 μ3 hle3 hR3 => ?_
  obtain ⟨b3, c3, rfl, hs3⟩ := Rep.sl hR3
  have hl3 : ((rI (stepN p (stepsN p n))).map D.i).length = p.rels.length := by
    rw [List.length_map, rI_length]
    exact stepsN_len p (n + 1)
  rw [hl3] at hs3 hR3 ⊢
  have e3 : (rI (stepsN p (n + 1))).length = p.rels.length := by rw [rI_length, stepsN_len]
  have e0 : (rI (stepsN p n)).length = p.rels.length := by rw [rI_length, stepsN_len]
  have hs0 : Sl μ3 1 b (rI (stepsN p n)).length ((rI (stepsN p n)).map D.i) := by rw [e0]; exact hs.mono hle3
  have hs3' : Sl μ3 1 b3 (rI (stepsN p (n + 1))).length ((rI (stepsN p (n + 1))).map D.i) := by rw [e3]; exact hs3
  have hsame := l30Same_spec (cap := k) (cap2 := c3) hs0 hs3'
  rw [e0, e3] at hsame
  refine call_gives hsame ?_
  refine ifd (fun hq => ?_) (fun hq => ?_)
  · refine ret_plain ?_
    rw [gRows, if_pos hfit, endN_eq (rI_inj hq).symm]
    exact ⟨_, rfl, hrep.mono hle3⟩
  · exact ⟨[], (n + 1, b3, c3, μ3), ⟨hle.trans hle3, hR3⟩, steps_more hfit fun k => hq (by rw [k]), ⟨⟨rfl, rfl, trivial⟩, ⟨rfl, trivial⟩, rfl, rfl⟩⟩
set_option maxHeartbeats 2000000 in
theorem impl_GroundRows_spec {p : Pg} {v : Value} (hp : RepV μ p.d v) (hsz : p.rels.length ≤ 1048576) :
    Spec Tryz.prog 52 [v] μ fun v μ' => optI (fun y tv => Fresh μ μ' (.sl 1 (y.map D.i)) tv) (gRows p) v := by
  have hp0 := hp
  obtain ⟨q, rfl, hrl⟩ := Pg.inv hp
  have hzl : (rI (stepsN p 0)).length = p.rels.length := by rw [rI_length, stepsN_len]
  refine Spec.mk Tryz.func52 (by kernel_rfl) ?_
  intro r1
  refine make_intro p.rels.length rfl rfl (by simp only; omega) (Nat.le_trans (m := 1048576) (by omega) (by decide)) ?_
  intro r11
  refine call_frz [1] fun μ1 hle1 hno1 hat1 => ?_
  have hat1 : RowAt μ1 (some r11) p.rels.length 1 (List.replicate p.rels.length (Value.int .i64 0)) := hat1
  rw [zeros_ints] at hat1
  have hz := Ints.sl hat1 (Nat.le_trans (m := 1048576) (by omega) (by decide))
  have hil : (ints (rI (stepsN p 0))).length = p.rels.length := by rw [ints, List.length_map, hzl]
  rw [hil] at hz
  have hzs : Sl μ1 1 (some ⟨r11, 0, none⟩) (rI (stepsN p 0)).length ((rI (stepsN p 0)).map D.i) := by
    obtain ⟨bz, cz, ez, hzs⟩ := Rep.sl hz
    obtain ⟨e1, _, _⟩ := Value.slice.inj ez
    rw [← e1, List.length_map] at hzs
    exact hzs
  have hok := impl_RowsOk_spec (hp0.mono hle1)  (rows := rI (stepsN p 0)) (cap := p.rels.length) hzs
  rw [hzl] at hok
  refine call_go hok fun v2 μ2 hle2 hR => ?_
  obtain rfl := hR
  refine ifnd (fun h => ret_plain (by rw [gRows, if_neg h]; rfl)) (fun hfit => ?_)
  have hf0 := Fresh.ofRow (ints_own (rI (stepsN p 0))) (fun _ _ h => nomatch h) (fun _ h => absurd rfl h) (Mem.Le.refl _) hle1 hno1 hat1 (Nat.le_trans (m := 1048576) (by omega) (by decide))
  rw [hil] at hf0
  refine loop_frz (fun z : Nat × Option Addr × Nat × Mem => μ.Le z.2.2.2 ∧ Fresh μ z.2.2.2 (.sl 1 ((rI (stepsN p z.1)).map D.i)) (.slice z.2.1 p.rels.length z.2.2.1))
    (fun (n, b, k, μ') => ⟨[(1, .loc 0 r1 0), (4, .val (.slice b p.rels.length k))], [(0, some (.cells r1 [.val (.slice q.1 p.rels.length q.2)] 67))], 2, μ', Mem.nil⟩) (fun z => 65536 * p.rels.length + 1 - (stepsN p z.1).sum) [1]
    (fun (_, _, _, _) => ⟨rfl, rfl⟩) ⟨(0, _, _, μ2), ⟨hle1.trans hle2, hf0.mono (Mem.Le.refl _) hle2⟩, ⟨⟨rfl, rfl, trivial⟩, ⟨rfl, trivial⟩, rfl, rfl⟩⟩ ?_
  rintro ⟨n, b, k, μ'⟩ ⟨hle, hfr⟩
  dsimp only at hle hfr
  have hrep := hfr.rep
  have hs : Sl μ' 1 b p.rels.length ((rI (stepsN p n)).map D.i) := by
    obtain ⟨bz, cz, ez, hzs⟩ := Rep.sl hrep
    obtain ⟨e1, _, _⟩ := Value.slice.inj ez
    rw [← e1, List.length_map, rI_length, stepsN_len] at hzs
    exact hzs
  have hst := groundStep_spec (hp0.mono hle) (rows := stepsN p n) (base := b) (cap := k) (by rw [stepsN_len]; exact hs) (steps_in hfit n)
  rw [stepsN_len] at hst
  refine call_plain hst fun v3 μ3 hle3 hR3 => ?_
  obtain ⟨b3, c3, rfl, hs3⟩ := Rep.sl hR3.rep
  have hl3 : ((rI (stepN p (stepsN p n))).map D.i).length = p.rels.length := by
    rw [List.length_map, rI_length]
    exact stepsN_len p (n + 1)
  rw [hl3] at hs3 hR3 ⊢
  have e3 : (rI (stepsN p (n + 1))).length = p.rels.length := by rw [rI_length, stepsN_len]
  have e0 : (rI (stepsN p n)).length = p.rels.length := by rw [rI_length, stepsN_len]
  have hs0 : Sl μ3 1 b (rI (stepsN p n)).length ((rI (stepsN p n)).map D.i) := by rw [e0]; exact hs.mono hle3
  have hs3' : Sl μ3 1 b3 (rI (stepsN p (n + 1))).length ((rI (stepsN p (n + 1))).map D.i) := by rw [e3]; exact hs3
  refine loop_intro (fun z : Nat × Bool => z.1 ≤ p.rels.length ∧ (z.2 = true ↔ (rI (stepsN p (n + 1))).take z.1 = (rI (stepsN p n)).take z.1))
    (fun (i, f) => ⟨[(1, .loc 0 r1 0), (4, .val (.slice b p.rels.length k)), (5, .val (.slice b3 p.rels.length c3)), (6, .val (.bool f)), (20, .val (.int .i64 p.rels.length)), (21, .val (.int .i64 i))], [(0, some (.cells r1 [.val (.slice q.1 p.rels.length q.2)] 67))], 2, μ3, Mem.nil⟩) (fun z => p.rels.length - z.1)
    (0, true) ⟨Nat.zero_le _, by simp⟩ (fun (_, _) => ⟨rfl, rfl⟩) ⟨⟨rfl, rfl, rfl, rfl, rfl, rfl, trivial⟩, ⟨rfl, trivial⟩, rfl, rfl⟩ ?_
  rintro ⟨i, f⟩ ⟨hi, hf⟩
  dsimp only at hi hf
  refine ifd (fun hlt => ?_) (fun hlt => ?_)
  · obtain ⟨x, hx⟩ := at_some (l := rI (stepsN p (n + 1))) (i := i) (by omega)
    obtain ⟨y, hy⟩ := at_some (l := rI (stepsN p n)) (i := i) (by omega)
    obtain ⟨ad, hel⟩ := Ints.elem hs3' hx
    obtain ⟨ad2, hel2⟩ := Ints.elem hs0 hy
    rw [e3] at hel
    rw [e0] at hel2
    have htk : ((rI (stepsN p (n + 1))).take (i + 1) = (rI (stepsN p n)).take (i + 1)) ↔ (rI (stepsN p (n + 1))).take i = (rI (stepsN p n)).take i ∧ x = y := by
      rw [List.take_add_one, List.take_add_one, hx, hy]
      constructor
      · intro h
        have := List.append_inj' h rfl
        exact ⟨this.1, by simpa using this.2⟩
      · rintro ⟨h1, rfl⟩; rw [h1]
    refine if_intro (fun hb => ?_) (fun hb => ?_)
    · refine elem_intro hel (elem_intro hel2 ?_)
      refine num64 (by omega) (by omega) ⟨(i + 1, decide (x = y)), ⟨by dsimp only; omega, ?_⟩, by dsimp only; omega, ⟨⟨rfl, rfl, rfl, rfl, rfl, rfl, trivial⟩, ⟨rfl, trivial⟩, rfl, rfl⟩⟩
      dsimp only
      rw [htk, decide_eq_true_eq]
      exact ⟨fun h => ⟨hf.1 hb, h⟩, fun h => h.2⟩
    · refine num64 (by omega) (by omega) ⟨(i + 1, false), ⟨by dsimp only; omega, ?_⟩, by dsimp only; omega, ⟨⟨rfl, rfl, rfl, rfl, rfl, rfl, trivial⟩, ⟨rfl, trivial⟩, rfl, rfl⟩⟩
      dsimp only
      rw [htk]
      exact ⟨(fun h => nomatch h), fun h => by rw [hf.2 h.1] at hb; cases hb⟩
  obtain rfl : i = p.rels.length := by omega
  rw [List.take_of_length_le (by omega), List.take_of_length_le (by omega)] at hf
  refine if_intro (fun hb => ?_) (fun hb => ?_)
  · refine ret_plain ?_
    rw [gRows, if_pos hfit, endN_eq (rI_inj (hf.1 hb))]
    exact ⟨_, rfl, hfr.mono (Mem.Le.refl _) hle3⟩
  · exact ⟨[], (n + 1, b3, c3, μ3), ⟨hle.trans hle3, hR3.mono hle (Mem.Le.refl _)⟩, steps_more hfit (fun k => by rw [hf.2 (by rw [k])] at hb; exact absurd hb (by decide)), ⟨⟨rfl, rfl, trivial⟩, ⟨rfl, trivial⟩, rfl, rfl⟩⟩
end
end Go.Vx

/- Plain: parts of a row changed about; sorted parts merged. -/
namespace Go.Vx
open Go.Sort
section
variable {α : Type} {lt : α → α → Bool}
end
section
variable {α : Type} [Inhabited α] {lt : α → α → Bool} {d c R : Array α}
/-- [a, a + n) and [b, b + n) changed about. -/
structure Sw (a b n : Nat) (d d' : Array α) : Prop where
  size : d'.size = d.size
  fst : ∀ t, t < n → d'[a + t]! = d[b + t]!
  snd : ∀ t, t < n → d'[b + t]! = d[a + t]!
  out : ∀ k, k < a ∨ a + n ≤ k → k < b ∨ b + n ≤ k → d'[k]! = d[k]!
theorem Sw.nil (a b : Nat) (d : Array α) : Sw a b 0 d d := ⟨rfl, fun t h => by omega, fun t h => by omega, fun _ _ _ => rfl⟩
theorem Sw.step {a b n : Nat} (h : Sw a b n d c) (h1 : a + n < b) (h2 : b + n < d.size) : Sw a b (n + 1) d (swp c (a + n) (b + n)) := by
  have g : ∀ k, (swp c (a + n) (b + n))[k]! = if k = b + n then c[a + n]! else if k = a + n then c[b + n]! else c[k]! := fun k => swp_get c (by rw [h.size]; omega) (by rw [h.size]; omega) k
  refine ⟨by rw [Go.Sort.swp_size, h.size], fun t ht => ?_, fun t ht => ?_, fun k hk1 hk2 => ?_⟩
  · rw [g, if_neg (by omega)]
    by_cases e : t = n
    · subst e; rw [if_pos rfl, h.out _ (by omega) (by omega)]
    · rw [if_neg (by omega), h.fst t (by omega)]
  · rw [g]
    by_cases e : t = n
    · subst e; rw [if_pos rfl, h.out _ (by omega) (by omega)]
    · rw [if_neg (by omega), if_neg (by omega), h.snd t (by omega)]
  · rw [g, if_neg (by omega), if_neg (by omega), h.out k (by omega) (by omega)]
/-- [a, m) and [m, b) changed about. -/
structure Rot (a m b : Nat) (d d' : Array α) : Prop where
  size : d'.size = d.size
  out : ∀ k, k < a ∨ b ≤ k → d'[k]! = d[k]!
  lo : ∀ t, t < b - m → d'[a + t]! = d[m + t]!
  hi : ∀ t, t < m - a → d'[a + (b - m) + t]! = d[a + t]!
theorem Rot.same {m i : Nat} (hi : i ≤ m) (s : Sw (m - i) m i d R) : Rot (m - i) m (m + i) d R where
  size := s.size
  out k hk := s.out k (by omega) (by omega)
  lo t ht := s.fst t (by omega)
  hi t ht := by rw [show m - i + (m + i - m) + t = m + t by omega]; exact s.snd t (by omega)
section
variable {s m e : Nat}
theorem SortedIn.sub {a b a' b' : Nat} (h : SortedIn lt a b d) (h1 : a ≤ a') (h2 : b' ≤ b) : SortedIn lt a' b' d := fun i j hi hij hj => h i j (by omega) hij (by omega)
/-- What a change about of [s, m) and [m, e) leaves: left and right of q = s + (e - m). -/
structure Cut (lt : α → α → Bool) (a s m e b : Nat) (d : Array α) : Prop where
  sa : a ≤ s
  sm : s ≤ m
  me : m ≤ e
  eb : e ≤ b
  lo : ∀ x y, a ≤ x → x < s → e ≤ y → y < b → lt d[y]! d[x]! = false
  hi : ∀ x y, s ≤ x → x < m → m ≤ y → y < e → lt d[x]! d[y]! = false
end
end
end Go.Vx

/- Plain: terms and substitutions in order. -/
namespace Go.Vx
open Go.Proofs Classical
/-- A comparison in three ways that makes a total order. -/
structure Ord3 {α : Type} (c : α → α → Int) : Prop where
  zero : ∀ x y, c x y = 0 ↔ x = y
  anti : ∀ x y, c x y < 0 ↔ 0 < c y x
  trans : ∀ x y z, c x y < 0 → c y z < 0 → c x z < 0
def lexI (p q : Int) : Int := if p = 0 then q else p
def cInt (a b : Int) : Int := if a = b then 0 else sgn (decide (a < b))
noncomputable def B.cmp (x y : B) : Int := lexI (cInt x.var y.var) (x.to.cmp y.to)
end Go.Vx

/- Plain: lists in strict order. -/
namespace Go.Vx
open Go.Proofs Classical
section
variable {α : Type} {c : α → α → Int}
def Asc3 (c : α → α → Int) (l : List α) : Prop := l.Pairwise fun a b => c a b < 0
theorem Ord3.irrefl (h : Ord3 c) (x : α) : ¬ c x x < 0 := by have := (h.zero x x).2 rfl; omega
theorem Asc3.nodup (h : Ord3 c) {l : List α} (hl : Asc3 c l) : l.Nodup := hl.imp fun {a b} k e => by subst e; exact h.irrefl _ k
end
end Go.Vx

/- Contracts: the laws' own functions on values of the type Fact: sizes, copies, equality, marks; what an argument reads. (By gen_types.py.) -/
namespace Go.Vx
open Go.Proofs Classical
structure Fc where
  rel : ByteArray
  args : List Tm
def Fc.d (x : Fc) : D := .st [.s x.rel, .sl 4 (x.args.map Tm.d)]
theorem Fc.d_eq (x : Fc) : x.d = .st [.s x.rel, .sl 4 (x.args.map Tm.d)] := rfl
theorem Fc.d_n (x : Fc) : x.d.n = 2 := by
  rw [Fc.d_eq]
  simp only [D.n, D.ns]
abbrev Fc.P := (Option Addr × Nat)
/-- The cells of a value. -/
def Fc.cs (x : Fc) (p : Fc.P) : List Value := [.string x.rel, .slice p.1 x.args.length p.2]
section
variable {μ : Mem}
def Fc.At (μ : Mem) (x : Fc) (p : Fc.P) : Prop := Sl μ 4 p.1 x.args.length (x.args.map Tm.d)
theorem Fc.invA {x : Fc} {cs : List Value} (h : Rep μ x.d cs) : ∃ p : Fc.P, cs = x.cs p ∧ Fc.At μ x p := by
  rw [Fc.d_eq] at h
  obtain ⟨a0, t0, rfl, h0, h⟩ := h
  have h0 : a0 = [.string x.rel] := h0
  subst h0
  obtain ⟨a1, t1, rfl, h1, h⟩ := h
  obtain ⟨v1, rfl⟩ := one_of (Rep.len _ _ h1)
  obtain ⟨b1, c1, rfl, s1⟩ := Rep.sl h1
  rw [List.length_map] at s1
  obtain rfl : t1 = [] := h
  exact ⟨(b1, c1), by simp [Fc.cs], s1⟩
theorem Fc.rep {x : Fc} {cs : List Value} (h : Rep μ x.d cs) : RepV μ x.d (.agg cs.toArray) := by
  rw [Fc.d_eq] at h ⊢; exact ⟨cs, rfl, h⟩
theorem Fc.invR {x : Fc} {cs : List Value} (h : Rep μ x.d cs) : ∃ p : Fc.P, cs = x.cs p ∧ RepV μ x.d (.agg (x.cs p).toArray) := by
  obtain ⟨p, e, _⟩ := Fc.invA h
  subst e
  exact ⟨p, rfl, Fc.rep h⟩
theorem Fc.inv {x : Fc} {v : Value} (h : RepV μ x.d v) : ∃ p : Fc.P, v = .agg #[.string x.rel, .slice p.1 x.args.length p.2] ∧ Fc.At μ x p := by
  have h2 : ∃ cs, v = .agg (List.toArray cs) ∧ Rep μ x.d cs := by rw [Fc.d_eq] at h ⊢; exact h
  obtain ⟨cs, rfl, h3⟩ := h2
  obtain ⟨p, rfl, hA⟩ := Fc.invA h3
  exact ⟨p, rfl, hA⟩
theorem Fc.invV {x : Fc} {v : Value} (h : RepV μ x.d v) : ∃ p : Fc.P, v = .agg #[.string x.rel, .slice p.1 x.args.length p.2] := by
  obtain ⟨p, h, _⟩ := Fc.inv h
  exact ⟨p, h⟩
theorem Fc.elemA {l : List Fc} {base : Option Addr} {n : Nat} (h : Sl μ 2 base n (l.map Fc.d)) {i : Nat} {x : Fc} (hx : l[i]? = some x) : ∃ ad, ∃ p : Fc.P, ElemAt μ base n 2 i ad (x.cs p) ∧ RepV μ x.d (.agg (x.cs p).toArray) ∧ Fc.At μ x p := by
  obtain ⟨ad, cs, h1, h2⟩ := h.get i x.d (by simp [hx])
  obtain ⟨p, rfl, hA⟩ := Fc.invA h2
  exact ⟨ad, p, h1, Fc.rep h2, hA⟩
theorem Fc.elem {l : List Fc} {base : Option Addr} {n : Nat} (h : Sl μ 2 base n (l.map Fc.d)) {i : Nat} {x : Fc} (hx : l[i]? = some x) : ∃ ad, ∃ p : Fc.P, ElemAt μ base n 2 i ad (x.cs p) ∧ RepV μ x.d (.agg (x.cs p).toArray) := by
  obtain ⟨ad, p, h1, h2, _⟩ := Fc.elemA h hx
  exact ⟨ad, p, h1, h2⟩
theorem Fc.ownR {x : Fc} {h : Mem} {cs : List Value} (k : Own x.d h cs) : ∃ p : Fc.P, cs = x.cs p ∧ OwnV (.sl 4 (x.args.map Tm.d)) h (.slice p.1 x.args.length p.2) := by
  rw [Fc.d_eq] at k
  obtain ⟨a0, t0, h0, r0, rfl, q0, o0, k⟩ := k
  obtain ⟨rfl, rfl⟩ := o0
  obtain rfl := q0.eq (Parts.nil_left _)
  obtain ⟨a1, t1, h1, r1, rfl, q1, o1, k⟩ := k
  obtain ⟨v1, rfl⟩ := one_of (Own.len o1)
  obtain ⟨b1, c1, rfl⟩ := Own.sl o1
  rw [List.length_map] at o1
  obtain ⟨rfl, rfl⟩ := k
  obtain rfl := q1.eq (Parts.nil_right _)
  exact ⟨(b1, c1), by simp [Fc.cs], o1⟩
theorem Fc.sz_eq (x : Fc) : x.d.sz = x.rel.size + (x.args.length + D.szs (x.args.map Tm.d)) := by
  rw [Fc.d_eq]
  simp [D.sz, D.szs]
theorem Fc.mk_eq (x : Fc) (k : Int) : x.d.mk k = (.st [.s (mtext (k)), .sl 4 (D.mks (x.args.map Tm.d) (k + 1)).1], (D.mks (x.args.map Tm.d) (k + 1)).2) := by
  rw [Fc.d_eq]
  simp only [D.mk, D.mks]
theorem Fc.cnt_eq (x : Fc) : x.d.cnt = 1 + D.cnts (x.args.map Tm.d) := by
  rw [Fc.d_eq]
  simp only [D.cnt, D.cnts]
  omega
end
end Go.Vx

/- Contracts: the laws' own functions on values of the type Mark: sizes, copies, equality, marks; what an argument reads. (By gen_types.py.) -/
namespace Go.Vx
open Go.Proofs Classical
structure Mk where
  var : Int
  tag : ByteArray
def Mk.d (x : Mk) : D := .st [.i x.var, .s x.tag]
theorem Mk.d_eq (x : Mk) : x.d = .st [.i x.var, .s x.tag] := rfl
theorem Mk.d_n (x : Mk) : x.d.n = 2 := by
  rw [Mk.d_eq]
  simp only [D.n, D.ns]
abbrev Mk.P := Unit
/-- The cells of a value. -/
def Mk.cs (x : Mk) (p : Mk.P) : List Value := [.int .i64 x.var, .string x.tag]
section
variable {μ : Mem}
def Mk.At (μ : Mem) (x : Mk) (p : Mk.P) : Prop := True
theorem Mk.invA {x : Mk} {cs : List Value} (h : Rep μ x.d cs) : ∃ p : Mk.P, cs = x.cs p ∧ Mk.At μ x p := by
  rw [Mk.d_eq] at h
  obtain ⟨a0, t0, rfl, h0, h⟩ := h
  have h0 : a0 = [.int .i64 x.var] := h0
  subst h0
  obtain ⟨a1, t1, rfl, h1, h⟩ := h
  have h1 : a1 = [.string x.tag] := h1
  subst h1
  obtain rfl : t1 = [] := h
  exact ⟨(), by simp [Mk.cs], trivial⟩
theorem Mk.rep {x : Mk} {cs : List Value} (h : Rep μ x.d cs) : RepV μ x.d (.agg cs.toArray) := by
  rw [Mk.d_eq] at h ⊢; exact ⟨cs, rfl, h⟩
theorem Mk.invR {x : Mk} {cs : List Value} (h : Rep μ x.d cs) : ∃ p : Mk.P, cs = x.cs p ∧ RepV μ x.d (.agg (x.cs p).toArray) := by
  obtain ⟨p, e, _⟩ := Mk.invA h
  subst e
  exact ⟨p, rfl, Mk.rep h⟩
theorem Mk.inv {x : Mk} {v : Value} (h : RepV μ x.d v) : ∃ p : Mk.P, v = .agg #[.int .i64 x.var, .string x.tag] ∧ Mk.At μ x p := by
  have h2 : ∃ cs, v = .agg (List.toArray cs) ∧ Rep μ x.d cs := by rw [Mk.d_eq] at h ⊢; exact h
  obtain ⟨cs, rfl, h3⟩ := h2
  obtain ⟨p, rfl, hA⟩ := Mk.invA h3
  exact ⟨p, rfl, hA⟩
theorem Mk.invV {x : Mk} {v : Value} (h : RepV μ x.d v) : ∃ p : Mk.P, v = .agg #[.int .i64 x.var, .string x.tag] := by
  obtain ⟨p, h, _⟩ := Mk.inv h
  exact ⟨p, h⟩
theorem Mk.elemA {l : List Mk} {base : Option Addr} {n : Nat} (h : Sl μ 2 base n (l.map Mk.d)) {i : Nat} {x : Mk} (hx : l[i]? = some x) : ∃ ad, ∃ p : Mk.P, ElemAt μ base n 2 i ad (x.cs p) ∧ RepV μ x.d (.agg (x.cs p).toArray) ∧ Mk.At μ x p := by
  obtain ⟨ad, cs, h1, h2⟩ := h.get i x.d (by simp [hx])
  obtain ⟨p, rfl, hA⟩ := Mk.invA h2
  exact ⟨ad, p, h1, Mk.rep h2, hA⟩
theorem Mk.elem {l : List Mk} {base : Option Addr} {n : Nat} (h : Sl μ 2 base n (l.map Mk.d)) {i : Nat} {x : Mk} (hx : l[i]? = some x) : ∃ ad, ∃ p : Mk.P, ElemAt μ base n 2 i ad (x.cs p) ∧ RepV μ x.d (.agg (x.cs p).toArray) := by
  obtain ⟨ad, p, h1, h2, _⟩ := Mk.elemA h hx
  exact ⟨ad, p, h1, h2⟩
theorem Mk.ownR {x : Mk} {h : Mem} {cs : List Value} (k : Own x.d h cs) : ∃ p : Mk.P, cs = x.cs p ∧ h = Mem.nil := by
  rw [Mk.d_eq] at k
  obtain ⟨a0, t0, h0, r0, rfl, q0, o0, k⟩ := k
  obtain ⟨rfl, rfl⟩ := o0
  obtain rfl := q0.eq (Parts.nil_left _)
  obtain ⟨a1, t1, h1, r1, rfl, q1, o1, k⟩ := k
  obtain ⟨rfl, rfl⟩ := o1
  obtain rfl := q1.eq (Parts.nil_left _)
  obtain ⟨rfl, rfl⟩ := k
  exact ⟨(), by simp [Mk.cs], rfl⟩
theorem Mk.sz_eq (x : Mk) : x.d.sz = x.tag.size := by
  rw [Mk.d_eq]
  simp [D.sz, D.szs]
theorem Mk.mk_eq (x : Mk) (k : Int) : x.d.mk k = (.st [.i (k), .s (mtext (k + 1))], k + 1 + 1) := by
  rw [Mk.d_eq]
  simp only [D.mk, D.mks]
theorem Mk.cnt_eq (x : Mk) : x.d.cnt = 2 := by
  rw [Mk.d_eq]
  simp only [D.cnt, D.cnts]
end
end Go.Vx

/- Contracts: marks: which lists are well-formed; a mark asked of a term, the reference's side. -/
namespace Go.Vx
open Go.Proofs Classical
def Mk.v (k : Mk) : Value := .agg #[.int .i64 k.var, .string k.tag]
section
variable {μ : Mem}
end
end Go.Vx

/- Plain: facts in order, ground rules, what rules make of a base. -/
namespace Go.Vx
open Go.Proofs Classical
structure F where
  rel : ByteArray
  args : List T
def F.fc (f : F) : Fc := ⟨f.rel, f.args.map T.tm⟩
/-! ### Lists without repeats -/
/-! ### Rules -/
structure Ru where
  head : F
  clause : Int
  vals : List T
  pos : List F
  neg : List F
/-! ### Firing -/
/-- What rules make of a base. -/
inductive Der (rs : List Ru) (base : List F) : F → Prop
  | base {f : F} (h : f ∈ base) : Der rs base f
  | rule {r : Ru} (h : r ∈ rs) (hp : ∀ f ∈ r.pos, Der rs base f) : Der rs base r.head
end Go.Vx

/- Contracts: lists of terms and facts compared, both sides. -/
namespace Go.Vx
open Go.Proofs Classical
section
variable {μ : Mem}
/-! ### Facts -/
theorem F.inv {f : F} {v : Value} (h : RepV μ f.fc.d v) : ∃ p : Fc.P, v = .agg #[.string f.rel, .slice p.1 f.args.length p.2] ∧ Sl μ 4 p.1 f.args.length ((f.args.map T.tm).map Tm.d) := by
  obtain ⟨p, rfl, hA⟩ := Fc.inv h
  have e : f.fc.args.length = f.args.length := List.length_map ..
  have hA : Sl μ 4 p.1 f.fc.args.length ((f.args.map T.tm).map Tm.d) := hA
  rw [e] at hA ⊢
  exact ⟨p, rfl, hA⟩
def F.cs (f : F) (p : Fc.P) : List Value := [.string f.rel, .slice p.1 f.args.length p.2]
theorem F.elem {l : List F} {base : Option Addr} {n : Nat} (h : Sl μ 2 base n ((l.map F.fc).map Fc.d)) {i : Nat} {f : F} (hf : l[i]? = some f) : ∃ ad, ∃ p : Fc.P, ElemAt μ base n 2 i ad (f.cs p) ∧ RepV μ f.fc.d (.agg (f.cs p).toArray) ∧ Sl μ 4 p.1 f.args.length ((f.args.map T.tm).map Tm.d) := by
  obtain ⟨ad, p, h1, h2, h3⟩ := Fc.elemA h (i := i) (x := f.fc) (by simp [hf])
  have e : f.fc.cs p = f.cs p := by
    show [_, Value.slice p.1 (f.args.map T.tm).length p.2] = _
    rw [List.length_map]; rfl
  rw [e] at h1 h2
  have h3 : Sl μ 4 p.1 (f.args.map T.tm).length ((f.args.map T.tm).map Tm.d) := h3
  rw [List.length_map] at h3
  exact ⟨ad, p, h1, h2, h3⟩
end
end Go.Vx

/- Contracts: goals copied and instantiated, the reference's side. -/
namespace Go.Vx
open Go.Proofs Classical
/-! ### Plain -/
mutual
noncomputable def Gl.put (f : Int → Option T) : Gl → Gl
  | .mk k s ts gs => .mk k s (ts.map fun t => (t.toT.subst f).tm) (Gl.puts f gs)
noncomputable def Gl.puts (f : Int → Option T) : List Gl → List Gl
  | [] => []
  | g :: r => g.put f :: Gl.puts f r
end
theorem toTs_tm {xs : List T} : (xs.map T.tm).map Tm.toT = xs := by
  rw [List.map_map]
  exact (List.map_congr_left fun x _ => T.toT_tm x).trans (List.map_id _)
section
variable {μ : Mem}
end
end Go.Vx

/- Contracts: ground terms, universes, relations found, facts of a program: both sides. -/
namespace Go.Vx
open Go.Proofs Classical
/-- A ground term, as data. -/
def GndT (t : Tm) : Prop := t.Ok ∧ t.toT.vars = []
structure UnivOk (l : List Tm) : Prop where
  pos : 1 ≤ l.length
  max : l.length ≤ 8
  gnd : ∀ t ∈ l, GndT t
  asc : ∀ (i : Nat) x y, l[i]? = some x → l[i + 1]? = some y → x.toT.cmp y.toT < 0
/-- The universe as terms. -/
theorem UnivOk.lift {l : List Tm} (h : UnivOk l) : ∃ U : List T, l = U.map T.tm ∧ (∀ x ∈ U, x.ok ∧ x.vars = []) ∧ U.length = l.length := by
  obtain ⟨U, rfl, hU⟩ := lift_ok fun t ht => (h.gnd t ht).1
  refine ⟨U, rfl, fun x hx => ⟨hU x hx, ?_⟩, by rw [List.length_map]⟩
  have := (h.gnd x.tm (List.mem_map_of_mem hx)).2
  rwa [T.toT_tm] at this
def relFor (p : Pg) (f : Fc) : Prop := ∃ (k : Nat) (r : Rl), relAt p f.rel = (k : Int) ∧ p.rels[k]? = some r ∧ r.arity = (f.args.length : Int)
/-- A fact of a well-formed program. -/
def FactFits (p : Pg) (f : Fc) : Prop := relFor p f ∧ ∀ t ∈ f.args, GndT t
noncomputable def Fc.f (x : Fc) : F := ⟨x.rel, x.args.map Tm.toT⟩
theorem FactFits.lift {p : Pg} {x : Fc} (h : FactFits p x) : x.f.fc = x ∧ ∀ a ∈ x.f.args, a.ok ∧ a.vars = [] := by
  obtain ⟨xs, hxs, hok⟩ := lift_ok fun t ht => (h.2 t ht).1
  have e : x.f.args = xs := by show x.args.map Tm.toT = xs; rw [hxs, toTs_tm]
  refine ⟨?_, fun a ha => ?_⟩
  · show Fc.mk x.rel (x.f.args.map T.tm) = x
    rw [e, ← hxs]
  · rw [e] at ha
    refine ⟨hok a ha, ?_⟩
    have := (h.2 a.tm (by rw [hxs]; exact List.mem_map_of_mem ha)).2
    rwa [T.toT_tm] at this
section
variable {μ : Mem}
def UnivTo (l : List Tm) (i : Nat) : Prop := ∀ j, j < i → (∀ t, l[j]? = some t → GndT t) ∧ ∀ k x y, k + 1 = j → l[k]? = some x → l[j]? = some y → x.toT.cmp y.toT < 0
theorem UnivTo.all {l : List Tm} (h : UnivTo l l.length) (h1 : 1 ≤ l.length) (h8 : l.length ≤ 8) : UnivOk l where
  pos := h1
  max := h8
  gnd t ht := by
    obtain ⟨j, hj⟩ := List.mem_iff_getElem?.1 ht
    exact (h j (List.getElem?_eq_some_iff.1 hj).1).1 t hj
  asc i x y hx hy := (h (i + 1) (List.getElem?_eq_some_iff.1 hy).1).2 i x y rfl hx hy
theorem UnivOk.to {l : List Tm} (h : UnivOk l) (i : Nat) : UnivTo l i := fun j _ => ⟨fun t ht => h.gnd t (mem_at ht), fun k x y hk hx hy => by subst hk; exact h.asc k x y hx hy⟩
/-! ### Relations -/
noncomputable def findR (p : Pg) (s : ByteArray) : Int := if p.Ok then relAt p s else -1
theorem impl_FindRel_spec {p : Pg} {s : ByteArray} {v : Value} (hp : RepV μ p.d v) : Spec Tryz.prog 119 [v, .string s] μ fun r _ => r = .int .i64 (findR p s) := by
  have hp0 := hp
  obtain ⟨q, rfl, _⟩ := Pg.inv hp
  refine Spec.mk Tryz.func119 (by kernel_rfl) ?_
  intro r2
  refine call_plain (impl_ProgramOk_spec hp0) fun v1 μ1 hle1 hR => ?_
  obtain rfl := hR
  refine ifnd (fun h => ret_plain (by rw [findR, if_neg h])) (fun h => ?_)
  refine call_gives (relation_spec (hp0.mono hle1)) ?_
  exact ret_plain (by rw [findR, if_pos h])
theorem spec_FindRel_spec {p : Pg} {s : ByteArray} {v : Value} (hp : RepV μ p.d v) (hw : p.d.wd) : Spec Tryz.prog 111 [v, .string s] μ fun r _ => r = .int .i64 (findR p s) := by
  have hp0 := hp
  obtain ⟨q, rfl, _⟩ := Pg.inv hp
  refine Spec.mk Tryz.func111 (by kernel_rfl) ?_
  intro r2
  refine call_plain (spec_ProgramOk_spec hp0 hw) fun v1 μ1 hle1 hR => ?_
  obtain rfl := hR
  refine ifnd (fun h => ret_plain (by rw [findR, if_neg h])) (fun h => ?_)
  refine call_gives (l14Find_spec (hp0.mono hle1)) ?_
  exact ret_plain (by rw [findR, if_pos h])
end
end Go.Vx

