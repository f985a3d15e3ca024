/- Texts of the proof, part 5: Xh Yk URl UPg Yl Ym Yn Yo Yp UIr UEn UCd Ys Yt Yq Yv Yw Yx Yu Yy. -/
import Derived.Test.YtepgghefbcklhaaM4
import Derived.Test.YtepgghefbcklhaaM3
/- Contracts: well-formed goals, both sides. -/
namespace Go.Vx
open Go.Proofs Classical
theorem Gl.Ok_iff (g : Gl) : g.Ok ↔ g.Sh ∧ g.cnt ≤ 80 := Iff.rfl
/-- 'goalNodes': the nodes of a well-formed goal that fits; else -1. -/
noncomputable def Gl.nodes (t : Gl) (room : Int) : Int := if t.Sh ∧ (t.cnt : Int) ≤ room then t.cnt else -1
theorem Gl.nodes_neg {t : Gl} {room : Int} (h : ¬ (t.Sh ∧ (t.cnt : Int) ≤ room)) : Value.int .i64 (-1) = .int .i64 (t.nodes room) := by rw [Gl.nodes, if_neg h]
theorem Gl.nodes_pos {t : Gl} {room : Int} (h : t.Sh) (h2 : (t.cnt : Int) ≤ room) : t.nodes room = t.cnt := by rw [Gl.nodes, if_pos ⟨h, h2⟩]
theorem Gl.nodes_lt {t : Gl} {room : Int} (h : t.nodes room < 0) : ¬ (t.Sh ∧ (t.cnt : Int) ≤ room) := fun k => by rw [Gl.nodes, if_pos k] at h; omega
theorem Gl.nodes_ge {t : Gl} {room : Int} (h : ¬ t.nodes room < 0) : t.Sh ∧ (t.cnt : Int) ≤ room ∧ t.nodes room = t.cnt := by
  by_cases k : t.Sh ∧ (t.cnt : Int) ≤ room
  · exact ⟨k.1, k.2, by rw [Gl.nodes, if_pos k]⟩
  · rw [Gl.nodes, if_neg k] at h; omega
/-- The map of how many terms a kind has. -/
noncomputable def kmap : List (Value × Value) := mset (mset (mset (mset (mset [] (.int .i64 2) (.int .i64 2)) (.int .i64 3) (.int .i64 2)) (.int .i64 4) (.int .i64 1)) (.int .i64 5) (.int .i64 1)) (.int .i64 6) (.int .i64 2)
theorem kmap_get (k : Int) : mget kmap (.int .i64 k) = if k = 6 then some (.int .i64 2) else if k = 5 then some (.int .i64 1) else if k = 4 then some (.int .i64 1) else if k = 3 then some (.int .i64 2) else if k = 2 then some (.int .i64 2) else none := by
  unfold kmap
  rw [mget_int, mget_int, mget_int, mget_int, mget_int]
  rfl
section
variable {μ : Mem}
theorem spec_GoalOk_spec (g : Gl) {v : Value} (hv : RepV μ g.d v) (hw : g.d.wd) : Gives Try.prog 117 [v] μ (.bool (decide g.Ok)) := by
  obtain ⟨p, rfl⟩ := Gl.invV hv
  refine Spec.mk Try.func117 (by kernel_rfl) ?_
  intro r
  refine call_gives (l13Count_spec g hv (by decide) (by decide)) ?_
  refine ifd (fun h => ?_) (fun h => ret_gives (isF fun hh => ?_) rfl)
  · refine call_gives (l13Shape_spec g hv hw) (ret_gives (isI ⟨fun hh => ⟨hh, ?_⟩, fun hh => hh.1⟩) rfl)
    unfold upTo at h; omega
  · have := hh.2; unfold upTo at h; omega
theorem goalNodes_spec : ∀ (g : Gl) {v : Value} {room : Int}, RepV μ g.d v → -1000000000000 ≤ room → room ≤ 1000000000000 → Gives Try.prog 121 [v, .int .i64 room] μ (.int .i64 (g.nodes room)) :=
  Gl.ind fun g ih v room hv hr1 hr2 => by
    obtain ⟨p, rfl, hts, hgs⟩ := Gl.inv hv
    have hn1 := maxLen_le hts.max
    have hn2 := maxLen_le hgs.max
    have hpos := g.cnt_pos
    have hce := g.cnt_eq1
    have bad : ¬ TopOk g → Value.int .i64 (-1) = .int .i64 (g.nodes room) := fun h => Gl.nodes_neg fun k => h k.1.top
    refine Spec.mkO [18] Try.func121 (by kernel_rfl) ?_
    intro r
    refine ifd (fun h => ret_gives (Gl.nodes_neg fun k => by omega) rfl) (fun h1 => ?_)
    refine call_gives (termsOk_spec hts) ?_
    refine ifnd (fun h => ret_gives (bad fun T => h T.tm) rfl) (fun htm => ?_)
    intro rM hmM hoM
    have k0 : MapOk IntKey [] := MapOk.nil
    have k1 := k0.int (n := 2) (.int .i64 2)
    have k2 := k1.int (n := 3) (.int .i64 2)
    have k3 := k2.int (n := 4) (.int .i64 1)
    have k4 := k3.int (n := 5) (.int .i64 1)
    have k5 := k4.int (n := 6) (.int .i64 2)
    refine upd_intro _ (Mem.set_at _ _ _) (k0.weaken (by rintro _ ⟨n, rfl⟩; rfl)) rfl ?_
    refine upd_intro _ (Mem.set_at _ _ _) (k1.weaken (by rintro _ ⟨n, rfl⟩; rfl)) rfl ?_
    refine upd_intro _ (Mem.set_at _ _ _) (k2.weaken (by rintro _ ⟨n, rfl⟩; rfl)) rfl ?_
    refine upd_intro _ (Mem.set_at _ _ _) (k3.weaken (by rintro _ ⟨n, rfl⟩; rfl)) rfl ?_
    refine upd_intro _ (Mem.set_at _ _ _) (k4.weaken (by rintro _ ⟨n, rfl⟩; rfl)) rfl ?_
    generalize hh : Mem.set (Mem.set (Mem.set (Mem.set (Mem.set (Mem.set _ rM _) rM _) rM _) rM _) rM _) rM _ = h0
    have hm : h0 rM = some (mapO kmap) := by subst hh; exact Mem.set_at _ _ _
    clear hh hmM hoM
    have one : TopOk g → g.goals.length = 0 → Value.int .i64 1 = .int .i64 (g.nodes room) := fun T h => by
      have e : g.goals = [] := List.eq_nil_of_length_eq_zero h
      have hc : g.cnt = 1 := by rw [hce, e]; rfl
      rw [Gl.nodes_pos (.mk T (by rw [e]; simp)) (by omega), hc]; rfl
    have htm : ∀ t ∈ g.terms, t.Ok := htm
    rcases (by omega : g.kind = 6 ∨ g.kind = 5 ∨ g.kind = 4 ∨ g.kind = 3 ∨ g.kind = 2 ∨ ¬ (2 ≤ g.kind ∧ g.kind ≤ 6)) with e | e | e | e | e | e
    · refine look_intro kmap (some (.int .i64 2)) hm (k5.weaken (by rintro _ ⟨n, rfl⟩; rfl)) rfl (by rw [kmap_get]; simp [e]) ?_
      repeat (refine ifd (fun h => ?_) (fun h => ?_) <;> try (exfalso; omega))
      refine ifnd (fun h => ret_gives (bad fun T => h (T.nm (by omega))) rfl) (fun hnm => ?_)
      refine ifnd (fun h => ret_gives (bad fun T => h (by have := T.gl0; omega)) rfl) (fun hg0 => ?_)
      refine ifnd (fun h => ret_gives (bad fun T => h (by have := T.ln2; omega)) rfl) (fun hl => ?_)
      refine ifd (fun _ => ?_) (fun h => absurd e h)
      obtain ⟨a, ha⟩ := at_some (l := g.terms) (i := 0) (by omega)
      obtain ⟨ad, p, hel, hr⟩ := Tm.elem hts ha
      refine elem_intro hel ?_
      refine ifnd (fun h => ret_gives (bad fun T => h (T.sy e a ha)) rfl) (fun h => ?_)
      exact ret_gives (one ⟨htm, by omega, by omega, fun _ => hnm, by omega, by omega, by omega, by omega, by omega, by omega, by omega, by omega, fun _ x hx => by rw [ha] at hx; cases hx; exact h, by omega⟩ (by omega)) rfl
    · refine look_intro kmap (some (.int .i64 1)) hm (k5.weaken (by rintro _ ⟨n, rfl⟩; rfl)) rfl (by rw [kmap_get]; simp [e]) ?_
      repeat (refine ifd (fun h => ?_) (fun h => ?_) <;> try (exfalso; omega))
      refine ifnd (fun h => ret_gives (bad fun T => h (T.nm (by omega))) rfl) (fun hnm => ?_)
      refine ifnd (fun h => ret_gives (bad fun T => h (by have := T.gl0; omega)) rfl) (fun hg0 => ?_)
      refine ifnd (fun h => ret_gives (bad fun T => h (by have := T.ln1; omega)) rfl) (fun hl => ?_)
      refine ifd (fun h => by omega) (fun h => ?_)
      exact ret_gives (one ⟨htm, by omega, by omega, fun _ => hnm, by omega, by omega, by omega, by omega, by omega, by omega, by omega, by omega, by omega, by omega⟩ (by omega)) rfl
    · refine look_intro kmap (some (.int .i64 1)) hm (k5.weaken (by rintro _ ⟨n, rfl⟩; rfl)) rfl (by rw [kmap_get]; simp [e]) ?_
      repeat (refine ifd (fun h => ?_) (fun h => ?_) <;> try (exfalso; omega))
      refine ifnd (fun h => ret_gives (bad fun T => h (T.nm (by omega))) rfl) (fun hnm => ?_)
      refine ifnd (fun h => ret_gives (bad fun T => h (by have := T.gl0; omega)) rfl) (fun hg0 => ?_)
      refine ifnd (fun h => ret_gives (bad fun T => h (by have := T.ln1; omega)) rfl) (fun hl => ?_)
      refine ifd (fun h => by omega) (fun h => ?_)
      exact ret_gives (one ⟨htm, by omega, by omega, fun _ => hnm, by omega, by omega, by omega, by omega, by omega, by omega, by omega, by omega, by omega, by omega⟩ (by omega)) rfl
    · refine look_intro kmap (some (.int .i64 2)) hm (k5.weaken (by rintro _ ⟨n, rfl⟩; rfl)) rfl (by rw [kmap_get]; simp [e]) ?_
      repeat (refine ifd (fun h => ?_) (fun h => ?_) <;> try (exfalso; omega))
      refine ifnd (fun h => ret_gives (bad fun T => h (T.nm (by omega))) rfl) (fun hnm => ?_)
      refine ifnd (fun h => ret_gives (bad fun T => h (by have := T.gl0; omega)) rfl) (fun hg0 => ?_)
      refine ifnd (fun h => ret_gives (bad fun T => h (by have := T.ln2; omega)) rfl) (fun hl => ?_)
      refine ifd (fun h => by omega) (fun h => ?_)
      exact ret_gives (one ⟨htm, by omega, by omega, fun _ => hnm, by omega, by omega, by omega, by omega, by omega, by omega, by omega, by omega, by omega, by omega⟩ (by omega)) rfl
    · refine look_intro kmap (some (.int .i64 2)) hm (k5.weaken (by rintro _ ⟨n, rfl⟩; rfl)) rfl (by rw [kmap_get]; simp [e]) ?_
      repeat (refine ifd (fun h => ?_) (fun h => ?_) <;> try (exfalso; omega))
      refine ifnd (fun h => ret_gives (bad fun T => h (T.nm (by omega))) rfl) (fun hnm => ?_)
      refine ifnd (fun h => ret_gives (bad fun T => h (by have := T.gl0; omega)) rfl) (fun hg0 => ?_)
      refine ifnd (fun h => ret_gives (bad fun T => h (by have := T.ln2; omega)) rfl) (fun hl => ?_)
      refine ifd (fun h => by omega) (fun h => ?_)
      exact ret_gives (one ⟨htm, by omega, by omega, fun _ => hnm, by omega, by omega, by omega, by omega, by omega, by omega, by omega, by omega, by omega, by omega⟩ (by omega)) rfl
    · refine look_intro kmap none hm (k5.weaken (by rintro _ ⟨n, rfl⟩; rfl)) rfl (by rw [kmap_get, if_neg (by omega), if_neg (by omega), if_neg (by omega), if_neg (by omega), if_neg (by omega)]) ?_
      by_cases e2 : g.kind = 0 ∨ g.kind = 1
      · repeat' (refine ifd (fun h => ?_) (fun h => ?_) <;> try (exfalso; omega))
        all_goals
          refine ifnd (fun h => ret_gives (bad fun T => h (T.nm (by omega))) rfl) (fun hnm => ?_)
          refine ifnd (fun h => ret_gives (bad fun T => h (by have := T.gl0; omega)) rfl) (fun hg0 => ?_)
          refine ifnd (fun h => ret_gives (bad fun T => h (by have := T.ln0; omega)) rfl) (fun hl => ?_)
          refine ifd (fun h => by omega) (fun h => ?_)
          exact ret_gives (one ⟨htm, by omega, by omega, fun _ => hnm, by omega, by omega, by omega, by omega, by omega, by omega, by omega, by omega, by omega, by omega⟩ (by omega)) rfl
      · by_cases e9 : g.kind = 9
        · repeat (refine ifd (fun h => ?_) (fun h => ?_) <;> try (exfalso; omega))
          refine call_gives (impl_IsRelName_spec _ _) ?_
          refine ifnd (fun h => ret_gives (bad fun T => h (T.rel e9)) rfl) (fun hnm => ?_)
          refine ifnd (fun h => ret_gives (bad fun T => h (by have := T.gl0; omega)) rfl) (fun hg0 => ?_)
          refine ifd (fun h => ret_gives (bad fun T => by have := T.ln9; omega) rfl) (fun hl => ?_)
          exact ret_gives (one ⟨htm, by omega, by omega, by omega, fun _ => hnm, by omega, by omega, by omega, by omega, by omega, by omega, by omega, by omega, by omega⟩ (by omega)) rfl
        · by_cases e3 : g.kind = 7 ∨ g.kind = 8 ∨ g.kind = 10
          · have fin : ∀ k : Int, k = 1 + (Gl.cnts g.goals : Nat) → TopOk g → (∀ x ∈ g.goals, x.Sh) → k ≤ room → Value.int .i64 k = .int .i64 (g.nodes room) := fun k hk T hS hr => by
              rw [Gl.nodes_pos (.mk T hS) (by omega), hce, hk]; congr 1
            have top : g.name = ⟨#[]⟩ → g.terms.length = 0 → g.goals.length ≤ 8 → (g.kind = 10 → g.goals.length = 1) → (g.kind = 10 → ∀ b, g.goals[0]? = some b → b.kind = 9) → TopOk g := fun a b c d f =>
              ⟨htm, by omega, by omega, fun _ => a, by omega, by omega, by omega, by omega, by omega, c, by omega, d, by omega, f⟩
            repeat' (refine ifd (fun h => ?_) (fun h => ?_) <;> try (exfalso; omega))
            · refine ifnd (fun h => ret_gives (bad fun T => h (T.nm (by omega))) rfl) (fun hnm => ?_)
              refine ifnd (fun h => ret_gives (bad fun T => h (by have := T.ln0; omega)) rfl) (fun hl => ?_)
              refine ifd (fun h => ret_gives (bad fun T => by have := T.gl; omega) rfl) (fun h8 => ?_)
              have T := top hnm (by omega) (by omega) (by omega) (by omega)
              refine loop_intro (fun i : Nat => i ≤ g.goals.length ∧ (∀ x ∈ g.goals.take i, x.Sh) ∧ 1 + (Gl.cnts (g.goals.take i) : Int) ≤ room) (fun i => ⟨[(1, .val (.int .i64 room)), (6, .val (.int .i64 (1 + (Gl.cnts (g.goals.take i) : Int)))), (124, .val (.slice p.2.1 g.goals.length p.2.2)), (125, .val (.int .i64 g.goals.length)), (126, .val (.int .i64 i))], [], 1, μ, h0⟩) (fun i => g.goals.length - i)
                0 ⟨by omega, by simp, by simp [Gl.cnts]; omega⟩ (fun i => ⟨rfl, rfl⟩) ⟨⟨rfl, rfl, rfl, rfl, rfl, trivial⟩, trivial, rfl, rfl⟩ ?_
              rintro i ⟨hi, hall, hle⟩
              refine ifd (fun h => ?_) (fun h => ?_)
              · obtain ⟨t, ht⟩ := at_some (l := g.goals) (i := i) (by omega)
                have hc := Gl.cnts_take ht
                have hc' := Gl.cnts_le g.goals (i + 1)
                obtain ⟨ad, p3, hel, hr⟩ := Gl.elem hgs ht
                refine elem_intro hel ?_
                intro r2
                refine num64 (by omega) (by omega) ?_
                refine call_gives (ih t (mem_at ht) hr (by omega) (by omega)) ?_
                refine ifd (fun h => ret_gives (Gl.nodes_neg fun k => Gl.nodes_lt h ⟨k.1.sub t (mem_at ht), by omega⟩) rfl) (fun h => ?_)
                obtain ⟨hS, hcnt, he⟩ := Gl.nodes_ge h
                refine num_eq (x := 1 + (Gl.cnts (g.goals.take (i + 1)) : Int)) (by rw [he, wrap64 (by omega) (by omega), hc]; omega) ?_
                refine num64 (by omega) (by omega) ⟨i + 1, ⟨by omega, fun x hx => ?_, by omega⟩, by omega, ⟨⟨rfl, rfl, rfl, rfl, rfl, trivial⟩, trivial, rfl, rfl⟩⟩
                rw [List.take_add_one, ht, Option.toList_some, List.mem_append, List.mem_singleton] at hx
                rcases hx with hx | rfl
                · exact hall x hx
                · exact hS
              · obtain rfl : i = g.goals.length := by omega
                rw [List.take_length] at hall hle
                exact ret_gives (fin _ (by rw [List.take_length]) T hall (by rw [List.take_length]; exact hle)) rfl
            · refine ifnd (fun h => ret_gives (bad fun T => h (T.nm (by omega))) rfl) (fun hnm => ?_)
              refine ifnd (fun h => ret_gives (bad fun T => h (by have := T.ln0; omega)) rfl) (fun hl => ?_)
              refine ifd (fun h => ret_gives (bad fun T => by have := T.gl; omega) rfl) (fun h8 => ?_)
              have T := top hnm (by omega) (by omega) (by omega) (by omega)
              refine loop_intro (fun i : Nat => i ≤ g.goals.length ∧ (∀ x ∈ g.goals.take i, x.Sh) ∧ 1 + (Gl.cnts (g.goals.take i) : Int) ≤ room) (fun i => ⟨[(1, .val (.int .i64 room)), (6, .val (.int .i64 (1 + (Gl.cnts (g.goals.take i) : Int)))), (124, .val (.slice p.2.1 g.goals.length p.2.2)), (125, .val (.int .i64 g.goals.length)), (126, .val (.int .i64 i))], [], 1, μ, h0⟩) (fun i => g.goals.length - i)
                0 ⟨by omega, by simp, by simp [Gl.cnts]; omega⟩ (fun i => ⟨rfl, rfl⟩) ⟨⟨rfl, rfl, rfl, rfl, rfl, trivial⟩, trivial, rfl, rfl⟩ ?_
              rintro i ⟨hi, hall, hle⟩
              refine ifd (fun h => ?_) (fun h => ?_)
              · obtain ⟨t, ht⟩ := at_some (l := g.goals) (i := i) (by omega)
                have hc := Gl.cnts_take ht
                have hc' := Gl.cnts_le g.goals (i + 1)
                obtain ⟨ad, p3, hel, hr⟩ := Gl.elem hgs ht
                refine elem_intro hel ?_
                intro r2
                refine num64 (by omega) (by omega) ?_
                refine call_gives (ih t (mem_at ht) hr (by omega) (by omega)) ?_
                refine ifd (fun h => ret_gives (Gl.nodes_neg fun k => Gl.nodes_lt h ⟨k.1.sub t (mem_at ht), by omega⟩) rfl) (fun h => ?_)
                obtain ⟨hS, hcnt, he⟩ := Gl.nodes_ge h
                refine num_eq (x := 1 + (Gl.cnts (g.goals.take (i + 1)) : Int)) (by rw [he, wrap64 (by omega) (by omega), hc]; omega) ?_
                refine num64 (by omega) (by omega) ⟨i + 1, ⟨by omega, fun x hx => ?_, by omega⟩, by omega, ⟨⟨rfl, rfl, rfl, rfl, rfl, trivial⟩, trivial, rfl, rfl⟩⟩
                rw [List.take_add_one, ht, Option.toList_some, List.mem_append, List.mem_singleton] at hx
                rcases hx with hx | rfl
                · exact hall x hx
                · exact hS
              · obtain rfl : i = g.goals.length := by omega
                rw [List.take_length] at hall hle
                exact ret_gives (fin _ (by rw [List.take_length]) T hall (by rw [List.take_length]; exact hle)) rfl
            · refine ifnd (fun h => ret_gives (bad fun T => h (T.nm (by omega))) rfl) (fun hnm => ?_)
              refine ifnd (fun h => ret_gives (bad fun T => h (by have := T.ln0; omega)) rfl) (fun hl => ?_)
              refine ifnd (fun h => ret_gives (bad fun T => h (by have := T.gl1; omega)) rfl) (fun hg1 => ?_)
              obtain ⟨b, hb⟩ := at_some (l := g.goals) (i := 0) (by omega)
              obtain ⟨ad, p2, hel, hr⟩ := Gl.elem hgs hb
              refine elem_intro hel ?_
              refine ifnd (fun h => ret_gives (bad fun T => h (T.cl (by omega) b hb)) rfl) (fun hb9 => ?_)
              have T := top hnm (by omega) (by omega) (by omega) (fun _ x hx => by rw [hb] at hx; cases hx; exact hb9)
              refine loop_intro (fun i : Nat => i ≤ g.goals.length ∧ (∀ x ∈ g.goals.take i, x.Sh) ∧ 1 + (Gl.cnts (g.goals.take i) : Int) ≤ room) (fun i => ⟨[(1, .val (.int .i64 room)), (6, .val (.int .i64 (1 + (Gl.cnts (g.goals.take i) : Int)))), (124, .val (.slice p.2.1 g.goals.length p.2.2)), (125, .val (.int .i64 g.goals.length)), (126, .val (.int .i64 i))], [], 1, μ, h0⟩) (fun i => g.goals.length - i)
                0 ⟨by omega, by simp, by simp [Gl.cnts]; omega⟩ (fun i => ⟨rfl, rfl⟩) ⟨⟨rfl, rfl, rfl, rfl, rfl, trivial⟩, trivial, rfl, rfl⟩ ?_
              rintro i ⟨hi, hall, hle⟩
              refine ifd (fun h => ?_) (fun h => ?_)
              · obtain ⟨t, ht⟩ := at_some (l := g.goals) (i := i) (by omega)
                have hc := Gl.cnts_take ht
                have hc' := Gl.cnts_le g.goals (i + 1)
                obtain ⟨ad, p3, hel, hr⟩ := Gl.elem hgs ht
                refine elem_intro hel ?_
                intro r2
                refine num64 (by omega) (by omega) ?_
                refine call_gives (ih t (mem_at ht) hr (by omega) (by omega)) ?_
                refine ifd (fun h => ret_gives (Gl.nodes_neg fun k => Gl.nodes_lt h ⟨k.1.sub t (mem_at ht), by omega⟩) rfl) (fun h => ?_)
                obtain ⟨hS, hcnt, he⟩ := Gl.nodes_ge h
                refine num_eq (x := 1 + (Gl.cnts (g.goals.take (i + 1)) : Int)) (by rw [he, wrap64 (by omega) (by omega), hc]; omega) ?_
                refine num64 (by omega) (by omega) ⟨i + 1, ⟨by omega, fun x hx => ?_, by omega⟩, by omega, ⟨⟨rfl, rfl, rfl, rfl, rfl, trivial⟩, trivial, rfl, rfl⟩⟩
                rw [List.take_add_one, ht, Option.toList_some, List.mem_append, List.mem_singleton] at hx
                rcases hx with hx | rfl
                · exact hall x hx
                · exact hS
              · obtain rfl : i = g.goals.length := by omega
                rw [List.take_length] at hall hle
                exact ret_gives (fin _ (by rw [List.take_length]) T hall (by rw [List.take_length]; exact hle)) rfl
          · repeat (refine ifd (fun h => ?_) (fun h => ?_) <;> try (exfalso; omega))
            exact ret_gives (bad fun T => by have := T.k0; have := T.k1; omega) rfl
theorem impl_GoalOk_spec (g : Gl) {v : Value} (hv : RepV μ g.d v) : Gives Try.prog 161 [v] μ (.bool (decide g.Ok)) := by
  obtain ⟨p, rfl⟩ := Gl.invV hv
  refine Spec.mk Try.func161 (by kernel_rfl) ?_
  intro r
  refine call_gives (goalNodes_spec g hv (by decide) (by decide)) (ret_gives (isI ⟨fun hh => ?_, fun hh => ?_⟩) rfl)
  · obtain ⟨h1, h2, _⟩ := Gl.nodes_ge (by omega : ¬ g.nodes 80 < 0)
    exact ⟨h1, by omega⟩
  · rw [Gl.nodes_pos hh.1 (by have := hh.2; omega)]
    have := g.cnt_pos; omega
end
end Go.Vx

/- Contracts: goals visited; the variables of a goal. -/
namespace Go.Vx
open Go.Proofs Classical
/-! ### Plain -/
mutual
def Gl.all : Gl → List Gl
  | .mk k s ts gs => .mk k s ts gs :: Gl.alls gs
def Gl.alls : List Gl → List Gl
  | [] => []
  | g :: r => g.all ++ Gl.alls r
end
theorem Gl.alls_map : ∀ l : List Gl, Gl.alls l = l.flatMap Gl.all
  | [] => rfl
  | g :: r => by simp [Gl.alls, Gl.alls_map r]
theorem Gl.all_eq (g : Gl) : g.all = g :: g.goals.flatMap Gl.all := by
  cases g
  rw [Gl.all, Gl.alls_map]
  rfl
theorem Gl.Sh.all : ∀ (g : Gl), g.Sh → ∀ x ∈ g.all, x.Sh :=
  Gl.ind fun g ih h x hx => by
    rw [Gl.all_eq] at hx
    rcases List.mem_cons.1 hx with rfl | hx
    · exact h
    · obtain ⟨y, hy, hx⟩ := List.mem_flatMap.1 hx
      exact ih y hy (h.sub y hy) x hx
noncomputable def Gl.tvars (g : Gl) : List Int := (g.terms.map Tm.toT).flatMap T.vars
noncomputable def Gl.vars (g : Gl) : List Int := g.all.flatMap Gl.tvars
theorem foldl_snoc {α : Type} : ∀ (l s : List α), l.foldl (fun s n => s ++ [n]) s = s ++ l
  | [], s => by simp
  | a :: l, s => by rw [List.foldl_cons, foldl_snoc l]; simp
theorem foldl_app {α β : Type} (f : α → List β) : ∀ (l : List α) (s : List β), l.foldl (fun s x => s ++ f x) s = s ++ l.flatMap f
  | [], s => by simp
  | a :: l, s => by rw [List.foldl_cons, foldl_app f l]; simp
theorem toTs_tm' {xs : List T} : (xs.map T.tm).map Tm.toT = xs := by
  rw [List.map_map]
  exact (List.map_congr_left fun x _ => T.toT_tm x).trans (List.map_id _)
section
variable {μ : Mem}
theorem eachGoal_rel {S : Type} (J : S → Mem → Prop) (step : S → Gl → S) (Q : Gl → Prop) {k : FuncId} {caps : List Value}
    (hc : ∀ s h g v, Q g → RepV μ g.d v → J s h → SpecH Try.prog k (v :: caps) μ h fun r μ' h' => r = .tuple #[] ∧ μ' = μ ∧ J (step s g) h') :
    ∀ (g : Gl) {v : Value} (s : S) (h : Mem), RepV μ g.d v → (∀ x ∈ g.all, Q x) → J s h → SpecH Try.prog 176 [v, .func (.func k) #[] caps.toArray] μ h fun r μ' h' => r = .tuple #[] ∧ μ' = μ ∧ J (g.all.foldl step s) h' :=
  Gl.ind fun g ih v s h hv hq hj => by
    obtain ⟨p, rfl, hts, hgs⟩ := Gl.inv hv
    have hn := maxLen_le hgs.max
    rw [Gl.all_eq] at hq ⊢
    rw [List.foldl_cons]
    refine SpecH.mk [] Try.func176 (by kernel_rfl) ?_
    intro r
    refine call_own (hc s h g _ (hq g (by simp)) hv hj) fun v μ' h' hle hap hR => ?_
    obtain ⟨rfl, e2, hj'⟩ := hR
    obtain rfl := e2.symm
    refine loop_intro (fun p : Nat × Mem => p.1 ≤ g.goals.length ∧ J (((g.goals.take p.1).flatMap Gl.all).foldl step (step s g)) p.2)
      (fun (i, h) => ⟨[(1, .val (.func (.func k) #[] caps.toArray)), (10, .val (.slice p.2.1 g.goals.length p.2.2)), (11, .val (.int .i64 g.goals.length)), (12, .val (.int .i64 i))], [], 1, μ, h⟩) (fun p => g.goals.length - p.1)
      (0, h') ⟨by simp, by simpa using hj'⟩ (fun (_, _) => ⟨rfl, rfl⟩) ⟨⟨rfl, rfl, rfl, rfl, trivial⟩, trivial, rfl, rfl⟩ ?_
    rintro ⟨i, h1⟩ ⟨hi, hj1⟩
    dsimp only at hi hj1
    refine ifd (fun hlt => ?_) (fun hlt => ?_)
    · obtain ⟨t, ht⟩ := at_some (l := g.goals) (i := i) (by omega)
      obtain ⟨ad, p3, hel, hr⟩ := Gl.elem hgs ht
      refine elem_intro hel ?_
      intro r4
      refine call_own (ih t (mem_at ht) _ h1 hr (fun x hx => hq x (List.mem_cons_of_mem _ (List.mem_flatMap.2 ⟨t, mem_at ht, hx⟩))) hj1) fun v μ' h' hle hap hR => ?_
      obtain ⟨rfl, e2, hj2⟩ := hR
      obtain rfl := e2.symm
      refine num64 (by omega) (by omega) ⟨(i + 1, h'), ⟨by dsimp only; omega, ?_⟩, by dsimp only; omega, ⟨⟨rfl, rfl, rfl, rfl, trivial⟩, trivial, rfl, rfl⟩⟩
      dsimp only
      rw [List.take_add_one, ht, Option.toList_some, List.flatMap_append, List.foldl_append]
      simpa using hj2
    · obtain rfl : i = g.goals.length := by omega
      rw [List.take_length] at hj1
      exact ret_plain ⟨rfl, rfl, hj1⟩
/-- The map of variables: which it holds. -/
def KeysInv (rm : Nat) (s : List Int) (h : Mem) : Prop := ∃ r l, h rm = some (.cells #[.map (some r)] 238 (0, 0)) ∧ h r = some (mapO l) ∧ MapOk IntKey l ∧ ∀ n, (mget l (.int .i64 n)).isSome ↔ n ∈ s
theorem goalVars11_spec {rm : Nat} {s : List Int} {h : Mem} {n : Int} (H : KeysInv rm s h) : SpecH Try.prog 217 [.int .i64 n, .pointer (some ⟨rm, 0, none⟩)] μ h fun r μ' h' => r = .tuple #[] ∧ μ' = μ ∧ KeysInv rm (s ++ [n]) h' := by
  obtain ⟨r, l, h1, h2, hk, hg⟩ := H
  have e1 : rm ≠ r := ne_of_obj h1 h2 (by simp [mapO])
  refine SpecH.mk [] Try.func217 (by kernel_rfl) ?_
  refine own_intro [.map (some r)] rfl (box_at h1) ?_
  refine upd_intro l h2 (hk.weaken (by rintro _ ⟨n, rfl⟩; rfl)) rfl ?_
  refine ret_plain ⟨rfl, rfl, r, _, ?_, Mem.set_at _ _ _, hk.int _, fun m => ?_⟩
  · dsimp only; rw [Mem.set_ne e1]; exact h1
  · rw [mget_int, List.mem_append, List.mem_singleton]
    by_cases e : m = n
    · simp [e]
    · rw [if_neg e, hg]; simp [e]
theorem goalVars1_spec {rm : Nat} {s : List Int} {h : Mem} {g : Gl} {v : Value} (hok : ∀ t ∈ g.terms, t.Ok) (hv : RepV μ g.d v) (H : KeysInv rm s h) : SpecH Try.prog 216 [v, .pointer (some ⟨rm, 0, none⟩)] μ h fun r μ' h' => r = .tuple #[] ∧ μ' = μ ∧ KeysInv rm (s ++ g.tvars) h' := by
  obtain ⟨p, rfl, hts, hgs⟩ := Gl.inv hv
  obtain ⟨xs, hxs, hxo⟩ := lift_ok hok
  have htv : g.tvars = xs.flatMap T.vars := by
    rw [Gl.tvars, hxs, List.map_map]
    congr 1
    exact (List.map_congr_left fun x _ => T.toT_tm x).trans (List.map_id _)
  rw [htv]
  rw [hxs, List.length_map] at hts ⊢
  have hn := maxLen_le hts.max
  refine SpecH.mk [] Try.func216 (by kernel_rfl) ?_
  intro r
  refine loop_intro (fun p : Nat × Mem => p.1 ≤ xs.length ∧ KeysInv rm (s ++ (xs.take p.1).flatMap T.vars) p.2)
    (fun (i, h) => ⟨[(1, .val (.pointer (some ⟨rm, 0, none⟩))), (6, .val (.slice p.1.1 xs.length p.1.2)), (7, .val (.int .i64 xs.length)), (8, .val (.int .i64 i))], [], 1, μ, h⟩) (fun p => xs.length - p.1)
    (0, h) ⟨by simp, by simpa using H⟩ (fun (_, _) => ⟨rfl, rfl⟩) ⟨⟨rfl, rfl, rfl, rfl, trivial⟩, trivial, rfl, rfl⟩ ?_
  rintro ⟨i, h1⟩ ⟨hi, hj1⟩
  dsimp only at hi hj1
  refine ifd (fun hlt => ?_) (fun hlt => ?_)
  · obtain ⟨x, hx'⟩ := at_some (l := xs) (i := i) (by omega)
    obtain ⟨ad, p3, hel, hto⟩ := Tm.elem (i := i) (t := x.tm) hts (by simp [hx'])
    refine elem_intro hel ?_
    intro r4
    refine call_own (eachVar_rel (KeysInv rm) (fun s n => s ++ [n]) (fun _ _ => True) (fun s h n _ hj => goalVars11_spec hj) x _ h1 hto (fun _ _ _ _ => trivial) hj1) fun v μ' h' hle hap hR => ?_
    obtain ⟨rfl, e2, hj2⟩ := hR
    obtain rfl := e2.symm
    rw [foldl_snoc] at hj2
    refine num64 (by omega) (by omega) ⟨(i + 1, h'), ⟨by dsimp only; omega, ?_⟩, by dsimp only; omega, ⟨⟨rfl, rfl, rfl, rfl, trivial⟩, trivial, rfl, rfl⟩⟩
    dsimp only
    rw [List.take_add_one, hx', Option.toList_some, List.flatMap_append]
    simpa using hj2
  · obtain rfl : i = xs.length := by omega
    rw [List.take_length] at hj1
    exact ret_plain ⟨rfl, rfl, hj1⟩
theorem Gl.vars_range {g : Gl} (h : g.Sh) : ∀ n ∈ g.vars, 0 ≤ n ∧ n ≤ 100000 := fun n hn => by
  obtain ⟨x, hx, hn⟩ := List.mem_flatMap.1 hn
  obtain ⟨xs, hxs, hxo⟩ := lift_ok (h.all g x hx).top.tm
  rw [Gl.tvars, hxs, toTs_tm'] at hn
  obtain ⟨t, ht, hn⟩ := List.mem_flatMap.1 hn
  exact T.vars_range (hxo t ht).1 n hn
theorem goalVars_spec {g : Gl} {v : Value} (hS : g.Sh) (hv : RepV μ g.d v) : Spec Try.prog 175 [v] μ fun v μ' => ∃ xs : List Int, (∀ n, n ∈ xs ↔ n ∈ g.vars) ∧ xs.Pairwise (· < ·) ∧ Fresh μ μ' (.sl 1 (xs.map D.i)) v := by
  obtain ⟨p, rfl⟩ := Gl.invV hv
  refine Spec.mkO [3, 4] Try.func175 (by kernel_rfl) ?_
  intro r
  intro rM hmM hoM r3 hm3 ho3
  refine sto_intro [.map none] 238 (Mem.set_at _ _ _) rfl (Nat.le_refl _) ?_
  dsimp only at hmM hoM hm3 ho3
  have n1 : rM ≠ r3 := fun e => by subst e; simp [Mem.set_get] at ho3
  generalize hh : Mem.set (Mem.set _ r3 _) r3 _ = h0
  have H0 : KeysInv r3 [] h0 := by
    subst hh
    refine ⟨rM, [], ?_, ?_, MapOk.nil, fun n => by simp [mget]⟩
    · rw [Mem.set_at]; rfl
    · dsimp only; rw [Mem.set_ne n1, Mem.set_ne n1, Mem.set_at]
  refine call_own (eachGoal_rel (KeysInv r3) (fun s g => s ++ g.tvars) (fun g => ∀ t ∈ g.terms, t.Ok) (fun s h g v hq hv hj => goalVars1_spec hq hv hj) g [] h0 hv (fun x hx => (Gl.Sh.all g hS x hx).top.tm) H0) fun v μ' h' hle hap hR => ?_
  obtain ⟨rfl, e2, hj⟩ := hR
  obtain rfl := e2.symm
  rw [foldl_app] at hj
  obtain ⟨r, l, h1, h2, hk, hg⟩ := hj
  have hlen : l.length ≤ 1000000 := by
    obtain ⟨ks, hks, hnd⟩ := keys_ints hk
    have := nodup_range (N := 100001) hnd fun n hn => by
      have h3 := (hg n).1 ((mget_keys hks n).2 hn)
      have := Gl.vars_range hS n (by simpa [Gl.vars] using h3)
      omega
    have h4 := congrArg List.length hks
    simp only [ints, List.length_map] at h4
    omega
  refine own_intro [.map (some r)] rfl (box_at h1) ?_
  refine call_own (sortedInts_spec h2 hk hlen) fun v μ2 h2' hle2 hap2 hR2 => ?_
  obtain ⟨rfl, xs, g1, g2, g3⟩ := hR2
  exact ret_plain ⟨xs, fun n => (g1 n).trans ((hg n).trans (by simp [Gl.vars])), g2, g3⟩
theorem varsBelow_spec {g : Gl} {v : Value} {n : Int} (hS : g.Sh) (hv : RepV μ g.d v) : Spec Try.prog 122 [v, .int .i64 n] μ fun r _ => r = .bool (decide (∀ m ∈ g.vars, m < n)) := by
  obtain ⟨p, rfl⟩ := Gl.invV hv
  refine Spec.mk Try.func122 (by kernel_rfl) ?_
  intro r
  refine call_plain (goalVars_spec hS hv) fun v1 μ1 hle1 hR => ?_
  obtain ⟨xs, g1, g2, g3⟩ := hR
  obtain ⟨b, c, rfl, hsl⟩ := Rep.sl g3.rep
  rw [List.length_map] at hsl ⊢
  have hn := maxLen_le hsl.max
  refine loop_intro (fun i : Nat => i ≤ xs.length ∧ ∀ m ∈ xs.take i, m < n) (fun i => ⟨[(1, .val (.int .i64 n)), (8, .val (.slice b xs.length c)), (9, .val (.int .i64 xs.length)), (10, .val (.int .i64 i))], [], 1, μ1, Mem.nil⟩) (fun i => xs.length - i)
    0 ⟨by simp, by simp⟩ (fun _ => ⟨rfl, rfl⟩) ⟨⟨rfl, rfl, rfl, rfl, trivial⟩, trivial, rfl, rfl⟩ ?_
  rintro i ⟨hi, hall⟩
  refine ifd (fun hlt => ?_) (fun hlt => ?_)
  · obtain ⟨x, hx⟩ := at_some (l := xs) (i := i) (by omega)
    obtain ⟨ad, hel⟩ := Ints.elem hsl hx
    refine elem_intro hel ?_
    refine ifd (fun hge => ret_plain (isF fun hh => ?_)) (fun hge => ?_)
    · have := hh x ((g1 x).1 (mem_at hx)); omega
    refine num64 (by omega) (by omega) ⟨i + 1, ⟨by omega, fun y hy => ?_⟩, by omega, ⟨⟨rfl, rfl, rfl, rfl, trivial⟩, trivial, rfl, rfl⟩⟩
    rw [List.take_add_one, hx, Option.toList_some, List.mem_append, List.mem_singleton] at hy
    rcases hy with hy | rfl
    · exact hall y hy
    · omega
  · obtain rfl : i = xs.length := by omega
    rw [List.take_length] at hall
    exact ret_plain (isT fun m hm => hall m ((g1 m).2 hm))
end
end Go.Vx

/- Contracts: the laws' own functions on values of the type Rel: sizes, copies, equality, marks; what an argument reads. (By gen_types.py.) -/
namespace Go.Vx
open Go.Proofs Classical
structure Rl where
  name : ByteArray
  arity : Int
  locals : Int
  body : Gl
def Rl.d (x : Rl) : D := .st [.s x.name, .i x.arity, .i x.locals, x.body.d]
theorem Rl.d_eq (x : Rl) : x.d = .st [.s x.name, .i x.arity, .i x.locals, x.body.d] := rfl
theorem Rl.d_n (x : Rl) : x.d.n = 7 := by
  rw [Rl.d_eq]
  simp only [D.n, D.ns, Gl.d_n]
abbrev Rl.P := Gl.P
/-- The cells of a value. -/
def Rl.cs (x : Rl) (p : Rl.P) : List Value := [.string x.name, .int .i64 x.arity, .int .i64 x.locals, .int .i64 x.body.kind, .string x.body.name, .slice p.1.1 x.body.terms.length p.1.2, .slice p.2.1 x.body.goals.length p.2.2]
section
variable {μ : Mem}
def Rl.At (μ : Mem) (x : Rl) (p : Rl.P) : Prop := RepV μ x.body.d (.agg (x.body.cs p).toArray)
theorem Rl.invA {x : Rl} {cs : List Value} (h : Rep μ x.d cs) : ∃ p : Rl.P, cs = x.cs p ∧ Rl.At μ x p := by
  rw [Rl.d_eq] at h
  obtain ⟨a0, t0, rfl, h0, h⟩ := h
  have h0 : a0 = [.string x.name] := h0
  subst h0
  obtain ⟨a1, t1, rfl, h1, h⟩ := h
  have h1 : a1 = [.int .i64 x.arity] := h1
  subst h1
  obtain ⟨a2, t2, rfl, h2, h⟩ := h
  have h2 : a2 = [.int .i64 x.locals] := h2
  subst h2
  obtain ⟨a3, t3, rfl, h3, h⟩ := h
  obtain ⟨p3, rfl, r3⟩ := Gl.invR h3
  obtain rfl : t3 = [] := h
  exact ⟨p3, by simp [Rl.cs, Gl.cs], r3⟩
theorem Rl.rep {x : Rl} {cs : List Value} (h : Rep μ x.d cs) : RepV μ x.d (.agg cs.toArray) := by
  rw [Rl.d_eq] at h ⊢; exact ⟨cs, rfl, h⟩
theorem Rl.invR {x : Rl} {cs : List Value} (h : Rep μ x.d cs) : ∃ p : Rl.P, cs = x.cs p ∧ RepV μ x.d (.agg (x.cs p).toArray) := by
  obtain ⟨p, e, _⟩ := Rl.invA h
  subst e
  exact ⟨p, rfl, Rl.rep h⟩
theorem Rl.inv {x : Rl} {v : Value} (h : RepV μ x.d v) : ∃ p : Rl.P, v = .agg #[.string x.name, .int .i64 x.arity, .int .i64 x.locals, .int .i64 x.body.kind, .string x.body.name, .slice p.1.1 x.body.terms.length p.1.2, .slice p.2.1 x.body.goals.length p.2.2] ∧ Rl.At μ x p := by
  have h2 : ∃ cs, v = .agg (List.toArray cs) ∧ Rep μ x.d cs := by rw [Rl.d_eq] at h ⊢; exact h
  obtain ⟨cs, rfl, h3⟩ := h2
  obtain ⟨p, rfl, hA⟩ := Rl.invA h3
  exact ⟨p, rfl, hA⟩
theorem Rl.invV {x : Rl} {v : Value} (h : RepV μ x.d v) : ∃ p : Rl.P, v = .agg #[.string x.name, .int .i64 x.arity, .int .i64 x.locals, .int .i64 x.body.kind, .string x.body.name, .slice p.1.1 x.body.terms.length p.1.2, .slice p.2.1 x.body.goals.length p.2.2] := by
  obtain ⟨p, h, _⟩ := Rl.inv h
  exact ⟨p, h⟩
theorem Rl.elemA {l : List Rl} {base : Option Addr} {n : Nat} (h : Sl μ 7 base n (l.map Rl.d)) {i : Nat} {x : Rl} (hx : l[i]? = some x) : ∃ ad, ∃ p : Rl.P, ElemAt μ base n 7 i ad (x.cs p) ∧ RepV μ x.d (.agg (x.cs p).toArray) ∧ Rl.At μ x p := by
  obtain ⟨ad, cs, h1, h2⟩ := h.get i x.d (by simp [hx])
  obtain ⟨p, rfl, hA⟩ := Rl.invA h2
  exact ⟨ad, p, h1, Rl.rep h2, hA⟩
theorem Rl.elem {l : List Rl} {base : Option Addr} {n : Nat} (h : Sl μ 7 base n (l.map Rl.d)) {i : Nat} {x : Rl} (hx : l[i]? = some x) : ∃ ad, ∃ p : Rl.P, ElemAt μ base n 7 i ad (x.cs p) ∧ RepV μ x.d (.agg (x.cs p).toArray) := by
  obtain ⟨ad, p, h1, h2, _⟩ := Rl.elemA h hx
  exact ⟨ad, p, h1, h2⟩
theorem Rl.ownR {x : Rl} {h : Mem} {cs : List Value} (k : Own x.d h cs) : ∃ p : Rl.P, cs = x.cs p ∧ ∃ g1 g2, Parts h g1 g2 ∧ OwnV (.sl 4 (x.body.terms.map Tm.d)) g1 (.slice p.1.1 x.body.terms.length p.1.2) ∧ OwnV (.sl 4 (x.body.goals.map Gl.d)) g2 (.slice p.2.1 x.body.goals.length p.2.2) := by
  rw [Rl.d_eq] at k
  obtain ⟨a0, t0, h0, r0, rfl, q0, o0, k⟩ := k
  obtain ⟨rfl, rfl⟩ := o0
  obtain rfl := q0.eq (Parts.nil_left _)
  obtain ⟨a1, t1, h1, r1, rfl, q1, o1, k⟩ := k
  obtain ⟨rfl, rfl⟩ := o1
  obtain rfl := q1.eq (Parts.nil_left _)
  obtain ⟨a2, t2, h2, r2, rfl, q2, o2, k⟩ := k
  obtain ⟨rfl, rfl⟩ := o2
  obtain rfl := q2.eq (Parts.nil_left _)
  obtain ⟨a3, t3, h3, r3, rfl, q3, o3, k⟩ := k
  obtain ⟨p3, rfl, ch3⟩ := Gl.ownR o3
  obtain ⟨rfl, rfl⟩ := k
  obtain rfl := q3.eq (Parts.nil_right _)
  exact ⟨p3, by simp [Rl.cs, Gl.cs], ch3⟩
theorem Rl.sz_eq (x : Rl) : x.d.sz = x.name.size + x.body.d.sz := by
  rw [Rl.d_eq]
  simp [D.sz, D.szs]
theorem szRel_spec (x : Rl) {v : Value} {left : Int} (hv : RepV μ x.d v) (hl : 0 ≤ left) (hl2 : left ≤ 1048576) (hw : x.d.wd) : Gives Try.prog 114 [v, .int .i64 left] μ (.int .i64 (szR left x.d.sz)) := by
  obtain ⟨p, rfl, hA⟩ := Rl.inv hv
  have hsz := Rl.sz_eq x
  rw [Rl.d_eq] at hw
  have m0 := maxLen_le hw.1
  refine Spec.mk Try.func114 (by kernel_rfl) ?_
  intro r
  refine num64 (by omega) (by omega) (ifd (fun h => ret_gives (by rw [szR_neg (by omega)]) rfl) (fun h => ?_))
  refine call_gives (szGoal_spec x.body hA (by omega) (by omega) hw.2.2.2.1) ?_
  refine ifd (fun h => ret_gives (by have := szR_lt h; rw [szR_neg (by omega)]) rfl) (fun h => ?_)
  have q3 := szR_ge h
  rw [szR_pos q3] at h ⊢
  refine ret_gives ?_ rfl
  rw [szR_pos (by omega)]
  first | rfl | (congr 1; omega)
theorem szRelS_of {l : List Rl} (he : ∀ t ∈ l, ∀ {v : Value} {left : Int}, RepV μ t.d v → 0 ≤ left → left ≤ 1048576 → t.d.wd → Gives Try.prog 114 [v, .int .i64 left] μ (.int .i64 (szR left t.d.sz)))
    {base : Option Addr} {cap : Nat} {left : Int} (hsl : Sl μ 7 base l.length (l.map Rl.d)) (hl : 0 ≤ left) (hl2 : left ≤ 1048576) (hw : D.wds (l.map Rl.d)) :
    Gives Try.prog 51 [.slice base l.length cap, .int .i64 left] μ (.int .i64 (szR left (l.length + D.szs (l.map Rl.d)))) := by
  have hn := maxLen_le hsl.max
  refine Spec.mk Try.func51 (by kernel_rfl) ?_
  refine num64 (by omega) (by omega) (ifd (fun h => ret_gives ?_ rfl) (fun h => ?_))
  · rw [szR_neg (by omega)]
  refine loop_intro (fun i : Nat => i ≤ l.length ∧ (D.szs ((l.map Rl.d).take i) : Int) ≤ left - l.length) (fun i => ⟨[(0, .val (.slice base l.length cap)), (1, .val (.int .i64 (left - l.length - D.szs ((l.map Rl.d).take i)))), (5, .val (.int .i64 i))], [], 0, μ, Mem.nil⟩) (fun i => l.length - i)
    0 ⟨by omega, by simp [D.szs]; omega⟩ (fun i => ⟨rfl, rfl⟩) ⟨⟨rfl, by show some (SV.val (.int .i64 _)) = some (SV.val (.int .i64 _)); congr 3; simp [D.szs], rfl, trivial⟩, trivial, rfl, rfl⟩ ?_
  rintro i ⟨hi, hz⟩
  refine ifd (fun h => ?_) (fun h => ?_)
  · obtain ⟨t, ht⟩ := at_some (l := l) (i := i) (by omega)
    have hx := at_map (f := Rl.d) ht
    have hs := D.szs_take hx
    have hs' := D.szs_le (l.map Rl.d) (i + 1)
    obtain ⟨ad, p, hel, hr⟩ := Rl.elem hsl ht
    refine elem_intro hel (call_gives (he t (mem_at ht) hr (by omega) (by omega) (D.wds_mem hw _ (mem_at hx))) ?_)
    refine ifd (fun h => ret_gives ?_ rfl) (fun h => ?_)
    · have := szR_lt h
      rw [szR_neg (by omega)]
    · have := szR_ge h
      refine num64 (by omega) (by omega) ⟨i + 1, ⟨by omega, by omega⟩, by omega, ⟨⟨rfl, ?_, rfl, trivial⟩, trivial, rfl, rfl⟩⟩
      rw [szR_pos this, hs]
      show some (SV.val (.int .i64 _)) = some (SV.val (.int .i64 _))
      congr 3; omega
  · obtain rfl : i = l.length := by omega
    rw [List.take_of_length_le (by simp)] at hz ⊢
    refine ret_gives ?_ rfl
    rw [szR_pos (by omega)]; congr 1; omega
theorem szRelS_spec {l : List Rl} {base : Option Addr} {cap : Nat} {left : Int} (hsl : Sl μ 7 base l.length (l.map Rl.d)) (hl : 0 ≤ left) (hl2 : left ≤ 1048576) (hw : D.wds (l.map Rl.d)) :
    Gives Try.prog 51 [.slice base l.length cap, .int .i64 left] μ (.int .i64 (szR left (l.length + D.szs (l.map Rl.d)))) := szRelS_of (fun t _ _ _ => szRel_spec t) hsl hl hl2 hw
set_option maxRecDepth 4000 in
theorem toRel_spec (x : Rl) {μ : Mem} {v : Value} (hv : RepV μ x.d v) (hb : x.d.sz ≤ 1048576) : Spec Try.prog 119 [v] μ fun v μ' => Fresh μ μ' x.d v := by
  obtain ⟨p, rfl, hA⟩ := Rl.inv hv
  have hsz := Rl.sz_eq x
  have A0 := hA
  refine Spec.mk Try.func119 (by kernel_rfl) ?_
  intro r1 r2 r3
  refine call_plain (toGoal_spec x.body A0 (by omega)) fun u0 μ0 hle0 hf0 => ?_
  obtain ⟨pp0, rfl⟩ := Gl.invV hf0.rep
  rw [Rl.d_eq]
  exact ret_plain (FreshS.st (FreshS.str (FreshS.int (FreshS.int (FreshS.cons hf0 hle0 (Mem.Le.refl _) (FreshS.nil))))))
theorem toRelS_of {l : List Rl} (he : ∀ t ∈ l, ∀ {μ : Mem} {v : Value}, RepV μ t.d v → t.d.sz ≤ 1048576 → Spec Try.prog 119 [v] μ fun v μ' => Fresh μ μ' t.d v)
    {base : Option Addr} {cap : Nat} (hsl : Sl μ 7 base l.length (l.map Rl.d)) (hb : l.length + D.szs (l.map Rl.d) ≤ 1048576) :
    Spec Try.prog 54 [.slice base l.length cap] μ fun v μ' => Fresh μ μ' (.sl 7 (l.map Rl.d)) v := by
  refine Spec.mk Try.func54 (by kernel_rfl) ?_
  refine make_intro l.length rfl rfl (by simp only; omega) (Nat.le_trans (m := 1048576) (by omega) (by decide)) ?_
  intro r
  refine loop_intro (fun p : Nat × List Value × Mem => μ.Le p.2.2 ∧ ∃ g, Filled 7 (.agg #[.string ⟨#[]⟩, .int .i64 0, .int .i64 0, .int .i64 0, .string ⟨#[]⟩, .slice none 0 0, .slice none 0 0]) μ p.2.2 (l.map Rl.d) p.1 p.2.1 g)
    (fun (i, xs, μ') => ⟨[(0, .val (.slice base l.length cap)), (3, .row 0 (some r) l.length l.length), (4, .val (.int .i64 i))], [(0, some (.row (some r) l.length 95 7 xs))], 1, μ', Mem.nil⟩) (fun p => l.length - p.1)
    (0, List.replicate l.length (.agg #[.string ⟨#[]⟩, .int .i64 0, .int .i64 0, .int .i64 0, .string ⟨#[]⟩, .slice none 0 0, .slice none 0 0]), μ) ⟨Mem.Le.refl μ, _, Filled.start (by simp)⟩ (fun (_, _, _) => ⟨rfl, rfl⟩) ⟨⟨rfl, rfl, rfl, trivial⟩, ⟨rfl, trivial⟩, rfl, rfl⟩ ?_
  rintro ⟨i, xs, μ'⟩ ⟨hle, g, hf⟩
  dsimp only at hle hf
  have hi := hf.le
  have hlen := hf.len
  rw [List.length_map] at hi hlen
  refine ifd (fun h => ?_) (fun h => ?_)
  · obtain ⟨t, ht⟩ := at_some (l := l) (i := i) (by omega)
    have hx := at_map (f := Rl.d) ht
    have hs := D.szs_mem hx
    obtain ⟨ad, p, hel, hr⟩ := Rl.elem (hsl.mono hle) ht
    refine elem_intro hel (call_plain (he t (mem_at ht) hr (by omega)) fun v μ'' hle2 hfr => ?_)
    obtain ⟨g', hf'⟩ := hf.step hx (Rl.d_n t) hfr hle2
    obtain ⟨p2, rfl⟩ := Rl.invV hfr.rep
    refine rel_intro i rfl (by omega) ?_
    refine get_intro _ (hf.rest i (by omega) (by simpa using h)) ?_
    refine num64 (by omega) (by omega) ⟨(i + 1, _, μ''), ⟨hle.trans hle2, g', hf'⟩, by dsimp only; omega, ⟨⟨rfl, rfl, rfl, trivial⟩, ⟨rfl, trivial⟩, rfl, rfl⟩⟩
  · obtain rfl : i = l.length := by omega
    refine ret_frz [0] fun μ2 hle2 hno hrow => .inl ?_
    have := Fresh.ofRow (hf.all (by simp)) hf.sub hf.new hle hle2 hno hrow (Nat.le_trans (m := 1048576) (by omega) (by decide))
    rw [hlen] at this
    exact this
theorem toRelS_spec {l : List Rl} {base : Option Addr} {cap : Nat} (hsl : Sl μ 7 base l.length (l.map Rl.d)) (hb : l.length + D.szs (l.map Rl.d) ≤ 1048576) :
    Spec Try.prog 54 [.slice base l.length cap] μ fun v μ' => Fresh μ μ' (.sl 7 (l.map Rl.d)) v := toRelS_of (fun t _ _ _ => toRel_spec t) hsl hb
theorem eqRel_spec (x : Rl) {v v' : Value} (hv : RepV μ x.d v) (hv' : RepV μ x.d v') : Gives Try.prog 124 [v, v'] μ (.bool true) := by
  obtain ⟨p, rfl, hA⟩ := Rl.inv hv
  obtain ⟨p', rfl, hB⟩ := Rl.inv hv'
  have A0 := hA
  have B0 := hB
  refine Spec.mk Try.func124 (by kernel_rfl) ?_
  intro r1 r2
  refine ifnd (fun h => absurd rfl h) (fun _ => ?_)
  refine ifnd (fun h => absurd rfl h) (fun _ => ?_)
  refine ifnd (fun h => absurd rfl h) (fun _ => ?_)
  refine call_gives (eqGoal_spec x.body A0 B0) ?_
  refine if_intro (fun h => nomatch h) (fun _ => ?_)
  exact ret_gives rfl rfl
theorem eqRelS_of {l : List Rl} (he : ∀ t ∈ l, ∀ {v v' : Value}, RepV μ t.d v → RepV μ t.d v' → Gives Try.prog 124 [v, v'] μ (.bool true))
    {base base' : Option Addr} {cap cap' : Nat} (hl : Sl μ 7 base l.length (l.map Rl.d)) (hl' : Sl μ 7 base' l.length (l.map Rl.d)) :
    Gives Try.prog 57 [.slice base l.length cap, .slice base' l.length cap'] μ (.bool true) := by
  have hn := maxLen_le hl.max
  refine Spec.mk Try.func57 (by kernel_rfl) ?_
  refine ifnd (fun h => absurd rfl h) (fun _ => ?_)
  refine loop_intro (fun i : Nat => i ≤ l.length) (fun i => ⟨[(0, .val (.slice base l.length cap)), (1, .val (.slice base' l.length cap')), (5, .val (.int .i64 i))], [], 0, μ, Mem.nil⟩) (fun i => l.length - i)
    0 (by omega) (fun i => ⟨rfl, rfl⟩) ⟨⟨rfl, rfl, rfl, trivial⟩, trivial, rfl, rfl⟩ ?_
  intro i hi
  refine ifd (fun h => ?_) (fun h => ?_)
  · obtain ⟨t, ht⟩ := at_some (l := l) (i := i) (by omega)
    obtain ⟨ad, p, hel, hr⟩ := Rl.elem hl ht
    obtain ⟨ad', p', hel', hr'⟩ := Rl.elem hl' ht
    refine elem_intro hel (elem_intro hel' (call_gives (he t (mem_at ht) hr hr') ?_))
    refine if_intro (fun h => nomatch h) (fun _ => ?_)
    exact num64 (by omega) (by omega) ⟨i + 1, by omega, by omega, ⟨⟨rfl, rfl, rfl, trivial⟩, trivial, rfl, rfl⟩⟩
  · exact ret_gives rfl rfl
theorem eqRelS_spec {l : List Rl} {base base' : Option Addr} {cap cap' : Nat} (hl : Sl μ 7 base l.length (l.map Rl.d)) (hl' : Sl μ 7 base' l.length (l.map Rl.d)) :
    Gives Try.prog 57 [.slice base l.length cap, .slice base' l.length cap'] μ (.bool true) := eqRelS_of (fun t _ _ _ => eqRel_spec t) hl hl'
theorem Rl.mk_eq (x : Rl) (k : Int) : x.d.mk k = (.st [.s (mtext (k)), .i (k + 1), .i (k + 1 + 1), .st [.i (k + 1 + 1 + 1), .s (mtext (k + 1 + 1 + 1 + 1)), .sl 4 (D.mks (x.body.terms.map Tm.d) (k + 1 + 1 + 1 + 1 + 1)).1, .sl 4 (D.mks (x.body.goals.map Gl.d) ((D.mks (x.body.terms.map Tm.d) (k + 1 + 1 + 1 + 1 + 1)).2)).1]], (D.mks (x.body.goals.map Gl.d) ((D.mks (x.body.terms.map Tm.d) (k + 1 + 1 + 1 + 1 + 1)).2)).2) := by
  rw [Rl.d_eq]
  simp only [D.mk, D.mks, Gl.mk_eq]
theorem Rl.cnt_eq (x : Rl) : x.d.cnt = 5 + D.cnts (x.body.terms.map Tm.d) + D.cnts (x.body.goals.map Gl.d) := by
  rw [Rl.d_eq]
  simp only [D.cnt, D.cnts, Gl.cnt_eq]
  omega
theorem read_Rel : Reads Try.prog 157 fun d => ∃ x : Rl, d = x.d ∧ x.d.wd
  | 0 => ReadsTo.zero _
  | n + 1 => (reads_struct ti157 rfl (FieldsTo.cons ti9 (reads_str und_string n) (FieldsTo.cons ti3 (reads_int und_int n) (FieldsTo.cons ti3 (reads_int und_int n) (FieldsTo.cons ti155 (read_Goal n) FieldsTo.nil))))).weaken fun d h => by
    obtain ⟨ds, rfl, h⟩ := h
    obtain ⟨_, _, rfl, ⟨x0, rfl, w0⟩, q0⟩ := h.cons
    obtain ⟨_, _, rfl, ⟨x1, rfl, w1⟩, q1⟩ := q0.cons
    obtain ⟨_, _, rfl, ⟨x2, rfl, w2⟩, q2⟩ := q1.cons
    obtain ⟨_, _, rfl, ⟨x3, rfl, w3⟩, q3⟩ := q2.cons
    obtain rfl := q3.nil
    refine ⟨.mk x0 x1 x2 x3, (Rl.d_eq (.mk x0 x1 x2 x3)).symm, ?_⟩
    rw [Rl.d_eq]
    exact ⟨w0, w1, w2, w3, trivial⟩
theorem read_RelS : Reads Try.prog 22 fun d => ∃ l : List Rl, d = .sl 7 (l.map Rl.d) ∧ D.wds (l.map Rl.d) := fun n =>
  (reads_sl ti22.kind (cellsOf_tt ti157) (fun d h => by obtain ⟨a, rfl, _⟩ := h; exact Rl.d_n a) read_Rel n).weaken fun d h => by
    obtain ⟨xs, rfl, hx⟩ := h
    obtain ⟨l, rfl⟩ := lift_list (f := Rl.d) fun x h => by obtain ⟨t, h, _⟩ := hx x h; exact ⟨t, h⟩
    exact ⟨l, rfl, D.wds_of fun x hm => by obtain ⟨t, rfl, h⟩ := hx x hm; exact h⟩
end
end Go.Vx

/- Contracts: the laws' own functions on values of the type Program: sizes, copies, equality, marks; what an argument reads. (By gen_types.py.) -/
namespace Go.Vx
open Go.Proofs Classical
structure Pg where
  rels : List Rl
def Pg.d (x : Pg) : D := .st [.sl 7 (x.rels.map Rl.d)]
theorem Pg.d_eq (x : Pg) : x.d = .st [.sl 7 (x.rels.map Rl.d)] := rfl
theorem Pg.d_n (x : Pg) : x.d.n = 1 := by
  rw [Pg.d_eq]
  simp only [D.n, D.ns]
abbrev Pg.P := (Option Addr × Nat)
/-- The cells of a value. -/
def Pg.cs (x : Pg) (p : Pg.P) : List Value := [.slice p.1 x.rels.length p.2]
section
variable {μ : Mem}
def Pg.At (μ : Mem) (x : Pg) (p : Pg.P) : Prop := Sl μ 7 p.1 x.rels.length (x.rels.map Rl.d)
theorem Pg.invA {x : Pg} {cs : List Value} (h : Rep μ x.d cs) : ∃ p : Pg.P, cs = x.cs p ∧ Pg.At μ x p := by
  rw [Pg.d_eq] at h
  obtain ⟨a0, t0, rfl, h0, h⟩ := h
  obtain ⟨v0, rfl⟩ := one_of (Rep.len _ _ h0)
  obtain ⟨b0, c0, rfl, s0⟩ := Rep.sl h0
  rw [List.length_map] at s0
  obtain rfl : t0 = [] := h
  exact ⟨(b0, c0), by simp [Pg.cs], s0⟩
theorem Pg.rep {x : Pg} {cs : List Value} (h : Rep μ x.d cs) : RepV μ x.d (.agg cs.toArray) := by
  rw [Pg.d_eq] at h ⊢; exact ⟨cs, rfl, h⟩
theorem Pg.invR {x : Pg} {cs : List Value} (h : Rep μ x.d cs) : ∃ p : Pg.P, cs = x.cs p ∧ RepV μ x.d (.agg (x.cs p).toArray) := by
  obtain ⟨p, e, _⟩ := Pg.invA h
  subst e
  exact ⟨p, rfl, Pg.rep h⟩
theorem Pg.inv {x : Pg} {v : Value} (h : RepV μ x.d v) : ∃ p : Pg.P, v = .agg #[.slice p.1 x.rels.length p.2] ∧ Pg.At μ x p := by
  have h2 : ∃ cs, v = .agg (List.toArray cs) ∧ Rep μ x.d cs := by rw [Pg.d_eq] at h ⊢; exact h
  obtain ⟨cs, rfl, h3⟩ := h2
  obtain ⟨p, rfl, hA⟩ := Pg.invA h3
  exact ⟨p, rfl, hA⟩
theorem Pg.invV {x : Pg} {v : Value} (h : RepV μ x.d v) : ∃ p : Pg.P, v = .agg #[.slice p.1 x.rels.length p.2] := by
  obtain ⟨p, h, _⟩ := Pg.inv h
  exact ⟨p, h⟩
theorem Pg.elemA {l : List Pg} {base : Option Addr} {n : Nat} (h : Sl μ 1 base n (l.map Pg.d)) {i : Nat} {x : Pg} (hx : l[i]? = some x) : ∃ ad, ∃ p : Pg.P, ElemAt μ base n 1 i ad (x.cs p) ∧ RepV μ x.d (.agg (x.cs p).toArray) ∧ Pg.At μ x p := by
  obtain ⟨ad, cs, h1, h2⟩ := h.get i x.d (by simp [hx])
  obtain ⟨p, rfl, hA⟩ := Pg.invA h2
  exact ⟨ad, p, h1, Pg.rep h2, hA⟩
theorem Pg.elem {l : List Pg} {base : Option Addr} {n : Nat} (h : Sl μ 1 base n (l.map Pg.d)) {i : Nat} {x : Pg} (hx : l[i]? = some x) : ∃ ad, ∃ p : Pg.P, ElemAt μ base n 1 i ad (x.cs p) ∧ RepV μ x.d (.agg (x.cs p).toArray) := by
  obtain ⟨ad, p, h1, h2, _⟩ := Pg.elemA h hx
  exact ⟨ad, p, h1, h2⟩
theorem Pg.ownR {x : Pg} {h : Mem} {cs : List Value} (k : Own x.d h cs) : ∃ p : Pg.P, cs = x.cs p ∧ OwnV (.sl 7 (x.rels.map Rl.d)) h (.slice p.1 x.rels.length p.2) := by
  rw [Pg.d_eq] at k
  obtain ⟨a0, t0, h0, r0, rfl, q0, o0, k⟩ := k
  obtain ⟨v0, rfl⟩ := one_of (Own.len o0)
  obtain ⟨b0, c0, rfl⟩ := Own.sl o0
  rw [List.length_map] at o0
  obtain ⟨rfl, rfl⟩ := k
  obtain rfl := q0.eq (Parts.nil_right _)
  exact ⟨(b0, c0), by simp [Pg.cs], o0⟩
theorem Pg.sz_eq (x : Pg) : x.d.sz = (x.rels.length + D.szs (x.rels.map Rl.d)) := by
  rw [Pg.d_eq]
  simp [D.sz, D.szs]
theorem szProgram_spec (x : Pg) {v : Value} {left : Int} (hv : RepV μ x.d v) (hl : 0 ≤ left) (hl2 : left ≤ 1048576) (hw : x.d.wd) : Gives Try.prog 10 [v, .int .i64 left] μ (.int .i64 (szR left x.d.sz)) := by
  obtain ⟨p, rfl, hA⟩ := Pg.inv hv
  have hsz := Pg.sz_eq x
  rw [Pg.d_eq] at hw
  refine Spec.mk Try.func10 (by kernel_rfl) ?_
  intro r
  refine call_gives (szRelS_spec hA (by omega) (by omega) hw.1) ?_
  refine ifd (fun h => ret_gives (by have := szR_lt h; rw [szR_neg (by omega)]) rfl) (fun h => ?_)
  have q0 := szR_ge h
  rw [szR_pos q0] at h ⊢
  refine ret_gives ?_ rfl
  rw [szR_pos (by omega)]
  first | rfl | (congr 1; omega)
set_option maxRecDepth 4000 in
theorem toProgram_spec (x : Pg) {μ : Mem} {v : Value} (hv : RepV μ x.d v) (hb : x.d.sz ≤ 1048576) : Spec Try.prog 12 [v] μ fun v μ' => Fresh μ μ' x.d v := by
  obtain ⟨p, rfl, hA⟩ := Pg.inv hv
  have hsz := Pg.sz_eq x
  have A0 := hA
  refine Spec.mk Try.func12 (by kernel_rfl) ?_
  intro r1 r2 r3
  refine call_plain (toRelS_spec A0 (by omega)) fun u0 μ0 hle0 hf0 => ?_
  obtain ⟨bb0, cc0, rfl, _⟩ := Rep.sl hf0.rep
  rw [Pg.d_eq]
  exact ret_plain (FreshS.st (FreshS.cons hf0 hle0 (Mem.Le.refl _) (FreshS.nil)))
theorem eqProgram_spec (x : Pg) {v v' : Value} (hv : RepV μ x.d v) (hv' : RepV μ x.d v') : Gives Try.prog 14 [v, v'] μ (.bool true) := by
  obtain ⟨p, rfl, hA⟩ := Pg.inv hv
  obtain ⟨p', rfl, hB⟩ := Pg.inv hv'
  have A0 := hA
  have B0 := hB
  refine Spec.mk Try.func14 (by kernel_rfl) ?_
  intro r1 r2
  refine call_gives (eqRelS_spec A0 B0) ?_
  refine if_intro (fun h => nomatch h) (fun _ => ?_)
  exact ret_gives rfl rfl
theorem Pg.mk_eq (x : Pg) (k : Int) : x.d.mk k = (.st [.sl 7 (D.mks (x.rels.map Rl.d) (k)).1], (D.mks (x.rels.map Rl.d) (k)).2) := by
  rw [Pg.d_eq]
  simp only [D.mk, D.mks]
theorem Pg.cnt_eq (x : Pg) : x.d.cnt = 0 + D.cnts (x.rels.map Rl.d) := by
  rw [Pg.d_eq]
  simp only [D.cnt, D.cnts]
  omega
theorem read_Program : Reads Try.prog 24 fun d => ∃ x : Pg, d = x.d ∧ x.d.wd
  | 0 => ReadsTo.zero _
  | n + 1 => (reads_struct ti24 rfl (FieldsTo.cons ti22 (read_RelS n) FieldsTo.nil)).weaken fun d h => by
    obtain ⟨ds, rfl, h⟩ := h
    obtain ⟨_, _, rfl, ⟨x0, rfl, w0⟩, q0⟩ := h.cons
    obtain rfl := q0.nil
    refine ⟨.mk x0, (Pg.d_eq (.mk x0)).symm, ?_⟩
    rw [Pg.d_eq]
    exact ⟨w0, trivial⟩
end
end Go.Vx

/- Contracts: relations of a program, calls that fit. -/
namespace Go.Vx
open Go.Proofs Classical
noncomputable def relFrom : List Rl → Nat → ByteArray → Int
  | [], _, _ => -1
  | r :: l, i, s => if r.name = s then i else relFrom l (i + 1) s
noncomputable def relAt (p : Pg) (s : ByteArray) : Int := relFrom p.rels 0 s
theorem relFrom_some {s : ByteArray} : ∀ {l : List Rl} {i : Nat}, 0 ≤ relFrom l i s → ∃ (j : Nat) (r : Rl), relFrom l i s = ((i + j : Nat) : Int) ∧ l[j]? = some r ∧ r.name = s
  | [], i, h => by simp [relFrom] at h
  | r :: l, i, h => by
    rw [relFrom] at h ⊢
    by_cases e : r.name = s
    · rw [if_pos e]; exact ⟨0, r, by simp, rfl, e⟩
    · rw [if_neg e] at h ⊢
      obtain ⟨j, r', h1, h2, h3⟩ := relFrom_some h
      exact ⟨j + 1, r', by rw [h1]; congr 1; omega, h2, h3⟩
/-- A call that fits the program. -/
def CallFits (p : Pg) (g : Gl) : Prop := g.kind = 9 → ∃ (i : Nat) (r : Rl), relAt p g.name = i ∧ p.rels[i]? = some r ∧ r.arity = g.terms.length
section
variable {μ : Mem}
theorem relation_spec {p : Pg} {s : ByteArray} {v : Value} (hv : RepV μ p.d v) : Gives Try.prog 120 [v, .string s] μ (.int .i64 (relAt p s)) := by
  obtain ⟨q, rfl, hsl⟩ := Pg.inv hv
  have hn := maxLen_le hsl.max
  refine Spec.mk Try.func120 (by kernel_rfl) ?_
  intro r
  refine loop_intro (fun i : Nat => i ≤ p.rels.length ∧ relFrom (p.rels.drop i) i s = relAt p s) (fun i => ⟨[(1, .val (.string s)), (8, .val (.slice q.1 p.rels.length q.2)), (9, .val (.int .i64 p.rels.length)), (10, .val (.int .i64 i))], [], 1, μ, Mem.nil⟩) (fun i => p.rels.length - i)
    0 ⟨by omega, rfl⟩ (fun _ => ⟨rfl, rfl⟩) ⟨⟨rfl, rfl, rfl, rfl, trivial⟩, trivial, rfl, rfl⟩ ?_
  rintro i ⟨hi, hJ⟩
  refine ifd (fun hlt => ?_) (fun hlt => ?_)
  · obtain ⟨x, hx⟩ := at_some (l := p.rels) (i := i) (by omega)
    obtain ⟨ad, q2, hel, hr⟩ := Rl.elem hsl hx
    rw [drop_at hx, relFrom] at hJ
    refine elem_intro hel ?_
    intro r2
    refine ifd (fun e => ?_) (fun e => ?_)
    · rw [if_pos e] at hJ
      exact ret_gives (by rw [← hJ]) rfl
    · rw [if_neg e] at hJ
      exact num64 (by omega) (by omega) ⟨i + 1, ⟨by omega, hJ⟩, by omega, ⟨⟨rfl, rfl, rfl, rfl, trivial⟩, trivial, rfl, rfl⟩⟩
  · obtain rfl : i = p.rels.length := by omega
    rw [List.drop_length] at hJ
    exact ret_gives (by rw [← hJ]; rfl) rfl
theorem l14Find_spec {p : Pg} {s : ByteArray} {v : Value} (hv : RepV μ p.d v) : Gives Try.prog 115 [v, .string s] μ (.int .i64 (relAt p s)) := by
  obtain ⟨q, rfl, hsl⟩ := Pg.inv hv
  have hn := maxLen_le hsl.max
  refine Spec.mk Try.func115 (by kernel_rfl) ?_
  intro r
  refine loop_intro (fun i : Nat => i ≤ p.rels.length ∧ relFrom (p.rels.drop i) i s = relAt p s) (fun i => ⟨[(1, .val (.string s)), (8, .val (.slice q.1 p.rels.length q.2)), (9, .val (.int .i64 p.rels.length)), (10, .val (.int .i64 i))], [], 1, μ, Mem.nil⟩) (fun i => p.rels.length - i)
    0 ⟨by omega, rfl⟩ (fun _ => ⟨rfl, rfl⟩) ⟨⟨rfl, rfl, rfl, rfl, trivial⟩, trivial, rfl, rfl⟩ ?_
  rintro i ⟨hi, hJ⟩
  refine ifd (fun hlt => ?_) (fun hlt => ?_)
  · obtain ⟨x, hx⟩ := at_some (l := p.rels) (i := i) (by omega)
    obtain ⟨ad, q2, hel, hr⟩ := Rl.elem hsl hx
    rw [drop_at hx, relFrom] at hJ
    refine elem_intro hel ?_
    intro r2
    refine ifd (fun e => ?_) (fun e => ?_)
    · rw [if_pos e] at hJ
      exact ret_gives (by rw [← hJ]) rfl
    · rw [if_neg e] at hJ
      exact num64 (by omega) (by omega) ⟨i + 1, ⟨by omega, hJ⟩, by omega, ⟨⟨rfl, rfl, rfl, rfl, trivial⟩, trivial, rfl, rfl⟩⟩
  · obtain rfl : i = p.rels.length := by omega
    rw [List.drop_length] at hJ
    exact ret_gives (by rw [← hJ]; rfl) rfl
theorem relAt_some {p : Pg} {s : ByteArray} (h : 0 ≤ relAt p s) : ∃ (j : Nat) (r : Rl), relAt p s = (j : Int) ∧ p.rels[j]? = some r := by
  obtain ⟨j, r, h1, h2, h3⟩ := relFrom_some h
  exact ⟨j, r, by rw [relAt, h1]; simp, h2⟩
theorem callFits_iff {p : Pg} {g : Gl} (h9 : g.kind = 9) {j : Nat} {r : Rl} (e : relAt p g.name = (j : Int)) (hr : p.rels[j]? = some r) : CallFits p g ↔ r.arity = g.terms.length := by
  constructor
  · intro h
    obtain ⟨i, r', h1, h2, h3⟩ := h h9
    rw [e] at h1
    obtain rfl : j = i := by omega
    rw [hr] at h2; cases h2
    exact h3
  · intro h _
    exact ⟨j, r, e, hr, h⟩
theorem callFits_neg {p : Pg} {g : Gl} (h9 : g.kind = 9) (h : ¬ 0 ≤ relAt p g.name) : ¬ CallFits p g := fun k => by
  obtain ⟨i, r', h1, _, _⟩ := k h9
  omega
/-- All calls in a goal fit. -/
inductive FitAll (p : Pg) : Gl → Prop
  | mk {g : Gl} (top : CallFits p g) (sub : ∀ x ∈ g.goals, FitAll p x) : FitAll p g
theorem FitAll.top {p : Pg} {g : Gl} (h : FitAll p g) : CallFits p g := by cases h; assumption
theorem FitAll.sub {p : Pg} {g : Gl} (h : FitAll p g) : ∀ x ∈ g.goals, FitAll p x := by cases h; assumption
theorem l14Calls_spec {p : Pg} {vp : Value} (hp : RepV μ p.d vp) : ∀ (g : Gl) {v : Value}, g.Sh → RepV μ g.d v → Gives Try.prog 170 [vp, v] μ (.bool (decide (FitAll p g))) := by
  obtain ⟨q, rfl, hrl⟩ := Pg.inv hp
  refine Gl.ind fun g ih v hS hv => ?_
  obtain ⟨q2, rfl, hts, hgs⟩ := Gl.inv hv
  have hn := maxLen_le hgs.max
  refine Spec.mk Try.func170 (by kernel_rfl) ?_
  intro r1 r2
  refine ifd (fun h9 => ?_) (fun h9 => ?_)
  · have hg0 : g.goals = [] := List.eq_nil_of_length_eq_zero (hS.top.gl0 (.inr h9))
    have hiff : FitAll p g ↔ CallFits p g := ⟨fun h => h.top, fun h => .mk h (by rw [hg0]; simp)⟩
    refine call_gives (l14Find_spec hp) ?_
    refine ifd (fun h0 => ?_) (fun h0 => ret_gives (isF fun h => callFits_neg h9 h0 h.top) rfl)
    obtain ⟨j, rl, e, hr⟩ := relAt_some h0
    obtain ⟨ad, q3, hel, hrr⟩ := Rl.elem hrl hr
    rw [e]
    refine elem_intro hel ?_
    exact ret_gives (isI ((callFits_iff h9 e hr).symm.trans hiff.symm)) rfl
  · refine loop_intro (fun i : Nat => i ≤ g.goals.length ∧ ∀ x ∈ g.goals.take i, FitAll p x) (fun i => ⟨[(2, .loc 0 r1 0), (30, .val (.slice q2.2.1 g.goals.length q2.2.2)), (31, .val (.int .i64 g.goals.length)), (32, .val (.int .i64 i))], [(0, some (.cells r1 [.val (.slice q.1 p.rels.length q.2)] 29))], 2, μ, Mem.nil⟩) (fun i => g.goals.length - i)
      0 ⟨by omega, by simp⟩ (fun _ => ⟨rfl, rfl⟩) ⟨⟨rfl, rfl, rfl, rfl, trivial⟩, ⟨rfl, trivial⟩, rfl, rfl⟩ ?_
    rintro i ⟨hi, hall⟩
    refine ifd (fun hlt => ?_) (fun hlt => ?_)
    · obtain ⟨t, ht⟩ := at_some (l := g.goals) (i := i) (by omega)
      obtain ⟨ad, q3, hel, hr⟩ := Gl.elem hgs ht
      refine elem_intro hel ?_
      intro r3
      refine call_gives (ih t (mem_at ht) (hS.sub t (mem_at ht)) hr) ?_
      refine ifnd (fun h => ret_gives (isF fun S => h (S.sub t (mem_at ht))) rfl) (fun h => ?_)
      refine num64 (by omega) (by omega) ⟨i + 1, ⟨by omega, fun x hx => ?_⟩, by omega, ⟨⟨rfl, rfl, rfl, rfl, trivial⟩, ⟨rfl, trivial⟩, rfl, rfl⟩⟩
      rw [List.take_add_one, ht, Option.toList_some, List.mem_append, List.mem_singleton] at hx
      rcases hx with hx | rfl
      · exact hall x hx
      · exact h
    · obtain rfl : i = g.goals.length := by omega
      rw [List.take_length] at hall
      exact ret_gives (isT (.mk (fun h => absurd h h9) hall)) rfl
end
end Go.Vx

/- Contracts: calls that fit, the program's side. -/
namespace Go.Vx
open Go.Proofs Classical
theorem FitAll.all {p : Pg} : ∀ {g : Gl}, FitAll p g → ∀ x ∈ g.all, CallFits p x := fun {g} => by
  refine Gl.ind (q := fun g => FitAll p g → ∀ x ∈ g.all, CallFits p x) (fun g ih h x hx => ?_) g
  rw [Gl.all_eq] at hx
  rcases List.mem_cons.1 hx with rfl | hx
  · exact h.top
  · obtain ⟨y, hy, hx⟩ := List.mem_flatMap.1 hx
    exact ih y hy (h.sub y hy) x hx
theorem FitAll.of {p : Pg} : ∀ {g : Gl}, (∀ x ∈ g.all, CallFits p x) → FitAll p g := fun {g} => by
  refine Gl.ind (q := fun g => (∀ x ∈ g.all, CallFits p x) → FitAll p g) (fun g ih h => ?_) g
  rw [Gl.all_eq] at h
  exact .mk (h g (by simp)) fun y hy => ih y hy fun x hx => h x (List.mem_cons_of_mem _ (List.mem_flatMap.2 ⟨y, hy, hx⟩))
theorem foldl_and {α : Type} (f : α → Prop) : ∀ (l : List α) (b : Bool), l.foldl (fun b x => b && decide (f x)) b = (b && decide (∀ x ∈ l, f x))
  | [], b => by simp
  | a :: l, b => by
    rw [List.foldl_cons, foldl_and f l, Bool.and_assoc]
    congr 1
    by_cases h : f a
    · simp [h]
    · simp [h]
section
variable {μ : Mem}
theorem callsFit1_spec {p : Pg} {q : Pg.P} {rp rf : Nat} {b : Bool} {h : Mem} {g : Gl} {v : Value} (hp : RepV μ p.d (.agg #[.slice q.1 p.rels.length q.2])) (hrl : Sl μ 7 q.1 p.rels.length (p.rels.map Rl.d)) (hat : μ rp = some (.cells #[.slice q.1 p.rels.length q.2] 29 (0, 0)))
    (hv : RepV μ g.d v) (hf : h rf = some (.cells #[.bool b] 4 (0, 0))) :
    SpecH Try.prog 177 [v, .pointer (some ⟨rp, 0, none⟩), .pointer (some ⟨rf, 0, none⟩)] μ h fun r μ' h' => r = .tuple #[] ∧ μ' = μ ∧ h' rf = some (.cells #[.bool (b && decide (CallFits p g))] 4 (0, 0)) := by
  obtain ⟨q2, rfl, hts, hgs⟩ := Gl.inv hv
  refine SpecH.mk [] Try.func177 (by kernel_rfl) ?_
  intro r
  refine ifd (fun h9 => ?_) (fun h9 => ?_)
  rotate_left
  · have : CallFits p g := fun k => absurd k h9
    exact ret_plain ⟨rfl, rfl, by rw [decide_eq_true this, Bool.and_true]; exact hf⟩
  refine ext_intro [.slice q.1 p.rels.length q.2] rfl (box_at hat) ?_
  refine call_gives (relation_spec hp) ?_
  refine ifd (fun h0 => ?_) (fun h0 => ?_)
  · have : ¬ CallFits p g := callFits_neg h9 (by omega)
    refine sto_intro [.bool b] 4 hf rfl (Nat.le_refl _) ?_
    exact ret_plain ⟨rfl, rfl, by rw [decide_eq_false this, Bool.and_false]; exact Mem.set_at _ _ _⟩
  · obtain ⟨j, rl, e, hr⟩ := relAt_some (Int.not_lt.1 h0)
    obtain ⟨ad, q3, hel, hrr⟩ := Rl.elem hrl hr
    have hiff := callFits_iff h9 e hr
    refine ext_intro [.slice q.1 p.rels.length q.2] rfl (fun j v hj => by show μ.cell (((⟨rp, 0, none⟩ : Addr).add 0).add j) = some v; rw [add_add, Nat.zero_add]; exact box_at hat j v hj) ?_
    rw [e]
    refine elem_intro hel ?_
    refine ifnd (fun hne => ?_) (fun heq => ?_)
    · have : ¬ CallFits p g := fun k => hne (hiff.1 k)
      refine sto_intro [.bool b] 4 hf rfl (Nat.le_refl _) ?_
      exact ret_plain ⟨rfl, rfl, by rw [decide_eq_false this, Bool.and_false]; exact Mem.set_at _ _ _⟩
    · have : CallFits p g := hiff.2 heq
      exact ret_plain ⟨rfl, rfl, by rw [decide_eq_true this, Bool.and_true]; exact hf⟩
theorem callsFit_spec {p : Pg} {vp v : Value} {g : Gl} (hp : RepV μ p.d vp) (hv : RepV μ g.d v) : Spec Try.prog 123 [vp, v] μ fun r _ => r = .bool (decide (FitAll p g)) := by
  obtain ⟨q, rfl, hrl⟩ := Pg.inv hp
  obtain ⟨q2, rfl⟩ := Gl.invV hv
  refine Spec.mkO [5] Try.func123 (by kernel_rfl) ?_
  intro r1 r2
  intro rf hmf hof
  refine sto_intro [.bool false] 4 (Mem.set_at _ _ _) rfl (Nat.le_refl _) ?_
  generalize hh : Mem.set (Mem.set _ rf _) rf _ = h0
  have hf0 : h0 rf = some (.cells #[.bool true] 4 (0, 0)) := by subst hh; rw [Mem.set_at]; rfl
  refine call_gen [0] [] (fun _ => rfl) ?_
  intro μ1 hle1 hno1 hat1
  refine own_go (eachGoal_rel (fun b h => h rf = some (.cells #[.bool b] 4 (0, 0))) (fun b x => b && decide (CallFits p x)) (fun _ => True) (fun b h x w _ hw hj => callsFit1_spec (hp.mono hle1) (hrl.mono hle1) hat1 hw hj) g true h0 (hv.mono hle1) (fun _ _ => trivial) hf0) fun v μ2 h' hle hap hR => ?_
  obtain ⟨rfl, e2, hj⟩ := hR
  obtain rfl := e2.symm
  rw [foldl_and, Bool.true_and] at hj
  refine own_intro [.bool _] rfl (box_at hj) ?_
  exact ret_plain (isI ⟨fun h => FitAll.of h, fun h => h.all⟩)
end
end Go.Vx

/- Contracts: well-formed programs, the program's side. -/
namespace Go.Vx
open Go.Proofs Classical
structure RelOk (p : Pg) (i : Nat) (r : Rl) : Prop where
  at_ : relAt p r.name = i
  name : IsRel r.name
  ar0 : 0 ≤ r.arity
  ar4 : r.arity ≤ 4
  lo0 : 0 ≤ r.locals
  lo8 : r.locals ≤ 8
  body : r.body.Sh
  size : r.body.cnt ≤ 60
  vars : ∀ n ∈ r.body.vars, n < r.arity + r.locals
  calls : FitAll p r.body
def Pg.Ok (p : Pg) : Prop := p.rels.length ≤ 8 ∧ ∀ (i : Nat) (r : Rl), p.rels[i]? = some r → RelOk p i r
section
variable {μ : Mem}
theorem impl_ProgramOk_spec {p : Pg} {v : Value} (hp : RepV μ p.d v) : Spec Try.prog 55 [v] μ fun r _ => r = .bool (decide p.Ok) := by
  obtain ⟨q, rfl, hrl⟩ := Pg.inv hp
  refine Spec.mk Try.func55 (by kernel_rfl) ?_
  intro r1
  refine ifd (fun h8 => ret_plain (isF fun h => by have := h.1; omega)) (fun h8 => ?_)
  refine loop_intro (fun x : Nat × Mem => x.1 ≤ p.rels.length ∧ μ.Le x.2 ∧ ∀ (j : Nat) (r : Rl), j < x.1 → p.rels[j]? = some r → RelOk p j r)
    (fun (i, μ') => ⟨[(1, .loc 0 r1 0), (10, .val (.slice q.1 p.rels.length q.2)), (11, .val (.int .i64 p.rels.length)), (12, .val (.int .i64 i))], [(0, some (.cells r1 [.val (.slice q.1 p.rels.length q.2)] 29))], 1, μ', Mem.nil⟩) (fun x => p.rels.length - x.1)
    (0, μ) ⟨by simp, Mem.Le.refl _, fun j r hj => by simp at hj⟩ (fun (_, _) => ⟨rfl, rfl⟩) ⟨⟨rfl, rfl, rfl, rfl, trivial⟩, ⟨rfl, trivial⟩, rfl, rfl⟩ ?_
  rintro ⟨i, μ'⟩ ⟨hi, hle, hall⟩
  dsimp only at hi hle hall
  refine ifd (fun hlt => ?_) (fun hlt => ?_)
  · obtain ⟨x, hx⟩ := at_some (l := p.rels) (i := i) (by omega)
    obtain ⟨ad, q2, hel, hr, hb⟩ := Rl.elemA (hrl.mono hle) hx
    have hb : RepV μ' x.body.d (.agg (x.body.cs q2).toArray) := hb
    have bad : ¬ RelOk p i x → Value.bool false = .bool (decide p.Ok) := fun h => isF fun k => h (k.2 i x hx)
    refine elem_intro hel ?_
    intro r2
    refine call_gives (impl_IsRelName_spec _ _) ?_
    refine ifnd (fun h => ret_plain (bad fun k => h k.name)) (fun g1 => ?_)
    refine call_gives (relation_spec (hp.mono hle)) ?_
    refine ifnd (fun h => ret_plain (bad fun k => h k.at_)) (fun g2 => ?_)
    refine ifd (fun h => ret_plain (bad fun k => by have := k.ar0; omega)) (fun g3 => ?_)
    refine ifd (fun h => ret_plain (bad fun k => by have := k.ar4; omega)) (fun g4 => ?_)
    refine ifd (fun h => ret_plain (bad fun k => by have := k.lo0; omega)) (fun g5 => ?_)
    refine ifd (fun h => ret_plain (bad fun k => by have := k.lo8; omega)) (fun g6 => ?_)
    refine call_gives (goalNodes_spec x.body hb (by decide) (by decide)) ?_
    refine ifd (fun h => ret_plain (bad fun k => Gl.nodes_lt h ⟨k.body, by have := k.size; omega⟩)) (fun h => ?_)
    obtain ⟨g7, g8, _⟩ := Gl.nodes_ge h
    refine num64 (by omega) (by omega) ?_
    refine call_plain (varsBelow_spec g7 hb) fun v1 μ1 hle1 hR => ?_
    obtain rfl := hR
    refine ifnd (fun h => ret_plain (bad fun k => h k.vars)) (fun g9 => ?_)
    refine call_plain (callsFit_spec ((hp.mono hle).mono hle1) (hb.mono hle1)) fun v2 μ2 hle2 hR => ?_
    obtain rfl := hR
    refine ifnd (fun h => ret_plain (bad fun k => h k.calls)) (fun g10 => ?_)
    have hok : RelOk p i x := ⟨g2, g1, by omega, by omega, by omega, by omega, g7, by omega, g9, g10⟩
    refine num64 (by omega) (by omega) ⟨(i + 1, μ2), ⟨by dsimp only; omega, (hle.trans hle1).trans hle2, fun j r hj hr => ?_⟩, by dsimp only; omega, ⟨⟨rfl, rfl, rfl, rfl, trivial⟩, ⟨rfl, trivial⟩, rfl, rfl⟩⟩
    rcases Nat.lt_or_ge j i with h6 | h6
    · exact hall j r h6 hr
    · obtain rfl : j = i := by omega
      rw [hx] at hr; cases hr; exact hok
  · obtain rfl : i = p.rels.length := by omega
    exact ret_plain (isT ⟨by omega, fun j r hr => hall j r (List.getElem?_eq_some_iff.1 hr).1 hr⟩)
/-- How many nodes a goal has; none if it is not well-formed. -/
noncomputable def Gl.count (g : Gl) : Int := if g.Ok then g.cnt else 0
theorem impl_GoalSize_spec (g : Gl) {v : Value} (hv : RepV μ g.d v) : Gives Try.prog 56 [v] μ (.int .i64 g.count) := by
  obtain ⟨p, rfl⟩ := Gl.invV hv
  refine Spec.mk Try.func56 (by kernel_rfl) ?_
  intro r
  refine call_gives (goalNodes_spec g hv (by decide) (by decide)) ?_
  refine ret_gives ?_ rfl
  congr 1
  have e : g.nodes 80 = if g.Ok then (g.cnt : Int) else -1 := by
    rw [Gl.nodes]
    by_cases h : g.Ok
    · rw [if_pos h, if_pos ⟨h.1, by have := h.2; omega⟩]
    · rw [if_neg h, if_neg fun k => h ⟨k.1, by omega⟩]
  rw [e, Gl.count]
  have := g.cnt_pos
  by_cases h : g.Ok
  · rw [if_pos h, if_pos h, if_neg (by omega)]
  · rw [if_neg h, if_neg h, if_pos (by decide)]
theorem spec_GoalSize_spec (g : Gl) {v : Value} (hv : RepV μ g.d v) (hw : g.d.wd) : Gives Try.prog 53 [v] μ (.int .i64 g.count) := by
  obtain ⟨p, rfl⟩ := Gl.invV hv
  refine Spec.mk Try.func53 (by kernel_rfl) ?_
  intro r
  refine call_gives (spec_GoalOk_spec g hv hw) ?_
  refine ifnd (fun h => ret_gives (by rw [Gl.count, if_neg h]) rfl) (fun h => ?_)
  refine call_gives (l13Count_spec g hv (by decide) (by decide)) ?_
  refine ret_gives ?_ rfl
  congr 1
  have := h.2
  have := g.cnt_pos
  rw [Gl.count, if_pos h, upTo]
  omega
end
end Go.Vx

/- Contracts: the reference's lists of variables, sorted; goals that fit. -/
namespace Go.Vx
open Go.Proofs Classical
theorem ins_sorted {l : List Int} {n : Int} {k : Nat} (hs : l.Pairwise (· < ·)) (h1 : ∀ y ∈ l.take k, y < n) (h2 : ∀ y ∈ l.drop k, n < y) : (insInt l n k).Pairwise (· < ·) := by
  unfold insInt
  rw [List.pairwise_append]
  refine ⟨hs.sublist (List.take_sublist _ _), ?_, ?_⟩
  · rw [List.singleton_append, List.pairwise_cons]
    exact ⟨h2, hs.sublist (List.drop_sublist _ _)⟩
  · intro a ha b hb
    rcases List.mem_append.1 hb with hb | hb
    · rw [List.mem_singleton] at hb; subst hb; exact h1 a ha
    · have := h1 a ha; have := h2 b hb; omega
theorem srt_get {l : List Int} (hs : l.Pairwise (· < ·)) {i j : Nat} {x y : Int} (h : i < j) (hx : l[i]? = some x) (hy : l[j]? = some y) : x < y := by
  obtain ⟨h1, rfl⟩ := List.getElem?_eq_some_iff.1 hx
  obtain ⟨h2, rfl⟩ := List.getElem?_eq_some_iff.1 hy
  exact List.pairwise_iff_getElem.1 hs i j h1 h2 h
theorem take_lt {l : List Int} (hs : l.Pairwise (· < ·)) {k : Nat} {n : Int} (h : k = 0 ∨ ∃ x, l[k - 1]? = some x ∧ x < n) : ∀ y ∈ l.take k, y < n := fun y hy => by
  obtain ⟨i, hi⟩ := List.mem_iff_getElem?.1 hy
  rw [List.getElem?_take] at hi
  split at hi
  · rename_i hik
    rcases h with rfl | ⟨x, hx, hxn⟩
    · omega
    · rcases Nat.lt_or_ge i (k - 1) with h1 | h1
      · have := srt_get hs h1 hi hx; omega
      · obtain rfl : i = k - 1 := by omega
        rw [hx] at hi; cases hi; exact hxn
  · cases hi
theorem drop_gt {l : List Int} (hs : l.Pairwise (· < ·)) {k : Nat} {n : Int} (h : ∀ (j : Nat) y, k ≤ j → l[j]? = some y → n ≤ y) (hne : ∀ y, l[k]? = some y → y ≠ n) : ∀ y ∈ l.drop k, n < y := fun y hy => by
  obtain ⟨i, hi⟩ := List.mem_iff_getElem?.1 hy
  rw [List.getElem?_drop] at hi
  have h1 := h (k + i) y (by omega) hi
  rcases Nat.eq_zero_or_pos i with rfl | h2
  · have := hne y (by simpa using hi)
    omega
  · have hk : k < l.length := by have := (List.getElem?_eq_some_iff.1 hi).1; omega
    have hkk : l[k]? = some l[k] := List.getElem?_eq_getElem hk
    have h3 := h k _ (Nat.le_refl _) hkk
    have := srt_get hs (by omega : k < k + i) hkk hi
    omega
section
variable {μ : Mem}
theorem l02InsertS_spec {l : List Int} {v : Value} {n : Int} (hv : RepV μ (.sl 1 (l.map D.i)) v) (hb : l.length ≤ 1000000000) (hs : l.Pairwise (· < ·)) : Spec Try.prog 193 [v, .int .i64 n] μ fun v μ' => ∃ r : List Int, RepV μ' (.sl 1 (r.map D.i)) v ∧ (∀ x, x ∈ r ↔ x = n ∨ x ∈ l) ∧ r.Pairwise (· < ·) := by
  obtain ⟨base, cap, rfl, hsl⟩ := Rep.sl hv
  have hcap := Rep.lens hv
  rw [List.length_map] at hsl hcap hv ⊢
  refine Spec.mk Try.func193 (by kernel_rfl) ?_
  refine loop_intro (fun k : Nat => k ≤ l.length ∧ ∀ (j : Nat) y, k ≤ j → l[j]? = some y → n ≤ y) (fun k => ⟨[(0, .val (.slice base l.length cap)), (1, .val (.int .i64 n)), (5, .val (.int .i64 k))], [], 0, μ, Mem.nil⟩) (fun k => k)
    l.length ⟨Nat.le_refl _, fun j y hj hy => absurd (List.getElem?_eq_some_iff.1 hy).1 (by omega)⟩ (fun i => ⟨rfl, rfl⟩) ⟨⟨rfl, rfl, rfl, trivial⟩, trivial, rfl, rfl⟩ ?_
  rintro k ⟨hk, hge⟩
  refine ifd (fun h1 => ?_) (fun h1 => ?_)
  · obtain ⟨x, hx⟩ := at_some (l := l) (i := k - 1) (by omega)
    obtain ⟨ad, hel⟩ := Ints.elem hsl hx
    refine num_eq (x := ((k - 1 : Nat) : Int)) (by rw [wrap64 (by omega) (by omega)]; omega) ?_
    refine elem_intro hel ?_
    refine ifd (fun h2 => ?_) (fun h2 => ?_)
    · refine num_eq (x := ((k - 1 : Nat) : Int)) (by rw [wrap64 (by omega) (by omega)]; omega) ⟨k - 1, ⟨by omega, fun j y hj hy => ?_⟩, by omega, ⟨⟨rfl, rfl, rfl, trivial⟩, trivial, rfl, rfl⟩⟩
      rcases Nat.lt_or_ge j k with h3 | h3
      · obtain rfl : j = k - 1 := by omega
        rw [hx] at hy; cases hy; exact h2
      · exact hge j y h3 hy
    · have htk := take_lt hs (k := k) (n := n) (.inr ⟨x, hx, by omega⟩)
      refine ifd (fun h3 => ?_) (fun h3 => ?_)
      · obtain ⟨y, hy⟩ := at_some (l := l) (i := k) (by omega)
        obtain ⟨ad2, hel2⟩ := Ints.elem hsl hy
        refine elem_intro hel2 ?_
        refine ifd (fun h4 => ret_plain ⟨l, hv, fun x => ⟨.inr, fun hx => hx.elim (fun e => by rw [e, ← h4]; exact mem_at hy) id⟩, hs⟩) (fun h4 => ?_)
        have hgt := drop_gt hs hge (fun z hz => by rw [hy] at hz; cases hz; exact h4)
        intro r0
        refine cut_intro 0 k rfl rfl (by omega) (by omega) ?_
        refine src_intro _ (Ints.src hsl (a := 0) (b := k) (by omega) hk hcap) ?_
        refine grow_intro ?_ ?_ fun b1 c1 _ => ?_
        · show (0 + (ints _).length) * 8 ≤ _; simp [ints]; omega
        · show 0 + (ints _).length ≤ 9223372036854775807; simp [ints]; omega
        intro r1
        refine grow_intro ?_ ?_ fun b2 c2 _ => ?_
        · show (([] ++ ints _).length + 1) * 8 ≤ _; simp [ints]; omega
        · show ([] ++ ints _).length + 1 ≤ 9223372036854775807; simp [ints]; omega
        refine cut_intro k l.length rfl rfl hk (by omega) ?_
        refine src_intro _ (Ints.src hsl (a := k) (b := l.length) hk (Nat.le_refl _) hcap) ?_
        refine grow_intro ?_ ?_ fun b3 c3 _ => ?_
        · show (([] ++ ints _ ++ [_]).length + (ints _).length) * 8 ≤ _; simp [ints]; omega
        · show ([] ++ ints _ ++ [_]).length + (ints _).length ≤ 9223372036854775807; simp [ints]; omega
        refine ret_frz [0] fun μ' hle hno hrow => .inl ⟨insInt l n k, ?_, insInt_mem l n k, ins_sorted hs htk hgt⟩
        have e : [] ++ ints ((l.drop 0).take (k - 0)) ++ [.int .i64 n] ++ ints ((l.drop k).take (l.length - k)) = ints (insInt l n k) := by
          simp [ints, insInt]
          rw [List.take_of_length_le (by simp)]
        rw [e] at hrow ⊢
        exact Ints.sl hrow (Nat.le_trans (m := 2000000000) (by simp [insInt]; omega) (by decide))
      · have hgt := drop_gt hs hge (fun z hz => by have := (List.getElem?_eq_some_iff.1 hz).1; omega)
        intro r0
        refine cut_intro 0 k rfl rfl (by omega) (by omega) ?_
        refine src_intro _ (Ints.src hsl (a := 0) (b := k) (by omega) hk hcap) ?_
        refine grow_intro ?_ ?_ fun b1 c1 _ => ?_
        · show (0 + (ints _).length) * 8 ≤ _; simp [ints]; omega
        · show 0 + (ints _).length ≤ 9223372036854775807; simp [ints]; omega
        intro r1
        refine grow_intro ?_ ?_ fun b2 c2 _ => ?_
        · show (([] ++ ints _).length + 1) * 8 ≤ _; simp [ints]; omega
        · show ([] ++ ints _).length + 1 ≤ 9223372036854775807; simp [ints]; omega
        refine cut_intro k l.length rfl rfl hk (by omega) ?_
        refine src_intro _ (Ints.src hsl (a := k) (b := l.length) hk (Nat.le_refl _) hcap) ?_
        refine grow_intro ?_ ?_ fun b3 c3 _ => ?_
        · show (([] ++ ints _ ++ [_]).length + (ints _).length) * 8 ≤ _; simp [ints]; omega
        · show ([] ++ ints _ ++ [_]).length + (ints _).length ≤ 9223372036854775807; simp [ints]; omega
        refine ret_frz [0] fun μ' hle hno hrow => .inl ⟨insInt l n k, ?_, insInt_mem l n k, ins_sorted hs htk hgt⟩
        have e : [] ++ ints ((l.drop 0).take (k - 0)) ++ [.int .i64 n] ++ ints ((l.drop k).take (l.length - k)) = ints (insInt l n k) := by
          simp [ints, insInt]
          rw [List.take_of_length_le (by simp)]
        rw [e] at hrow ⊢
        exact Ints.sl hrow (Nat.le_trans (m := 2000000000) (by simp [insInt]; omega) (by decide))
  · have htk := take_lt hs (k := k) (n := n) (.inl (by omega))
    refine ifd (fun h3 => ?_) (fun h3 => ?_)
    · obtain ⟨y, hy⟩ := at_some (l := l) (i := k) (by omega)
      obtain ⟨ad2, hel2⟩ := Ints.elem hsl hy
      refine elem_intro hel2 ?_
      refine ifd (fun h4 => ret_plain ⟨l, hv, fun x => ⟨.inr, fun hx => hx.elim (fun e => by rw [e, ← h4]; exact mem_at hy) id⟩, hs⟩) (fun h4 => ?_)
      have hgt := drop_gt hs hge (fun z hz => by rw [hy] at hz; cases hz; exact h4)
      intro r0
      refine cut_intro 0 k rfl rfl (by omega) (by omega) ?_
      refine src_intro _ (Ints.src hsl (a := 0) (b := k) (by omega) hk hcap) ?_
      refine grow_intro ?_ ?_ fun b1 c1 _ => ?_
      · show (0 + (ints _).length) * 8 ≤ _; simp [ints]; omega
      · show 0 + (ints _).length ≤ 9223372036854775807; simp [ints]; omega
      intro r1
      refine grow_intro ?_ ?_ fun b2 c2 _ => ?_
      · show (([] ++ ints _).length + 1) * 8 ≤ _; simp [ints]; omega
      · show ([] ++ ints _).length + 1 ≤ 9223372036854775807; simp [ints]; omega
      refine cut_intro k l.length rfl rfl hk (by omega) ?_
      refine src_intro _ (Ints.src hsl (a := k) (b := l.length) hk (Nat.le_refl _) hcap) ?_
      refine grow_intro ?_ ?_ fun b3 c3 _ => ?_
      · show (([] ++ ints _ ++ [_]).length + (ints _).length) * 8 ≤ _; simp [ints]; omega
      · show ([] ++ ints _ ++ [_]).length + (ints _).length ≤ 9223372036854775807; simp [ints]; omega
      refine ret_frz [0] fun μ' hle hno hrow => .inl ⟨insInt l n k, ?_, insInt_mem l n k, ins_sorted hs htk hgt⟩
      have e : [] ++ ints ((l.drop 0).take (k - 0)) ++ [.int .i64 n] ++ ints ((l.drop k).take (l.length - k)) = ints (insInt l n k) := by
        simp [ints, insInt]
        rw [List.take_of_length_le (by simp)]
      rw [e] at hrow ⊢
      exact Ints.sl hrow (Nat.le_trans (m := 2000000000) (by simp [insInt]; omega) (by decide))
    · have hgt := drop_gt hs hge (fun z hz => by have := (List.getElem?_eq_some_iff.1 hz).1; omega)
      intro r0
      refine cut_intro 0 k rfl rfl (by omega) (by omega) ?_
      refine src_intro _ (Ints.src hsl (a := 0) (b := k) (by omega) hk hcap) ?_
      refine grow_intro ?_ ?_ fun b1 c1 _ => ?_
      · show (0 + (ints _).length) * 8 ≤ _; simp [ints]; omega
      · show 0 + (ints _).length ≤ 9223372036854775807; simp [ints]; omega
      intro r1
      refine grow_intro ?_ ?_ fun b2 c2 _ => ?_
      · show (([] ++ ints _).length + 1) * 8 ≤ _; simp [ints]; omega
      · show ([] ++ ints _).length + 1 ≤ 9223372036854775807; simp [ints]; omega
      refine cut_intro k l.length rfl rfl hk (by omega) ?_
      refine src_intro _ (Ints.src hsl (a := k) (b := l.length) hk (Nat.le_refl _) hcap) ?_
      refine grow_intro ?_ ?_ fun b3 c3 _ => ?_
      · show (([] ++ ints _ ++ [_]).length + (ints _).length) * 8 ≤ _; simp [ints]; omega
      · show ([] ++ ints _ ++ [_]).length + (ints _).length ≤ 9223372036854775807; simp [ints]; omega
      refine ret_frz [0] fun μ' hle hno hrow => .inl ⟨insInt l n k, ?_, insInt_mem l n k, ins_sorted hs htk hgt⟩
      have e : [] ++ ints ((l.drop 0).take (k - 0)) ++ [.int .i64 n] ++ ints ((l.drop k).take (l.length - k)) = ints (insInt l n k) := by
        simp [ints, insInt]
        rw [List.take_of_length_le (by simp)]
      rw [e] at hrow ⊢
      exact Ints.sl hrow (Nat.le_trans (m := 2000000000) (by simp [insInt]; omega) (by decide))
/-- A list of variables: sorted, in range. -/
structure VL (l : List Int) : Prop where
  srt : l.Pairwise (· < ·)
  rng : ∀ x ∈ l, 0 ≤ x ∧ x ≤ 100000
theorem VL.len {l : List Int} (h : VL l) : l.length ≤ 100001 := by
  refine nodup_range (N := 100001) ?_ fun n hn => by have := h.rng n hn; omega
  rw [List.nodup_iff_pairwise_ne]
  exact h.srt.imp fun hab e => by omega
def VarsS (μ' : Mem) (l vs : List Int) (v : Value) : Prop := ∃ r : List Int, RepV μ' (.sl 1 (r.map D.i)) v ∧ (∀ x, x ∈ r ↔ x ∈ vs ∨ x ∈ l) ∧ VL r
theorem l02VarsS_spec : ∀ (x : T) {μ : Mem} {l : List Int} {w v : Value}, x.good → RepV μ x.tm.d w → RepV μ (.sl 1 (l.map D.i)) v → VL l → Spec Try.prog 138 [w, v] μ fun v μ' => VarsS μ' l x.vars v :=
  T.ind fun x ih μ l w v hgd hw hv hb => by
    have hrng := T.vars_range hgd
    obtain ⟨base, cap, rfl, hsl⟩ := T.inv hw
    have hn := maxLen_le hsl.max
    refine Spec.mk Try.func138 (by kernel_rfl) ?_
    intro r
    refine ifd (fun h => ?_) (fun h => ?_)
    · have e : x.vars = [x.tm.num] := by cases x <;> simp_all [T.vars, T.tm, Tm.kind, Tm.num]
      refine call_plain (l02InsertS_spec hv (by have := hb.len; omega) hb.srt) fun v' μ' hle hR => ret_plain ?_
      obtain ⟨r, h1, h2, h3⟩ := hR
      refine ⟨r, h1, by simpa [e] using h2, h3, fun y hy => ?_⟩
      rcases (h2 y).1 hy with rfl | hy
      · exact hrng _ (by rw [e]; simp)
      · exact hb.rng y hy
    have e := T.vars_args h
    have hgs : ∀ y ∈ x.args, y.good := fun y hy => by
      cases x with
      | pair a b =>
        simp only [T.args, List.mem_cons, List.not_mem_nil, or_false] at hy
        rcases hy with rfl | rfl
        · exact hgd.1
        · exact hgd.2
      | _ => simp [T.args] at hy
    refine loop_intro (fun p : Nat × Value × Mem => p.1 ≤ x.args.length ∧ μ.Le p.2.2 ∧ VarsS p.2.2 l ((x.args.take p.1).flatMap T.vars) p.2.1)
      (fun (i, v, μ') => ⟨[(1, .val v), (15, .val (.slice base x.args.length cap)), (16, .val (.int .i64 x.args.length)), (17, .val (.int .i64 i))], [], 1, μ', Mem.nil⟩) (fun p => x.args.length - p.1)
      (0, v, μ) ⟨by simp, Mem.Le.refl μ, l, hv, by simp, hb⟩ (fun (_, _, _) => ⟨rfl, rfl⟩) ⟨⟨rfl, rfl, rfl, rfl, trivial⟩, trivial, rfl, rfl⟩ ?_
    rintro ⟨i, v, μ'⟩ ⟨hi, hle, r, h1, h2, h3⟩
    dsimp only at hi hle h1 h2 h3
    refine ifd (fun h => ?_) (fun h => ?_)
    · obtain ⟨t, ht⟩ := at_some (l := x.args) (i := i) (by omega)
      have ht' : (x.args.map T.tm)[i]? = some t.tm := by simp [ht]
      obtain ⟨ad, p, hel, hr⟩ := Tm.elem (hsl.mono hle) ht'
      have hsucc : (x.args.take (i + 1)).flatMap T.vars = (x.args.take i).flatMap T.vars ++ t.vars := by
        rw [List.take_add_one, ht, Option.toList_some, List.flatMap_append]; simp
      refine elem_intro hel ?_
      intro r2
      refine call_plain (ih t (mem_at ht) (hgs t (mem_at ht)) hr h1 h3) fun v' μ'' hle2 hR => ?_
      obtain ⟨q, g1, g2, g3⟩ := hR
      refine num64 (by omega) (by omega) ⟨(i + 1, v', μ''), ⟨by dsimp only; omega, hle.trans hle2, q, g1, fun y => ?_, g3⟩, by dsimp only; omega, ⟨⟨rfl, rfl, rfl, rfl, trivial⟩, trivial, rfl, rfl⟩⟩
      dsimp only
      rw [g2, h2, hsucc, List.mem_append]
      constructor
      · rintro (h | h | h) <;> simp [h]
      · rintro ((h | h) | h) <;> simp [h]
    · obtain rfl : i = x.args.length := by omega
      rw [List.take_length] at h2
      exact ret_plain ⟨r, h1, by rw [e]; exact h2, h3⟩
end
end Go.Vx

/- Contracts: well-formed programs, the reference's side; goals counted. -/
namespace Go.Vx
open Go.Proofs Classical
theorem Gl.vars_eq (g : Gl) : g.vars = g.tvars ++ g.goals.flatMap Gl.vars := by
  rw [Gl.vars, Gl.all_eq, List.flatMap_cons, List.flatMap_assoc]
  rfl
section
variable {μ : Mem}
theorem l13Vars_spec : ∀ (g : Gl) {μ : Mem} {l : List Int} {w v : Value}, g.Sh → RepV μ g.d w → RepV μ (.sl 1 (l.map D.i)) v → VL l → Spec Try.prog 171 [w, v] μ fun v μ' => VarsS μ' l g.vars v :=
  Gl.ind fun g ih μ l w v hS hw hv hb => by
    obtain ⟨p, rfl, hts, hgs⟩ := Gl.inv hw
    obtain ⟨xs, hxs, hxo⟩ := lift_ok hS.top.tm
    have htv : g.tvars = xs.flatMap T.vars := by rw [Gl.tvars, hxs, toTs_tm']
    rw [hxs, List.length_map] at hts ⊢
    have hn := maxLen_le hts.max
    have hn2 := maxLen_le hgs.max
    refine Spec.mk Try.func171 (by kernel_rfl) ?_
    intro r1
    refine loop_intro (fun p : Nat × Value × Mem => p.1 ≤ xs.length ∧ μ.Le p.2.2 ∧ VarsS p.2.2 l ((xs.take p.1).flatMap T.vars) p.2.1)
      (fun (i, v, μ') => ⟨[(1, .val v), (2, .loc 0 r1 0), (10, .val (.slice p.1.1 xs.length p.1.2)), (11, .val (.int .i64 xs.length)), (12, .val (.int .i64 i))], [(0, some (.cells r1 [.val (.int .i64 g.kind), .val (.string g.name), .val (.slice p.1.1 xs.length p.1.2), .val (.slice p.2.1 g.goals.length p.2.2)] 93))], 1, μ', Mem.nil⟩) (fun p => xs.length - p.1)
      (0, v, μ) ⟨by simp, Mem.Le.refl μ, l, hv, by simp, hb⟩ (fun (_, _, _) => ⟨rfl, rfl⟩) ⟨⟨rfl, rfl, rfl, rfl, rfl, trivial⟩, ⟨rfl, trivial⟩, rfl, rfl⟩ ?_
    rintro ⟨i, v, μ'⟩ ⟨hi, hle, r, h1, h2, h3⟩
    dsimp only at hi hle h1 h2 h3
    refine ifd (fun h => ?_) (fun h => ?_)
    · obtain ⟨t, ht⟩ := at_some (l := xs) (i := i) (by omega)
      obtain ⟨ad, p3, hel, hr⟩ := Tm.elem (i := i) (t := t.tm) (hts.mono hle) (by simp [ht])
      have hsucc : (xs.take (i + 1)).flatMap T.vars = (xs.take i).flatMap T.vars ++ t.vars := by
        rw [List.take_add_one, ht, Option.toList_some, List.flatMap_append]; simp
      refine elem_intro hel ?_
      intro r2
      refine call_plain (l02VarsS_spec t (hxo t (mem_at ht)).1 hr h1 h3) fun v' μ'' hle2 hR => ?_
      obtain ⟨q, g1, g2, g3⟩ := hR
      refine num64 (by omega) (by omega) ⟨(i + 1, v', μ''), ⟨by dsimp only; omega, hle.trans hle2, q, g1, fun y => ?_, g3⟩, by dsimp only; omega, ⟨⟨rfl, rfl, rfl, rfl, rfl, trivial⟩, ⟨rfl, trivial⟩, rfl, rfl⟩⟩
      dsimp only
      rw [g2, h2, hsucc, List.mem_append]
      constructor
      · rintro (h | h | h) <;> simp [h]
      · rintro ((h | h) | h) <;> simp [h]
    · obtain rfl : i = xs.length := by omega
      rw [List.take_length] at h2
      have hgs1 := hgs.mono hle
      refine loop_intro (fun x : Nat × Value × Mem => x.1 ≤ g.goals.length ∧ μ'.Le x.2.2 ∧ VarsS x.2.2 l (g.tvars ++ (g.goals.take x.1).flatMap Gl.vars) x.2.1)
        (fun (i, v, μ'') => ⟨[(1, .val v), (21, .val (.slice p.2.1 g.goals.length p.2.2)), (22, .val (.int .i64 g.goals.length)), (23, .val (.int .i64 i))], [], 1, μ'', Mem.nil⟩) (fun x => g.goals.length - x.1)
        (0, v, μ') ⟨by simp, Mem.Le.refl μ', r, h1, by simpa [htv] using h2, h3⟩ (fun (_, _, _) => ⟨rfl, rfl⟩) ⟨⟨rfl, rfl, rfl, rfl, trivial⟩, trivial, rfl, rfl⟩ ?_
      rintro ⟨i, v2, μ2⟩ ⟨hi, hle2, r2, k1, k2, k3⟩
      dsimp only at hi hle2 k1 k2 k3
      refine ifd (fun h => ?_) (fun h => ?_)
      · obtain ⟨t, ht⟩ := at_some (l := g.goals) (i := i) (by omega)
        obtain ⟨ad, p3, hel, hr⟩ := Gl.elem (hgs1.mono hle2) ht
        have hsucc : (g.goals.take (i + 1)).flatMap Gl.vars = (g.goals.take i).flatMap Gl.vars ++ t.vars := by
          rw [List.take_add_one, ht, Option.toList_some, List.flatMap_append]; simp
        refine elem_intro hel ?_
        intro r3
        refine call_plain (ih t (mem_at ht) (hS.sub t (mem_at ht)) hr k1 k3) fun v' μ3 hle3 hR => ?_
        obtain ⟨q, g1, g2, g3⟩ := hR
        refine num64 (by omega) (by omega) ⟨(i + 1, v', μ3), ⟨by dsimp only; omega, hle2.trans hle3, q, g1, fun y => ?_, g3⟩, by dsimp only; omega, ⟨⟨rfl, rfl, rfl, rfl, trivial⟩, trivial, rfl, rfl⟩⟩
        dsimp only
        rw [g2, k2, hsucc, ← List.append_assoc, List.mem_append (s := g.tvars ++ _)]
        constructor
        · rintro (h | h | h) <;> simp [h]
        · rintro ((h | h) | h) <;> simp [h]
      · obtain rfl : i = g.goals.length := by omega
        rw [List.take_length, ← Gl.vars_eq] at k2
        exact ret_plain ⟨r2, k1, k2, k3⟩
theorem VL.last {l : List Int} (h : VL l) {n x : Int} (hx : l[l.length - 1]? = some x) : (∀ y ∈ l, y < n) ↔ x < n := by
  constructor
  · intro k; exact k x (List.mem_of_getElem? hx)
  · intro k y hy
    obtain ⟨i, hi⟩ := List.mem_iff_getElem?.1 hy
    have hil := (List.getElem?_eq_some_iff.1 hi).1
    rcases Nat.lt_or_ge i (l.length - 1) with h1 | h1
    · have := srt_get h.srt h1 hi hx; omega
    · obtain rfl : i = l.length - 1 := by omega
      rw [hx] at hi; cases hi; exact k
def Fits (p : Pg) (g : Gl) (n : Int) : Prop := g.Ok ∧ FitAll p g ∧ ∀ m ∈ g.vars, m < n
theorem l14Fits_spec {p : Pg} {g : Gl} {n : Int} {vp v : Value} (hp : RepV μ p.d vp) (hv : RepV μ g.d v) (hw : g.d.wd) : Spec Try.prog 116 [vp, v, .int .i64 n] μ fun r _ => r = .bool (decide (Fits p g n)) := by
  obtain ⟨q, rfl, hrl⟩ := Pg.inv hp
  obtain ⟨q2, rfl⟩ := Gl.invV hv
  refine Spec.mk Try.func116 (by kernel_rfl) ?_
  intro r1 r2
  refine call_gives (spec_GoalOk_spec g hv hw) ?_
  refine ifnd (fun h => ret_plain (isF fun k => h k.1)) (fun h1 => ?_)
  refine call_gives (l14Calls_spec hp g h1.1 hv) ?_
  refine ifnd (fun h => ret_plain (isF fun k => h k.2.1)) (fun h2 => ?_)
  refine call_plain (l13Vars_spec (l := []) (v := .slice none 0 0) g h1.1 hv ⟨none, 0, rfl, ⟨Nat.zero_le _, Nat.zero_le _⟩, by simp, .inl rfl⟩ ⟨List.Pairwise.nil, by simp⟩) fun v1 μ1 hle1 hR => ?_
  obtain ⟨r, g1, g2, g3⟩ := hR
  obtain ⟨b, c, rfl, hsl⟩ := Rep.sl g1
  rw [List.length_map] at hsl ⊢
  have hlen := g3.len
  have hmem : ∀ x, x ∈ r ↔ x ∈ g.vars := fun x => by rw [g2]; simp
  refine ifd (fun h => ret_plain (isT ⟨h1, h2, fun m hm => ?_⟩)) (fun h => ?_)
  · have h3 : r = [] := List.eq_nil_of_length_eq_zero (by omega)
    have := (hmem m).2 hm
    rw [h3] at this; simp at this
  · obtain ⟨x, hx⟩ := at_some (l := r) (i := r.length - 1) (by omega)
    obtain ⟨ad, hel⟩ := Ints.elem hsl hx
    refine num_eq (x := ((r.length - 1 : Nat) : Int)) (by rw [wrap64 (by omega) (by omega)]; omega) ?_
    refine elem_intro hel ?_
    refine ret_plain (isI ⟨fun k => ⟨h1, h2, fun m hm => ((VL.last g3 hx).2 k) m ((hmem m).2 hm)⟩, fun k => (VL.last g3 hx).1 fun y hy => k.2.2 y ((hmem y).1 hy)⟩)
end
end Go.Vx

/- Contracts: the laws' own functions on values of the type Instr: sizes, copies, equality, marks; what an argument reads. (By gen_types.py.) -/
namespace Go.Vx
open Go.Proofs Classical
structure Ir where
  op : Int
  a : Int
  b : Int
  goal : Gl
def Ir.d (x : Ir) : D := .st [.i x.op, .i x.a, .i x.b, x.goal.d]
theorem Ir.d_eq (x : Ir) : x.d = .st [.i x.op, .i x.a, .i x.b, x.goal.d] := rfl
theorem Ir.d_n (x : Ir) : x.d.n = 7 := by
  rw [Ir.d_eq]
  simp only [D.n, D.ns, Gl.d_n]
abbrev Ir.P := Gl.P
/-- The cells of a value. -/
def Ir.cs (x : Ir) (p : Ir.P) : List Value := [.int .i64 x.op, .int .i64 x.a, .int .i64 x.b, .int .i64 x.goal.kind, .string x.goal.name, .slice p.1.1 x.goal.terms.length p.1.2, .slice p.2.1 x.goal.goals.length p.2.2]
section
variable {μ : Mem}
def Ir.At (μ : Mem) (x : Ir) (p : Ir.P) : Prop := RepV μ x.goal.d (.agg (x.goal.cs p).toArray)
theorem Ir.invA {x : Ir} {cs : List Value} (h : Rep μ x.d cs) : ∃ p : Ir.P, cs = x.cs p ∧ Ir.At μ x p := by
  rw [Ir.d_eq] at h
  obtain ⟨a0, t0, rfl, h0, h⟩ := h
  have h0 : a0 = [.int .i64 x.op] := h0
  subst h0
  obtain ⟨a1, t1, rfl, h1, h⟩ := h
  have h1 : a1 = [.int .i64 x.a] := h1
  subst h1
  obtain ⟨a2, t2, rfl, h2, h⟩ := h
  have h2 : a2 = [.int .i64 x.b] := h2
  subst h2
  obtain ⟨a3, t3, rfl, h3, h⟩ := h
  obtain ⟨p3, rfl, r3⟩ := Gl.invR h3
  obtain rfl : t3 = [] := h
  exact ⟨p3, by simp [Ir.cs, Gl.cs], r3⟩
theorem Ir.rep {x : Ir} {cs : List Value} (h : Rep μ x.d cs) : RepV μ x.d (.agg cs.toArray) := by
  rw [Ir.d_eq] at h ⊢; exact ⟨cs, rfl, h⟩
theorem Ir.invR {x : Ir} {cs : List Value} (h : Rep μ x.d cs) : ∃ p : Ir.P, cs = x.cs p ∧ RepV μ x.d (.agg (x.cs p).toArray) := by
  obtain ⟨p, e, _⟩ := Ir.invA h
  subst e
  exact ⟨p, rfl, Ir.rep h⟩
theorem Ir.inv {x : Ir} {v : Value} (h : RepV μ x.d v) : ∃ p : Ir.P, v = .agg #[.int .i64 x.op, .int .i64 x.a, .int .i64 x.b, .int .i64 x.goal.kind, .string x.goal.name, .slice p.1.1 x.goal.terms.length p.1.2, .slice p.2.1 x.goal.goals.length p.2.2] ∧ Ir.At μ x p := by
  have h2 : ∃ cs, v = .agg (List.toArray cs) ∧ Rep μ x.d cs := by rw [Ir.d_eq] at h ⊢; exact h
  obtain ⟨cs, rfl, h3⟩ := h2
  obtain ⟨p, rfl, hA⟩ := Ir.invA h3
  exact ⟨p, rfl, hA⟩
theorem Ir.invV {x : Ir} {v : Value} (h : RepV μ x.d v) : ∃ p : Ir.P, v = .agg #[.int .i64 x.op, .int .i64 x.a, .int .i64 x.b, .int .i64 x.goal.kind, .string x.goal.name, .slice p.1.1 x.goal.terms.length p.1.2, .slice p.2.1 x.goal.goals.length p.2.2] := by
  obtain ⟨p, h, _⟩ := Ir.inv h
  exact ⟨p, h⟩
theorem Ir.elemA {l : List Ir} {base : Option Addr} {n : Nat} (h : Sl μ 7 base n (l.map Ir.d)) {i : Nat} {x : Ir} (hx : l[i]? = some x) : ∃ ad, ∃ p : Ir.P, ElemAt μ base n 7 i ad (x.cs p) ∧ RepV μ x.d (.agg (x.cs p).toArray) ∧ Ir.At μ x p := by
  obtain ⟨ad, cs, h1, h2⟩ := h.get i x.d (by simp [hx])
  obtain ⟨p, rfl, hA⟩ := Ir.invA h2
  exact ⟨ad, p, h1, Ir.rep h2, hA⟩
theorem Ir.elem {l : List Ir} {base : Option Addr} {n : Nat} (h : Sl μ 7 base n (l.map Ir.d)) {i : Nat} {x : Ir} (hx : l[i]? = some x) : ∃ ad, ∃ p : Ir.P, ElemAt μ base n 7 i ad (x.cs p) ∧ RepV μ x.d (.agg (x.cs p).toArray) := by
  obtain ⟨ad, p, h1, h2, _⟩ := Ir.elemA h hx
  exact ⟨ad, p, h1, h2⟩
theorem Ir.ownR {x : Ir} {h : Mem} {cs : List Value} (k : Own x.d h cs) : ∃ p : Ir.P, cs = x.cs p ∧ ∃ g1 g2, Parts h g1 g2 ∧ OwnV (.sl 4 (x.goal.terms.map Tm.d)) g1 (.slice p.1.1 x.goal.terms.length p.1.2) ∧ OwnV (.sl 4 (x.goal.goals.map Gl.d)) g2 (.slice p.2.1 x.goal.goals.length p.2.2) := by
  rw [Ir.d_eq] at k
  obtain ⟨a0, t0, h0, r0, rfl, q0, o0, k⟩ := k
  obtain ⟨rfl, rfl⟩ := o0
  obtain rfl := q0.eq (Parts.nil_left _)
  obtain ⟨a1, t1, h1, r1, rfl, q1, o1, k⟩ := k
  obtain ⟨rfl, rfl⟩ := o1
  obtain rfl := q1.eq (Parts.nil_left _)
  obtain ⟨a2, t2, h2, r2, rfl, q2, o2, k⟩ := k
  obtain ⟨rfl, rfl⟩ := o2
  obtain rfl := q2.eq (Parts.nil_left _)
  obtain ⟨a3, t3, h3, r3, rfl, q3, o3, k⟩ := k
  obtain ⟨p3, rfl, ch3⟩ := Gl.ownR o3
  obtain ⟨rfl, rfl⟩ := k
  obtain rfl := q3.eq (Parts.nil_right _)
  exact ⟨p3, by simp [Ir.cs, Gl.cs], ch3⟩
theorem Ir.sz_eq (x : Ir) : x.d.sz = x.goal.d.sz := by
  rw [Ir.d_eq]
  simp [D.sz, D.szs]
theorem szInstr_spec (x : Ir) {v : Value} {left : Int} (hv : RepV μ x.d v) (hl : 0 ≤ left) (hl2 : left ≤ 1048576) (hw : x.d.wd) : Gives Try.prog 153 [v, .int .i64 left] μ (.int .i64 (szR left x.d.sz)) := by
  obtain ⟨p, rfl, hA⟩ := Ir.inv hv
  have hsz := Ir.sz_eq x
  rw [Ir.d_eq] at hw
  refine Spec.mk Try.func153 (by kernel_rfl) ?_
  intro r
  refine call_gives (szGoal_spec x.goal hA (by omega) (by omega) hw.2.2.2.1) ?_
  refine ifd (fun h => ret_gives (by have := szR_lt h; rw [szR_neg (by omega)]) rfl) (fun h => ?_)
  have q3 := szR_ge h
  rw [szR_pos q3] at h ⊢
  refine ret_gives ?_ rfl
  rw [szR_pos (by omega)]
  first | rfl | (congr 1; omega)
theorem szInstrS_of {l : List Ir} (he : ∀ t ∈ l, ∀ {v : Value} {left : Int}, RepV μ t.d v → 0 ≤ left → left ≤ 1048576 → t.d.wd → Gives Try.prog 153 [v, .int .i64 left] μ (.int .i64 (szR left t.d.sz)))
    {base : Option Addr} {cap : Nat} {left : Int} (hsl : Sl μ 7 base l.length (l.map Ir.d)) (hl : 0 ≤ left) (hl2 : left ≤ 1048576) (hw : D.wds (l.map Ir.d)) :
    Gives Try.prog 96 [.slice base l.length cap, .int .i64 left] μ (.int .i64 (szR left (l.length + D.szs (l.map Ir.d)))) := by
  have hn := maxLen_le hsl.max
  refine Spec.mk Try.func96 (by kernel_rfl) ?_
  refine num64 (by omega) (by omega) (ifd (fun h => ret_gives ?_ rfl) (fun h => ?_))
  · rw [szR_neg (by omega)]
  refine loop_intro (fun i : Nat => i ≤ l.length ∧ (D.szs ((l.map Ir.d).take i) : Int) ≤ left - l.length) (fun i => ⟨[(0, .val (.slice base l.length cap)), (1, .val (.int .i64 (left - l.length - D.szs ((l.map Ir.d).take i)))), (5, .val (.int .i64 i))], [], 0, μ, Mem.nil⟩) (fun i => l.length - i)
    0 ⟨by omega, by simp [D.szs]; omega⟩ (fun i => ⟨rfl, rfl⟩) ⟨⟨rfl, by show some (SV.val (.int .i64 _)) = some (SV.val (.int .i64 _)); congr 3; simp [D.szs], rfl, trivial⟩, trivial, rfl, rfl⟩ ?_
  rintro i ⟨hi, hz⟩
  refine ifd (fun h => ?_) (fun h => ?_)
  · obtain ⟨t, ht⟩ := at_some (l := l) (i := i) (by omega)
    have hx := at_map (f := Ir.d) ht
    have hs := D.szs_take hx
    have hs' := D.szs_le (l.map Ir.d) (i + 1)
    obtain ⟨ad, p, hel, hr⟩ := Ir.elem hsl ht
    refine elem_intro hel (call_gives (he t (mem_at ht) hr (by omega) (by omega) (D.wds_mem hw _ (mem_at hx))) ?_)
    refine ifd (fun h => ret_gives ?_ rfl) (fun h => ?_)
    · have := szR_lt h
      rw [szR_neg (by omega)]
    · have := szR_ge h
      refine num64 (by omega) (by omega) ⟨i + 1, ⟨by omega, by omega⟩, by omega, ⟨⟨rfl, ?_, rfl, trivial⟩, trivial, rfl, rfl⟩⟩
      rw [szR_pos this, hs]
      show some (SV.val (.int .i64 _)) = some (SV.val (.int .i64 _))
      congr 3; omega
  · obtain rfl : i = l.length := by omega
    rw [List.take_of_length_le (by simp)] at hz ⊢
    refine ret_gives ?_ rfl
    rw [szR_pos (by omega)]; congr 1; omega
theorem szInstrS_spec {l : List Ir} {base : Option Addr} {cap : Nat} {left : Int} (hsl : Sl μ 7 base l.length (l.map Ir.d)) (hl : 0 ≤ left) (hl2 : left ≤ 1048576) (hw : D.wds (l.map Ir.d)) :
    Gives Try.prog 96 [.slice base l.length cap, .int .i64 left] μ (.int .i64 (szR left (l.length + D.szs (l.map Ir.d)))) := szInstrS_of (fun t _ _ _ => szInstr_spec t) hsl hl hl2 hw
set_option maxRecDepth 4000 in
theorem toInstr_spec (x : Ir) {μ : Mem} {v : Value} (hv : RepV μ x.d v) (hb : x.d.sz ≤ 1048576) : Spec Try.prog 157 [v] μ fun v μ' => Fresh μ μ' x.d v := by
  obtain ⟨p, rfl, hA⟩ := Ir.inv hv
  have hsz := Ir.sz_eq x
  have A0 := hA
  refine Spec.mk Try.func157 (by kernel_rfl) ?_
  intro r1 r2 r3
  refine call_plain (toGoal_spec x.goal A0 (by omega)) fun u0 μ0 hle0 hf0 => ?_
  obtain ⟨pp0, rfl⟩ := Gl.invV hf0.rep
  rw [Ir.d_eq]
  exact ret_plain (FreshS.st (FreshS.int (FreshS.int (FreshS.int (FreshS.cons hf0 hle0 (Mem.Le.refl _) (FreshS.nil))))))
theorem toInstrS_of {l : List Ir} (he : ∀ t ∈ l, ∀ {μ : Mem} {v : Value}, RepV μ t.d v → t.d.sz ≤ 1048576 → Spec Try.prog 157 [v] μ fun v μ' => Fresh μ μ' t.d v)
    {base : Option Addr} {cap : Nat} (hsl : Sl μ 7 base l.length (l.map Ir.d)) (hb : l.length + D.szs (l.map Ir.d) ≤ 1048576) :
    Spec Try.prog 102 [.slice base l.length cap] μ fun v μ' => Fresh μ μ' (.sl 7 (l.map Ir.d)) v := by
  refine Spec.mk Try.func102 (by kernel_rfl) ?_
  refine make_intro l.length rfl rfl (by simp only; omega) (Nat.le_trans (m := 1048576) (by omega) (by decide)) ?_
  intro r
  refine loop_intro (fun p : Nat × List Value × Mem => μ.Le p.2.2 ∧ ∃ g, Filled 7 (.agg #[.int .i64 0, .int .i64 0, .int .i64 0, .int .i64 0, .string ⟨#[]⟩, .slice none 0 0, .slice none 0 0]) μ p.2.2 (l.map Ir.d) p.1 p.2.1 g)
    (fun (i, xs, μ') => ⟨[(0, .val (.slice base l.length cap)), (3, .row 0 (some r) l.length l.length), (4, .val (.int .i64 i))], [(0, some (.row (some r) l.length 144 7 xs))], 1, μ', Mem.nil⟩) (fun p => l.length - p.1)
    (0, List.replicate l.length (.agg #[.int .i64 0, .int .i64 0, .int .i64 0, .int .i64 0, .string ⟨#[]⟩, .slice none 0 0, .slice none 0 0]), μ) ⟨Mem.Le.refl μ, _, Filled.start (by simp)⟩ (fun (_, _, _) => ⟨rfl, rfl⟩) ⟨⟨rfl, rfl, rfl, trivial⟩, ⟨rfl, trivial⟩, rfl, rfl⟩ ?_
  rintro ⟨i, xs, μ'⟩ ⟨hle, g, hf⟩
  dsimp only at hle hf
  have hi := hf.le
  have hlen := hf.len
  rw [List.length_map] at hi hlen
  refine ifd (fun h => ?_) (fun h => ?_)
  · obtain ⟨t, ht⟩ := at_some (l := l) (i := i) (by omega)
    have hx := at_map (f := Ir.d) ht
    have hs := D.szs_mem hx
    obtain ⟨ad, p, hel, hr⟩ := Ir.elem (hsl.mono hle) ht
    refine elem_intro hel (call_plain (he t (mem_at ht) hr (by omega)) fun v μ'' hle2 hfr => ?_)
    obtain ⟨g', hf'⟩ := hf.step hx (Ir.d_n t) hfr hle2
    obtain ⟨p2, rfl⟩ := Ir.invV hfr.rep
    refine rel_intro i rfl (by omega) ?_
    refine get_intro _ (hf.rest i (by omega) (by simpa using h)) ?_
    refine num64 (by omega) (by omega) ⟨(i + 1, _, μ''), ⟨hle.trans hle2, g', hf'⟩, by dsimp only; omega, ⟨⟨rfl, rfl, rfl, trivial⟩, ⟨rfl, trivial⟩, rfl, rfl⟩⟩
  · obtain rfl : i = l.length := by omega
    refine ret_frz [0] fun μ2 hle2 hno hrow => .inl ?_
    have := Fresh.ofRow (hf.all (by simp)) hf.sub hf.new hle hle2 hno hrow (Nat.le_trans (m := 1048576) (by omega) (by decide))
    rw [hlen] at this
    exact this
theorem toInstrS_spec {l : List Ir} {base : Option Addr} {cap : Nat} (hsl : Sl μ 7 base l.length (l.map Ir.d)) (hb : l.length + D.szs (l.map Ir.d) ≤ 1048576) :
    Spec Try.prog 102 [.slice base l.length cap] μ fun v μ' => Fresh μ μ' (.sl 7 (l.map Ir.d)) v := toInstrS_of (fun t _ _ _ => toInstr_spec t) hsl hb
theorem eqInstr_spec (x : Ir) {v v' : Value} (hv : RepV μ x.d v) (hv' : RepV μ x.d v') : Gives Try.prog 162 [v, v'] μ (.bool true) := by
  obtain ⟨p, rfl, hA⟩ := Ir.inv hv
  obtain ⟨p', rfl, hB⟩ := Ir.inv hv'
  have A0 := hA
  have B0 := hB
  refine Spec.mk Try.func162 (by kernel_rfl) ?_
  intro r1 r2
  refine ifnd (fun h => absurd rfl h) (fun _ => ?_)
  refine ifnd (fun h => absurd rfl h) (fun _ => ?_)
  refine ifnd (fun h => absurd rfl h) (fun _ => ?_)
  refine call_gives (eqGoal_spec x.goal A0 B0) ?_
  refine if_intro (fun h => nomatch h) (fun _ => ?_)
  exact ret_gives rfl rfl
theorem eqInstrS_of {l : List Ir} (he : ∀ t ∈ l, ∀ {v v' : Value}, RepV μ t.d v → RepV μ t.d v' → Gives Try.prog 162 [v, v'] μ (.bool true))
    {base base' : Option Addr} {cap cap' : Nat} (hl : Sl μ 7 base l.length (l.map Ir.d)) (hl' : Sl μ 7 base' l.length (l.map Ir.d)) :
    Gives Try.prog 108 [.slice base l.length cap, .slice base' l.length cap'] μ (.bool true) := by
  have hn := maxLen_le hl.max
  refine Spec.mk Try.func108 (by kernel_rfl) ?_
  refine ifnd (fun h => absurd rfl h) (fun _ => ?_)
  refine loop_intro (fun i : Nat => i ≤ l.length) (fun i => ⟨[(0, .val (.slice base l.length cap)), (1, .val (.slice base' l.length cap')), (5, .val (.int .i64 i))], [], 0, μ, Mem.nil⟩) (fun i => l.length - i)
    0 (by omega) (fun i => ⟨rfl, rfl⟩) ⟨⟨rfl, rfl, rfl, trivial⟩, trivial, rfl, rfl⟩ ?_
  intro i hi
  refine ifd (fun h => ?_) (fun h => ?_)
  · obtain ⟨t, ht⟩ := at_some (l := l) (i := i) (by omega)
    obtain ⟨ad, p, hel, hr⟩ := Ir.elem hl ht
    obtain ⟨ad', p', hel', hr'⟩ := Ir.elem hl' ht
    refine elem_intro hel (elem_intro hel' (call_gives (he t (mem_at ht) hr hr') ?_))
    refine if_intro (fun h => nomatch h) (fun _ => ?_)
    exact num64 (by omega) (by omega) ⟨i + 1, by omega, by omega, ⟨⟨rfl, rfl, rfl, trivial⟩, trivial, rfl, rfl⟩⟩
  · exact ret_gives rfl rfl
theorem eqInstrS_spec {l : List Ir} {base base' : Option Addr} {cap cap' : Nat} (hl : Sl μ 7 base l.length (l.map Ir.d)) (hl' : Sl μ 7 base' l.length (l.map Ir.d)) :
    Gives Try.prog 108 [.slice base l.length cap, .slice base' l.length cap'] μ (.bool true) := eqInstrS_of (fun t _ _ _ => eqInstr_spec t) hl hl'
theorem Ir.mk_eq (x : Ir) (k : Int) : x.d.mk k = (.st [.i (k), .i (k + 1), .i (k + 1 + 1), .st [.i (k + 1 + 1 + 1), .s (mtext (k + 1 + 1 + 1 + 1)), .sl 4 (D.mks (x.goal.terms.map Tm.d) (k + 1 + 1 + 1 + 1 + 1)).1, .sl 4 (D.mks (x.goal.goals.map Gl.d) ((D.mks (x.goal.terms.map Tm.d) (k + 1 + 1 + 1 + 1 + 1)).2)).1]], (D.mks (x.goal.goals.map Gl.d) ((D.mks (x.goal.terms.map Tm.d) (k + 1 + 1 + 1 + 1 + 1)).2)).2) := by
  rw [Ir.d_eq]
  simp only [D.mk, D.mks, Gl.mk_eq]
theorem Ir.cnt_eq (x : Ir) : x.d.cnt = 5 + D.cnts (x.goal.terms.map Tm.d) + D.cnts (x.goal.goals.map Gl.d) := by
  rw [Ir.d_eq]
  simp only [D.cnt, D.cnts, Gl.cnt_eq]
  omega
theorem read_Instr : Reads Try.prog 192 fun d => ∃ x : Ir, d = x.d ∧ x.d.wd
  | 0 => ReadsTo.zero _
  | n + 1 => (reads_struct ti192 rfl (FieldsTo.cons ti3 (reads_int und_int n) (FieldsTo.cons ti3 (reads_int und_int n) (FieldsTo.cons ti3 (reads_int und_int n) (FieldsTo.cons ti155 (read_Goal n) FieldsTo.nil))))).weaken fun d h => by
    obtain ⟨ds, rfl, h⟩ := h
    obtain ⟨_, _, rfl, ⟨x0, rfl, w0⟩, q0⟩ := h.cons
    obtain ⟨_, _, rfl, ⟨x1, rfl, w1⟩, q1⟩ := q0.cons
    obtain ⟨_, _, rfl, ⟨x2, rfl, w2⟩, q2⟩ := q1.cons
    obtain ⟨_, _, rfl, ⟨x3, rfl, w3⟩, q3⟩ := q2.cons
    obtain rfl := q3.nil
    refine ⟨.mk x0 x1 x2 x3, (Ir.d_eq (.mk x0 x1 x2 x3)).symm, ?_⟩
    rw [Ir.d_eq]
    exact ⟨w0, w1, w2, w3, trivial⟩
theorem read_InstrS : Reads Try.prog 71 fun d => ∃ l : List Ir, d = .sl 7 (l.map Ir.d) ∧ D.wds (l.map Ir.d) := fun n =>
  (reads_sl ti71.kind (cellsOf_tt ti192) (fun d h => by obtain ⟨a, rfl, _⟩ := h; exact Ir.d_n a) read_Instr n).weaken fun d h => by
    obtain ⟨xs, rfl, hx⟩ := h
    obtain ⟨l, rfl⟩ := lift_list (f := Ir.d) fun x h => by obtain ⟨t, h, _⟩ := hx x h; exact ⟨t, h⟩
    exact ⟨l, rfl, D.wds_of fun x hm => by obtain ⟨t, rfl, h⟩ := hx x hm; exact h⟩
end
end Go.Vx

/- Contracts: the laws' own functions on values of the type Entry: sizes, copies, equality, marks; what an argument reads. (By gen_types.py.) -/
namespace Go.Vx
open Go.Proofs Classical
structure En where
  name : ByteArray
  at_ : Int
  arity : Int
  vars : Int
def En.d (x : En) : D := .st [.s x.name, .i x.at_, .i x.arity, .i x.vars]
theorem En.d_eq (x : En) : x.d = .st [.s x.name, .i x.at_, .i x.arity, .i x.vars] := rfl
theorem En.d_n (x : En) : x.d.n = 4 := by
  rw [En.d_eq]
  simp only [D.n, D.ns]
abbrev En.P := Unit
/-- The cells of a value. -/
def En.cs (x : En) (p : En.P) : List Value := [.string x.name, .int .i64 x.at_, .int .i64 x.arity, .int .i64 x.vars]
section
variable {μ : Mem}
def En.At (μ : Mem) (x : En) (p : En.P) : Prop := True
theorem En.invA {x : En} {cs : List Value} (h : Rep μ x.d cs) : ∃ p : En.P, cs = x.cs p ∧ En.At μ x p := by
  rw [En.d_eq] at h
  obtain ⟨a0, t0, rfl, h0, h⟩ := h
  have h0 : a0 = [.string x.name] := h0
  subst h0
  obtain ⟨a1, t1, rfl, h1, h⟩ := h
  have h1 : a1 = [.int .i64 x.at_] := h1
  subst h1
  obtain ⟨a2, t2, rfl, h2, h⟩ := h
  have h2 : a2 = [.int .i64 x.arity] := h2
  subst h2
  obtain ⟨a3, t3, rfl, h3, h⟩ := h
  have h3 : a3 = [.int .i64 x.vars] := h3
  subst h3
  obtain rfl : t3 = [] := h
  exact ⟨(), by simp [En.cs], trivial⟩
theorem En.rep {x : En} {cs : List Value} (h : Rep μ x.d cs) : RepV μ x.d (.agg cs.toArray) := by
  rw [En.d_eq] at h ⊢; exact ⟨cs, rfl, h⟩
theorem En.invR {x : En} {cs : List Value} (h : Rep μ x.d cs) : ∃ p : En.P, cs = x.cs p ∧ RepV μ x.d (.agg (x.cs p).toArray) := by
  obtain ⟨p, e, _⟩ := En.invA h
  subst e
  exact ⟨p, rfl, En.rep h⟩
theorem En.inv {x : En} {v : Value} (h : RepV μ x.d v) : ∃ p : En.P, v = .agg #[.string x.name, .int .i64 x.at_, .int .i64 x.arity, .int .i64 x.vars] ∧ En.At μ x p := by
  have h2 : ∃ cs, v = .agg (List.toArray cs) ∧ Rep μ x.d cs := by rw [En.d_eq] at h ⊢; exact h
  obtain ⟨cs, rfl, h3⟩ := h2
  obtain ⟨p, rfl, hA⟩ := En.invA h3
  exact ⟨p, rfl, hA⟩
theorem En.invV {x : En} {v : Value} (h : RepV μ x.d v) : ∃ p : En.P, v = .agg #[.string x.name, .int .i64 x.at_, .int .i64 x.arity, .int .i64 x.vars] := by
  obtain ⟨p, h, _⟩ := En.inv h
  exact ⟨p, h⟩
theorem En.elemA {l : List En} {base : Option Addr} {n : Nat} (h : Sl μ 4 base n (l.map En.d)) {i : Nat} {x : En} (hx : l[i]? = some x) : ∃ ad, ∃ p : En.P, ElemAt μ base n 4 i ad (x.cs p) ∧ RepV μ x.d (.agg (x.cs p).toArray) ∧ En.At μ x p := by
  obtain ⟨ad, cs, h1, h2⟩ := h.get i x.d (by simp [hx])
  obtain ⟨p, rfl, hA⟩ := En.invA h2
  exact ⟨ad, p, h1, En.rep h2, hA⟩
theorem En.elem {l : List En} {base : Option Addr} {n : Nat} (h : Sl μ 4 base n (l.map En.d)) {i : Nat} {x : En} (hx : l[i]? = some x) : ∃ ad, ∃ p : En.P, ElemAt μ base n 4 i ad (x.cs p) ∧ RepV μ x.d (.agg (x.cs p).toArray) := by
  obtain ⟨ad, p, h1, h2, _⟩ := En.elemA h hx
  exact ⟨ad, p, h1, h2⟩
theorem En.ownR {x : En} {h : Mem} {cs : List Value} (k : Own x.d h cs) : ∃ p : En.P, cs = x.cs p ∧ h = Mem.nil := by
  rw [En.d_eq] at k
  obtain ⟨a0, t0, h0, r0, rfl, q0, o0, k⟩ := k
  obtain ⟨rfl, rfl⟩ := o0
  obtain rfl := q0.eq (Parts.nil_left _)
  obtain ⟨a1, t1, h1, r1, rfl, q1, o1, k⟩ := k
  obtain ⟨rfl, rfl⟩ := o1
  obtain rfl := q1.eq (Parts.nil_left _)
  obtain ⟨a2, t2, h2, r2, rfl, q2, o2, k⟩ := k
  obtain ⟨rfl, rfl⟩ := o2
  obtain rfl := q2.eq (Parts.nil_left _)
  obtain ⟨a3, t3, h3, r3, rfl, q3, o3, k⟩ := k
  obtain ⟨rfl, rfl⟩ := o3
  obtain rfl := q3.eq (Parts.nil_left _)
  obtain ⟨rfl, rfl⟩ := k
  exact ⟨(), by simp [En.cs], rfl⟩
theorem En.sz_eq (x : En) : x.d.sz = x.name.size := by
  rw [En.d_eq]
  simp [D.sz, D.szs]
theorem szEntry_spec (x : En) {v : Value} {left : Int} (hv : RepV μ x.d v) (hl : 0 ≤ left) (hl2 : left ≤ 1048576) (hw : x.d.wd) : Gives Try.prog 154 [v, .int .i64 left] μ (.int .i64 (szR left x.d.sz)) := by
  obtain ⟨p, rfl, hA⟩ := En.inv hv
  have hsz := En.sz_eq x
  rw [En.d_eq] at hw
  have m0 := maxLen_le hw.1
  refine Spec.mk Try.func154 (by kernel_rfl) ?_
  intro r
  refine num64 (by omega) (by omega) (ifd (fun h => ret_gives (by rw [szR_neg (by omega)]) rfl) (fun h => ?_))
  refine ret_gives ?_ rfl
  rw [szR_pos (by omega)]
  first | rfl | (congr 1; omega)
theorem szEntryS_of {l : List En} (he : ∀ t ∈ l, ∀ {v : Value} {left : Int}, RepV μ t.d v → 0 ≤ left → left ≤ 1048576 → t.d.wd → Gives Try.prog 154 [v, .int .i64 left] μ (.int .i64 (szR left t.d.sz)))
    {base : Option Addr} {cap : Nat} {left : Int} (hsl : Sl μ 4 base l.length (l.map En.d)) (hl : 0 ≤ left) (hl2 : left ≤ 1048576) (hw : D.wds (l.map En.d)) :
    Gives Try.prog 97 [.slice base l.length cap, .int .i64 left] μ (.int .i64 (szR left (l.length + D.szs (l.map En.d)))) := by
  have hn := maxLen_le hsl.max
  refine Spec.mk Try.func97 (by kernel_rfl) ?_
  refine num64 (by omega) (by omega) (ifd (fun h => ret_gives ?_ rfl) (fun h => ?_))
  · rw [szR_neg (by omega)]
  refine loop_intro (fun i : Nat => i ≤ l.length ∧ (D.szs ((l.map En.d).take i) : Int) ≤ left - l.length) (fun i => ⟨[(0, .val (.slice base l.length cap)), (1, .val (.int .i64 (left - l.length - D.szs ((l.map En.d).take i)))), (5, .val (.int .i64 i))], [], 0, μ, Mem.nil⟩) (fun i => l.length - i)
    0 ⟨by omega, by simp [D.szs]; omega⟩ (fun i => ⟨rfl, rfl⟩) ⟨⟨rfl, by show some (SV.val (.int .i64 _)) = some (SV.val (.int .i64 _)); congr 3; simp [D.szs], rfl, trivial⟩, trivial, rfl, rfl⟩ ?_
  rintro i ⟨hi, hz⟩
  refine ifd (fun h => ?_) (fun h => ?_)
  · obtain ⟨t, ht⟩ := at_some (l := l) (i := i) (by omega)
    have hx := at_map (f := En.d) ht
    have hs := D.szs_take hx
    have hs' := D.szs_le (l.map En.d) (i + 1)
    obtain ⟨ad, p, hel, hr⟩ := En.elem hsl ht
    refine elem_intro hel (call_gives (he t (mem_at ht) hr (by omega) (by omega) (D.wds_mem hw _ (mem_at hx))) ?_)
    refine ifd (fun h => ret_gives ?_ rfl) (fun h => ?_)
    · have := szR_lt h
      rw [szR_neg (by omega)]
    · have := szR_ge h
      refine num64 (by omega) (by omega) ⟨i + 1, ⟨by omega, by omega⟩, by omega, ⟨⟨rfl, ?_, rfl, trivial⟩, trivial, rfl, rfl⟩⟩
      rw [szR_pos this, hs]
      show some (SV.val (.int .i64 _)) = some (SV.val (.int .i64 _))
      congr 3; omega
  · obtain rfl : i = l.length := by omega
    rw [List.take_of_length_le (by simp)] at hz ⊢
    refine ret_gives ?_ rfl
    rw [szR_pos (by omega)]; congr 1; omega
theorem szEntryS_spec {l : List En} {base : Option Addr} {cap : Nat} {left : Int} (hsl : Sl μ 4 base l.length (l.map En.d)) (hl : 0 ≤ left) (hl2 : left ≤ 1048576) (hw : D.wds (l.map En.d)) :
    Gives Try.prog 97 [.slice base l.length cap, .int .i64 left] μ (.int .i64 (szR left (l.length + D.szs (l.map En.d)))) := szEntryS_of (fun t _ _ _ => szEntry_spec t) hsl hl hl2 hw
set_option maxRecDepth 4000 in
theorem toEntry_spec (x : En) {μ : Mem} {v : Value} (hv : RepV μ x.d v) (hb : x.d.sz ≤ 1048576) : Spec Try.prog 158 [v] μ fun v μ' => Fresh μ μ' x.d v := by
  obtain ⟨p, rfl, hA⟩ := En.inv hv
  have hsz := En.sz_eq x
  refine Spec.mk Try.func158 (by kernel_rfl) ?_
  intro r1 r2 r3
  rw [En.d_eq]
  exact ret_plain (FreshS.st (FreshS.str (FreshS.int (FreshS.int (FreshS.int (FreshS.nil))))))
theorem toEntryS_of {l : List En} (he : ∀ t ∈ l, ∀ {μ : Mem} {v : Value}, RepV μ t.d v → t.d.sz ≤ 1048576 → Spec Try.prog 158 [v] μ fun v μ' => Fresh μ μ' t.d v)
    {base : Option Addr} {cap : Nat} (hsl : Sl μ 4 base l.length (l.map En.d)) (hb : l.length + D.szs (l.map En.d) ≤ 1048576) :
    Spec Try.prog 103 [.slice base l.length cap] μ fun v μ' => Fresh μ μ' (.sl 4 (l.map En.d)) v := by
  refine Spec.mk Try.func103 (by kernel_rfl) ?_
  refine make_intro l.length rfl rfl (by simp only; omega) (Nat.le_trans (m := 1048576) (by omega) (by decide)) ?_
  intro r
  refine loop_intro (fun p : Nat × List Value × Mem => μ.Le p.2.2 ∧ ∃ g, Filled 4 (.agg #[.string ⟨#[]⟩, .int .i64 0, .int .i64 0, .int .i64 0]) μ p.2.2 (l.map En.d) p.1 p.2.1 g)
    (fun (i, xs, μ') => ⟨[(0, .val (.slice base l.length cap)), (3, .row 0 (some r) l.length l.length), (4, .val (.int .i64 i))], [(0, some (.row (some r) l.length 135 4 xs))], 1, μ', Mem.nil⟩) (fun p => l.length - p.1)
    (0, List.replicate l.length (.agg #[.string ⟨#[]⟩, .int .i64 0, .int .i64 0, .int .i64 0]), μ) ⟨Mem.Le.refl μ, _, Filled.start (by simp)⟩ (fun (_, _, _) => ⟨rfl, rfl⟩) ⟨⟨rfl, rfl, rfl, trivial⟩, ⟨rfl, trivial⟩, rfl, rfl⟩ ?_
  rintro ⟨i, xs, μ'⟩ ⟨hle, g, hf⟩
  dsimp only at hle hf
  have hi := hf.le
  have hlen := hf.len
  rw [List.length_map] at hi hlen
  refine ifd (fun h => ?_) (fun h => ?_)
  · obtain ⟨t, ht⟩ := at_some (l := l) (i := i) (by omega)
    have hx := at_map (f := En.d) ht
    have hs := D.szs_mem hx
    obtain ⟨ad, p, hel, hr⟩ := En.elem (hsl.mono hle) ht
    refine elem_intro hel (call_plain (he t (mem_at ht) hr (by omega)) fun v μ'' hle2 hfr => ?_)
    obtain ⟨g', hf'⟩ := hf.step hx (En.d_n t) hfr hle2
    obtain ⟨p2, rfl⟩ := En.invV hfr.rep
    refine rel_intro i rfl (by omega) ?_
    refine get_intro _ (hf.rest i (by omega) (by simpa using h)) ?_
    refine num64 (by omega) (by omega) ⟨(i + 1, _, μ''), ⟨hle.trans hle2, g', hf'⟩, by dsimp only; omega, ⟨⟨rfl, rfl, rfl, trivial⟩, ⟨rfl, trivial⟩, rfl, rfl⟩⟩
  · obtain rfl : i = l.length := by omega
    refine ret_frz [0] fun μ2 hle2 hno hrow => .inl ?_
    have := Fresh.ofRow (hf.all (by simp)) hf.sub hf.new hle hle2 hno hrow (Nat.le_trans (m := 1048576) (by omega) (by decide))
    rw [hlen] at this
    exact this
theorem toEntryS_spec {l : List En} {base : Option Addr} {cap : Nat} (hsl : Sl μ 4 base l.length (l.map En.d)) (hb : l.length + D.szs (l.map En.d) ≤ 1048576) :
    Spec Try.prog 103 [.slice base l.length cap] μ fun v μ' => Fresh μ μ' (.sl 4 (l.map En.d)) v := toEntryS_of (fun t _ _ _ => toEntry_spec t) hsl hb
theorem eqEntry_spec (x : En) {v v' : Value} (hv : RepV μ x.d v) (hv' : RepV μ x.d v') : Gives Try.prog 163 [v, v'] μ (.bool true) := by
  obtain ⟨p, rfl, hA⟩ := En.inv hv
  obtain ⟨p', rfl, hB⟩ := En.inv hv'
  refine Spec.mk Try.func163 (by kernel_rfl) ?_
  intro r1 r2
  refine ifnd (fun h => absurd rfl h) (fun _ => ?_)
  refine ifnd (fun h => absurd rfl h) (fun _ => ?_)
  refine ifnd (fun h => absurd rfl h) (fun _ => ?_)
  refine ifnd (fun h => absurd rfl h) (fun _ => ?_)
  exact ret_gives rfl rfl
theorem eqEntryS_of {l : List En} (he : ∀ t ∈ l, ∀ {v v' : Value}, RepV μ t.d v → RepV μ t.d v' → Gives Try.prog 163 [v, v'] μ (.bool true))
    {base base' : Option Addr} {cap cap' : Nat} (hl : Sl μ 4 base l.length (l.map En.d)) (hl' : Sl μ 4 base' l.length (l.map En.d)) :
    Gives Try.prog 109 [.slice base l.length cap, .slice base' l.length cap'] μ (.bool true) := by
  have hn := maxLen_le hl.max
  refine Spec.mk Try.func109 (by kernel_rfl) ?_
  refine ifnd (fun h => absurd rfl h) (fun _ => ?_)
  refine loop_intro (fun i : Nat => i ≤ l.length) (fun i => ⟨[(0, .val (.slice base l.length cap)), (1, .val (.slice base' l.length cap')), (5, .val (.int .i64 i))], [], 0, μ, Mem.nil⟩) (fun i => l.length - i)
    0 (by omega) (fun i => ⟨rfl, rfl⟩) ⟨⟨rfl, rfl, rfl, trivial⟩, trivial, rfl, rfl⟩ ?_
  intro i hi
  refine ifd (fun h => ?_) (fun h => ?_)
  · obtain ⟨t, ht⟩ := at_some (l := l) (i := i) (by omega)
    obtain ⟨ad, p, hel, hr⟩ := En.elem hl ht
    obtain ⟨ad', p', hel', hr'⟩ := En.elem hl' ht
    refine elem_intro hel (elem_intro hel' (call_gives (he t (mem_at ht) hr hr') ?_))
    refine if_intro (fun h => nomatch h) (fun _ => ?_)
    exact num64 (by omega) (by omega) ⟨i + 1, by omega, by omega, ⟨⟨rfl, rfl, rfl, trivial⟩, trivial, rfl, rfl⟩⟩
  · exact ret_gives rfl rfl
theorem eqEntryS_spec {l : List En} {base base' : Option Addr} {cap cap' : Nat} (hl : Sl μ 4 base l.length (l.map En.d)) (hl' : Sl μ 4 base' l.length (l.map En.d)) :
    Gives Try.prog 109 [.slice base l.length cap, .slice base' l.length cap'] μ (.bool true) := eqEntryS_of (fun t _ _ _ => eqEntry_spec t) hl hl'
theorem En.mk_eq (x : En) (k : Int) : x.d.mk k = (.st [.s (mtext (k)), .i (k + 1), .i (k + 1 + 1), .i (k + 1 + 1 + 1)], k + 1 + 1 + 1 + 1) := by
  rw [En.d_eq]
  simp only [D.mk, D.mks]
theorem En.cnt_eq (x : En) : x.d.cnt = 4 := by
  rw [En.d_eq]
  simp only [D.cnt, D.cnts]
theorem read_Entry : Reads Try.prog 194 fun d => ∃ x : En, d = x.d ∧ x.d.wd
  | 0 => ReadsTo.zero _
  | n + 1 => (reads_struct ti194 rfl (FieldsTo.cons ti9 (reads_str und_string n) (FieldsTo.cons ti3 (reads_int und_int n) (FieldsTo.cons ti3 (reads_int und_int n) (FieldsTo.cons ti3 (reads_int und_int n) FieldsTo.nil))))).weaken fun d h => by
    obtain ⟨ds, rfl, h⟩ := h
    obtain ⟨_, _, rfl, ⟨x0, rfl, w0⟩, q0⟩ := h.cons
    obtain ⟨_, _, rfl, ⟨x1, rfl, w1⟩, q1⟩ := q0.cons
    obtain ⟨_, _, rfl, ⟨x2, rfl, w2⟩, q2⟩ := q1.cons
    obtain ⟨_, _, rfl, ⟨x3, rfl, w3⟩, q3⟩ := q2.cons
    obtain rfl := q3.nil
    refine ⟨.mk x0 x1 x2 x3, (En.d_eq (.mk x0 x1 x2 x3)).symm, ?_⟩
    rw [En.d_eq]
    exact ⟨w0, w1, w2, w3, trivial⟩
theorem read_EntryS : Reads Try.prog 72 fun d => ∃ l : List En, d = .sl 4 (l.map En.d) ∧ D.wds (l.map En.d) := fun n =>
  (reads_sl ti72.kind (cellsOf_tt ti194) (fun d h => by obtain ⟨a, rfl, _⟩ := h; exact En.d_n a) read_Entry n).weaken fun d h => by
    obtain ⟨xs, rfl, hx⟩ := h
    obtain ⟨l, rfl⟩ := lift_list (f := En.d) fun x h => by obtain ⟨t, h, _⟩ := hx x h; exact ⟨t, h⟩
    exact ⟨l, rfl, D.wds_of fun x hm => by obtain ⟨t, rfl, h⟩ := hx x hm; exact h⟩
end
end Go.Vx

/- Contracts: the laws' own functions on values of the type Code: sizes, copies, equality, marks; what an argument reads. (By gen_types.py.) -/
namespace Go.Vx
open Go.Proofs Classical
structure Cd where
  instrs : List Ir
  entries : List En
def Cd.d (x : Cd) : D := .st [.sl 7 (x.instrs.map Ir.d), .sl 4 (x.entries.map En.d)]
theorem Cd.d_eq (x : Cd) : x.d = .st [.sl 7 (x.instrs.map Ir.d), .sl 4 (x.entries.map En.d)] := rfl
theorem Cd.d_n (x : Cd) : x.d.n = 2 := by
  rw [Cd.d_eq]
  simp only [D.n, D.ns]
abbrev Cd.P := (Option Addr × Nat) × (Option Addr × Nat)
/-- The cells of a value. -/
def Cd.cs (x : Cd) (p : Cd.P) : List Value := [.slice p.1.1 x.instrs.length p.1.2, .slice p.2.1 x.entries.length p.2.2]
section
variable {μ : Mem}
def Cd.At (μ : Mem) (x : Cd) (p : Cd.P) : Prop := Sl μ 7 p.1.1 x.instrs.length (x.instrs.map Ir.d) ∧ Sl μ 4 p.2.1 x.entries.length (x.entries.map En.d)
theorem Cd.invA {x : Cd} {cs : List Value} (h : Rep μ x.d cs) : ∃ p : Cd.P, cs = x.cs p ∧ Cd.At μ x p := by
  rw [Cd.d_eq] at h
  obtain ⟨a0, t0, rfl, h0, h⟩ := h
  obtain ⟨v0, rfl⟩ := one_of (Rep.len _ _ h0)
  obtain ⟨b0, c0, rfl, s0⟩ := Rep.sl h0
  rw [List.length_map] at s0
  obtain ⟨a1, t1, rfl, h1, h⟩ := h
  obtain ⟨v1, rfl⟩ := one_of (Rep.len _ _ h1)
  obtain ⟨b1, c1, rfl, s1⟩ := Rep.sl h1
  rw [List.length_map] at s1
  obtain rfl : t1 = [] := h
  exact ⟨((b0, c0), (b1, c1)), by simp [Cd.cs], ⟨s0, s1⟩⟩
theorem Cd.rep {x : Cd} {cs : List Value} (h : Rep μ x.d cs) : RepV μ x.d (.agg cs.toArray) := by
  rw [Cd.d_eq] at h ⊢; exact ⟨cs, rfl, h⟩
theorem Cd.invR {x : Cd} {cs : List Value} (h : Rep μ x.d cs) : ∃ p : Cd.P, cs = x.cs p ∧ RepV μ x.d (.agg (x.cs p).toArray) := by
  obtain ⟨p, e, _⟩ := Cd.invA h
  subst e
  exact ⟨p, rfl, Cd.rep h⟩
theorem Cd.inv {x : Cd} {v : Value} (h : RepV μ x.d v) : ∃ p : Cd.P, v = .agg #[.slice p.1.1 x.instrs.length p.1.2, .slice p.2.1 x.entries.length p.2.2] ∧ Cd.At μ x p := by
  have h2 : ∃ cs, v = .agg (List.toArray cs) ∧ Rep μ x.d cs := by rw [Cd.d_eq] at h ⊢; exact h
  obtain ⟨cs, rfl, h3⟩ := h2
  obtain ⟨p, rfl, hA⟩ := Cd.invA h3
  exact ⟨p, rfl, hA⟩
theorem Cd.invV {x : Cd} {v : Value} (h : RepV μ x.d v) : ∃ p : Cd.P, v = .agg #[.slice p.1.1 x.instrs.length p.1.2, .slice p.2.1 x.entries.length p.2.2] := by
  obtain ⟨p, h, _⟩ := Cd.inv h
  exact ⟨p, h⟩
theorem Cd.elemA {l : List Cd} {base : Option Addr} {n : Nat} (h : Sl μ 2 base n (l.map Cd.d)) {i : Nat} {x : Cd} (hx : l[i]? = some x) : ∃ ad, ∃ p : Cd.P, ElemAt μ base n 2 i ad (x.cs p) ∧ RepV μ x.d (.agg (x.cs p).toArray) ∧ Cd.At μ x p := by
  obtain ⟨ad, cs, h1, h2⟩ := h.get i x.d (by simp [hx])
  obtain ⟨p, rfl, hA⟩ := Cd.invA h2
  exact ⟨ad, p, h1, Cd.rep h2, hA⟩
theorem Cd.elem {l : List Cd} {base : Option Addr} {n : Nat} (h : Sl μ 2 base n (l.map Cd.d)) {i : Nat} {x : Cd} (hx : l[i]? = some x) : ∃ ad, ∃ p : Cd.P, ElemAt μ base n 2 i ad (x.cs p) ∧ RepV μ x.d (.agg (x.cs p).toArray) := by
  obtain ⟨ad, p, h1, h2, _⟩ := Cd.elemA h hx
  exact ⟨ad, p, h1, h2⟩
theorem Cd.ownR {x : Cd} {h : Mem} {cs : List Value} (k : Own x.d h cs) : ∃ p : Cd.P, cs = x.cs p ∧ ∃ g1 g2, Parts h g1 g2 ∧ OwnV (.sl 7 (x.instrs.map Ir.d)) g1 (.slice p.1.1 x.instrs.length p.1.2) ∧ OwnV (.sl 4 (x.entries.map En.d)) g2 (.slice p.2.1 x.entries.length p.2.2) := by
  rw [Cd.d_eq] at k
  obtain ⟨a0, t0, h0, r0, rfl, q0, o0, k⟩ := k
  obtain ⟨v0, rfl⟩ := one_of (Own.len o0)
  obtain ⟨b0, c0, rfl⟩ := Own.sl o0
  rw [List.length_map] at o0
  obtain ⟨a1, t1, h1, r1, rfl, q1, o1, k⟩ := k
  obtain ⟨v1, rfl⟩ := one_of (Own.len o1)
  obtain ⟨b1, c1, rfl⟩ := Own.sl o1
  rw [List.length_map] at o1
  obtain ⟨rfl, rfl⟩ := k
  obtain rfl := q1.eq (Parts.nil_right _)
  exact ⟨((b0, c0), (b1, c1)), by simp [Cd.cs], ⟨_, _, q0, o0, o1⟩⟩
theorem Cd.sz_eq (x : Cd) : x.d.sz = (x.instrs.length + D.szs (x.instrs.map Ir.d)) + (x.entries.length + D.szs (x.entries.map En.d)) := by
  rw [Cd.d_eq]
  simp [D.sz, D.szs]
theorem szCode_spec (x : Cd) {v : Value} {left : Int} (hv : RepV μ x.d v) (hl : 0 ≤ left) (hl2 : left ≤ 1048576) (hw : x.d.wd) : Gives Try.prog 42 [v, .int .i64 left] μ (.int .i64 (szR left x.d.sz)) := by
  obtain ⟨p, rfl, hA⟩ := Cd.inv hv
  have hsz := Cd.sz_eq x
  rw [Cd.d_eq] at hw
  obtain ⟨A0, A1⟩ := hA
  refine Spec.mk Try.func42 (by kernel_rfl) ?_
  intro r
  refine call_gives (szInstrS_spec A0 (by omega) (by omega) hw.1) ?_
  refine ifd (fun h => ret_gives (by have := szR_lt h; rw [szR_neg (by omega)]) rfl) (fun h => ?_)
  have q0 := szR_ge h
  rw [szR_pos q0] at h ⊢
  refine call_gives (szEntryS_spec A1 (by omega) (by omega) hw.2.1) ?_
  refine ifd (fun h => ret_gives (by have := szR_lt h; rw [szR_neg (by omega)]) rfl) (fun h => ?_)
  have q1 := szR_ge h
  rw [szR_pos q1] at h ⊢
  refine ret_gives ?_ rfl
  rw [szR_pos (by omega)]
  first | rfl | (congr 1; omega)
set_option maxRecDepth 4000 in
theorem toCode_spec (x : Cd) {μ : Mem} {v : Value} (hv : RepV μ x.d v) (hb : x.d.sz ≤ 1048576) : Spec Try.prog 44 [v] μ fun v μ' => Fresh μ μ' x.d v := by
  obtain ⟨p, rfl, hA⟩ := Cd.inv hv
  have hsz := Cd.sz_eq x
  obtain ⟨A0, A1⟩ := hA
  refine Spec.mk Try.func44 (by kernel_rfl) ?_
  intro r1 r2 r3
  refine call_plain (toInstrS_spec A0 (by omega)) fun u0 μ0 hle0 hf0 => ?_
  replace A1 := A1.mono hle0
  obtain ⟨bb0, cc0, rfl, _⟩ := Rep.sl hf0.rep
  refine call_plain (toEntryS_spec A1 (by omega)) fun u1 μ1 hle1 hf1 => ?_
  obtain ⟨bb1, cc1, rfl, _⟩ := Rep.sl hf1.rep
  rw [Cd.d_eq]
  exact ret_plain (FreshS.st (FreshS.cons hf0 hle0 (hle1) (FreshS.cons hf1 hle1 (Mem.Le.refl _) (FreshS.nil))))
theorem eqCode_spec (x : Cd) {v v' : Value} (hv : RepV μ x.d v) (hv' : RepV μ x.d v') : Gives Try.prog 46 [v, v'] μ (.bool true) := by
  obtain ⟨p, rfl, hA⟩ := Cd.inv hv
  obtain ⟨p', rfl, hB⟩ := Cd.inv hv'
  obtain ⟨A0, A1⟩ := hA
  obtain ⟨B0, B1⟩ := hB
  refine Spec.mk Try.func46 (by kernel_rfl) ?_
  intro r1 r2
  refine call_gives (eqInstrS_spec A0 B0) ?_
  refine if_intro (fun h => nomatch h) (fun _ => ?_)
  refine call_gives (eqEntryS_spec A1 B1) ?_
  refine if_intro (fun h => nomatch h) (fun _ => ?_)
  exact ret_gives rfl rfl
theorem Cd.mk_eq (x : Cd) (k : Int) : x.d.mk k = (.st [.sl 7 (D.mks (x.instrs.map Ir.d) (k)).1, .sl 4 (D.mks (x.entries.map En.d) ((D.mks (x.instrs.map Ir.d) (k)).2)).1], (D.mks (x.entries.map En.d) ((D.mks (x.instrs.map Ir.d) (k)).2)).2) := by
  rw [Cd.d_eq]
  simp only [D.mk, D.mks]
theorem Cd.cnt_eq (x : Cd) : x.d.cnt = 0 + D.cnts (x.instrs.map Ir.d) + D.cnts (x.entries.map En.d) := by
  rw [Cd.d_eq]
  simp only [D.cnt, D.cnts]
  omega
theorem read_Code : Reads Try.prog 74 fun d => ∃ x : Cd, d = x.d ∧ x.d.wd
  | 0 => ReadsTo.zero _
  | n + 1 => (reads_struct ti74 rfl (FieldsTo.cons ti71 (read_InstrS n) (FieldsTo.cons ti72 (read_EntryS n) FieldsTo.nil))).weaken fun d h => by
    obtain ⟨ds, rfl, h⟩ := h
    obtain ⟨_, _, rfl, ⟨x0, rfl, w0⟩, q0⟩ := h.cons
    obtain ⟨_, _, rfl, ⟨x1, rfl, w1⟩, q1⟩ := q0.cons
    obtain rfl := q1.nil
    refine ⟨.mk x0 x1, (Cd.d_eq (.mk x0 x1)).symm, ?_⟩
    rw [Cd.d_eq]
    exact ⟨w0, w1, trivial⟩
end
end Go.Vx

/- Contracts: code's entries, regions; goals that are none. -/
namespace Go.Vx
open Go.Proofs Classical
noncomputable def entFrom : List En → Nat → ByteArray → Int
  | [], _, _ => -1
  | e :: l, i, s => if e.name = s then i else entFrom l (i + 1) s
noncomputable def entOf (c : Cd) (s : ByteArray) : Int := entFrom c.entries 0 s
theorem entFrom_some {s : ByteArray} : ∀ {l : List En} {i : Nat}, 0 ≤ entFrom l i s → ∃ (j : Nat) (e : En), entFrom l i s = ((i + j : Nat) : Int) ∧ l[j]? = some e ∧ e.name = s
  | [], i, h => by simp [entFrom] at h
  | r :: l, i, h => by
    rw [entFrom] at h ⊢
    by_cases e : r.name = s
    · rw [if_pos e]; exact ⟨0, r, by simp, rfl, e⟩
    · rw [if_neg e] at h ⊢
      obtain ⟨j, r', h1, h2, h3⟩ := entFrom_some h
      exact ⟨j + 1, r', by rw [h1]; congr 1; omega, h2, h3⟩
/-- A goal that stands for none. -/
def NoGoal (g : Gl) : Prop := g.kind = 0 ∧ g.name = ⟨#[]⟩ ∧ g.terms.length = 0 ∧ g.goals.length = 0
section
variable {μ : Mem}
theorem entryOf_spec {c : Cd} {s : ByteArray} {v : Value} (hv : RepV μ c.d v) : Gives Try.prog 105 [v, .string s] μ (.int .i64 (entOf c s)) := by
  obtain ⟨q, rfl, hi, hsl⟩ := Cd.inv hv
  have hn := maxLen_le hsl.max
  refine Spec.mk Try.func105 (by kernel_rfl) ?_
  intro r
  refine loop_intro (fun i : Nat => i ≤ c.entries.length ∧ entFrom (c.entries.drop i) i s = entOf c s) (fun i => ⟨[(1, .val (.string s)), (8, .val (.slice q.2.1 c.entries.length q.2.2)), (9, .val (.int .i64 c.entries.length)), (10, .val (.int .i64 i))], [], 1, μ, Mem.nil⟩) (fun i => c.entries.length - i)
    0 ⟨by omega, rfl⟩ (fun _ => ⟨rfl, rfl⟩) ⟨⟨rfl, rfl, rfl, rfl, trivial⟩, trivial, rfl, rfl⟩ ?_
  rintro i ⟨hi, hJ⟩
  refine ifd (fun hlt => ?_) (fun hlt => ?_)
  · obtain ⟨x, hx⟩ := at_some (l := c.entries) (i := i) (by omega)
    obtain ⟨ad, q2, hel, hr⟩ := En.elem hsl hx
    rw [drop_at hx, entFrom] at hJ
    refine elem_intro hel ?_
    intro r2
    refine ifd (fun e => ?_) (fun e => ?_)
    · rw [if_pos e] at hJ
      exact ret_gives (by rw [← hJ]) rfl
    · rw [if_neg e] at hJ
      exact num64 (by omega) (by omega) ⟨i + 1, ⟨by omega, hJ⟩, by omega, ⟨⟨rfl, rfl, rfl, rfl, trivial⟩, trivial, rfl, rfl⟩⟩
  · obtain rfl : i = c.entries.length := by omega
    rw [List.drop_length] at hJ
    exact ret_gives (by rw [← hJ]; rfl) rfl
theorem noGoal_spec {g : Gl} {v : Value} (hv : RepV μ g.d v) : Gives Try.prog 160 [v] μ (.bool (decide (NoGoal g))) := by
  obtain ⟨q, rfl⟩ := Gl.invV hv
  refine Spec.mk Try.func160 (by kernel_rfl) ?_
  intro r
  refine ifd (fun h1 => ?_) (fun h1 => ret_gives (isF fun k => h1 k.1) rfl)
  refine ifd (fun h2 => ?_) (fun h2 => ret_gives (isF fun k => h2 k.2.1) rfl)
  refine ifd (fun h3 => ?_) (fun h3 => ret_gives (isF fun k => h3 (by have := k.2.2.1; omega)) rfl)
  exact ret_gives (isI ⟨fun h4 => ⟨h1, h2, by omega, by omega⟩, fun k => by have := k.2.2.2; omega⟩) rfl
theorem l21None_spec {g : Gl} {v : Value} (hv : RepV μ g.d v) : Gives Try.prog 209 [v] μ (.bool (decide (NoGoal g))) := by
  obtain ⟨q, rfl⟩ := Gl.invV hv
  refine Spec.mk Try.func209 (by kernel_rfl) ?_
  intro r
  refine ifd (fun h1 => ?_) (fun h1 => ret_gives (isF fun k => h1 k.1) rfl)
  refine ifd (fun h2 => ?_) (fun h2 => ret_gives (isF fun k => h2 k.2.1) rfl)
  refine ifd (fun h3 => ?_) (fun h3 => ret_gives (isF fun k => h3 (by have := k.2.2.1; omega)) rfl)
  exact ret_gives (isI ⟨fun h4 => ⟨h1, h2, by omega, by omega⟩, fun k => by have := k.2.2.2; omega⟩) rfl
/-- Where the region of an entry ends. -/
def endOf (c : Cd) (i : Nat) : Int := match c.entries[i + 1]? with | some e => e.at_ | none => c.instrs.length
theorem regionEnd_spec {c : Cd} {i : Nat} {v : Value} (hv : RepV μ c.d v) (hi : i < c.entries.length) : Gives Try.prog 106 [v, .int .i64 i] μ (.int .i64 (endOf c i)) := by
  obtain ⟨q, rfl, hi2, hsl⟩ := Cd.inv hv
  have hmx := maxLen_le hsl.max
  refine Spec.mk Try.func106 (by kernel_rfl) ?_
  intro r
  refine num_eq (x := ((i + 1 : Nat) : Int)) (by rw [wrap64 (by omega) (by omega)]; omega) ?_
  refine ifd (fun hlt => ?_) (fun hlt => ?_)
  · obtain ⟨x, hx⟩ := at_some (l := c.entries) (i := i + 1) (by omega)
    obtain ⟨ad, q2, hel, hr⟩ := En.elem hsl hx
    refine num_eq (x := ((i + 1 : Nat) : Int)) (by rw [wrap64 (by omega) (by omega)]; omega) ?_
    refine elem_intro hel ?_
    exact ret_gives (by rw [endOf, hx]) rfl
  · have : c.entries[i + 1]? = none := List.getElem?_eq_none (by omega)
    exact ret_gives (by rw [endOf, this]) rfl
end
end Go.Vx

/- Contracts: well-formed code, the program's side. -/
namespace Go.Vx
open Go.Proofs Classical
/-- What an instruction must be, in an entry's region that ends at 'fin' and has 'vars' variables. -/
structure InsOk (c : Cd) (x : Ir) (at_ : Nat) (fin vars : Int) : Prop where
  op0 : 0 ≤ x.op
  op6 : x.op ≤ 6
  ret : x.op = 6 → (at_ : Int) = fin - 1
  none_ : x.op ≠ 0 → x.op ≠ 5 → NoGoal x.goal
  good : x.op = 0 ∨ x.op = 5 → x.goal.Ok ∧ ∀ n ∈ x.goal.vars, n < vars
  req : x.op = 0 → 2 ≤ x.goal.kind ∧ x.goal.kind ≤ 6
  call : x.op = 5 → x.goal.kind = 9 ∧ 0 ≤ entOf c x.goal.name ∧ ∀ e, c.entries[(entOf c x.goal.name).toNat]? = some e → e.arity = x.goal.terms.length
  a0 : x.op ≠ 1 → x.op ≠ 3 → x.a = 0
  a1 : x.op = 1 ∨ x.op = 3 → (at_ : Int) < x.a ∧ x.a < fin
  b0 : x.op ≠ 1 → x.op ≠ 2 → x.b = 0
  b1 : x.op = 1 ∨ x.op = 2 → 0 ≤ x.b ∧ x.b ≤ 7
  next : x.op = 1 → ∀ y, c.instrs[x.a.toNat]? = some y → (y.op = 1 ∨ y.op = 2) ∧ y.b = x.b + 1
/-- What an entry must be. -/
structure EntOk (c : Cd) (i : Nat) (e : En) : Prop where
  last : i + 1 = c.entries.length → e.name = ⟨#[]⟩ ∧ e.arity = 0
  name : i + 1 < c.entries.length → IsRel e.name ∧ entOf c e.name = i
  ar0 : 0 ≤ e.arity
  ar4 : e.arity ≤ 4
  v0 : e.arity ≤ e.vars
  v1 : e.vars ≤ 100000
  at0 : 0 ≤ e.at_
  at1 : e.at_ < c.instrs.length
  mono : ∀ j e', j + 1 = i → c.entries[j]? = some e' → e'.at_ < e.at_
/-- The instructions of an entry. -/
def RegOk (c : Cd) (i : Nat) (e : En) : Prop := ∀ (at_ : Nat) x, e.at_ ≤ at_ → (at_ : Int) < endOf c i → c.instrs[at_]? = some x → InsOk c x at_ (endOf c i) e.vars ∧ ((at_ : Int) = endOf c i - 1 → x.op = 6)
structure Cd.Ok (c : Cd) : Prop where
  ne : 0 < c.entries.length
  zero : ∀ e, c.entries[0]? = some e → e.at_ = 0
  ent : ∀ i e, c.entries[i]? = some e → EntOk c i e
  reg : ∀ i e, c.entries[i]? = some e → RegOk c i e
/-- Where a region ends, if the entries are right. -/
theorem endOf_range {c : Cd} (h : ∀ i e, c.entries[i]? = some e → EntOk c i e) {i : Nat} {e : En} (he : c.entries[i]? = some e) : e.at_ < endOf c i ∧ endOf c i ≤ c.instrs.length := by
  have h0 := h i e he
  unfold endOf
  cases h1 : c.entries[i + 1]? with
  | none => exact ⟨h0.at1, Int.le_refl _⟩
  | some e' =>
    have := h (i + 1) e' h1
    exact ⟨this.mono i e rfl he, by have := this.at1; dsimp only; omega⟩
section
variable {μ : Mem}
theorem instrOk_spec {c : Cd} {v : Value} (hv : RepV μ c.d v) {at_ i : Nat} {x : Ir} {e : En} (hx : c.instrs[at_]? = some x) (he : c.entries[i]? = some e) (h0 : 0 ≤ e.at_) (h1 : e.at_ ≤ at_) (h2 : (at_ : Int) < endOf c i) (h3 : endOf c i ≤ c.instrs.length) :
    Spec Try.prog 107 [v, .int .i64 at_, .int .i64 i] μ fun r _ => r = .bool (decide (InsOk c x at_ (endOf c i) e.vars)) := by
  have hv0 := hv
  obtain ⟨q, rfl, hil, hel⟩ := Cd.inv hv
  have hn := maxLen_le hil.max
  have hn2 := maxLen_le hel.max
  have hil2 := (List.getElem?_eq_some_iff.1 hx).1
  have hei2 := (List.getElem?_eq_some_iff.1 he).1
  have hend := regionEnd_spec (i := i) hv0 hei2
  refine Spec.mk Try.func107 (by kernel_rfl) ?_
  intro r1
  obtain ⟨ad, p, hxe, hxr, hxA⟩ := Ir.elemA hil hx
  refine elem_intro hxe ?_
  intro r2
  obtain ⟨ad2, p2, hee, her⟩ := En.elem hel he
  refine elem_intro hee ?_
  refine call_gives hend ?_
  refine elem_intro hee ?_
  have hgd : RepV μ x.goal.d (.agg (x.goal.cs p).toArray) := hxA
  generalize endOf c i = E at *
  refine ifnd (fun n0 => ?_) (fun e0 => ?_)
  · refine ifnd (fun n5 => ?_) (fun e5 => ?_)
    · refine call_gives (noGoal_spec hgd) ?_
      refine ifnd (fun hng => ret_plain (isF fun k => hng (k.none_ n0 n5))) (fun hng => ?_)
      refine ifd (fun i1 => ?_) (fun i1 => ?_)
      · refine ifd (fun _ => ?_) (fun h => absurd (by omega) h)
        refine ifd (fun h => absurd h n0) (fun _ => ?_)
        refine ifd (fun h => absurd h n5) (fun _ => ?_)
        refine ifd (fun e1 => ?_) (fun n1 => ?_)
        · refine ifnd (fun i3 => ret_plain (isF fun k => i3 (k.a1 (.inl e1)).2)) (fun i3 => ?_)
          refine ifd (fun b0 => ret_plain (isF fun k => by have := (k.b1 (.inl e1)).1; omega)) (fun b0 => ?_)
          refine ifd (fun b7 => ret_plain (isF fun k => by have := (k.b1 (.inl e1)).2; omega)) (fun b7 => ?_)
          obtain ⟨y, hy⟩ := at_some (l := c.instrs) (i := x.a.toNat) (by omega)
          obtain ⟨ad3, p3, hye, hyr, hyA⟩ := Ir.elemA hil hy
          have hxa : x.a = ((x.a.toNat : Nat) : Int) := by omega
          rw [hxa]
          refine elem_intro hye ?_
          intro r13
          have hnx : ∀ y', c.instrs[x.a.toNat]? = some y' → y' = y := fun y' h => by rw [hy] at h; cases h; rfl
          refine ifd (fun y1 => ?_) (fun y1 => ?_)
          · refine num64 (by omega) (by omega) ?_
            refine ret_plain (isI ⟨fun hb => ⟨by omega, by omega, fun h => by omega, fun _ _ => hng, fun h => by omega, fun h => by omega, fun h => by omega, fun h h' => by omega, fun _ => ⟨i1, i3⟩, fun h _ => by omega, fun _ => ⟨by omega, by omega⟩, fun _ y' h => by rw [hnx y' h]; exact ⟨.inl y1, hb⟩⟩, fun k => (k.next e1 y hy).2⟩)
          · refine ifd (fun y2 => ?_) (fun y2 => ret_plain (isF fun k => by have := (k.next e1 y hy).1; omega))
            refine num64 (by omega) (by omega) ?_
            refine ret_plain (isI ⟨fun hb => ⟨by omega, by omega, fun h => by omega, fun _ _ => hng, fun h => by omega, fun h => by omega, fun h => by omega, fun h h' => by omega, fun _ => ⟨i1, i3⟩, fun h _ => by omega, fun _ => ⟨by omega, by omega⟩, fun _ y' h => by rw [hnx y' h]; exact ⟨.inr y2, hb⟩⟩, fun k => (k.next e1 y hy).2⟩)
        refine ifd (fun e2 => ?_) (fun n2 => ?_)
        · refine ifd (fun a0 => ?_) (fun a0 => ret_plain (isF fun k => a0 (k.a0 (by omega) (by omega))))
          refine ifd (fun b0 => ?_) (fun b0 => ret_plain (isF fun k => b0 (k.b1 (.inr e2)).1))
          refine ret_plain (isI ⟨fun b7 => ⟨by omega, by omega, fun h => by omega, fun _ _ => hng, fun h => by omega, fun h => by omega, fun h => by omega, fun _ _ => a0, fun h => by omega, fun h h' => by omega, fun _ => ⟨by omega, by omega⟩, fun h => by omega⟩, fun k => (k.b1 (.inr e2)).2⟩)
        · refine ifd (fun e3 => ?_) (fun n3 => ?_)
          · refine ifd (fun i3 => ?_) (fun i3 => ret_plain (isF fun k => i3 (k.a1 (.inr e3)).2))
            refine ret_plain (isI ⟨fun hb => ⟨by omega, by omega, fun h => by omega, fun _ _ => hng, fun h => by omega, fun h => by omega, fun h => by omega, fun h h' => by omega, fun _ => ⟨i1, i3⟩, fun _ _ => hb, fun h => by omega, fun h => by omega⟩, fun k => k.b0 n1 n2⟩)
          refine ifd (fun e4 => ?_) (fun n4 => ?_)
          · refine ifd (fun a0 => ?_) (fun a0 => ret_plain (isF fun k => a0 (k.a0 n1 n3)))
            refine ret_plain (isI ⟨fun b0 => ⟨by omega, by omega, fun h => by omega, fun _ _ => hng, fun h => by omega, fun h => by omega, fun h => by omega, fun _ _ => a0, fun h => by omega, fun _ _ => b0, fun h => by omega, fun h => by omega⟩, fun k => k.b0 n1 n2⟩)
          refine ifd (fun e6 => ?_) (fun n6 => ?_)
          · refine ifd (fun a0 => ?_) (fun a0 => ret_plain (isF fun k => a0 (k.a0 n1 n3)))
            refine ifd (fun b0 => ?_) (fun b0 => ret_plain (isF fun k => b0 (k.b0 n1 n2)))
            refine num64 (by omega) (by omega) ?_
            refine ret_plain (isI ⟨fun hf => ⟨by omega, by omega, fun _ => hf, fun _ _ => hng, fun h => by omega, fun h => by omega, fun h => by omega, fun _ _ => a0, fun h => by omega, fun _ _ => b0, fun h => by omega, fun h => by omega⟩, fun k => k.ret e6⟩)
          exact ret_plain (isF fun k => by have := k.op0; have := k.op6; omega)
      · refine ifd (fun h => absurd h n0) (fun _ => ?_)
        refine ifd (fun h => absurd h n5) (fun _ => ?_)
        refine ifd (fun e1 => ?_) (fun n1 => ?_)
        · exact ret_plain (isF fun k => i1 (k.a1 (.inl e1)).1)
        refine ifd (fun e2 => ?_) (fun n2 => ?_)
        · refine ifd (fun a0 => ?_) (fun a0 => ret_plain (isF fun k => a0 (k.a0 (by omega) (by omega))))
          refine ifd (fun b0 => ?_) (fun b0 => ret_plain (isF fun k => b0 (k.b1 (.inr e2)).1))
          refine ret_plain (isI ⟨fun b7 => ⟨by omega, by omega, fun h => by omega, fun _ _ => hng, fun h => by omega, fun h => by omega, fun h => by omega, fun _ _ => a0, fun h => by omega, fun h h' => by omega, fun _ => ⟨by omega, by omega⟩, fun h => by omega⟩, fun k => (k.b1 (.inr e2)).2⟩)
        · refine ifd (fun e3 => ?_) (fun n3 => ?_)
          · exact ret_plain (isF fun k => i1 (k.a1 (.inr e3)).1)
          refine ifd (fun e4 => ?_) (fun n4 => ?_)
          · refine ifd (fun a0 => ?_) (fun a0 => ret_plain (isF fun k => a0 (k.a0 n1 n3)))
            refine ret_plain (isI ⟨fun b0 => ⟨by omega, by omega, fun h => by omega, fun _ _ => hng, fun h => by omega, fun h => by omega, fun h => by omega, fun _ _ => a0, fun h => by omega, fun _ _ => b0, fun h => by omega, fun h => by omega⟩, fun k => k.b0 n1 n2⟩)
          refine ifd (fun e6 => ?_) (fun n6 => ?_)
          · refine ifd (fun a0 => ?_) (fun a0 => ret_plain (isF fun k => a0 (k.a0 n1 n3)))
            refine ifd (fun b0 => ?_) (fun b0 => ret_plain (isF fun k => b0 (k.b0 n1 n2)))
            refine num64 (by omega) (by omega) ?_
            refine ret_plain (isI ⟨fun hf => ⟨by omega, by omega, fun _ => hf, fun _ _ => hng, fun h => by omega, fun h => by omega, fun h => by omega, fun _ _ => a0, fun h => by omega, fun _ _ => b0, fun h => by omega, fun h => by omega⟩, fun k => k.ret e6⟩)
          exact ret_plain (isF fun k => by have := k.op0; have := k.op6; omega)
    · -- a call
      refine ifd (fun i1 => ?_) (fun i1 => ?_)
      · refine ifd (fun _ => ?_) (fun h => absurd (by omega) h)
        refine ifd (fun h => absurd h n0) (fun _ => ?_)
        refine ifd (fun _ => ?_) (fun h => absurd e5 h)
        refine ifnd (fun a0 => ret_plain (isF fun k => a0 (k.a0 (by omega) (by omega)))) (fun a0 => ?_)
        refine ifnd (fun b0 => ret_plain (isF fun k => b0 (k.b0 (by omega) (by omega)))) (fun b0 => ?_)
        refine call_gives (impl_GoalOk_spec x.goal hgd) ?_
        refine ifnd (fun hg => ret_plain (isF fun k => hg (k.good (.inr e5)).1)) (fun hg => ?_)
        refine ifnd (fun k1 => ret_plain (isF fun k => k1 (k.call e5).1)) (fun k1 => ?_)
        refine call_plain (varsBelow_spec hg.1 hgd) fun v1 μ1 hle1 hR => ?_
        obtain rfl := hR
        refine ifnd (fun hvb => ret_plain (isF fun k => hvb (k.good (.inr e5)).2)) (fun hvb => ?_)
        refine call_gives (entryOf_spec (s := x.goal.name) (hv0.mono hle1)) ?_
        refine ifd (fun hk => ?_) (fun hk => ret_plain (isF fun k => hk (k.call e5).2.1))
        obtain ⟨j, e9, hj, he9, _⟩ := entFrom_some hk
        have hj' : entOf c x.goal.name = (j : Int) := by rw [entOf, hj]; simp
        obtain ⟨ad9, p9, hel9, _⟩ := En.elem (hel.mono hle1) he9
        rw [hj']
        refine elem_intro hel9 ?_
        have hnx : ∀ y', c.entries[(entOf c x.goal.name).toNat]? = some y' → y' = e9 := fun y' h => by rw [hj', Int.toNat_natCast, he9] at h; cases h; rfl
        refine ret_plain (isI ⟨fun ha => ⟨by omega, by omega, fun h => by omega, fun _ h => absurd e5 h, fun _ => ⟨hg, hvb⟩, fun h => by omega, fun _ => ⟨k1, hk, fun y' h => by rw [hnx y' h]; exact ha⟩, fun _ _ => a0, fun h => by omega, fun _ _ => b0, fun h => by omega, fun h => by omega⟩, fun k => (k.call e5).2.2 e9 (by rw [hj', Int.toNat_natCast]; exact he9)⟩)
      · refine ifd (fun h => absurd h n0) (fun _ => ?_)
        refine ifd (fun _ => ?_) (fun h => absurd e5 h)
        refine ifnd (fun a0 => ret_plain (isF fun k => a0 (k.a0 (by omega) (by omega)))) (fun a0 => ?_)
        refine ifnd (fun b0 => ret_plain (isF fun k => b0 (k.b0 (by omega) (by omega)))) (fun b0 => ?_)
        refine call_gives (impl_GoalOk_spec x.goal hgd) ?_
        refine ifnd (fun hg => ret_plain (isF fun k => hg (k.good (.inr e5)).1)) (fun hg => ?_)
        refine ifnd (fun k1 => ret_plain (isF fun k => k1 (k.call e5).1)) (fun k1 => ?_)
        refine call_plain (varsBelow_spec hg.1 hgd) fun v1 μ1 hle1 hR => ?_
        obtain rfl := hR
        refine ifnd (fun hvb => ret_plain (isF fun k => hvb (k.good (.inr e5)).2)) (fun hvb => ?_)
        refine call_gives (entryOf_spec (s := x.goal.name) (hv0.mono hle1)) ?_
        refine ifd (fun hk => ?_) (fun hk => ret_plain (isF fun k => hk (k.call e5).2.1))
        obtain ⟨j, e9, hj, he9, _⟩ := entFrom_some hk
        have hj' : entOf c x.goal.name = (j : Int) := by rw [entOf, hj]; simp
        obtain ⟨ad9, p9, hel9, _⟩ := En.elem (hel.mono hle1) he9
        rw [hj']
        refine elem_intro hel9 ?_
        have hnx : ∀ y', c.entries[(entOf c x.goal.name).toNat]? = some y' → y' = e9 := fun y' h => by rw [hj', Int.toNat_natCast, he9] at h; cases h; rfl
        refine ret_plain (isI ⟨fun ha => ⟨by omega, by omega, fun h => by omega, fun _ h => absurd e5 h, fun _ => ⟨hg, hvb⟩, fun h => by omega, fun _ => ⟨k1, hk, fun y' h => by rw [hnx y' h]; exact ha⟩, fun _ _ => a0, fun h => by omega, fun _ _ => b0, fun h => by omega, fun h => by omega⟩, fun k => (k.call e5).2.2 e9 (by rw [hj', Int.toNat_natCast]; exact he9)⟩)
  · -- a requirement
    refine ifd (fun i1 => ?_) (fun i1 => ?_)
    · refine ifd (fun _ => ?_) (fun h => absurd (by omega) h)
      refine ifd (fun _ => ?_) (fun h => absurd e0 h)
      refine ifd (fun a0 => ?_) (fun a0 => ret_plain (isF fun k => a0 (k.a0 (by omega) (by omega))))
      refine ifd (fun b0 => ?_) (fun b0 => ret_plain (isF fun k => b0 (k.b0 (by omega) (by omega))))
      refine call_gives (impl_GoalOk_spec x.goal hgd) ?_
      refine ifd (fun hg => ?_) (fun hg => ret_plain (isF fun k => hg (k.good (.inl e0)).1))
      refine ifd (fun k1 => ?_) (fun k1 => ret_plain (isF fun k => k1 (k.req e0).1))
      refine ifd (fun k2 => ?_) (fun k2 => ret_plain (isF fun k => k2 (k.req e0).2))
      refine call_plain (varsBelow_spec hg.1 hgd) fun v1 μ1 hle1 hR => ?_
      obtain rfl := hR
      exact ret_plain (isI ⟨fun hv => ⟨by omega, by omega, fun h => by omega, fun h _ => absurd e0 h, fun _ => ⟨hg, hv⟩, fun _ => ⟨by omega, by omega⟩, fun h => by omega, fun _ _ => a0, fun h => by omega, fun _ _ => b0, fun h => by omega, fun h => by omega⟩, fun k => (k.good (.inl e0)).2⟩)
    · refine ifd (fun _ => ?_) (fun h => absurd e0 h)
      refine ifd (fun a0 => ?_) (fun a0 => ret_plain (isF fun k => a0 (k.a0 (by omega) (by omega))))
      refine ifd (fun b0 => ?_) (fun b0 => ret_plain (isF fun k => b0 (k.b0 (by omega) (by omega))))
      refine call_gives (impl_GoalOk_spec x.goal hgd) ?_
      refine ifd (fun hg => ?_) (fun hg => ret_plain (isF fun k => hg (k.good (.inl e0)).1))
      refine ifd (fun k1 => ?_) (fun k1 => ret_plain (isF fun k => k1 (k.req e0).1))
      refine ifd (fun k2 => ?_) (fun k2 => ret_plain (isF fun k => k2 (k.req e0).2))
      refine call_plain (varsBelow_spec hg.1 hgd) fun v1 μ1 hle1 hR => ?_
      obtain rfl := hR
      exact ret_plain (isI ⟨fun hv => ⟨by omega, by omega, fun h => by omega, fun h _ => absurd e0 h, fun _ => ⟨hg, hv⟩, fun _ => ⟨by omega, by omega⟩, fun h => by omega, fun _ _ => a0, fun h => by omega, fun _ _ => b0, fun h => by omega, fun h => by omega⟩, fun k => (k.good (.inl e0)).2⟩)
end
end Go.Vx

/- Contracts: well-formed programs, the reference's side; goals counted. -/
namespace Go.Vx
open Go.Proofs Classical
section
variable {μ : Mem}
theorem spec_ProgramOk_spec {p : Pg} {v : Value} (hp : RepV μ p.d v) (hw : p.d.wd) : Spec Try.prog 52 [v] μ fun r _ => r = .bool (decide p.Ok) := by
  obtain ⟨q, rfl, hrl⟩ := Pg.inv hp
  have hws : D.wds (p.rels.map Rl.d) := by rw [Pg.d_eq] at hw; exact hw.1
  refine Spec.mk Try.func52 (by kernel_rfl) ?_
  intro r1
  refine ifd (fun h8 => ret_plain (isF fun h => by have := h.1; omega)) (fun h8 => ?_)
  refine loop_intro (fun x : Nat × Mem => x.1 ≤ p.rels.length ∧ μ.Le x.2 ∧ ∀ (j : Nat) (r : Rl), j < x.1 → p.rels[j]? = some r → RelOk p j r)
    (fun (i, μ') => ⟨[(1, .loc 0 r1 0), (10, .val (.slice q.1 p.rels.length q.2)), (11, .val (.int .i64 p.rels.length)), (12, .val (.int .i64 i))], [(0, some (.cells r1 [.val (.slice q.1 p.rels.length q.2)] 29))], 1, μ', Mem.nil⟩) (fun x => p.rels.length - x.1)
    (0, μ) ⟨by simp, Mem.Le.refl _, fun j r hj => by simp at hj⟩ (fun (_, _) => ⟨rfl, rfl⟩) ⟨⟨rfl, rfl, rfl, rfl, trivial⟩, ⟨rfl, trivial⟩, rfl, rfl⟩ ?_
  rintro ⟨i, μ'⟩ ⟨hi, hle, hall⟩
  dsimp only at hi hle hall
  refine ifd (fun hlt => ?_) (fun hlt => ?_)
  · obtain ⟨x, hx⟩ := at_some (l := p.rels) (i := i) (by omega)
    obtain ⟨ad, q2, hel, hr, hb⟩ := Rl.elemA (hrl.mono hle) hx
    have hb : RepV μ' x.body.d (.agg (x.body.cs q2).toArray) := hb
    have hxw : x.d.wd := D.wds_mem hws _ (mem_at (at_map (f := Rl.d) hx))
    rw [Rl.d_eq] at hxw
    have hnm : x.name.size ≤ maxLen := hxw.1
    have hbw : x.body.d.wd := hxw.2.2.2.1
    have bad : ¬ RelOk p i x → Value.bool false = .bool (decide p.Ok) := fun h => isF fun k => h (k.2 i x hx)
    refine elem_intro hel ?_
    intro r2
    refine call_gives (l14Find_spec (hp.mono hle)) ?_
    refine ifnd (fun h => ret_plain (bad fun k => h k.at_)) (fun g2 => ?_)
    refine call_gives (spec_IsRelName_spec _ hnm _) ?_
    refine ifnd (fun h => ret_plain (bad fun k => h k.name)) (fun g1 => ?_)
    refine call_gives (l01In_spec _ _ _ _) ?_
    refine ifnd (fun h => ret_plain (bad fun k => h ⟨k.ar0, k.ar4⟩)) (fun g3 => ?_)
    refine call_gives (l01In_spec _ _ _ _) ?_
    refine ifnd (fun h => ret_plain (bad fun k => h ⟨k.lo0, k.lo8⟩)) (fun g4 => ?_)
    refine num64 (by omega) (by omega) ?_
    refine call_plain (l14Fits_spec (hp.mono hle) hb hbw) fun v1 μ1 hle1 hR => ?_
    obtain rfl := hR
    refine ifnd (fun h => ret_plain (bad fun k => h ⟨⟨k.body, by have := k.size; omega⟩, k.calls, k.vars⟩)) (fun g5 => ?_)
    refine call_gives (spec_GoalSize_spec x.body (hb.mono hle1) hbw) ?_
    have hc : x.body.count = x.body.cnt := by rw [Gl.count, if_pos g5.1]
    refine ifd (fun h => ret_plain (bad fun k => by have := k.size; omega)) (fun g6 => ?_)
    have hok : RelOk p i x := ⟨g2, g1, by omega, by omega, by omega, by omega, g5.1.1, by omega, g5.2.2, g5.2.1⟩
    refine num64 (by omega) (by omega) ⟨(i + 1, μ1), ⟨by dsimp only; omega, hle.trans hle1, fun j r hj hr => ?_⟩, by dsimp only; omega, ⟨⟨rfl, rfl, rfl, rfl, trivial⟩, ⟨rfl, trivial⟩, rfl, rfl⟩⟩
    rcases Nat.lt_or_ge j i with h6 | h6
    · exact hall j r h6 hr
    · obtain rfl : j = i := by omega
      rw [hx] at hr; cases hr; exact hok
  · obtain rfl : i = p.rels.length := by omega
    exact ret_plain (isT ⟨by omega, fun j r hr => hall j r (List.getElem?_eq_some_iff.1 hr).1 hr⟩)
noncomputable def sumTo (l : List Rl) : Nat → Int
  | 0 => 0
  | i + 1 => sumTo l i + (match l[i]? with | some r => r.body.count | none => 0)
noncomputable def cntGoals (p : Pg) : Int := if p.Ok then sumTo p.rels p.rels.length else -1
theorem count_range (g : Gl) : 0 ≤ g.count ∧ g.count ≤ 80 := by
  unfold Gl.count
  split
  · rename_i h; have := h.2; omega
  · omega
theorem sumTo_range (l : List Rl) : ∀ i : Nat, 0 ≤ sumTo l i ∧ sumTo l i ≤ 80 * i
  | 0 => by simp [sumTo]
  | i + 1 => by
    have h := sumTo_range l i
    rw [sumTo]
    split
    · rename_i r _; have := count_range r.body; omega
    · omega
theorem impl_CountGoals_spec {p : Pg} {v : Value} (hp : RepV μ p.d v) : Spec Try.prog 13 [v] μ fun r _ => r = .int .i64 (cntGoals p) := by
  obtain ⟨q, rfl, hrl⟩ := Pg.inv hp
  refine Spec.mk Try.func13 (by kernel_rfl) ?_
  intro r1
  refine call_plain (impl_ProgramOk_spec hp) fun v1 μ1 hle1 hR => ?_
  obtain rfl := hR
  refine ifnd (fun h => ret_plain (by rw [cntGoals, if_neg h])) (fun hok => ?_)
  rw [cntGoals, if_pos hok]
  have h8 := hok.1
  have hrl1 := hrl.mono hle1
  refine loop_intro (fun i : Nat => i ≤ p.rels.length)
    (fun i => ⟨[(3, .val (.int .i64 (sumTo p.rels i))), (10, .val (.slice q.1 p.rels.length q.2)), (11, .val (.int .i64 p.rels.length)), (12, .val (.int .i64 i))], [], 1, μ1, Mem.nil⟩) (fun i => p.rels.length - i)
    0 (by omega) (fun _ => ⟨rfl, rfl⟩) ⟨⟨rfl, rfl, rfl, rfl, trivial⟩, trivial, rfl, rfl⟩ ?_
  intro i hi
  refine ifd (fun hlt => ?_) (fun hlt => ?_)
  · obtain ⟨x, hx⟩ := at_some (l := p.rels) (i := i) (by omega)
    obtain ⟨ad, q2, hel, hr, hb⟩ := Rl.elemA hrl1 hx
    have hb : RepV μ1 x.body.d (.agg (x.body.cs q2).toArray) := hb
    have hs := sumTo_range p.rels i
    have hc := count_range x.body
    have hs2 : sumTo p.rels (i + 1) = sumTo p.rels i + x.body.count := by rw [sumTo, hx]
    refine elem_intro hel ?_
    intro r2
    refine call_gives (impl_GoalSize_spec x.body hb) ?_
    refine num_eq (x := sumTo p.rels (i + 1)) (by rw [wrap64 (by omega) (by omega), hs2]) ?_
    exact num64 (by omega) (by omega) ⟨i + 1, by omega, by omega, ⟨⟨rfl, rfl, rfl, rfl, trivial⟩, trivial, rfl, rfl⟩⟩
  · obtain rfl : i = p.rels.length := by omega
    exact ret_plain rfl
theorem spec_CountGoals_spec {p : Pg} {v : Value} (hp : RepV μ p.d v) (hw : p.d.wd) : Spec Try.prog 11 [v] μ fun r _ => r = .int .i64 (cntGoals p) := by
  have hws : D.wds (p.rels.map Rl.d) := by rw [Pg.d_eq] at hw; exact hw.1
  obtain ⟨q, rfl, hrl⟩ := Pg.inv hp
  refine Spec.mk Try.func11 (by kernel_rfl) ?_
  intro r1
  refine call_plain (spec_ProgramOk_spec hp hw) fun v1 μ1 hle1 hR => ?_
  obtain rfl := hR
  refine ifnd (fun h => ret_plain (by rw [cntGoals, if_neg h])) (fun hok => ?_)
  rw [cntGoals, if_pos hok]
  have h8 := hok.1
  have hrl1 := hrl.mono hle1
  refine loop_intro (fun i : Nat => i ≤ p.rels.length)
    (fun i => ⟨[(3, .val (.int .i64 (sumTo p.rels i))), (10, .val (.slice q.1 p.rels.length q.2)), (11, .val (.int .i64 p.rels.length)), (12, .val (.int .i64 i))], [], 1, μ1, Mem.nil⟩) (fun i => p.rels.length - i)
    0 (by omega) (fun _ => ⟨rfl, rfl⟩) ⟨⟨rfl, rfl, rfl, rfl, trivial⟩, trivial, rfl, rfl⟩ ?_
  intro i hi
  refine ifd (fun hlt => ?_) (fun hlt => ?_)
  · obtain ⟨x, hx⟩ := at_some (l := p.rels) (i := i) (by omega)
    obtain ⟨ad, q2, hel, hr, hb⟩ := Rl.elemA hrl1 hx
    have hb : RepV μ1 x.body.d (.agg (x.body.cs q2).toArray) := hb
    have hs := sumTo_range p.rels i
    have hc := count_range x.body
    have hs2 : sumTo p.rels (i + 1) = sumTo p.rels i + x.body.count := by rw [sumTo, hx]
    refine elem_intro hel ?_
    intro r2
    refine call_gives (spec_GoalSize_spec x.body hb (by have h := D.wds_mem hws _ (mem_at (at_map (f := Rl.d) hx)); rw [Rl.d_eq] at h; exact h.2.2.2.1)) ?_
    refine num_eq (x := sumTo p.rels (i + 1)) (by rw [wrap64 (by omega) (by omega), hs2]) ?_
    exact num64 (by omega) (by omega) ⟨i + 1, by omega, by omega, ⟨⟨rfl, rfl, rfl, rfl, trivial⟩, trivial, rfl, rfl⟩⟩
  · obtain rfl : i = p.rels.length := by omega
    exact ret_plain rfl
end
end Go.Vx

/- Contracts: well-formed code, the reference's side. -/
namespace Go.Vx
open Go.Proofs Classical
/-- The entry of a relation: not the last one. -/
noncomputable def findOf (c : Cd) (s : ByteArray) : Int := if entOf c s = (c.entries.length : Int) - 1 then -1 else entOf c s
/-- The goal of an instruction fits. -/
structure GoalFit (c : Cd) (x : Ir) (vars : Int) : Prop where
  none_ : x.op ≠ 0 → x.op ≠ 5 → NoGoal x.goal
  good : x.op = 0 ∨ x.op = 5 → x.goal.Ok ∧ ∀ n ∈ x.goal.vars, n < vars
  req : x.op = 0 → 2 ≤ x.goal.kind ∧ x.goal.kind ≤ 6
  call : x.op = 5 → x.goal.kind = 9 ∧ 0 ≤ entOf c x.goal.name ∧ ∀ e, c.entries[(entOf c x.goal.name).toNat]? = some e → e.arity = x.goal.terms.length
theorem entFrom_lt {s : ByteArray} : ∀ {l : List En} {i : Nat}, entFrom l i s < (i + l.length : Nat) ∧ -1 ≤ entFrom l i s
  | [], i => by simp [entFrom]; omega
  | e :: l, i => by
    rw [entFrom]
    have := entFrom_lt (s := s) (l := l) (i := i + 1)
    split
    · simp only [List.length_cons]; omega
    · simp only [List.length_cons]; omega
theorem entFrom_ge {s : ByteArray} : ∀ {l : List En} {i : Nat}, entFrom l i s = -1 ∨ (i : Int) ≤ entFrom l i s
  | [], i => .inl rfl
  | e :: l, i => by
    rw [entFrom]
    split
    · exact .inr (Int.le_refl _)
    · rcases entFrom_ge (s := s) (l := l) (i := i + 1) with h | h
      · exact .inl h
      · exact .inr (by omega)
/-- A relation's name is no empty one. -/
theorem isRel_ne {s : ByteArray} (h : IsRel s) : s ≠ ⟨#[]⟩ := fun e => by
  subst e
  exact absurd h.2.1 (by decide)
section
variable {μ : Mem}
theorem l36Find_spec {c : Cd} {s : ByteArray} {v : Value} (hv : RepV μ c.d v) : Gives Try.prog 100 [v, .string s] μ (.int .i64 (findOf c s)) := by
  obtain ⟨q, rfl, hi, hsl⟩ := Cd.inv hv
  have hn := maxLen_le hsl.max
  refine Spec.mk Try.func100 (by kernel_rfl) ?_
  intro r1
  refine loop_intro (fun i : Nat => i ≤ c.entries.length ∧ (entFrom (c.entries.drop i) i s = entOf c s ∨ (i = c.entries.length ∧ entOf c s = (c.entries.length : Int) - 1)))
    (fun i => ⟨[(1, .val (.string s)), (2, .loc 0 r1 0), (8, .val (.slice q.2.1 c.entries.length q.2.2)), (9, .val (.int .i64 c.entries.length)), (10, .val (.int .i64 i))], [(0, some (.cells r1 [.val (.slice q.1.1 c.instrs.length q.1.2), .val (.slice q.2.1 c.entries.length q.2.2)] 80))], 1, μ, Mem.nil⟩) (fun i => c.entries.length - i)
    0 ⟨by omega, .inl rfl⟩ (fun _ => ⟨rfl, rfl⟩) ⟨⟨rfl, rfl, rfl, rfl, rfl, trivial⟩, ⟨rfl, trivial⟩, rfl, rfl⟩ ?_
  rintro i ⟨hi, hJ⟩
  refine ifd (fun hlt => ?_) (fun hlt => ?_)
  · obtain ⟨x, hx⟩ := at_some (l := c.entries) (i := i) (by omega)
    obtain ⟨ad, q2, hel, hr⟩ := En.elem hsl hx
    replace hJ := hJ.resolve_right fun h => by omega
    rw [drop_at hx, entFrom] at hJ
    refine elem_intro hel ?_
    intro r2
    refine ifd (fun e => ?_) (fun e => ?_)
    · rw [if_pos e] at hJ
      refine num64 (by omega) (by omega) ?_
      refine ifd (fun h2 => ?_) (fun h2 => ?_)
      · exact ret_gives (by rw [findOf, ← hJ, if_neg (by omega)]) rfl
      · exact num64 (by omega) (by omega) ⟨i + 1, ⟨by omega, .inr ⟨by omega, by omega⟩⟩, by omega, ⟨⟨rfl, rfl, rfl, rfl, rfl, trivial⟩, ⟨rfl, trivial⟩, rfl, rfl⟩⟩
    · rw [if_neg e] at hJ
      exact num64 (by omega) (by omega) ⟨i + 1, ⟨by omega, .inl hJ⟩, by omega, ⟨⟨rfl, rfl, rfl, rfl, rfl, trivial⟩, ⟨rfl, trivial⟩, rfl, rfl⟩⟩
  · obtain rfl : i = c.entries.length := by omega
    refine ret_gives ?_ rfl
    rcases hJ with hJ | ⟨_, hJ⟩
    · rw [List.drop_length] at hJ
      have e : entOf c s = -1 := hJ.symm
      rw [findOf, e]
      split <;> rfl
    · rw [findOf, if_pos hJ]
theorem l36Goals_spec {c : Cd} {x : Ir} {v vx : Value} {vars : Int} (hv : RepV μ c.d v) (hx : RepV μ x.d vx) (hw : x.d.wd) (hlast : ∀ e, c.entries[c.entries.length - 1]? = some e → e.name = ⟨#[]⟩) :
    Spec Try.prog 156 [v, vx, .int .i64 vars] μ fun r _ => r = .bool (decide (GoalFit c x vars)) := by
  have hv0 := hv
  obtain ⟨q, rfl, hil, hel⟩ := Cd.inv hv
  have hn2 := maxLen_le hel.max
  obtain ⟨p, rfl, hxA⟩ := Ir.inv hx
  have hgd : RepV μ x.goal.d (.agg (x.goal.cs p).toArray) := hxA
  have hgw : x.goal.d.wd := by rw [Ir.d_eq] at hw; exact hw.2.2.2.1
  refine Spec.mk Try.func156 (by kernel_rfl) ?_
  intro r1 r2
  refine ifnd (fun n0 => ?_) (fun e0 => ?_)
  · refine ifnd (fun n5 => ?_) (fun e5 => ?_)
    · refine call_gives (l21None_spec hgd) ?_
      exact ret_plain (isI ⟨fun h => ⟨fun _ _ => h, fun k => by omega, fun k => by omega, fun k => by omega⟩, fun k => k.none_ n0 n5⟩)
    · have hor : x.op = 0 ∨ x.op = 5 := .inr e5
      refine call_gives (spec_GoalOk_spec x.goal hgd hgw) ?_
      refine ifnd (fun h => ret_plain (isF fun k => h (k.good hor).1)) (fun hg => ?_)
      refine call_plain (l13Vars_spec (l := []) (v := .slice none 0 0) x.goal hg.1 hgd ⟨none, 0, rfl, ⟨Nat.zero_le _, Nat.zero_le _⟩, by simp, .inl rfl⟩ ⟨List.Pairwise.nil, by simp⟩) fun v1 μ1 hle1 hR => ?_
      obtain ⟨r, g1, g2, g3⟩ := hR
      obtain ⟨b, cc, rfl, hsl⟩ := Rep.sl g1
      rw [List.length_map] at hsl ⊢
      have hlen := g3.len
      have hmem : ∀ y, y ∈ r ↔ y ∈ x.goal.vars := fun y => by rw [g2]; simp
      refine ifd (fun h => ?_) (fun h => ?_)
      rotate_left
      have hvs : ∀ n ∈ x.goal.vars, n < vars := fun y hy => by
        have h3 : r = [] := List.eq_nil_of_length_eq_zero (by omega)
        have := (hmem y).2 hy
        rw [h3] at this; simp at this
      rotate_left
      obtain ⟨z, hz⟩ := at_some (l := r) (i := r.length - 1) (by omega)
      obtain ⟨ad, hele⟩ := Ints.elem hsl hz
      refine num_eq (x := ((r.length - 1 : Nat) : Int)) (by rw [wrap64 (by omega) (by omega)]; omega) ?_
      refine elem_intro hele ?_
      refine ifd (fun h2 => ret_plain (isF fun k => by have := (VL.last g3 hz).1 fun y hy => (k.good hor).2 y ((hmem y).1 hy); omega)) (fun h2 => ?_)
      have hvs : ∀ n ∈ x.goal.vars, n < vars := fun y hy => (VL.last g3 hz).2 (by omega) y ((hmem y).2 hy)
      · refine ifd (fun h => absurd h n0) (fun _ => ?_)
        refine call_gives (l36Find_spec (s := x.goal.name) (hv0.mono hle1)) ?_
        have hfo : IsRel x.goal.name → findOf c x.goal.name = entOf c x.goal.name := fun hrel => by
          rw [findOf]
          split
          · rename_i h3
            rcases Nat.eq_zero_or_pos c.entries.length with h4 | h4
            · rw [h3]; omega
            · obtain ⟨j, e9, hj, he9, hne⟩ := entFrom_some (l := c.entries) (i := 0) (s := x.goal.name) (by rw [entOf] at h3; omega)
              rw [entOf] at h3
              obtain rfl : j = c.entries.length - 1 := by omega
              exact absurd (hne ▸ hlast e9 he9) (isRel_ne hrel)
          · rfl
        refine ifd (fun k1 => ?_) (fun k1 => ret_plain (isF fun k => k1 (k.call e5).1))
        have hrel : IsRel x.goal.name := hg.1.top.rel k1
        rw [hfo hrel]
        refine ifd (fun hk => ?_) (fun hk => ret_plain (isF fun k => hk (k.call e5).2.1))
        obtain ⟨j, e9, hj, he9, _⟩ := entFrom_some hk
        have hj' : entOf c x.goal.name = (j : Int) := by rw [entOf, hj]; simp
        obtain ⟨ad9, p9, hel9, _⟩ := En.elem (hel.mono hle1) he9
        have hnx : ∀ y', c.entries[(entOf c x.goal.name).toNat]? = some y' → y' = e9 := fun y' h => by rw [hj', Int.toNat_natCast, he9] at h; cases h; rfl
        rw [hj']
        refine elem_intro hel9 ?_
        refine ret_plain (isI ⟨fun ha => ⟨fun _ h => absurd e5 h, fun _ => ⟨hg, hvs⟩, fun h => by omega, fun _ => ⟨k1, hk, fun y' h => by rw [hnx y' h]; exact ha.symm⟩⟩, fun k => ((k.call e5).2.2 e9 (by rw [hj', Int.toNat_natCast]; exact he9)).symm⟩)
      · refine ifd (fun h => absurd h n0) (fun _ => ?_)
        refine call_gives (l36Find_spec (s := x.goal.name) (hv0.mono hle1)) ?_
        have hfo : IsRel x.goal.name → findOf c x.goal.name = entOf c x.goal.name := fun hrel => by
          rw [findOf]
          split
          · rename_i h3
            rcases Nat.eq_zero_or_pos c.entries.length with h4 | h4
            · rw [h3]; omega
            · obtain ⟨j, e9, hj, he9, hne⟩ := entFrom_some (l := c.entries) (i := 0) (s := x.goal.name) (by rw [entOf] at h3; omega)
              rw [entOf] at h3
              obtain rfl : j = c.entries.length - 1 := by omega
              exact absurd (hne ▸ hlast e9 he9) (isRel_ne hrel)
          · rfl
        refine ifd (fun k1 => ?_) (fun k1 => ret_plain (isF fun k => k1 (k.call e5).1))
        have hrel : IsRel x.goal.name := hg.1.top.rel k1
        rw [hfo hrel]
        refine ifd (fun hk => ?_) (fun hk => ret_plain (isF fun k => hk (k.call e5).2.1))
        obtain ⟨j, e9, hj, he9, _⟩ := entFrom_some hk
        have hj' : entOf c x.goal.name = (j : Int) := by rw [entOf, hj]; simp
        obtain ⟨ad9, p9, hel9, _⟩ := En.elem (hel.mono hle1) he9
        have hnx : ∀ y', c.entries[(entOf c x.goal.name).toNat]? = some y' → y' = e9 := fun y' h => by rw [hj', Int.toNat_natCast, he9] at h; cases h; rfl
        rw [hj']
        refine elem_intro hel9 ?_
        refine ret_plain (isI ⟨fun ha => ⟨fun _ h => absurd e5 h, fun _ => ⟨hg, hvs⟩, fun h => by omega, fun _ => ⟨k1, hk, fun y' h => by rw [hnx y' h]; exact ha.symm⟩⟩, fun k => ((k.call e5).2.2 e9 (by rw [hj', Int.toNat_natCast]; exact he9)).symm⟩)
  · have hor : x.op = 0 ∨ x.op = 5 := .inl e0
    refine call_gives (spec_GoalOk_spec x.goal hgd hgw) ?_
    refine ifnd (fun h => ret_plain (isF fun k => h (k.good hor).1)) (fun hg => ?_)
    refine call_plain (l13Vars_spec (l := []) (v := .slice none 0 0) x.goal hg.1 hgd ⟨none, 0, rfl, ⟨Nat.zero_le _, Nat.zero_le _⟩, by simp, .inl rfl⟩ ⟨List.Pairwise.nil, by simp⟩) fun v1 μ1 hle1 hR => ?_
    obtain ⟨r, g1, g2, g3⟩ := hR
    obtain ⟨b, cc, rfl, hsl⟩ := Rep.sl g1
    rw [List.length_map] at hsl ⊢
    have hlen := g3.len
    have hmem : ∀ y, y ∈ r ↔ y ∈ x.goal.vars := fun y => by rw [g2]; simp
    refine ifd (fun h => ?_) (fun h => ?_)
    rotate_left
    have hvs : ∀ n ∈ x.goal.vars, n < vars := fun y hy => by
      have h3 : r = [] := List.eq_nil_of_length_eq_zero (by omega)
      have := (hmem y).2 hy
      rw [h3] at this; simp at this
    rotate_left
    obtain ⟨z, hz⟩ := at_some (l := r) (i := r.length - 1) (by omega)
    obtain ⟨ad, hele⟩ := Ints.elem hsl hz
    refine num_eq (x := ((r.length - 1 : Nat) : Int)) (by rw [wrap64 (by omega) (by omega)]; omega) ?_
    refine elem_intro hele ?_
    refine ifd (fun h2 => ret_plain (isF fun k => by have := (VL.last g3 hz).1 fun y hy => (k.good hor).2 y ((hmem y).1 hy); omega)) (fun h2 => ?_)
    have hvs : ∀ n ∈ x.goal.vars, n < vars := fun y hy => (VL.last g3 hz).2 (by omega) y ((hmem y).2 hy)
    · refine ifd (fun _ => ?_) (fun h => absurd e0 h)
      refine call_gives (l01In_spec _ _ _ _) ?_
      exact ret_plain (isI ⟨fun h => ⟨fun h => absurd e0 h, fun _ => ⟨hg, hvs⟩, fun _ => h, fun k => by omega⟩, fun k => k.req e0⟩)
    · refine ifd (fun _ => ?_) (fun h => absurd e0 h)
      refine call_gives (l01In_spec _ _ _ _) ?_
      exact ret_plain (isI ⟨fun h => ⟨fun h => absurd e0 h, fun _ => ⟨hg, hvs⟩, fun _ => h, fun k => by omega⟩, fun k => k.req e0⟩)
end
end Go.Vx

/- Contracts: well-formed code, the reference's side: regions, all of it. -/
namespace Go.Vx
open Go.Proofs Classical
/-- The instructions from s on, in a region that ends at 'fin'. -/
def Reg (c : Cd) (s fin : Nat) (vars : Int) : Prop := ∀ (a : Nat) x, s ≤ a → a < fin → c.instrs[a]? = some x → InsOk c x a fin vars ∧ ((a : Int) = fin - 1 → x.op = 6)
theorem bool_ne {p q : Prop} [Decidable p] [Decidable q] : ((!(decide p == decide q)) = true → ¬ (p ↔ q)) ∧ ((!(decide p == decide q)) = false → (p ↔ q)) := by
  by_cases hp : p <;> by_cases hq : q <;> simp [hp, hq]
section
variable {μ : Mem}
set_option maxRecDepth 20000 in
set_option maxHeartbeats 8000000 in
theorem l36Region_spec {c : Cd} {e : En} {v ve : Value} {s fin : Nat} (hv : RepV μ c.d v) (hve : RepV μ e.d ve) (hw : c.d.wd) (hs : e.at_ = s) (hsf : s ≤ fin) (hf : fin ≤ c.instrs.length) (hlast : ∀ e, c.entries[c.entries.length - 1]? = some e → e.name = ⟨#[]⟩) :
    Spec Try.prog 101 [v, ve, .int .i64 fin] μ fun r _ => r = .bool (decide (Reg c s fin e.vars)) := by
  have hv0 := hv
  obtain ⟨q, rfl, hil, hel⟩ := Cd.inv hv
  have hn := maxLen_le hil.max
  obtain ⟨pe, rfl, _⟩ := En.inv hve
  have hwi : D.wds (c.instrs.map Ir.d) := by rw [Cd.d_eq] at hw; exact hw.1
  refine Spec.mk Try.func101 (by kernel_rfl) ?_
  intro r1 r2
  refine loop_intro (fun p : Nat × Mem => s ≤ p.1 ∧ p.1 ≤ fin ∧ μ.Le p.2 ∧ ∀ a x, s ≤ a → a < p.1 → c.instrs[a]? = some x → InsOk c x a fin e.vars ∧ ((a : Int) = fin - 1 → x.op = 6))
    (fun (a, μ') => ⟨[(2, .val (.int .i64 fin)), (3, .loc 0 r1 0), (4, .loc 1 r2 0), (7, .val (.int .i64 a))], [(0, some (.cells r1 [.val (.slice q.1.1 c.instrs.length q.1.2), .val (.slice q.2.1 c.entries.length q.2.2)] 80)), (1, some (.cells r2 [.val (.string e.name), .val (.int .i64 e.at_), .val (.int .i64 e.arity), .val (.int .i64 e.vars)] 135))], 2, μ', Mem.nil⟩) (fun p => fin - p.1)
    (s, μ) ⟨Nat.le_refl _, hsf, Mem.Le.refl _, fun a x h1 h2 => by dsimp only at h2; omega⟩ (fun (_, _) => ⟨rfl, rfl⟩) ⟨⟨rfl, rfl, rfl, by rw [hs]; rfl, trivial⟩, ⟨rfl, rfl, trivial⟩, rfl, rfl⟩ ?_
  rintro ⟨a, μ'⟩ ⟨ha1, ha2, hle, hall⟩
  dsimp only at ha1 ha2 hle hall
  refine ifd (fun hlt => ?_) (fun hlt => ?_)
  · obtain ⟨x, hx⟩ := at_some (l := c.instrs) (i := a) (by omega)
    obtain ⟨ad, p, hxe, hxr, hxA⟩ := Ir.elemA (hil.mono hle) hx
    have hxw : x.d.wd := D.wds_mem hwi _ (mem_at (at_map (f := Ir.d) hx))
    have bad : ¬ (InsOk c x a fin e.vars ∧ ((a : Int) = fin - 1 → x.op = 6)) → Value.bool false = .bool (decide (Reg c s fin e.vars)) := fun h => isF fun k => h (k a x ha1 (by omega) hx)
    have next : InsOk c x a fin e.vars ∧ ((a : Int) = fin - 1 → x.op = 6) → ∀ a' x', s ≤ a' → a' < a + 1 → c.instrs[a']? = some x' → InsOk c x' a' fin e.vars ∧ ((a' : Int) = fin - 1 → x'.op = 6) := fun h0 a' x' h1 h2 h3 => by
      rcases Nat.lt_or_ge a' a with h6 | h6
      · exact hall a' x' h1 h6 h3
      · obtain rfl : a' = a := by omega
        rw [hx] at h3; cases h3; exact h0
    refine elem_intro hxe ?_
    intro r3
    refine ifd (fun e1 => ?_) (fun n1 => ?_)
    · refine ifd (fun _ => ?_) (fun h => absurd e1 h)
      refine call_gives (l01In_spec _ _ _ _) ?_
      refine ifnd (fun h => ret_plain (bad fun k => h ⟨k.1.op0, k.1.op6⟩)) (fun hop => ?_)
      refine num64 (by omega) (by omega) ?_
      refine if_intro (fun h => ret_plain (bad fun k => bool_ne.1 h ⟨k.1.ret, k.2⟩)) (fun h => ?_)
      have hret := bool_ne.2 h
      clear h
      refine call_plain (l36Goals_spec (hv0.mono hle) hxr hxw hlast) fun v1 μ1 hle1 hR => ?_
      obtain rfl := hR
      refine ifnd (fun h => ret_plain (bad fun k => h ⟨k.1.none_, k.1.good, k.1.req, k.1.call⟩)) (fun hgf => ?_)
      refine num64 (by omega) (by omega) ?_
      refine num64 (by omega) (by omega) ?_
      refine call_gives (l01In_spec _ _ _ _) ?_
      refine ifnd (fun h => ret_plain (bad fun k => h (by have := k.1.a1 (.inl e1); omega))) (fun ha => ?_)
      refine call_gives (l01In_spec _ _ _ _) ?_
      refine ifnd (fun h => ret_plain (bad fun k => h (k.1.b1 (.inl e1)))) (fun hb => ?_)
      refine ifd (fun _ => ?_) (fun h => absurd e1 h)
      obtain ⟨y, hy⟩ := at_some (l := c.instrs) (i := x.a.toNat) (by omega)
      obtain ⟨ad3, p3, hye, hyr, hyA⟩ := Ir.elemA ((hil.mono hle).mono hle1) hy
      have hxa : x.a = ((x.a.toNat : Nat) : Int) := by omega
      have hnx : ∀ y', c.instrs[x.a.toNat]? = some y' → y' = y := fun y' h => by rw [hy] at h; cases h; rfl
      rw [hxa]
      refine elem_intro hye ?_
      intro r13
      refine ifnd (fun y1 => ?_) (fun y1 => ?_)
      · refine ifnd (fun y2 => ret_plain (bad fun k => by have := (k.1.next e1 y hy).1; omega)) (fun y2 => ?_)
        refine num64 (by omega) (by omega) ?_
        refine ifnd (fun h => ret_plain (bad fun k => h (k.1.next e1 y hy).2)) (fun hyb => ?_)
        refine num64 (by omega) (by omega) ⟨(a + 1, μ1), ⟨by dsimp only; omega, by dsimp only; omega, hle.trans hle1, next ⟨⟨hop.1, hop.2, hret.1, hgf.none_, hgf.good, hgf.req, hgf.call, fun h => absurd e1 h, fun _ => ⟨by omega, by omega⟩, fun h => absurd e1 h, fun _ => hb, fun _ y' h => by rw [hnx y' h]; exact ⟨.inr y2, hyb⟩⟩, hret.2⟩⟩, by dsimp only; omega, ⟨⟨rfl, rfl, rfl, rfl, trivial⟩, ⟨rfl, rfl, trivial⟩, rfl, rfl⟩⟩
      · refine num64 (by omega) (by omega) ?_
        refine ifnd (fun h => ret_plain (bad fun k => h (k.1.next e1 y hy).2)) (fun hyb => ?_)
        refine num64 (by omega) (by omega) ⟨(a + 1, μ1), ⟨by dsimp only; omega, by dsimp only; omega, hle.trans hle1, next ⟨⟨hop.1, hop.2, hret.1, hgf.none_, hgf.good, hgf.req, hgf.call, fun h => absurd e1 h, fun _ => ⟨by omega, by omega⟩, fun h => absurd e1 h, fun _ => hb, fun _ y' h => by rw [hnx y' h]; exact ⟨.inl y1, hyb⟩⟩, hret.2⟩⟩, by dsimp only; omega, ⟨⟨rfl, rfl, rfl, rfl, trivial⟩, ⟨rfl, rfl, trivial⟩, rfl, rfl⟩⟩
    · refine ifd (fun h => absurd h n1) (fun _ => ?_)
      refine call_gives (l01In_spec _ _ _ _) ?_
      refine ifnd (fun h => ret_plain (bad fun k => h ⟨k.1.op0, k.1.op6⟩)) (fun hop => ?_)
      refine num64 (by omega) (by omega) ?_
      refine if_intro (fun h => ret_plain (bad fun k => bool_ne.1 h ⟨k.1.ret, k.2⟩)) (fun h => ?_)
      have hret := bool_ne.2 h
      clear h
      refine call_plain (l36Goals_spec (hv0.mono hle) hxr hxw hlast) fun v1 μ1 hle1 hR => ?_
      obtain rfl := hR
      refine ifnd (fun h => ret_plain (bad fun k => h ⟨k.1.none_, k.1.good, k.1.req, k.1.call⟩)) (fun hgf => ?_)
      refine ifd (fun e3 => ?_) (fun n3 => ?_)
      · refine num64 (by omega) (by omega) ?_
        refine num64 (by omega) (by omega) ?_
        refine call_gives (l01In_spec _ _ _ _) ?_
        refine ifnd (fun h => ret_plain (bad fun k => h (by have := k.1.a1 (.inr e3); omega))) (fun ha => ?_)
        refine ifnd (fun h => absurd e3 h) (fun _ => ?_)
        refine ifd (fun h => by omega) (fun n2 => ?_)
        refine ifnd (fun _ => ?_) (fun h => absurd h n2)
        refine ifnd (fun h => ret_plain (bad fun k => h (k.1.b0 n1 n2))) (fun hb => ?_)
        refine ifd (fun h => absurd h n1) (fun _ => ?_)
        refine num64 (by omega) (by omega) ⟨(a + 1, μ1), ⟨by dsimp only; omega, by dsimp only; omega, hle.trans hle1, next ⟨⟨hop.1, hop.2, hret.1, hgf.none_, hgf.good, hgf.req, hgf.call, fun h _ => by omega, fun _ => ⟨by omega, by omega⟩, fun _ _ => hb, fun h => by omega, fun h => absurd h n1⟩, hret.2⟩⟩, by dsimp only; omega, ⟨⟨rfl, rfl, rfl, rfl, trivial⟩, ⟨rfl, rfl, trivial⟩, rfl, rfl⟩⟩
      · refine ifnd (fun _ => ?_) (fun h => absurd h n3)
        refine ifnd (fun h => ret_plain (bad fun k => h (k.1.a0 n1 n3))) (fun ha => ?_)
        refine ifd (fun e2 => ?_) (fun n2 => ?_)
        · refine call_gives (l01In_spec _ _ _ _) ?_
          refine ifnd (fun h => ret_plain (bad fun k => h (k.1.b1 (.inr e2)))) (fun hb => ?_)
          refine ifnd (fun h => absurd e2 h) (fun _ => ?_)
          refine ifd (fun h => absurd h n1) (fun _ => ?_)
          refine num64 (by omega) (by omega) ⟨(a + 1, μ1), ⟨by dsimp only; omega, by dsimp only; omega, hle.trans hle1, next ⟨⟨hop.1, hop.2, hret.1, hgf.none_, hgf.good, hgf.req, hgf.call, fun _ _ => ha, fun h => by omega, fun h h' => by omega, fun _ => hb, fun h => absurd h n1⟩, hret.2⟩⟩, by dsimp only; omega, ⟨⟨rfl, rfl, rfl, rfl, trivial⟩, ⟨rfl, rfl, trivial⟩, rfl, rfl⟩⟩
        · refine ifnd (fun _ => ?_) (fun h => absurd h n2)
          refine ifnd (fun h => ret_plain (bad fun k => h (k.1.b0 n1 n2))) (fun hb => ?_)
          refine ifd (fun h => absurd h n1) (fun _ => ?_)
          refine num64 (by omega) (by omega) ⟨(a + 1, μ1), ⟨by dsimp only; omega, by dsimp only; omega, hle.trans hle1, next ⟨⟨hop.1, hop.2, hret.1, hgf.none_, hgf.good, hgf.req, hgf.call, fun _ _ => ha, fun h => by omega, fun _ _ => hb, fun h => by omega, fun h => absurd h n1⟩, hret.2⟩⟩, by dsimp only; omega, ⟨⟨rfl, rfl, rfl, rfl, trivial⟩, ⟨rfl, rfl, trivial⟩, rfl, rfl⟩⟩
  · obtain rfl : a = fin := by omega
    exact ret_plain (isT fun a' x' h1 h2 h3 => hall a' x' h1 h2 h3)
end
end Go.Vx

/- Contracts: well-formed code, the reference's side: all of it. -/
namespace Go.Vx
open Go.Proofs Classical
/-- What an entry must be, as the reference sees it. -/
structure EntP (c : Cd) (i : Nat) (e : En) : Prop where
  name : i + 1 < c.entries.length → IsRel e.name ∧ entOf c e.name = i
  ar0 : 0 ≤ e.arity
  ar4 : e.arity ≤ 4
  v0 : e.arity ≤ e.vars
  v1 : e.vars ≤ 100000
  at0 : 0 ≤ e.at_
  lt : e.at_ < endOf c i
  le : endOf c i ≤ c.instrs.length
theorem entFrom_le {s : ByteArray} : ∀ {l : List En} {i j : Nat} {e : En}, l[j]? = some e → e.name = s → entFrom l i s ≤ (i + j : Nat) ∧ 0 ≤ entFrom l i s
  | [], _, _, _, h, _ => by simp at h
  | x :: l, i, 0, e, h, hn => by
    simp only [List.getElem?_cons_zero, Option.some.injEq] at h
    subst h; rw [entFrom, if_pos hn]; omega
  | x :: l, i, j + 1, e, h, hn => by
    rw [entFrom]
    have := entFrom_le (l := l) (i := i + 1) (j := j) (e := e) (by simpa using h) hn
    split <;> omega
section
variable {μ : Mem}
set_option maxRecDepth 20000 in
set_option maxHeartbeats 8000000 in
theorem spec_CodeOk_spec {c : Cd} {v : Value} (hv : RepV μ c.d v) (hw : c.d.wd) : Spec Try.prog 43 [v] μ fun r _ => r = .bool (decide c.Ok) := by
  have hv0 := hv
  obtain ⟨q, rfl, hil, hel⟩ := Cd.inv hv
  have hn := maxLen_le hil.max
  have hn2 := maxLen_le hel.max
  have hwe : D.wds (c.entries.map En.d) := by rw [Cd.d_eq] at hw; exact hw.2.1
  refine Spec.mk Try.func43 (by kernel_rfl) ?_
  intro r1
  by_cases hne : c.entries.length = 0
  · refine num64 (by omega) (by omega) ?_
    refine ifd (fun h => ret_plain (isF fun k => by have := k.ne; omega)) (fun h => by omega)
  refine num_eq (x := ((c.entries.length - 1 : Nat) : Int)) (by rw [wrap64 (by omega) (by omega)]; omega) ?_
  refine ifd (fun h => by omega) (fun _ => ?_)
  obtain ⟨e0, he0⟩ := at_some (l := c.entries) (i := 0) (by omega)
  obtain ⟨ad0, p0, hel0, _⟩ := En.elem hel he0
  refine elem_intro hel0 ?_
  refine ifnd (fun h => ret_plain (isF fun k => h (k.zero e0 he0))) (fun hz => ?_)
  have hzero : ∀ e, c.entries[0]? = some e → e.at_ = 0 := fun e h => by rw [he0] at h; cases h; exact hz
  obtain ⟨eL, heL⟩ := at_some (l := c.entries) (i := c.entries.length - 1) (by omega)
  obtain ⟨adL, pL, helL, _⟩ := En.elem hel heL
  refine elem_intro helL ?_
  refine ifnd (fun h => ret_plain (isF fun k => h ((k.ent _ eL heL).last (by omega)).1)) (fun hnm => ?_)
  refine elem_intro helL ?_
  refine ifnd (fun h => ret_plain (isF fun k => h ((k.ent _ eL heL).last (by omega)).2)) (fun har => ?_)
  have hlast : ∀ e, c.entries[c.entries.length - 1]? = some e → e.name = ⟨#[]⟩ := fun e h => by rw [heL] at h; cases h; exact hnm
  refine loop_intro (fun p : Nat × Mem => p.1 ≤ c.entries.length ∧ μ.Le p.2 ∧ ∀ j e, j < p.1 → c.entries[j]? = some e → EntP c j e ∧ RegOk c j e)
    (fun (i, μ') => ⟨[(1, .loc 0 r1 0), (3, .val (.int .i64 (c.entries.length - 1 : Nat))), (40, .val (.slice q.2.1 c.entries.length q.2.2)), (41, .val (.int .i64 c.entries.length)), (42, .val (.int .i64 i))], [(0, some (.cells r1 [.val (.slice q.1.1 c.instrs.length q.1.2), .val (.slice q.2.1 c.entries.length q.2.2)] 80))], 1, μ', Mem.nil⟩) (fun p => c.entries.length - p.1)
    (0, μ) ⟨by simp, Mem.Le.refl _, fun j e hj => by simp at hj⟩ (fun (_, _) => ⟨rfl, rfl⟩) ⟨⟨rfl, rfl, rfl, rfl, rfl, trivial⟩, ⟨rfl, trivial⟩, rfl, rfl⟩ ?_
  rintro ⟨i, μ'⟩ ⟨hi, hle, hall⟩
  dsimp only at hi hle hall
  refine ifd (fun hlt => ?_) (fun hlt => ?_)
  · obtain ⟨e, he⟩ := at_some (l := c.entries) (i := i) (by omega)
    obtain ⟨ad, p, hee, her⟩ := En.elem (hel.mono hle) he
    have badE : ¬ EntP c i e → Value.bool false = .bool (decide c.Ok) := fun h => isF fun k => h (by
      have g := endOf_range k.ent he
      have k2 := k.ent i e he
      exact ⟨k2.name, k2.ar0, k2.ar4, k2.v0, k2.v1, k2.at0, g.1, g.2⟩)
    have badR : ¬ RegOk c i e → Value.bool false = .bool (decide c.Ok) := fun h => isF fun k => h (k.reg i e he)
    have next : EntP c i e ∧ RegOk c i e → ∀ j k, j < i + 1 → c.entries[j]? = some k → EntP c j k ∧ RegOk c j k := fun h0 j k hj hk => by
      rcases Nat.lt_or_ge j i with h6 | h6
      · exact hall j k h6 hk
      · obtain rfl : j = i := by omega
        rw [he] at hk; cases hk; exact h0
    refine elem_intro hee ?_
    intro r5
    refine ifd (fun hl => ?_) (fun hl => ?_)
    · obtain ⟨e9, he9⟩ := at_some (l := c.entries) (i := i + 1) (by omega)
      obtain ⟨ad9, p9, hel9, _⟩ := En.elem (hel.mono hle) he9
      have hend : endOf c i = e9.at_ := by rw [endOf, he9]
      refine num_eq (x := ((i + 1 : Nat) : Int)) (by rw [wrap64 (by omega) (by omega)]; omega) ?_
      refine elem_intro hel9 ?_
      refine ifd (fun h => ret_plain (badE fun k => by have := k.lt; omega)) (fun c1 => ?_)
      refine ifd (fun h => ret_plain (badE fun k => by have := k.at0; omega)) (fun c2 => ?_)
      refine ifd (fun h => ret_plain (badE fun k => by have := k.le; omega)) (fun c3 => ?_)
      refine call_gives (l01In_spec _ _ _ _) ?_
      refine ifnd (fun h => ret_plain (badE fun k => h ⟨k.ar0, k.ar4⟩)) (fun c4 => ?_)
      refine call_gives (l01In_spec _ _ _ _) ?_
      refine ifnd (fun h => ret_plain (badE fun k => h ⟨k.v0, k.v1⟩)) (fun c5 => ?_)
      refine ifd (fun _ => ?_) (fun h => absurd hl h)
      refine call_gives (spec_IsRelName_spec _ (by
        have h := D.wds_mem hwe _ (mem_at (at_map (f := En.d) he))
        rw [En.d_eq] at h; exact h.1) _) ?_
      refine ifnd (fun h => ret_plain (badE fun k => h (k.name (by omega)).1)) (fun hrel => ?_)
      refine call_gives (l36Find_spec (s := e.name) (hv0.mono hle)) ?_
      have hfo : findOf c e.name = entOf c e.name := by
        have := entFrom_le (s := e.name) (i := 0) he rfl
        rw [findOf, if_neg]
        rw [entOf]; omega
      rw [hfo]
      refine ifnd (fun h => ret_plain (badE fun k => h (k.name (by omega)).2)) (fun hent => ?_)
      obtain ⟨m, hm⟩ : ∃ m : Nat, endOf c i = m := ⟨(endOf c i).toNat, by omega⟩
      obtain ⟨s, hs⟩ : ∃ s : Nat, e.at_ = s := ⟨e.at_.toNat, by omega⟩
      have hE : EntP c i e := ⟨fun _ => ⟨hrel, hent⟩, c4.1, c4.2, c5.1, c5.2, by omega, by omega, by omega⟩
      have hsp := l36Region_spec (s := s) (fin := m) (hv0.mono hle) her hw hs (by omega) (by omega) hlast
      have hiff : RegOk c i e ↔ Reg c s m e.vars := by
        unfold RegOk Reg
        rw [hm]
        constructor
        · intro k a x h1 h2 h3
          exact k a x (by omega) (by omega) h3
        · intro k a x h1 h2 h3
          exact k a x (by omega) (by omega) h3
      rw [← hm, hend] at hsp
      refine call_plain hsp fun v1 μ1 hle1 hR => ?_
      obtain rfl := hR
      refine ifnd (fun h => ret_plain (badR fun k => h (hiff.1 k))) (fun hreg => ?_)
      refine num64 (by omega) (by omega) ⟨(i + 1, μ1), ⟨by dsimp only; omega, hle.trans hle1, next ⟨hE, hiff.2 hreg⟩⟩, by dsimp only; omega, ⟨⟨rfl, rfl, rfl, rfl, rfl, trivial⟩, ⟨rfl, trivial⟩, rfl, rfl⟩⟩
    · have hend : endOf c i = c.instrs.length := by
        have : c.entries[i + 1]? = none := List.getElem?_eq_none (by omega)
        rw [endOf, this]
      have hcast : ((c.instrs.length : Nat) : Int) = endOf c i := hend.symm
      refine ifd (fun h => ret_plain (badE fun k => by have := k.lt; omega)) (fun c1 => ?_)
      refine ifd (fun h => ret_plain (badE fun k => by have := k.at0; omega)) (fun c2 => ?_)
      refine ifd (fun h => ret_plain (badE fun k => by have := k.le; omega)) (fun c3 => ?_)
      refine call_gives (l01In_spec _ _ _ _) ?_
      refine ifnd (fun h => ret_plain (badE fun k => h ⟨k.ar0, k.ar4⟩)) (fun c4 => ?_)
      refine call_gives (l01In_spec _ _ _ _) ?_
      refine ifnd (fun h => ret_plain (badE fun k => h ⟨k.v0, k.v1⟩)) (fun c5 => ?_)
      refine ifd (fun h => absurd h hl) (fun _ => ?_)
      obtain ⟨m, hm⟩ : ∃ m : Nat, endOf c i = m := ⟨(endOf c i).toNat, by omega⟩
      obtain ⟨s, hs⟩ : ∃ s : Nat, e.at_ = s := ⟨e.at_.toNat, by omega⟩
      have hE : EntP c i e := ⟨fun h => by omega, c4.1, c4.2, c5.1, c5.2, by omega, by omega, by omega⟩
      have hsp := l36Region_spec (s := s) (fin := m) (hv0.mono hle) her hw hs (by omega) (by omega) hlast
      have hiff : RegOk c i e ↔ Reg c s m e.vars := by
        unfold RegOk Reg
        rw [hm]
        constructor
        · intro k a x h1 h2 h3
          exact k a x (by omega) (by omega) h3
        · intro k a x h1 h2 h3
          exact k a x (by omega) (by omega) h3
      rw [← hm, hend] at hsp
      refine call_plain hsp fun v1 μ1 hle1 hR => ?_
      obtain rfl := hR
      refine ifnd (fun h => ret_plain (badR fun k => h (hiff.1 k))) (fun hreg => ?_)
      refine num64 (by omega) (by omega) ⟨(i + 1, μ1), ⟨by dsimp only; omega, hle.trans hle1, next ⟨hE, hiff.2 hreg⟩⟩, by dsimp only; omega, ⟨⟨rfl, rfl, rfl, rfl, rfl, trivial⟩, ⟨rfl, trivial⟩, rfl, rfl⟩⟩
  · obtain rfl : i = c.entries.length := by omega
    have hall2 : ∀ j e, c.entries[j]? = some e → EntP c j e ∧ RegOk c j e := fun j e h => hall j e (List.getElem?_eq_some_iff.1 h).1 h
    refine ret_plain (isT ⟨by omega, hzero, fun j e h => ?_, fun j e h => (hall2 j e h).2⟩)
    have k := (hall2 j e h).1
    have hjl := (List.getElem?_eq_some_iff.1 h).1
    refine ⟨fun hj => ?_, k.name, k.ar0, k.ar4, k.v0, k.v1, k.at0, by have := k.lt; have := k.le; omega, fun j' e' hj he' => ?_⟩
    · obtain rfl : j = c.entries.length - 1 := by omega
      rw [heL] at h; cases h; exact ⟨hnm, har⟩
    · have k' := (hall2 j' e' he').1.lt
      have : endOf c j' = e.at_ := by rw [endOf, hj, h]
      omega
end
end Go.Vx

/- Contracts: well-formed code, the program's side: all of it. -/
namespace Go.Vx
open Go.Proofs Classical
section
variable {μ : Mem}
set_option maxRecDepth 20000 in
set_option maxHeartbeats 8000000 in
theorem impl_CodeOk_spec {c : Cd} {v : Value} (hv : RepV μ c.d v) : Spec Try.prog 45 [v] μ fun r _ => r = .bool (decide c.Ok) := by
  have hv0 := hv
  obtain ⟨q, rfl, hil, hel⟩ := Cd.inv hv
  have hn := maxLen_le hil.max
  have hn2 := maxLen_le hel.max
  refine Spec.mk Try.func45 (by kernel_rfl) ?_
  intro r1
  refine ifd (fun h => ret_plain (isF fun k => by have := k.ne; omega)) (fun hne => ?_)
  obtain ⟨e0, he0⟩ := at_some (l := c.entries) (i := 0) (by omega)
  obtain ⟨ad0, p0, hel0, _⟩ := En.elem hel he0
  refine elem_intro hel0 ?_
  refine ifnd (fun h => ret_plain (isF fun k => h (k.zero e0 he0))) (fun hz => ?_)
  have hzero : ∀ e, c.entries[0]? = some e → e.at_ = 0 := fun e h => by rw [he0] at h; cases h; exact hz
  refine loop_intro (fun i : Nat => i ≤ c.entries.length ∧ ∀ j e, j < i → c.entries[j]? = some e → EntOk c j e)
    (fun i => ⟨[(1, .loc 0 r1 0), (23, .val (.slice q.2.1 c.entries.length q.2.2)), (24, .val (.int .i64 c.entries.length)), (25, .val (.int .i64 i))], [(0, some (.cells r1 [.val (.slice q.1.1 c.instrs.length q.1.2), .val (.slice q.2.1 c.entries.length q.2.2)] 80))], 1, μ, Mem.nil⟩) (fun i => c.entries.length - i)
    0 ⟨by omega, fun j e hj => by omega⟩ (fun _ => ⟨rfl, rfl⟩) ⟨⟨rfl, rfl, rfl, rfl, trivial⟩, ⟨rfl, trivial⟩, rfl, rfl⟩ ?_
  rintro i ⟨hi, hall⟩
  refine ifd (fun hlt => ?_) (fun hlt => ?_)
  · obtain ⟨e, he⟩ := at_some (l := c.entries) (i := i) (by omega)
    obtain ⟨ad, p, hee, her⟩ := En.elem hel he
    have bad : ¬ EntOk c i e → Value.bool false = .bool (decide c.Ok) := fun h => isF fun k => h (k.ent i e he)
    have next : EntOk c i e → ∀ j k, j < i + 1 → c.entries[j]? = some k → EntOk c j k := fun h0 j k hj hk => by
      rcases Nat.lt_or_ge j i with h6 | h6
      · exact hall j k h6 hk
      · obtain rfl : j = i := by omega
        rw [he] at hk; cases hk; exact h0
    refine elem_intro hee ?_
    intro r4
    refine num64 (by omega) (by omega) ?_
    refine ifd (fun hl => ?_) (fun hl => ?_)
    · refine ifnd (fun h => ret_plain (bad fun k => h (k.last (by omega)).1)) (fun hnm => ?_)
      refine ifnd (fun h => ret_plain (bad fun k => h (k.last (by omega)).2)) (fun har => ?_)
      refine ifnd (fun h => absurd hl h) (fun _ => ?_)
      refine ifd (fun h => ret_plain (bad fun k => by have := k.ar0; omega)) (fun c1 => ?_)
      refine ifd (fun h => ret_plain (bad fun k => by have := k.ar4; omega)) (fun c2 => ?_)
      refine ifd (fun h => ret_plain (bad fun k => by have := k.v0; omega)) (fun c3 => ?_)
      refine ifd (fun h => ret_plain (bad fun k => by have := k.v1; omega)) (fun c4 => ?_)
      refine ifd (fun h => ret_plain (bad fun k => by have := k.at0; omega)) (fun c5 => ?_)
      refine ifd (fun h => ret_plain (bad fun k => by have := k.at1; omega)) (fun c6 => ?_)
      refine ifd (fun h0 => ?_) (fun h0 => ?_)
      · obtain ⟨e9, he9⟩ := at_some (l := c.entries) (i := i - 1) (by omega)
        obtain ⟨ad9, p9, hel9, _⟩ := En.elem hel he9
        refine num_eq (x := ((i - 1 : Nat) : Int)) (by rw [wrap64 (by omega) (by omega)]; omega) ?_
        refine elem_intro hel9 ?_
        refine ifd (fun h => ret_plain (bad fun k => by have := k.mono (i - 1) e9 (by omega) he9; omega)) (fun c7 => ?_)
        refine num64 (by omega) (by omega) ⟨i + 1, ⟨by omega, next ⟨fun _ => ⟨hnm, har⟩, fun h => by omega, by omega, by omega, by omega, by omega, by omega, by omega, fun j e' hj he' => ?_⟩⟩, by omega, ⟨⟨rfl, rfl, rfl, rfl, trivial⟩, ⟨rfl, trivial⟩, rfl, rfl⟩⟩
        obtain rfl : j = i - 1 := by omega
        rw [he9] at he'; cases he'; omega
      · refine num64 (by omega) (by omega) ⟨i + 1, ⟨by omega, next ⟨fun _ => ⟨hnm, har⟩, fun h => by omega, by omega, by omega, by omega, by omega, by omega, by omega, fun j e' hj he' => by omega⟩⟩, by omega, ⟨⟨rfl, rfl, rfl, rfl, trivial⟩, ⟨rfl, trivial⟩, rfl, rfl⟩⟩
    · refine ifnd (fun _ => ?_) (fun h => absurd h hl)
      refine call_gives (impl_IsRelName_spec _ _) ?_
      refine ifnd (fun h => ret_plain (bad fun k => h (k.name (by omega)).1)) (fun hnm => ?_)
      refine call_gives (entryOf_spec hv0) ?_
      refine ifnd (fun h => ret_plain (bad fun k => h (k.name (by omega)).2)) (fun hen => ?_)
      refine ifd (fun h => ret_plain (bad fun k => by have := k.ar0; omega)) (fun c1 => ?_)
      refine ifd (fun h => ret_plain (bad fun k => by have := k.ar4; omega)) (fun c2 => ?_)
      refine ifd (fun h => ret_plain (bad fun k => by have := k.v0; omega)) (fun c3 => ?_)
      refine ifd (fun h => ret_plain (bad fun k => by have := k.v1; omega)) (fun c4 => ?_)
      refine ifd (fun h => ret_plain (bad fun k => by have := k.at0; omega)) (fun c5 => ?_)
      refine ifd (fun h => ret_plain (bad fun k => by have := k.at1; omega)) (fun c6 => ?_)
      refine ifd (fun h0 => ?_) (fun h0 => ?_)
      · obtain ⟨e9, he9⟩ := at_some (l := c.entries) (i := i - 1) (by omega)
        obtain ⟨ad9, p9, hel9, _⟩ := En.elem hel he9
        refine num_eq (x := ((i - 1 : Nat) : Int)) (by rw [wrap64 (by omega) (by omega)]; omega) ?_
        refine elem_intro hel9 ?_
        refine ifd (fun h => ret_plain (bad fun k => by have := k.mono (i - 1) e9 (by omega) he9; omega)) (fun c7 => ?_)
        refine num64 (by omega) (by omega) ⟨i + 1, ⟨by omega, next ⟨fun h => by omega, fun _ => ⟨hnm, hen⟩, by omega, by omega, by omega, by omega, by omega, by omega, fun j e' hj he' => ?_⟩⟩, by omega, ⟨⟨rfl, rfl, rfl, rfl, trivial⟩, ⟨rfl, trivial⟩, rfl, rfl⟩⟩
        obtain rfl : j = i - 1 := by omega
        rw [he9] at he'; cases he'; omega
      · refine num64 (by omega) (by omega) ⟨i + 1, ⟨by omega, next ⟨fun h => by omega, fun _ => ⟨hnm, hen⟩, by omega, by omega, by omega, by omega, by omega, by omega, fun j e' hj he' => by omega⟩⟩, by omega, ⟨⟨rfl, rfl, rfl, rfl, trivial⟩, ⟨rfl, trivial⟩, rfl, rfl⟩⟩
  · obtain rfl : i = c.entries.length := by omega
    have hent : ∀ j e, c.entries[j]? = some e → EntOk c j e := fun j e h => hall j e (List.getElem?_eq_some_iff.1 h).1 h
    clear hall hlt hi
    refine loop_intro (fun p : Nat × Mem => p.1 ≤ c.entries.length ∧ μ.Le p.2 ∧ ∀ j e, j < p.1 → c.entries[j]? = some e → RegOk c j e)
      (fun (i, μ') => ⟨[(1, .loc 0 r1 0), (116, .val (.slice q.2.1 c.entries.length q.2.2)), (117, .val (.int .i64 c.entries.length)), (118, .val (.int .i64 i))], [(0, some (.cells r1 [.val (.slice q.1.1 c.instrs.length q.1.2), .val (.slice q.2.1 c.entries.length q.2.2)] 80))], 1, μ', Mem.nil⟩) (fun p => c.entries.length - p.1)
      (0, μ) ⟨by simp, Mem.Le.refl _, fun j e hj => by simp at hj⟩ (fun (_, _) => ⟨rfl, rfl⟩) ⟨⟨rfl, rfl, rfl, rfl, trivial⟩, ⟨rfl, trivial⟩, rfl, rfl⟩ ?_
    rintro ⟨i, μ'⟩ ⟨hi, hle, hall⟩
    dsimp only at hi hle hall
    refine ifd (fun hlt => ?_) (fun hlt => ?_)
    · obtain ⟨e, he⟩ := at_some (l := c.entries) (i := i) (by omega)
      obtain ⟨ad, p, hee, her⟩ := En.elem (hel.mono hle) he
      obtain ⟨g1, g2⟩ := endOf_range hent he
      have g0 := (hent i e he).at0
      have hend := regionEnd_spec (i := i) (hv0.mono hle) (by omega)
      have bad : ¬ RegOk c i e → Value.bool false = .bool (decide c.Ok) := fun h => isF fun k => h (k.reg i e he)
      obtain ⟨m, hm⟩ : ∃ m : Nat, endOf c i = m := ⟨(endOf c i).toNat, by omega⟩
      obtain ⟨s, hs⟩ : ∃ s : Nat, e.at_ = s := ⟨e.at_.toNat, by omega⟩
      refine elem_intro hee ?_
      intro r7
      refine call_gives hend ?_
      rw [hm]
      refine num_eq (x := ((m - 1 : Nat) : Int)) (by rw [wrap64 (by omega) (by omega)]; omega) ?_
      obtain ⟨y, hy⟩ := at_some (l := c.instrs) (i := m - 1) (by omega)
      obtain ⟨ad3, p3, hye, _⟩ := Ir.elemA (hil.mono hle) hy
      refine elem_intro hye ?_
      refine ifnd (fun h => ret_plain (bad fun k => h ((k (m - 1) y (by omega) (by omega) hy).2 (by omega)))) (fun hret => ?_)
      refine loop_intro (fun p : Nat × Mem => s ≤ p.1 ∧ p.1 ≤ m ∧ μ.Le p.2 ∧ ∀ a x, s ≤ a → a < p.1 → c.instrs[a]? = some x → InsOk c x a m e.vars)
        (fun (a, μ2) => ⟨[(1, .loc 0 r1 0), (6, .val (.int .i64 i)), (8, .val (.int .i64 m)), (9, .val (.int .i64 a)), (116, .val (.slice q.2.1 c.entries.length q.2.2)), (117, .val (.int .i64 c.entries.length)), (118, .val (.int .i64 i))], [(0, some (.cells r1 [.val (.slice q.1.1 c.instrs.length q.1.2), .val (.slice q.2.1 c.entries.length q.2.2)] 80))], 1, μ2, Mem.nil⟩) (fun p => m - p.1)
        (s, μ') ⟨Nat.le_refl _, by dsimp only; omega, hle, fun a x h1 h2 => by dsimp only at h2; omega⟩ (fun (_, _) => ⟨rfl, rfl⟩) ⟨⟨rfl, rfl, rfl, by rw [hs]; rfl, rfl, rfl, rfl, trivial⟩, ⟨rfl, trivial⟩, rfl, rfl⟩ ?_
      rintro ⟨a, μ2⟩ ⟨ha1, ha2, hle2, hins⟩
      dsimp only at ha1 ha2 hle2 hins
      refine ifd (fun hlt3 => ?_) (fun hlt3 => ?_)
      · obtain ⟨x, hx⟩ := at_some (l := c.instrs) (i := a) (by omega)
        have hsp := instrOk_spec (hv0.mono hle2) hx he (by omega) (by omega) (by omega) g2
        rw [hm] at hsp
        refine call_plain hsp fun v1 μ3 hle3 hR => ?_
        obtain rfl := hR
        refine ifnd (fun h => ret_plain (bad fun k => h (by have := (k a x (by omega) (by omega) hx).1; rwa [hm] at this))) (fun hx2 => ?_)
        refine num64 (by omega) (by omega) ⟨(a + 1, μ3), ⟨by dsimp only; omega, by dsimp only; omega, hle2.trans hle3, fun a' x' h1 h2 h3 => ?_⟩, by dsimp only; omega, ⟨⟨rfl, rfl, rfl, rfl, rfl, rfl, rfl, trivial⟩, ⟨rfl, trivial⟩, rfl, rfl⟩⟩
        rcases Nat.lt_or_ge a' a with h6 | h6
        · exact hins a' x' h1 h6 h3
        · obtain rfl : a' = a := by dsimp only at h2; omega
          rw [hx] at h3; cases h3; exact hx2
      · obtain rfl : a = m := by omega
        have hreg : RegOk c i e := fun a' x' h1 h2 h3 => by
          rw [hm] at h2 ⊢
          refine ⟨hins a' x' (by omega) (by omega) h3, fun h4 => ?_⟩
          obtain rfl : a' = a - 1 := by omega
          rw [hy] at h3; cases h3; exact hret
        refine num64 (by omega) (by omega) ⟨(i + 1, μ2), ⟨by dsimp only; omega, hle2, fun j k hj hk => ?_⟩, by dsimp only; omega, ⟨⟨rfl, rfl, rfl, rfl, trivial⟩, ⟨rfl, trivial⟩, rfl, rfl⟩⟩
        rcases Nat.lt_or_ge j i with h6 | h6
        · exact hall j k h6 hk
        · obtain rfl : j = i := by dsimp only at hj; omega
          rw [he] at hk; cases hk; exact hreg
    · obtain rfl : i = c.entries.length := by omega
      exact ret_plain (isT ⟨by omega, hzero, hent, fun j e h => hall j e (List.getElem?_eq_some_iff.1 h).1 h⟩)
end
end Go.Vx

/- The law on well-formed code. -/
namespace Go.Vx
open Go.Proofs Classical
section
variable {μ : Mem}
theorem FnExactCodeOk_spec {t0 : Cd} {v0 : Value} (h0 : RepV μ t0.d v0) (w0 : t0.d.wd) :
    Spec Try.prog 8 [v0] μ fun r _ => r = .bool true := by
  obtain ⟨p0, rfl⟩ := Cd.invV h0
  refine Spec.mk Try.func8 (by kernel_rfl) ?_
  intro r0
  refine call_gives (szCode_spec t0 h0 (by omega) (by omega) w0) ?_
  refine ifd (fun h => ret_plain rfl) (fun h => ?_)
  have q0 := szR_ge h
  rw [szR_pos q0] at h
  have hb0 : t0.d.sz ≤ 1048576 := by omega
  refine call_plain (toCode_spec t0 h0 hb0) fun u1 μ1 hle1 hf1 => ?_
  replace h0 := h0.mono hle1
  obtain ⟨qq1, rfl⟩ := Cd.invV hf1.rep
  have a0 := hf1.rep
  refine call_gives (Spec.forget (spec_CodeOk_spec a0 w0)) ?_
  refine call_plain (toCode_spec t0 h0 hb0) fun u2 μ2 hle2 hf2 => ?_
  replace h0 := h0.mono hle2
  replace a0 := a0.mono hle2
  obtain ⟨qq2, rfl⟩ := Cd.invV hf2.rep
  have x0 := hf2.rep
  intro rx0
  refine call_gives (Spec.forget (impl_CodeOk_spec x0)) ?_
  refine if_intro (fun h => absurd h (by simp)) (fun _ => ?_)
  refine call_plain (toCode_spec t0 h0 hb0) fun u3 μ3 hle3 hf3 => ?_
  replace h0 := h0.mono hle3
  replace a0 := a0.mono hle3
  replace x0 := x0.mono hle3
  obtain ⟨qq3, rfl⟩ := Cd.invV hf3.rep
  have y0 := hf3.rep
  refine call_gives (eqCode_spec _ x0 y0) ?_
  refine if_intro (fun h => nomatch h) (fun _ => ?_)
  exact ret_plain rfl
end
end Go.Vx
