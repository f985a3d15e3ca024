/- Texts of the proof, part E1. -/
import Derived.Test.YtheneidclfohoaaGreatM5
namespace Go.Vx
open Go.Proofs Classical
section
variable {μ : Mem}
theorem szFactS_of {l : List Fc} (he : ∀ t ∈ l, ∀ {v : Value} {left : Int}, RepV μ t.d v → 0 ≤ left → left ≤ 1048576 → t.d.wd → Gives Tryz.prog 41 [v, .int .i64 left] μ (.int .i64 (szR left t.d.sz)))
  {base : Option Addr} {cap : Nat} {left : Int} (hsl : Sl μ 2 base l.length (l.map Fc.d)) (hl : 0 ≤ left) (hl2 : left ≤ 1048576) (hw : D.wds (l.map Fc.d)) :
  Gives Tryz.prog 29 [.slice base l.length cap, .int .i64 left] μ (.int .i64 (szR left (l.length + D.szs (l.map Fc.d)))) := by
 have hn := maxLen_le hsl.max
 refine Spec.mk Tryz.func29 (by kernel_rfl) ?_
 refine num64 (by omega) (by omega) (ifd (fun h => ret_gives ?_ rfl) (fun h => ?_))
 ·rw [szR_neg (by omega)]
 refine loop_intro (fun i : Nat => i ≤ l.length ∧ (D.szs ((l.map Fc.d).take i) : Int) ≤ left - l.length) (fun i => ⟨[(0, .val (.slice base l.length cap)), (1, .val (.int .i64 (left - l.length - D.szs ((l.map Fc.d).take i)))), (5, .val (.int .i64 i))], [], 0, μ, Mem.nil⟩) (fun i => l.length - i)
  0 ⟨by omega, by simp [D.szs]; omega⟩ (fun i => ⟨rfl, rfl⟩) ⟨⟨rfl, by show some (SV.val (.int .i64 _)) = some (SV.val (.int .i64 _)); congr 3; simp [D.szs], rfl, trivial⟩, trivial, rfl, rfl⟩ ?_
 rintro i ⟨hi, hz⟩
 refine ifd (fun h => ?_) (fun h => ?_)
 ·obtain ⟨t, ht⟩ := at_some (l := l) (i := i) (by omega)
  have hx := at_map (f := Fc.d) ht
  have hs := D.szs_take hx
  have hs' := D.szs_le (l.map Fc.d) (i + 1)
  obtain ⟨ad, p, hel, hr⟩ := Fc.elem hsl ht
  refine elem_intro hel (call_gives (he t (mem_at ht) hr (by omega) (by omega) (D.wds_mem hw _ (mem_at hx))) ?_)
  refine ifd (fun h => ret_gives ?_ rfl) (fun h => ?_)
  ·have := szR_lt h
   rw [szR_neg (by omega)]
  ·have := szR_ge h
   refine num64 (by omega) (by omega) ⟨i + 1, ⟨by omega, by omega⟩, by omega, ⟨⟨rfl, ?_, rfl, trivial⟩, trivial, rfl, rfl⟩⟩
   rw [szR_pos this, hs]
   show some (SV.val (.int .i64 _)) = some (SV.val (.int .i64 _))
   congr 3; omega
 ·obtain rfl : i = l.length := by omega
  rw [List.take_of_length_le (by simp)] at hz ⊢
  refine ret_gives ?_ rfl
  rw [szR_pos (by omega)]; congr 1; omega
theorem szFactS_spec {l : List Fc} {base : Option Addr} {cap : Nat} {left : Int} (hsl : Sl μ 2 base l.length (l.map Fc.d)) (hl : 0 ≤ left) (hl2 : left ≤ 1048576) (hw : D.wds (l.map Fc.d)) :
  Gives Tryz.prog 29 [.slice base l.length cap, .int .i64 left] μ (.int .i64 (szR left (l.length + D.szs (l.map Fc.d)))) := szFactS_of (fun t _ _ _ => szFact_spec t) hsl hl hl2 hw
theorem toFactS_of {l : List Fc} (he : ∀ t ∈ l, ∀ {μ : Mem} {v : Value}, RepV μ t.d v → t.d.sz ≤ 1048576 → Spec Tryz.prog 43 [v] μ fun v μ' => Fresh μ μ' t.d v)
  {base : Option Addr} {cap : Nat} (hsl : Sl μ 2 base l.length (l.map Fc.d)) (hb : l.length + D.szs (l.map Fc.d) ≤ 1048576) :
  Spec Tryz.prog 32 [.slice base l.length cap] μ fun v μ' => Fresh μ μ' (.sl 2 (l.map Fc.d)) v := by
 refine Spec.mk Tryz.func32 (by kernel_rfl) ?_
 refine make_intro l.length rfl rfl (by simp only; omega) (Nat.le_trans (m := 1048576) (by omega) (by decide)) ?_
 intro r
 refine loop_intro (fun p : Nat × List Value × Mem => μ.Le p.2.2 ∧ ∃ g, Filled 2 (.agg #[.string ⟨#[]⟩, .slice none 0 0]) μ p.2.2 (l.map Fc.d) p.1 p.2.1 g)
  (fun (i, xs, μ') => ⟨[(0, .val (.slice base l.length cap)), (3, .row 0 (some r) l.length l.length), (4, .val (.int .i64 i))], [(0, some (.row (some r) l.length 67 2 xs))], 1, μ', Mem.nil⟩) (fun p => l.length - p.1)
  (0, List.replicate l.length (.agg #[.string ⟨#[]⟩, .slice none 0 0]), μ) ⟨Mem.Le.refl μ, _, Filled.start (by simp)⟩ (fun (_, _, _) => ⟨rfl, rfl⟩) ⟨⟨rfl, rfl, rfl, trivial⟩, ⟨rfl, trivial⟩, rfl, rfl⟩ ?_
 rintro ⟨i, xs, μ'⟩ ⟨hle, g, hf⟩
 dsimp only at hle hf
 have hi := hf.le
 have hlen := hf.len
 rw [List.length_map] at hi hlen
 refine ifd (fun h => ?_) (fun h => ?_)
 ·obtain ⟨t, ht⟩ := at_some (l := l) (i := i) (by omega)
  have hx := at_map (f := Fc.d) ht
  have hs := D.szs_mem hx
  obtain ⟨ad, p, hel, hr⟩ := Fc.elem (hsl.mono hle) ht
  refine elem_intro hel (call_plain (he t (mem_at ht) hr (by omega)) fun v μ'' hle2 hfr => ?_)
  obtain ⟨g', hf'⟩ := hf.step hx (Fc.d_n t) hfr hle2
  obtain ⟨p2, rfl⟩ := Fc.invV hfr.rep
  refine rel_intro i rfl (by omega) ?_
  refine get_intro _ (hf.rest i (by omega) (by simpa using h)) ?_
  refine num64 (by omega) (by omega) ⟨(i + 1, _, μ''), ⟨hle.trans hle2, g', hf'⟩, by dsimp only; omega, ⟨⟨rfl, rfl, rfl, trivial⟩, ⟨rfl, trivial⟩, rfl, rfl⟩⟩
 ·obtain rfl : i = l.length := by omega
  refine ret_frz [0] fun μ2 hle2 hno hrow => .inl ?_
  have := Fresh.ofRow (hf.all (by simp)) hf.sub hf.new hle hle2 hno hrow (Nat.le_trans (m := 1048576) (by omega) (by decide))
  rw [hlen] at this
  exact this
theorem toFactS_spec {l : List Fc} {base : Option Addr} {cap : Nat} (hsl : Sl μ 2 base l.length (l.map Fc.d)) (hb : l.length + D.szs (l.map Fc.d) ≤ 1048576) :
  Spec Tryz.prog 32 [.slice base l.length cap] μ fun v μ' => Fresh μ μ' (.sl 2 (l.map Fc.d)) v := toFactS_of (fun t _ _ _ => toFact_spec t) hsl hb
theorem read_FactS : Reads Tryz.prog 47 fun d => ∃ l : List Fc, d = .sl 2 (l.map Fc.d) ∧ D.wds (l.map Fc.d) := fun n =>
 (reads_sl ti47.kind (cellsOf_tt ti63) (fun d h => by obtain ⟨a, rfl, _⟩ := h; exact Fc.d_n a) read_Fact n).weaken fun d h => by
  obtain ⟨xs, rfl, hx⟩ := h
  obtain ⟨l, rfl⟩ := lift_list (f := Fc.d) fun x h => by obtain ⟨t, h, _⟩ := hx x h; exact ⟨t, h⟩
  exact ⟨l, rfl, D.wds_of fun x hm => by obtain ⟨t, rfl, h⟩ := hx x hm; exact h⟩
end
end Go.Vx
namespace Go.Vx
open Go.Proofs Classical
theorem ascF_id {L : List F} (h : Asc3 cmpF L) : ascF L = L := (ascOf_eq cmpF_ord h fun _ => Iff.rfl).symm
theorem headsF_succ {rs : List Ru} {pos neg : List F} {i : Nat} {r : Ru} (h : rs[i]? = some r) : headsF rs pos neg (i + 1) = headsF rs pos neg i ++ (if fires pos neg r then [r.head] else []) := by
 rw [headsF, List.take_add_one, h, Option.toList_some, List.filter_append, List.map_append, ← headsF]
 congr 1
 by_cases k : fires pos neg r <;> simp [k]
theorem lfp_len (rs : List Ru) (base : List F) : (lfp rs base).length ≤ base.length + rs.length := by
 rw [lfp]
 refine Nat.le_trans (ascOf_len _ _) (Nat.le_trans (List.length_filter_le _ _) ?_)
 rw [List.length_append, List.length_map]
 exact Nat.le_refl _
section
variable {rs : List Ru} {S out : List F}
end
theorem growL_succ {rs : List Ru} {out : List F} {i : Nat} {r : Ru} (h : rs[i]? = some r) : growL rs out (i + 1) = growL rs out i ++ (if r.head ∉ out ∧ ∀ f ∈ r.pos, f ∈ out then [r.head] else []) := by
 rw [growL, List.take_add_one, h, Option.toList_some, List.filter_append, List.map_append, ← growL]
 congr 1
 by_cases k : r.head ∉ out ∧ ∀ f ∈ r.pos, f ∈ out
 ·rw [if_pos k, List.filter_cons_of_pos (by simpa using k)]; rfl
 ·rw [if_neg k, List.filter_cons_of_neg (by simpa using k)]; rfl
theorem growL_len (rs : List Ru) (out : List F) (i : Nat) : (growL rs out i).length ≤ i := by
 rw [growL, List.length_map]
 exact Nat.le_trans (List.length_filter_le _ _) (List.length_take_le _ _)
section
variable {rs : List Ru} {base out : List F}
end
theorem unlessR_congr {rs : List Ru} {S S' : List F} (h : ∀ f, f ∈ S ↔ f ∈ S') : unlessR rs S = unlessR rs S' := by
 rw [unlessR, unlessR]
 refine List.filter_congr fun r _ => ?_
 exact decide_eq_decide.2 ⟨fun k f hf hx => k f hf ((h f).2 hx), fun k f hf hx => k f hf ((h f).1 hx)⟩
theorem unlessR_len (rs : List Ru) (S : List F) : (unlessR rs S).length ≤ rs.length := List.length_filter_le _ _
theorem unlessR_take {rs : List Ru} {S : List F} {i : Nat} {r : Ru} (h : rs[i]? = some r) : unlessR (rs.take (i + 1)) S = unlessR (rs.take i) S ++ (if ∀ f ∈ r.neg, f ∉ S then [r] else []) := by
 rw [unlessR, List.take_add_one, h, Option.toList_some, List.filter_append, ← unlessR]
 congr 1
 by_cases k : ∀ f ∈ r.neg, f ∉ S
 ·rw [if_pos k, List.filter_cons_of_pos (by simpa using k)]; rfl
 ·rw [if_neg k, List.filter_cons_of_neg (by simpa using k)]; rfl
noncomputable def gam (rs : List Ru) (S : List F) : List F := lfp (unlessR rs S) []
theorem gam_len (rs : List Ru) (S : List F) : (gam rs S).length ≤ rs.length := by
 have := lfp_len (unlessR rs S) []
 have h2 := unlessR_len rs S
 simp only [List.length_nil] at this
 rw [gam]; omega
theorem gam_asc (rs : List Ru) (S : List F) : Asc3 cmpF (gam rs S) := lfp_asc _ _
section
variable {rs : List Ru} {model B out : List F}
end
end Go.Vx
namespace Go.Vx
open Go.Proofs Classical
section
variable {μ : Mem}
theorem l19Fires_spec {r : Ru} {pos neg : List F} {v : Value} {b b2 : Option Addr} {c c2 : Nat} (hr : RepV μ r.rd.d v) (hs : Sl μ 2 b pos.length ((pos.map F.fc).map Fc.d)) (hs2 : Sl μ 2 b2 neg.length ((neg.map F.fc).map Fc.d)) :
  Gives Tryz.prog 111 [v, .slice b pos.length c, .slice b2 neg.length c2] μ (.bool (decide (fires pos neg r))) := by
 have hv_ := Ru.inv hr
 obtain ⟨p, rfl, -, -, h3, h4⟩ := hv_
 have hm1 := maxLen_le h3.max
 have hm2 := maxLen_le h4.max
 refine Spec.mk Tryz.func111 (by kernel_rfl) ?_
 intro r3
 refine loop_intro (fun k : Nat => k ≤ r.pos.length ∧ ∀ f ∈ r.pos.take k, f ∈ pos)
  (fun k => ⟨[(1, .val (.slice b pos.length c)), (2, .val (.slice b2 neg.length c2)), (3, .loc 0 r3 0), (12, .val (.slice p.2.2.1.1 r.pos.length p.2.2.1.2)), (13, .val (.int .i64 r.pos.length)), (14, .val (.int .i64 k))], [(0, some (.cells r3 (vals (r.cs p)) 126))], 1, μ, Mem.nil⟩) (fun k => r.pos.length - k)
  0 ⟨Nat.zero_le _, by simp⟩ (fun _ => ⟨rfl, rfl⟩) ⟨⟨rfl, rfl, rfl, rfl, rfl, rfl, trivial⟩, ⟨rfl, trivial⟩, rfl, rfl⟩ ?_
 rintro k ⟨hk, hall⟩
 refine ifd (fun hlt => ?_) (fun hlt => ?_)
 ·have hv_ := at_some (l := r.pos) (i := k) (by omega)
  obtain ⟨y, hy⟩ := hv_
  have hv_ := F.elem h3 hy
  obtain ⟨ad3, p3, hel3, hry, hsy⟩ := hv_
  refine elem_intro hel3 ?_
  intro r8
  refine call_gives (l18Has_spec hs hry) ?_
  refine ifnd (fun h => ret_gives (isF fun k => h (k.1 y (mem_at hy))) rfl) (fun h => ?_)
  ·exact num64 (by omega) (by omega) ⟨k + 1, ⟨by omega, take_all_at hall hy h⟩, by omega, ⟨⟨rfl, rfl, rfl, rfl, rfl, rfl, trivial⟩, ⟨rfl, trivial⟩, rfl, rfl⟩⟩
 obtain rfl : k = r.pos.length := by omega
 rw [List.take_length] at hall
 refine loop_intro (fun k : Nat => k ≤ r.neg.length ∧ ∀ f ∈ r.neg.take k, f ∉ neg)
  (fun k => ⟨[(2, .val (.slice b2 neg.length c2)), (24, .val (.slice p.2.2.2.1 r.neg.length p.2.2.2.2)), (25, .val (.int .i64 r.neg.length)), (26, .val (.int .i64 k))], [], 1, μ, Mem.nil⟩) (fun k => r.neg.length - k)
  0 ⟨Nat.zero_le _, by simp⟩ (fun _ => ⟨rfl, rfl⟩) ⟨⟨rfl, rfl, rfl, rfl, trivial⟩, trivial, rfl, rfl⟩ ?_
 rintro k ⟨hk, hall2⟩
 refine ifd (fun hlt => ?_) (fun hlt => ?_)
 ·have hv_ := at_some (l := r.neg) (i := k) (by omega)
  obtain ⟨y, hy⟩ := hv_
  have hv_ := F.elem h4 hy
  obtain ⟨ad3, p3, hel3, hry, hsy⟩ := hv_
  refine elem_intro hel3 ?_
  intro r8
  refine call_gives (l18Has_spec hs2 hry) ?_
  refine ifd (fun h => ret_gives (isF fun k => (k.2 y (mem_at hy)) h) rfl) (fun h => ?_)
  ·exact num64 (by omega) (by omega) ⟨k + 1, ⟨by omega, take_all_at hall2 hy h⟩, by omega, ⟨⟨rfl, rfl, rfl, rfl, trivial⟩, trivial, rfl, rfl⟩⟩
 obtain rfl : k = r.neg.length := by omega
 rw [List.take_length] at hall2
 exact ret_gives (isT ⟨hall, hall2⟩) rfl
theorem l19Next_spec {rs : List Ru} {pos neg : List F} {b b2 b3 : Option Addr} {c c2 c3 : Nat} (hr : Sl μ 6 b3 rs.length ((rs.map Ru.rd).map RuD.d)) (hn : rs.length ≤ 10000000) (hs : Sl μ 2 b pos.length ((pos.map F.fc).map Fc.d)) (hs2 : Sl μ 2 b2 neg.length ((neg.map F.fc).map Fc.d)) :
  Spec Tryz.prog 168 [.slice b3 rs.length c3, .slice b pos.length c, .slice b2 neg.length c2] μ fun r μ' => FsV μ' (nextF rs pos neg) r := by
 refine Spec.mk Tryz.func168 (by kernel_rfl) ?_
 intro r10
 refine loop_frz (fun z : Nat × Option Addr × Nat × Mem => z.1 ≤ rs.length ∧ μ.Le z.2.2.2 ∧ FsV z.2.2.2 (ascF (headsF rs pos neg z.1)) (.slice z.2.1 (ascF (headsF rs pos neg z.1)).length z.2.2.1))
  (fun (i, b4, c4, μ') => ⟨[(1, .val (.slice b pos.length c)), (2, .val (.slice b2 neg.length c2)), (7, .val (.slice b4 (ascF (headsF rs pos neg i)).length c4)), (11, .val (.slice b3 rs.length c3)), (12, .val (.int .i64 rs.length)), (13, .val (.int .i64 i))], [], 0, μ', Mem.nil⟩) (fun z => rs.length - z.1) [0]
  (fun (_, _, _, _) => ⟨rfl, rfl⟩) (fun μ1 hle1 hno1 hat1 => ?_) ?_
 ·have e0 : ascF (headsF rs pos neg 0) = [] := by simp [headsF, ascF_id (L := []) List.Pairwise.nil]
  refine ⟨(0, some ⟨r10, 0, none⟩, 0, μ1), ⟨Nat.zero_le _, hle1, ?_⟩, ⟨rfl, rfl, ?_, rfl, rfl, rfl, trivial⟩, trivial, rfl, rfl⟩
  ·dsimp only; rw [e0]; exact FsV.nil _ _
  ·dsimp only; rw [e0]; rfl
 rintro ⟨i, b4, c4, μ'⟩ ⟨hi, hle, hout⟩
 dsimp only at hi hle hout
 refine ifd (fun hlt => ?_) (fun hlt => ?_)
 rotate_left
 ·obtain rfl : i = rs.length := by omega
  rw [headsF_all] at hout ⊢
  exact ret_plain hout
 have hv_ := at_some (l := rs) (i := i) (by omega)
 obtain ⟨r, hri⟩ := hv_
 have hv_ := Ru.elem (hr.mono hle) hri
 obtain ⟨ad, p, hel, hrv, hat⟩ := hv_
 have hlen : (ascF (headsF rs pos neg i)).length ≤ i := Nat.le_trans (ascF_len _) (headsF_len _ _ _ _)
 have hsucc := headsF_succ (pos := pos) (neg := neg) hri
 refine elem_intro hel ?_
 intro r9
 refine call_gives (l19Fires_spec hrv (hs.mono hle) (hs2.mono hle)) ?_
 refine ifd (fun hf => ?_) (fun hf => ?_)
 ·rw [if_pos hf] at hsucc
  refine call_plain (l18Insert_spec (ascF_asc _) hout hat.head (by omega)) fun v4 μ4 hle4 hR4 => ?_
  have e : insF (ascF (headsF rs pos neg i)) r.head = ascF (headsF rs pos neg (i + 1)) := ascF_congr fun x => by
   rw [List.mem_cons, mem_ascF, hsucc, List.mem_append, List.mem_singleton]; exact Or.comm
  rw [e] at hR4
  have hv_ := FsV.sl hR4
  obtain ⟨b5, c5, rfl, -, -⟩ := hv_
  exact num64 (by omega) (by omega) ⟨[], (i + 1, b5, c5, μ4), ⟨by dsimp only; omega, hle.trans hle4, hR4⟩, by dsimp only; omega, ⟨⟨rfl, rfl, rfl, rfl, rfl, rfl, trivial⟩, trivial, rfl, rfl⟩⟩
 ·rw [if_neg hf, List.append_nil] at hsucc
  refine num64 (by omega) (by omega) ⟨[], (i + 1, b4, c4, μ'), ⟨by dsimp only; omega, hle, ?_⟩, by dsimp only; omega, ⟨⟨rfl, rfl, ?_, rfl, rfl, rfl, trivial⟩, trivial, rfl, rfl⟩⟩
  ·dsimp only; rw [hsucc]; exact hout
  ·dsimp only; rw [hsucc]; rfl
end
end Go.Vx
namespace Go.Vx
open Go.Proofs Classical
section
variable {μ : Mem}
theorem l29Reduct_spec {rs : List Ru} {S : List F} {b b3 : Option Addr} {c c3 : Nat} (hr : Sl μ 6 b3 rs.length ((rs.map Ru.rd).map RuD.d)) (hn : rs.length ≤ 10000000) (hs : Sl μ 2 b S.length ((S.map F.fc).map Fc.d)) :
  Spec Tryz.prog 96 [.slice b3 rs.length c3, .slice b S.length c] μ fun r μ' => FsV μ' (gam rs S) r := by
 refine Spec.mk Tryz.func96 (by kernel_rfl) ?_
 intro r7
 refine loop_frz (fun z : List F × Option Addr × Nat × Mem => RedI rs S z.1 ∧ μ.Le z.2.2.2 ∧ FsV z.2.2.2 z.1 (.slice z.2.1 z.1.length z.2.2.1))
  (fun (out, b4, c4, μ') => ⟨[(0, .val (.slice b3 rs.length c3)), (1, .val (.slice b S.length c)), (5, .val (.slice b4 out.length c4))], [], 0, μ', Mem.nil⟩) (fun z => rs.length - z.1.length) [0]
  (fun (_, _, _, _) => ⟨rfl, rfl⟩) (fun μ1 hle1 hno1 hat1 => ⟨([], some ⟨r7, 0, none⟩, 0, μ1), ⟨RedI.nil _ _, hle1, FsV.nil _ _⟩, ⟨rfl, rfl, rfl, trivial⟩, trivial, rfl, rfl⟩) ?_
 rintro ⟨out, b4, c4, μ'⟩ ⟨hI, hle, hout⟩
 dsimp only at hI hle hout
 have hv_ := FsV.sl hout
 obtain ⟨b5, c5, e, -, hso⟩ := hv_
 have hv_ := Value.slice.inj e
 obtain ⟨rfl, _, rfl⟩ := hv_
 refine call_plain (l19Next_spec (hr.mono hle) hn hso (hs.mono hle)) fun v4 μ4 hle4 hR4 => ?_
 have hv_ := FsV.sl hR4
 obtain ⟨b6, c6, rfl, -, -⟩ := hv_
 have hl := hI.next.len
 refine ifd (fun he => ?_) (fun he => ?_)
 ·refine ret_plain ?_
  rw [gam, ← hI.done (by omega)]
  exact RepV.mono hle4 hout
 ·have := hI.more (by omega)
  exact ⟨[], (nextF rs out S, b6, c6, μ4), ⟨hI.next, hle.trans hle4, hR4⟩, by dsimp only; omega, ⟨⟨rfl, rfl, rfl, trivial⟩, trivial, rfl, rfl⟩⟩
end
end Go.Vx
namespace Go.Vx
open Go.Proofs Classical
open Go.Sort
section
variable {μ h0 : Mem} {r : Nat} {ty : TypeId} {rest : List Value}
end
section
variable {μ : Mem}
theorem sortFacts_spec {L : List F} {v : Value} (h : FsV μ L v) (hn : L.length ≤ 100000000) :
  Spec Tryz.prog 94 [v] μ fun v μ' => FsV μ' (ascF L) v := by
 have hv_ := FsV.sl h
 obtain ⟨b, c, rfl, hlc, hs⟩ := hv_
 have hv_ := Rep.srcAll h
 obtain ⟨vs, hrows, hvl, hsrc⟩ := hv_
 have hE := FElts.zip hrows
 have hl : (L.zip vs).length = L.length := by rw [List.length_zip]; omega
 have := sortFacts_core (l := L.zip vs) (base := b) (cap := c) (by rw [hl, zip_snd (by omega)]; exact hsrc) hE (by omega)
 rw [hl] at this
 refine this.weaken fun v μ' hle hR => ?_
 obtain ⟨l', h1, h2, bb, cc, g, rfl, hro, hg, _⟩ := hR
 have hE' : FElts μ' l' := fun p hp => RepV.mono hle (hE p (h1 p hp))
 rw [zip_fst (by omega)] at h2
 have := hro.rep hg hE'.rows
 rw [h2] at this
 exact this
end
end Go.Vx
namespace Go.Vx
open Go.Proofs Classical
section
variable {μ : Mem}
theorem sameFacts_spec {L M : List F} {b b2 : Option Addr} {c c2 : Nat} (hs : Sl μ 2 b L.length ((L.map F.fc).map Fc.d)) (hs2 : Sl μ 2 b2 M.length ((M.map F.fc).map Fc.d)) :
  Gives Tryz.prog 93 [.slice b L.length c, .slice b2 M.length c2] μ (.bool (decide (L = M))) := by
 have hm1 := maxLen_le hs.max
 refine Spec.mk Tryz.func93 (by kernel_rfl) ?_
 refine ifnd (fun h => ret_gives (isF fun k => h (by rw [k])) rfl) (fun he => ?_)
 refine loop_intro (fun k : Nat => k ≤ L.length ∧ ∀ j, j < k → L[j]? = M[j]?)
  (fun k => ⟨[(0, .val (.slice b L.length c)), (1, .val (.slice b2 M.length c2)), (12, .val (.int .i64 L.length)), (13, .val (.int .i64 k))], [], 0, μ, Mem.nil⟩) (fun k => L.length - k)
  0 ⟨Nat.zero_le _, fun j h => by omega⟩ (fun _ => ⟨rfl, rfl⟩) ⟨⟨rfl, rfl, rfl, rfl, trivial⟩, trivial, rfl, rfl⟩ ?_
 rintro k ⟨hk, hall⟩
 refine ifd (fun hlt => ?_) (fun hlt => ?_)
 ·have hv_ := at_some (l := L) (i := k) (by omega)
  obtain ⟨x, hx⟩ := hv_
  have hv_ := at_some (l := M) (i := k) (by omega)
  obtain ⟨y, hy⟩ := hv_
  have hv_ := F.elem hs hx
  obtain ⟨ad, q, hel, hrx, _⟩ := hv_
  have hv_ := F.elem hs2 hy
  obtain ⟨ad2, q2, hel2, hry, _⟩ := hv_
  refine elem_intro hel (elem_intro hel2 ?_)
  refine call_gives (orderFacts_spec hrx hry) ?_
  refine ifnd (fun h => ret_gives (isF fun e => h ?_) rfl) (fun h => ?_)
  ·subst e
   rw [hx] at hy; cases hy
   exact (cmpF_ord.zero _ _).2 rfl
  ·refine num64 (by omega) (by omega) ⟨k + 1, ⟨by omega, fun j hj => ?_⟩, by omega, ⟨⟨rfl, rfl, rfl, rfl, trivial⟩, trivial, rfl, rfl⟩⟩
   rcases Nat.lt_or_ge j k with h6 | h6
   ·exact hall j h6
   ·obtain rfl : j = k := by omega
    rw [hx, hy, (cmpF_ord.zero _ _).1 h]
 ·obtain rfl : k = L.length := by omega
  refine ret_gives (isT (List.ext_getElem? fun j => ?_)) rfl
  rcases Nat.lt_or_ge j L.length with h6 | h6
  ·exact hall j h6
  ·rw [List.getElem?_eq_none h6, List.getElem?_eq_none (by omega)]
end
theorem all_take {α : Type} {l : List α} {j : Nat} {x : α} {P : α → Prop} (h : l[j]? = some x) : (∀ y ∈ l.take (j + 1), P y) ↔ (∀ y ∈ l.take j, P y) ∧ P x := by
 rw [List.take_add_one, h, Option.toList_some]
 constructor
 ·exact fun k => ⟨fun y hy => k y (List.mem_append_left _ hy), k x (by simp)⟩
 ·rintro ⟨h1, h2⟩ y hy
  rcases List.mem_append.1 hy with k | k
  ·exact h1 y k
  ·rw [List.mem_singleton.1 k]; exact h2
section
variable {μ : Mem}
set_option maxHeartbeats 1000000 in
theorem unless_spec {rs : List Ru} {S : List F} {b b3 : Option Addr} {c c3 : Nat} (hr : Sl μ 6 b3 rs.length ((rs.map Ru.rd).map RuD.d)) (hn : rs.length ≤ 10000000) (hS : Asc3 cmpF S) (hSn : S.length ≤ 1000000000) (hs : Sl μ 2 b S.length ((S.map F.fc).map Fc.d)) :
  Spec Tryz.prog 115 [.slice b3 rs.length c3, .slice b S.length c] μ fun r μ' => RsV μ' (unlessR rs S) r := by
 refine Spec.mk Tryz.func115 (by kernel_rfl) ?_
 intro r13
 refine loop_intro (fun z : Nat × Option Nat × Nat × List Value => z.1 ≤ rs.length ∧ Rows μ 6 (((unlessR (rs.take z.1) S).map Ru.rd).map RuD.d) z.2.2.2)
  (fun (i, bo, co, ys) => ⟨[(1, .val (.slice b S.length c)), (5, .row 0 bo ys.length co), (12, .val (.slice b3 rs.length c3)), (13, .val (.int .i64 rs.length)), (14, .val (.int .i64 i))], [(0, some (.row bo co 126 6 ys))], 1, μ, Mem.nil⟩) (fun z => rs.length - z.1)
  (0, some r13, 0, []) ⟨Nat.zero_le _, by simpa [unlessR] using .nil⟩ (fun (_, _, _, _) => ⟨rfl, rfl⟩) ⟨⟨rfl, rfl, rfl, rfl, rfl, trivial⟩, ⟨rfl, trivial⟩, rfl, rfl⟩ ?_
 rintro ⟨i, bo, co, ys⟩ ⟨hi, hrows⟩
 dsimp only at hi hrows
 have hyl := hrows.len
 simp only [List.length_map] at hyl
 have hhl := unlessR_len (rs.take i) S
 rw [List.length_take] at hhl
 refine ifd (fun hlt => ?_) (fun hlt => ?_)
 rotate_left
 ·obtain rfl : i = rs.length := by omega
  rw [List.take_length] at hrows
  refine ret_frz [0] fun μ2 hle2 hno2 hrow2 => .inl ?_
  exact Rows.sl hrow2 (hrows.mono hle2) (Nat.le_trans (m := 100000000) (by omega) (by decide))
 have hv_ := at_some (l := rs) (i := i) (by omega)
 obtain ⟨r, hri⟩ := hv_
 have hv_ := Ru.elem hr hri
 obtain ⟨ad, p, hel, hrv, hat⟩ := hv_
 have hsucc := unlessR_take (S := S) hri
 refine elem_intro hel ?_
 intro r7
 have hmn := maxLen_le hat.neg.max
 refine loop_intro (fun z : Nat × Bool => z.1 ≤ r.neg.length ∧ (z.2 = true ↔ ∀ f ∈ r.neg.take z.1, f ∉ S))
  (fun (j, fine) => ⟨[(1, .val (.slice b S.length c)), (5, .row 0 bo ys.length co), (7, .loc 1 r7 0), (8, .val (.bool fine)), (12, .val (.slice b3 rs.length c3)), (13, .val (.int .i64 rs.length)), (14, .val (.int .i64 i)), (19, .val (.slice p.2.2.2.1 r.neg.length p.2.2.2.2)), (20, .val (.int .i64 r.neg.length)), (21, .val (.int .i64 j))],
   [(0, some (.row bo co 126 6 ys)), (1, some (.cells r7 (vals (r.cs p)) 126))], 2, μ, Mem.nil⟩) (fun z => r.neg.length - z.1)
  (0, true) ⟨Nat.zero_le _, by simp⟩ (fun (_, _) => ⟨rfl, rfl⟩) ⟨⟨rfl, rfl, rfl, rfl, rfl, rfl, rfl, rfl, rfl, rfl, trivial⟩, ⟨rfl, rfl, trivial⟩, rfl, rfl⟩ ?_
 rintro ⟨j, fine⟩ ⟨hj, hfine⟩
 dsimp only at hj hfine
 refine ifd (fun hlt2 => ?_) (fun hlt2 => ?_)
 ·have hv_ := at_some (l := r.neg) (i := j) (by omega)
  obtain ⟨f, hf⟩ := hv_
  have hv_ := F.elem hat.neg hf
  obtain ⟨ad2, p2, hel2, hrf, _⟩ := hv_
  have hstep := all_take (P := fun f => f ∉ S) hf
  refine elem_intro hel2 ?_
  intro r10
  refine if_intro (fun hk => ?_) (fun hk => ?_)
  ·refine call_gives (hasFact_spec hS hSn hs hrf) ?_
   refine num64 (by omega) (by omega) ⟨(j + 1, !decide (f ∈ S)), ⟨by dsimp only; omega, ?_⟩, by dsimp only; omega, ⟨⟨rfl, rfl, rfl, rfl, rfl, rfl, rfl, rfl, rfl, rfl, trivial⟩, ⟨rfl, rfl, trivial⟩, rfl, rfl⟩⟩
   dsimp only
   rw [hstep, ← hfine, Bool.not_eq_true', decide_eq_false_iff_not]
   exact ⟨fun h => ⟨hk, h⟩, fun h => h.2⟩
  ·refine num64 (by omega) (by omega) ⟨(j + 1, false), ⟨by dsimp only; omega, ?_⟩, by dsimp only; omega, ⟨⟨rfl, rfl, rfl, rfl, rfl, rfl, rfl, rfl, rfl, rfl, trivial⟩, ⟨rfl, rfl, trivial⟩, rfl, rfl⟩⟩
   dsimp only
   rw [hstep, ← hfine, hk]
   simp
 obtain rfl : j = r.neg.length := by omega
 rw [List.take_length] at hfine
 refine if_intro (fun hk => ?_) (fun hk => ?_)
 ·rw [if_pos (hfine.1 hk)] at hsucc
  intro r53
  refine grow_intro ?_ ?_ fun b' c' _ => ?_
  ·show (ys.length + 1) * 120 ≤ _; omega
  ·exact Nat.le_trans (m := 100000000) (show ys.length + 1 ≤ _ by omega) (by decide)
  refine num64 (by omega) (by omega) ⟨(i + 1, b', c', _), ⟨by dsimp only; omega, ?_⟩, by dsimp only; omega, ⟨⟨rfl, rfl, rfl, rfl, rfl, trivial⟩, ⟨rfl, trivial⟩, rfl, rfl⟩⟩
  dsimp only
  rw [hsucc]
  simp only [List.map_append, List.map_cons, List.map_nil]
  exact hrows.append (Rows.one hrv (RuD.d_n _))
 ·rw [if_neg (fun k => by rw [hfine.2 k] at hk; cases hk), List.append_nil] at hsucc
  refine num64 (by omega) (by omega) ⟨(i + 1, bo, co, ys), ⟨by dsimp only; omega, ?_⟩, by dsimp only; omega, ⟨⟨rfl, rfl, rfl, rfl, rfl, trivial⟩, ⟨rfl, trivial⟩, rfl, rfl⟩⟩
  dsimp only
  rw [hsucc]; exact hrows
set_option maxHeartbeats 1000000 in
theorem grow_spec {rs : List Ru} {base : List F} {v : Value} {b3 : Option Addr} {c3 : Nat} (hr : Sl μ 6 b3 rs.length ((rs.map Ru.rd).map RuD.d)) (hn : rs.length ≤ 3000000) (h : FsV μ base v) (hbn : base.length ≤ 3000000) :
  Spec Tryz.prog 114 [.slice b3 rs.length c3, v] μ fun r μ' => FsV μ' (lfp rs base) r := by
 have hv_ := FsV.sl h
 obtain ⟨b, c, rfl, hlc, hs⟩ := hv_
 refine Spec.mk Tryz.func114 (by kernel_rfl) ?_
 refine call_plain (sortFacts_spec h (by omega)) fun v1 μ1 hle1 hR1 => ?_
 have hv_ := FsV.sl hR1
 obtain ⟨b1, c1, rfl, -, -⟩ := hv_
 refine loop_intro (fun z : List F × Option Addr × Nat × Mem => BasI rs base z.1 ∧ μ1.Le z.2.2.2 ∧ FsV z.2.2.2 z.1 (.slice z.2.1 z.1.length z.2.2.1))
  (fun (out, b4, c4, μ') => ⟨[(0, .val (.slice b3 rs.length c3)), (5, .val (.slice b4 out.length c4))], [], 0, μ', Mem.nil⟩) (fun z => base.length + rs.length - z.1.length)
  (ascF base, b1, c1, μ1) ⟨BasI.start rs base, Mem.Le.refl _, hR1⟩ (fun (_, _, _, _) => ⟨rfl, rfl⟩) ⟨⟨rfl, rfl, trivial⟩, trivial, rfl, rfl⟩ ?_
 rintro ⟨out, b4, c4, μ'⟩ ⟨hI, hle, hout⟩
 dsimp only at hI hle hout
 have hv_ := FsV.sl hout
 obtain ⟨b5, c5, e, -, hso⟩ := hv_
 have hv_ := Value.slice.inj e
 obtain ⟨rfl, _, rfl⟩ := hv_
 have hol := hI.len
 have hv_ := Rep.srcAll hout
 obtain ⟨vs, hvrows, hvl, hsrc⟩ := hv_
 have hr' := (hr.mono hle1).mono hle
 intro r14
 refine src_intro _ hsrc ?_
 refine grow_intro ?_ ?_ fun bn cn _ => ?_
 ·show (0 + _) * 40 ≤ _; omega
 ·exact Nat.le_trans (m := 100000000) (show 0 + vs.length ≤ _ by omega) (by decide)
 refine loop_intro (fun z : Nat × Option Nat × Nat × List Value => z.1 ≤ rs.length ∧ Rows μ' 2 (((out ++ growL rs out z.1).map F.fc).map Fc.d) z.2.2.2)
  (fun (i, bo, co, ys) => ⟨[(0, .val (.slice b3 rs.length c3)), (5, .val (.slice b4 out.length c4)), (6, .row 0 bo ys.length co), (17, .val (.slice b3 rs.length c3)), (18, .val (.int .i64 rs.length)), (19, .val (.int .i64 i))], [(0, some (.row bo co 67 2 ys))], 1, μ', Mem.nil⟩) (fun z => rs.length - z.1)
  (0, bn, cn, [] ++ vs) ⟨Nat.zero_le _, by simpa [growL] using hvrows⟩ (fun (_, _, _, _) => ⟨rfl, rfl⟩) ⟨⟨rfl, rfl, rfl, rfl, rfl, rfl, trivial⟩, ⟨rfl, trivial⟩, rfl, rfl⟩ ?_
 rintro ⟨i, bo, co, ys⟩ ⟨hi, hrows⟩
 dsimp only at hi hrows
 have hyl := hrows.len
 simp only [List.length_map, List.length_append] at hyl
 have hhl := growL_len rs out i
 refine ifd (fun hlt => ?_) (fun hlt => ?_)
 rotate_left
 ·obtain rfl : i = rs.length := by omega
  refine call_frz [0] ?_
  intro μ2 hle2 hno2 hat2
  have hrep := Rows.sl hat2 (hrows.mono hle2) (Nat.le_trans (m := 100000000) (by omega) (by decide))
  refine call_go (sortFacts_spec hrep (by rw [List.length_append]; omega)) fun v3 μ3 hle3 hR => ?_
  have hR : FsV μ3 (growF rs out) v3 := hR
  have hv_ := FsV.sl hR
  obtain ⟨b6, c6, rfl, -, -⟩ := hv_
  have hgl := hI.next.len
  refine ifd (fun he => ?_) (fun he => ?_)
  ·refine ret_plain ?_
   rw [← hI.done (by omega)]
   exact RepV.mono (hle2.trans hle3) hout
  ·have := hI.more (by omega)
   exact ⟨(growF rs out, b6, c6, μ3), ⟨hI.next, hle.trans (hle2.trans hle3), hR⟩, by dsimp only; omega, ⟨⟨rfl, rfl, trivial⟩, trivial, rfl, rfl⟩⟩
 have hv_ := at_some (l := rs) (i := i) (by omega)
 obtain ⟨r, hri⟩ := hv_
 have hv_ := Ru.elem hr' hri
 obtain ⟨ad, p, hel, hrv, hat⟩ := hv_
 have hsucc := growL_succ (out := out) hri
 refine elem_intro hel ?_
 intro r7
 have hmp := maxLen_le hat.pos.max
 refine call_gives (hasFact_spec hI.asc (by omega) hso hat.head) ?_
 refine loop_intro (fun z : Nat × Bool => z.1 ≤ r.pos.length ∧ (z.2 = true ↔ r.head ∉ out ∧ ∀ f ∈ r.pos.take z.1, f ∈ out))
  (fun (j, fine) => ⟨[(0, .val (.slice b3 rs.length c3)), (5, .val (.slice b4 out.length c4)), (6, .row 0 bo ys.length co), (8, .loc 1 r7 0), (9, .val (.bool fine)), (17, .val (.slice b3 rs.length c3)), (18, .val (.int .i64 rs.length)), (19, .val (.int .i64 i)), (29, .val (.slice p.2.2.1.1 r.pos.length p.2.2.1.2)), (30, .val (.int .i64 r.pos.length)), (31, .val (.int .i64 j))],
   [(0, some (.row bo co 67 2 ys)), (1, some (.cells r7 (vals (r.cs p)) 126))], 2, μ', Mem.nil⟩) (fun z => r.pos.length - z.1)
  (0, !decide (r.head ∈ out)) ⟨Nat.zero_le _, by simp⟩ (fun (_, _) => ⟨rfl, rfl⟩) ⟨⟨rfl, rfl, rfl, rfl, rfl, rfl, rfl, rfl, rfl, rfl, rfl, trivial⟩, ⟨rfl, rfl, trivial⟩, rfl, rfl⟩ ?_
 rintro ⟨j, fine⟩ ⟨hj, hfine⟩
 dsimp only at hj hfine
 refine ifd (fun hlt2 => ?_) (fun hlt2 => ?_)
 ·have hv_ := at_some (l := r.pos) (i := j) (by omega)
  obtain ⟨f, hf⟩ := hv_
  have hv_ := F.elem hat.pos hf
  obtain ⟨ad2, p2, hel2, hrf, _⟩ := hv_
  have hstep := all_take (P := fun f => f ∈ out) hf
  refine elem_intro hel2 ?_
  intro r10
  refine if_intro (fun hk => ?_) (fun hk => ?_)
  ·refine call_gives (hasFact_spec hI.asc (by omega) hso hrf) ?_
   refine num64 (by omega) (by omega) ⟨(j + 1, decide (f ∈ out)), ⟨by dsimp only; omega, ?_⟩, by dsimp only; omega, ⟨⟨rfl, rfl, rfl, rfl, rfl, rfl, rfl, rfl, rfl, rfl, rfl, trivial⟩, ⟨rfl, rfl, trivial⟩, rfl, rfl⟩⟩
   dsimp only
   rw [hstep, ← and_assoc, ← hfine, decide_eq_true_eq]
   exact ⟨fun h => ⟨hk, h⟩, fun h => h.2⟩
  ·refine num64 (by omega) (by omega) ⟨(j + 1, false), ⟨by dsimp only; omega, ?_⟩, by dsimp only; omega, ⟨⟨rfl, rfl, rfl, rfl, rfl, rfl, rfl, rfl, rfl, rfl, rfl, trivial⟩, ⟨rfl, rfl, trivial⟩, rfl, rfl⟩⟩
   dsimp only
   rw [hstep, ← and_assoc, ← hfine, hk]
   simp
 obtain rfl : j = r.pos.length := by omega
 rw [List.take_length] at hfine
 refine if_intro (fun hk => ?_) (fun hk => ?_)
 ·rw [if_pos (hfine.1 hk)] at hsucc
  intro r53
  refine grow_intro ?_ ?_ fun b' c' _ => ?_
  ·show (ys.length + 1) * 40 ≤ _; omega
  ·exact Nat.le_trans (m := 100000000) (show ys.length + 1 ≤ _ by omega) (by decide)
  refine num64 (by omega) (by omega) ⟨(i + 1, b', c', _), ⟨by dsimp only; omega, ?_⟩, by dsimp only; omega, ⟨⟨rfl, rfl, rfl, rfl, rfl, rfl, trivial⟩, ⟨rfl, trivial⟩, rfl, rfl⟩⟩
  dsimp only
  rw [hsucc, ← List.append_assoc, List.map_append (l₂ := [r.head]), List.map_append (l₂ := [r.head].map F.fc)]
  exact hrows.append (Rows.one hat.head (Fc.d_n _))
 ·rw [if_neg (fun k => by rw [hfine.2 k] at hk; cases hk), List.append_nil] at hsucc
  refine num64 (by omega) (by omega) ⟨(i + 1, bo, co, ys), ⟨by dsimp only; omega, ?_⟩, by dsimp only; omega, ⟨⟨rfl, rfl, rfl, rfl, rfl, rfl, trivial⟩, ⟨rfl, trivial⟩, rfl, rfl⟩⟩
  dsimp only
  rw [hsucc]; exact hrows
theorem reduct_spec {rs : List Ru} {S : List F} {b b3 : Option Addr} {c c3 : Nat} (hr : Sl μ 6 b3 rs.length ((rs.map Ru.rd).map RuD.d)) (hn : rs.length ≤ 3000000) (hS : Asc3 cmpF S) (hSn : S.length ≤ 1000000000) (hs : Sl μ 2 b S.length ((S.map F.fc).map Fc.d)) :
  Spec Tryz.prog 99 [.slice b3 rs.length c3, .slice b S.length c] μ fun r μ' => FsV μ' (gam rs S) r := by
 refine Spec.mk Tryz.func99 (by kernel_rfl) ?_
 refine call_plain (unless_spec hr (by omega) hS hSn hs) fun v1 μ1 hle1 hR1 => ?_
 have hv_ := RsV.sl hR1
 obtain ⟨b1, c1, rfl, hs1⟩ := hv_
 have := unlessR_len rs S
 refine call_plain (grow_spec hs1 (by omega) (FsV.nil none 0) (Nat.zero_le _)) fun v2 μ2 hle2 hR2 => ?_
 exact ret_plain hR2
end
end Go.Vx
namespace Go.Vx
open Go.Proofs Classical
theorem lfp_ok {p : Pg} {rs : List Ru} {base : List F} (hr : ∀ r ∈ rs, RuOk p r) (hb : FsOk p base) : FsOk p (lfp rs base) := fun f hf => by
 cases mem_lfp.1 hf with
 | base h => exact hb _ h
 | rule h _ => exact (hr _ h).head
theorem gam_ok {p : Pg} {rs : List Ru} {S : List F} (hr : ∀ r ∈ rs, RuOk p r) : FsOk p (gam rs S) := lfp_ok (fun r h => hr r (mem_unlessR.1 h).1) (fun _ h => nomatch h)
def optFs (P : List F → Value → Prop) (o : Option (List F)) (v : Value) : Prop := match o with
 | some y => ∃ tv, v = .tuple #[tv, .bool true] ∧ P y tv
 | none => v = .tuple #[.slice none 0 0, .bool false]
noncomputable def reductM (p : Pg) (u : List Tm) (l : List Fc) : Option (List F) := (groundO p u).bind fun rs => if ∀ f ∈ l, FactFits p f then some (gam rs (l.map Fc.f)) else none
theorem reductM_ok {p : Pg} {u : List Tm} {l : List Fc} {y : List F} (h : reductM p u l = some y) : p.Ok ∧ FsOk p y ∧ y.length ≤ 2000 ∧ ∀ f ∈ l, FactFits p f := by
 rw [reductM] at h
 cases hg : groundO p u with
 | none => rw [hg] at h; cases h
 | some rs =>
  rw [hg, Option.bind_some] at h
  have hv_ := groundO_ok hg
  obtain ⟨h1, h2⟩ := hv_
  split at h
  ·rename_i hf
   cases h
   exact ⟨(groundO_some hg).1, gam_ok h2, Nat.le_trans (gam_len _ _) h1, hf⟩
  ·cases h
section
variable {μ : Mem}
theorem rulesFor_spec {p : Pg} {u : List Tm} {v : Value} {ub : Option Addr} {uc : Nat} (hp : RepV μ p.d v) (hu : Sl μ 4 ub u.length (u.map Tm.d)) :
  Spec Tryz.prog 98 [v, .slice ub u.length uc] μ fun v μ' => optRu (fun y tv => RsV μ' y tv) (groundO p u) v := by
 have hp0 := hp
 have hv_ := Pg.inv hp
 obtain ⟨q, rfl, hrl⟩ := hv_
 refine Spec.mk Tryz.func98 (by kernel_rfl) ?_
 intro r2
 refine call_plain (impl_ProgramOk_spec hp0) fun v1 μ1 hle1 hR => ?_
 obtain rfl := hR
 refine ifnd (fun h => ret_plain (by rw [groundO, if_neg fun k => h k.1]; rfl)) (fun hok => ?_)
 refine call_gives (impl_UniverseOk_spec (hu.mono hle1)) ?_
 refine ifnd (fun h => ret_plain (by rw [groundO, if_neg fun k => h k.2]; rfl)) (fun huok => ?_)
 have hv_ := huok.lift
 obtain ⟨U, rfl, hUg, hUl⟩ := hv_
 have hgo : groundO p (U.map T.tm) = groundR p U := by rw [groundO, if_pos ⟨hok, huok⟩, toTs_tm]
 rw [hgo]
 have h1 := huok.pos
 have h8 := huok.max
 rw [List.length_map] at h1 h8 hu ⊢
 refine call_plain (groundRules_spec (hp0.mono hle1) hok (hu.mono hle1) h1 h8) fun v2 μ2 hle2 hR => ?_
 cases hL : groundR p U with
 | none =>
  rw [hL] at hR
  obtain rfl := hR
  exact ret_plain rfl
 | some y =>
  rw [hL] at hR
  obtain ⟨tv, rfl, hR⟩ := hR
  exact ret_plain ⟨tv, rfl, hR⟩
theorem impl_ReductModel_spec {p : Pg} {u : List Tm} {l : List Fc} {v : Value} {ub fb : Option Addr} {uc fc : Nat} (hp : RepV μ p.d v) (hu : Sl μ 4 ub u.length (u.map Tm.d)) (hb : RepV μ (.sl 2 (l.map Fc.d)) (.slice fb l.length fc)) (hn : l.length ≤ 2000000) :
  Spec Tryz.prog 48 [v, .slice ub u.length uc, .slice fb l.length fc] μ fun v μ' => optFs (fun y tv => Fresh μ μ' (.sl 2 ((y.map F.fc).map Fc.d)) tv) (reductM p u l) v := by
 have hp0 := hp
 have hv_ := Pg.inv hp
 obtain ⟨q, rfl, hrl⟩ := hv_
 have hb0 := hb
 have hbs := fcs_sl hb
 refine Spec.mk Tryz.func48 (by kernel_rfl) ?_
 intro r3
 refine call_plain (rulesFor_spec hp0 hu) fun v1 μ1 hle1 hR => ?_
 cases hL : groundO p u with
 | none =>
  rw [hL] at hR
  obtain rfl := hR
  exact if_intro (fun _ => ret_plain (by rw [reductM, hL]; rfl)) (fun h => nomatch h)
 | some rs =>
 rw [hL] at hR
 obtain ⟨tv, rfl, hR⟩ := hR
 have hv_ := RsV.sl hR
 obtain ⟨b1, c1, rfl, hrs⟩ := hv_
 have hv_ := groundO_ok hL
 obtain ⟨hrl2, hro⟩ := hv_
 have hpo := (groundO_some hL).1
 refine if_intro (fun h => nomatch h) (fun _ => ?_)
 refine loop_intro (fun i : Nat => i ≤ l.length ∧ ∀ f ∈ l.take i, FactFits p f)
  (fun i => ⟨[(2, .val (.slice fb l.length fc)), (3, .loc 0 r3 0), (8, .val (.slice b1 rs.length c1)), (20, .val (.slice fb l.length fc)), (21, .val (.int .i64 l.length)), (22, .val (.int .i64 i))], [(0, some (.cells r3 [.val (.slice q.1 p.rels.length q.2)] 32))], 1, μ1, Mem.nil⟩) (fun i => l.length - i)
  0 ⟨Nat.zero_le _, by simp⟩ (fun _ => ⟨rfl, rfl⟩) ⟨⟨rfl, rfl, rfl, rfl, rfl, rfl, trivial⟩, ⟨rfl, trivial⟩, rfl, rfl⟩ ?_
 rintro i ⟨hi, hall⟩
 refine ifd (fun hlt => ?_) (fun hlt => ?_)
 ·have hv_ := at_some (l := l) (i := i) (by omega)
  obtain ⟨f, hf⟩ := hv_
  have hv_ := Fc.elemA (hbs.mono hle1) hf
  obtain ⟨ad, q2, hel, hrf, _⟩ := hv_
  refine elem_intro hel ?_
  intro r11
  refine call_gives (factFits_spec (hp0.mono hle1) hrf) ?_
  refine ifnd (fun h => ret_plain (by rw [reductM, hL, Option.bind_some, if_neg fun k => h (k f (mem_at hf))]; rfl)) (fun h => ?_)
  exact num64 (by omega) (by omega) ⟨i + 1, ⟨by omega, take_all_at hall hf h⟩, by omega, ⟨⟨rfl, rfl, rfl, rfl, rfl, rfl, trivial⟩, ⟨rfl, trivial⟩, rfl, rfl⟩⟩
 obtain rfl : i = l.length := by omega
 rw [List.take_length] at hall
 have hlift := facts_lift hall
 have hb1 : FsV μ1 (l.map Fc.f) (.slice fb l.length fc) := by
  show RepV μ1 (.sl 2 (((l.map Fc.f).map F.fc).map Fc.d)) _
  rw [hlift]; exact RepV.mono hle1 hb0
 refine call_plain (sortFacts_spec hb1 (by rw [List.length_map]; omega)) fun v2 μ2 hle2 hR2 => ?_
 have hv_ := FsV.sl hR2
 obtain ⟨b2, c2, rfl, -, hs2⟩ := hv_
 have hsl := ascF_len (l.map Fc.f)
 rw [List.length_map] at hsl
 refine call_plain (reduct_spec (hrs.mono hle2) (by omega) (ascF_asc _) (by omega) hs2) fun v3 μ3 hle3 hR3 => ?_
 have e : gam rs (ascF (l.map Fc.f)) = gam rs (l.map Fc.f) := by rw [gam, gam, unlessR_congr fun f => mem_ascF]
 rw [e] at hR3
 have hgl := gam_len rs (l.map Fc.f)
 have hgo := (gam_ok (S := l.map Fc.f) hro).len hpo
 refine call_plain (copyFacts_spec hR3 (by omega) fun f hf => Nat.le_trans (hgo f hf) (by decide)) fun v4 μ4 hle4 hR4 => ?_
 refine ret_plain ?_
 rw [reductM, hL, Option.bind_some, if_pos hall]
 exact ⟨_, rfl, hR4.mono ((hle1.trans hle2).trans hle3) (Mem.Le.refl _)⟩
theorem spec_ReductModel_spec {p : Pg} {u : List Tm} {l : List Fc} {v : Value} {ub fb : Option Addr} {uc fc : Nat} (hp : RepV μ p.d v) (hw : p.d.wd) (hu : Sl μ 4 ub u.length (u.map Tm.d)) (hwu : D.wds (u.map Tm.d)) (hb : RepV μ (.sl 2 (l.map Fc.d)) (.slice fb l.length fc)) (hwb : D.wds (l.map Fc.d)) :
  Spec Tryz.prog 47 [v, .slice ub u.length uc, .slice fb l.length fc] μ fun v μ' => optFs (fun y tv => FsV μ' y tv) (reductM p u l) v := by
 have hp0 := hp
 have hv_ := Pg.inv hp
 obtain ⟨q, rfl, hrl⟩ := hv_
 have hb0 := hb
 have hbs := fcs_sl hb
 refine Spec.mk Tryz.func47 (by kernel_rfl) ?_
 intro r3
 refine call_plain (spec_GroundRules_spec hp0 hw hu hwu) fun v1 μ1 hle1 hR => ?_
 cases hL : groundO p u with
 | none =>
  rw [hL] at hR
  obtain rfl := hR
  refine if_intro (fun _ => ret_plain (by rw [reductM, hL]; rfl)) (fun h => nomatch h)
 | some rs =>
 rw [hL] at hR
 obtain ⟨tv, rfl, hR⟩ := hR
 have hR : RsV μ1 rs tv := hR
 have hv_ := RsV.sl hR
 obtain ⟨b1, c1, rfl, hrs⟩ := hv_
 have hv_ := groundO_ok hL
 obtain ⟨hrl2, hro⟩ := hv_
 have hpo := (groundO_some hL).1
 refine if_intro (fun h => nomatch h) (fun _ => ?_)
 refine call_plain (l19FactsOk_spec (hp0.mono hle1) hw (hbs.mono hle1) hwb) fun v2 μ2 hle2 hR2 => ?_
 obtain rfl := hR2
 refine ifnd (fun h => ret_plain (by rw [reductM, hL, Option.bind_some, if_neg fun k => h fun f hf => ⟨hpo, k f hf⟩]; rfl)) (fun hall => ?_)
 have hall : ∀ f ∈ l, FactFits p f := fun f hf => (hall f hf).2
 have hlift := facts_lift hall
 have hb1 : FsV μ2 (l.map Fc.f) (.slice fb l.length fc) := by
  show RepV μ2 (.sl 2 (((l.map Fc.f).map F.fc).map Fc.d)) _
  rw [hlift]; exact RepV.mono (hle1.trans hle2) hb0
 have hv_ := FsV.sl hb1
 obtain ⟨b3, c3, e, -, hs3⟩ := hv_
 have hv_ := Value.slice.inj e
 obtain ⟨rfl, e2, rfl⟩ := hv_
 rw [e2]
 refine call_plain (l29Reduct_spec (hrs.mono hle2) (by omega) hs3) fun v3 μ3 hle3 hR3 => ?_
 have hgl := gam_len rs (l.map Fc.f)
 have hgo := (gam_ok (S := l.map Fc.f) hro).len hpo
 have hv_ := FsV.sl hR3
 obtain ⟨b4, c4, rfl, -, hs4⟩ := hv_
 refine call_plain (l18Copy_spec hs4 (by omega) fun f hf => Nat.le_trans (hgo f hf) (by decide)) fun v4 μ4 hle4 hR4 => ?_
 refine ret_plain ?_
 rw [reductM, hL, Option.bind_some, if_pos hall]
 exact ⟨_, rfl, hR4⟩
end
end Go.Vx
namespace Go.Vx
open Go.Proofs Classical
def StableP (p : Pg) (u : List Tm) (l : List Fc) : Prop := ∃ y, reductM p u l = some y ∧ ∀ x, x ∈ y ↔ x ∈ l.map Fc.f
theorem reductM_asc {p : Pg} {u : List Tm} {l : List Fc} {y : List F} (h : reductM p u l = some y) : Asc3 cmpF y := by
 rw [reductM] at h
 cases hg : groundO p u with
 | none => rw [hg] at h; cases h
 | some rs =>
  rw [hg, Option.bind_some] at h
  split at h
  ·cases h; exact gam_asc _ _
  ·cases h
section
variable {μ : Mem}
theorem impl_IsStable_spec {p : Pg} {u : List Tm} {l : List Fc} {v : Value} {ub fb : Option Addr} {uc fc : Nat} (hp : RepV μ p.d v) (hu : Sl μ 4 ub u.length (u.map Tm.d)) (hb : RepV μ (.sl 2 (l.map Fc.d)) (.slice fb l.length fc)) (hn : l.length ≤ 2000000) :
  Spec Tryz.prog 33 [v, .slice ub u.length uc, .slice fb l.length fc] μ fun v _ => v = .bool (decide (StableP p u l)) := by
 have hp0 := hp
 have hv_ := Pg.inv hp
 obtain ⟨q, rfl, hrl⟩ := hv_
 refine Spec.mk Tryz.func33 (by kernel_rfl) ?_
 intro r3
 refine call_plain (impl_ReductModel_spec hp0 hu hb hn) fun v1 μ1 hle1 hR => ?_
 cases hL : reductM p u l with
 | none =>
  rw [hL] at hR
  obtain rfl := hR
  refine if_intro (fun h => nomatch h) (fun _ => ret_plain (isF fun k => ?_))
  obtain ⟨y, hy, _⟩ := k
  rw [hL] at hy; cases hy
 | some y =>
  rw [hL] at hR
  obtain ⟨tv, rfl, hR⟩ := hR
  have hR : FsV μ1 y tv := hR.rep
  have hv_ := FsV.sl hR
  obtain ⟨b1, c1, rfl, -, hs1⟩ := hv_
  have hk := reductM_ok hL
  have hlift := facts_lift hk.2.2.2
  have hb1 : FsV μ1 (l.map Fc.f) (.slice fb l.length fc) := by
   show RepV μ1 (.sl 2 (((l.map Fc.f).map F.fc).map Fc.d)) _
   rw [hlift]; exact RepV.mono hle1 hb
  refine if_intro (fun _ => ?_) (fun h => nomatch h)
  refine call_plain (sortFacts_spec hb1 (by rw [List.length_map]; omega)) fun v2 μ2 hle2 hR2 => ?_
  have hv_ := FsV.sl hR2
  obtain ⟨b2, c2, rfl, -, hs2⟩ := hv_
  refine call_gives (sameFacts_spec (hs1.mono hle2) hs2) ?_
  refine ret_plain (isI ?_)
  constructor
  ·intro e
   exact ⟨y, hL, fun x => by rw [e, mem_ascF]⟩
  ·rintro ⟨y', hy, h⟩
   rw [hL] at hy; cases hy
   exact (reductM_asc hL).uniq cmpF_ord (ascF_asc _) fun x => by rw [h, mem_ascF]
theorem spec_IsStable_spec {p : Pg} {u : List Tm} {l : List Fc} {v : Value} {ub fb : Option Addr} {uc fc : Nat} (hp : RepV μ p.d v) (hw : p.d.wd) (hu : Sl μ 4 ub u.length (u.map Tm.d)) (hwu : D.wds (u.map Tm.d)) (hb : RepV μ (.sl 2 (l.map Fc.d)) (.slice fb l.length fc)) (hwb : D.wds (l.map Fc.d)) :
  Spec Tryz.prog 30 [v, .slice ub u.length uc, .slice fb l.length fc] μ fun v _ => v = .bool (decide (StableP p u l)) := by
 have hp0 := hp
 have hv_ := Pg.inv hp
 obtain ⟨q, rfl, hrl⟩ := hv_
 have hbs := fcs_sl hb
 have hm := maxLen_le hbs.max
 refine Spec.mk Tryz.func30 (by kernel_rfl) ?_
 intro r3
 refine call_plain (spec_ReductModel_spec hp0 hw hu hwu hb hwb) fun v1 μ1 hle1 hR => ?_
 have hbs1 := hbs.mono hle1
 cases hL : reductM p u l with
 | none =>
  rw [hL] at hR
  obtain rfl := hR
  refine loop_intro (fun k : Nat => k ≤ l.length)
   (fun k => ⟨[(2, .val (.slice fb l.length fc)), (7, .val (.slice none 0 0)), (8, .val (.bool false)), (20, .val (.slice fb l.length fc)), (21, .val (.int .i64 l.length)), (22, .val (.int .i64 k))], [], 1, μ1, Mem.nil⟩) (fun k => l.length - k)
   0 (Nat.zero_le _) (fun _ => ⟨rfl, rfl⟩) ⟨⟨rfl, rfl, rfl, rfl, rfl, rfl, trivial⟩, trivial, rfl, rfl⟩ ?_
  rintro k hk
  refine ifd (fun hlt => ?_) (fun hlt => ?_)
  ·have hv_ := at_some (l := l) (i := k) (by omega)
   obtain ⟨f, hf⟩ := hv_
   have hv_ := Fc.elemA hbs1 hf
   obtain ⟨ad, q2, hel, _, _⟩ := hv_
   refine elem_intro hel ?_
   intro r10
   refine if_intro (fun h => nomatch h) (fun _ => ?_)
   exact num64 (by omega) (by omega) ⟨k + 1, by omega, by omega, ⟨⟨rfl, rfl, rfl, rfl, rfl, rfl, trivial⟩, trivial, rfl, rfl⟩⟩
  ·refine loop_intro (fun _ : Unit => True)
    (fun _ => ⟨[(2, .val (.slice fb l.length fc)), (8, .val (.bool false)), (33, .val (.slice none 0 0)), (34, .val (.int .i64 0)), (35, .val (.int .i64 0))], [], 1, μ1, Mem.nil⟩) (fun _ => 0)
    () trivial (fun _ => ⟨rfl, rfl⟩) ⟨⟨rfl, rfl, rfl, rfl, rfl, trivial⟩, trivial, rfl, rfl⟩ ?_
   intro _ _
   refine ifd (fun h => absurd h (by decide)) (fun _ => ret_plain (isF fun k => ?_))
   obtain ⟨y, hy, _⟩ := k
   rw [hL] at hy; cases hy
 | some y =>
 rw [hL] at hR
 obtain ⟨tv, rfl, hR⟩ := hR
 have hv_ := FsV.sl hR
 obtain ⟨b1, c1, rfl, -, hs1⟩ := hv_
 have hk := reductM_ok hL
 have hlift := facts_lift hk.2.2.2
 generalize hLe : l.map Fc.f = L at hlift
 subst hlift
 rw [List.length_map] at hm
 have hs : Sl μ1 2 fb L.length ((L.map F.fc).map Fc.d) := by rw [List.length_map] at hbs1; exact hbs1
 have hyl := hk.2.2.1
 refine loop_intro (fun z : Nat × Bool => z.1 ≤ L.length ∧ (z.2 = true ↔ ∀ f ∈ L.take z.1, f ∈ y))
  (fun (k, b) => ⟨[(2, .val (.slice fb (L.map F.fc).length fc)), (7, .val (.slice b1 y.length c1)), (8, .val (.bool b)), (20, .val (.slice fb (L.map F.fc).length fc)), (21, .val (.int .i64 (L.map F.fc).length)), (22, .val (.int .i64 k))], [], 1, μ1, Mem.nil⟩) (fun z => L.length - z.1)
  (0, true) ⟨Nat.zero_le _, by simp⟩ (fun (_, _) => ⟨rfl, rfl⟩) ⟨⟨rfl, rfl, rfl, rfl, rfl, rfl, trivial⟩, trivial, rfl, rfl⟩ ?_
 rintro ⟨k, b⟩ ⟨hk2, hbk⟩
 dsimp only at hk2 hbk
 have hel0 : (L.map F.fc).length = L.length := List.length_map ..
 refine ifd (fun hlt => ?_) (fun hlt => ?_)
 ·rw [hel0] at hlt
  have hv_ := at_some (l := L) (i := k) (by omega)
  obtain ⟨f, hf⟩ := hv_
  have hv_ := F.elem hs hf
  obtain ⟨ad, q2, hel, hrf, _⟩ := hv_
  have hstep := all_take (P := fun f => f ∈ y) hf
  rw [← hel0] at hel
  refine elem_intro hel ?_
  intro r10
  refine if_intro (fun h1 => ?_) (fun h1 => ?_)
  ·refine call_gives (l18Has_spec hs1 hrf) ?_
   refine num64 (by omega) (by omega) ⟨(k + 1, decide (f ∈ y)), ⟨by dsimp only; omega, ?_⟩, by dsimp only; omega, ⟨⟨rfl, rfl, rfl, rfl, rfl, rfl, trivial⟩, trivial, rfl, rfl⟩⟩
   dsimp only
   rw [hstep, ← hbk, decide_eq_true_eq]
   exact ⟨fun h => ⟨h1, h⟩, fun h => h.2⟩
  ·refine num64 (by omega) (by omega) ⟨(k + 1, false), ⟨by dsimp only; omega, ?_⟩, by dsimp only; omega, ⟨⟨rfl, rfl, rfl, rfl, rfl, rfl, trivial⟩, trivial, rfl, rfl⟩⟩
   dsimp only
   rw [hstep, ← hbk, h1]
   simp
 rw [hel0] at hlt
 obtain rfl : k = L.length := by omega
 rw [List.take_length] at hbk
 refine loop_intro (fun z : Nat × Bool => z.1 ≤ y.length ∧ (z.2 = true ↔ (∀ f ∈ L, f ∈ y) ∧ ∀ f ∈ y.take z.1, f ∈ L))
  (fun (k, b) => ⟨[(2, .val (.slice fb (L.map F.fc).length fc)), (8, .val (.bool b)), (33, .val (.slice b1 y.length c1)), (34, .val (.int .i64 y.length)), (35, .val (.int .i64 k))], [], 1, μ1, Mem.nil⟩) (fun z => y.length - z.1)
  (0, b) ⟨Nat.zero_le _, by simpa using hbk⟩ (fun (_, _) => ⟨rfl, rfl⟩) ⟨⟨rfl, rfl, rfl, rfl, rfl, trivial⟩, trivial, rfl, rfl⟩ ?_
 clear hbk hlt hk2
 rintro ⟨k, b⟩ ⟨hk2, hbk⟩
 dsimp only at hk2 hbk
 refine ifd (fun hlt => ?_) (fun hlt => ?_)
 ·have hv_ := at_some (l := y) (i := k) (by omega)
  obtain ⟨f, hf⟩ := hv_
  have hv_ := F.elem hs1 hf
  obtain ⟨ad, q2, hel, hrf, _⟩ := hv_
  have hstep := all_take (P := fun f => f ∈ L) hf
  refine elem_intro hel ?_
  intro r10
  refine if_intro (fun h1 => ?_) (fun h1 => ?_)
  ·have hh := l18Has_spec (c := fc) hs hrf
   rw [← hel0] at hh
   refine call_gives hh ?_
   refine num64 (by omega) (by omega) ⟨(k + 1, decide (f ∈ L)), ⟨by dsimp only; omega, ?_⟩, by dsimp only; omega, ⟨⟨rfl, rfl, rfl, rfl, rfl, trivial⟩, trivial, rfl, rfl⟩⟩
   dsimp only
   rw [hstep, ← and_assoc, ← hbk, decide_eq_true_eq]
   exact ⟨fun h => ⟨h1, h⟩, fun h => h.2⟩
  ·refine num64 (by omega) (by omega) ⟨(k + 1, false), ⟨by dsimp only; omega, ?_⟩, by dsimp only; omega, ⟨⟨rfl, rfl, rfl, rfl, rfl, trivial⟩, trivial, rfl, rfl⟩⟩
   dsimp only
   rw [hstep, ← and_assoc, ← hbk, h1]
   simp
 obtain rfl : k = y.length := by omega
 rw [List.take_length] at hbk
 refine ret_plain ?_
 show Value.bool b = _
 congr 1
 rw [Bool.eq_iff_iff, decide_eq_true_eq, hbk]
 constructor
 ·rintro ⟨h1, h2⟩
  exact ⟨y, hL, fun x => by rw [hLe]; exact ⟨h2 x, h1 x⟩⟩
 ·rintro ⟨y', hy, h⟩
  rw [hL] at hy; cases hy
  rw [hLe] at h
  exact ⟨fun f hf => (h f).2 hf, fun f hf => (h f).1 hf⟩
end
end Go.Vx
namespace Go.Vx
open Go.Proofs Classical
section
variable {μ : Mem}
theorem FnExactIsStable_spec {t0 : Pg} {v0 : Value} {t1 : List Tm} {v1 : Value} {t2 : List Fc} {v2 : Value} (h0 : RepV μ t0.d v0) (h1 : RepV μ (.sl 4 (t1.map Tm.d)) v1) (h2 : RepV μ (.sl 2 (t2.map Fc.d)) v2) (w0 : t0.d.wd) (w1 : D.wds (t1.map Tm.d)) (w2 : D.wds (t2.map Fc.d)) :
  Spec Tryz.prog 5 [v0, v1, v2] μ fun r _ => r = .bool true := by
 have hv_ := Pg.invV h0
 obtain ⟨p0, rfl⟩ := hv_
 have hv_ := Rep.sl h1
 obtain ⟨b1, c1, rfl, s1⟩ := hv_
 rw [List.length_map] at s1 ⊢
 have hv_ := Rep.sl h2
 obtain ⟨b2, c2, rfl, s2⟩ := hv_
 rw [List.length_map] at s2 ⊢
 refine Spec.mk Tryz.func5 (by kernel_rfl) ?_
 intro r0
 refine call_gives (szProgram_spec t0 h0 (by omega) (by omega) w0) ?_
 refine ifd (fun h => ret_plain rfl) (fun h => ?_)
 have q0 := szR_ge h
 rw [szR_pos q0] at h ⊢
 refine call_gives (szTermS_spec s1 (by omega) (by omega) w1) ?_
 refine ifd (fun h => ret_plain rfl) (fun h => ?_)
 have q1 := szR_ge h
 rw [szR_pos q1] at h ⊢
 refine call_gives (szFactS_spec s2 (by omega) (by omega) w2) ?_
 refine ifd (fun h => ret_plain rfl) (fun h => ?_)
 have q2 := szR_ge h
 rw [szR_pos q2] at h
 have hb0 : t0.d.sz ≤ 1048576 := by omega
 have hb1 : t1.length + D.szs (t1.map Tm.d) ≤ 1048576 := by omega
 have hb2 : t2.length + D.szs (t2.map Fc.d) ≤ 1048576 := by omega
 refine call_plain (toProgram_spec t0 h0 hb0) fun u1 μ1 hle1 hf1 => ?_
 replace h0 := h0.mono hle1
 replace s1 := s1.mono hle1
 replace s2 := s2.mono hle1
 have hv_ := Pg.invV hf1.rep
 obtain ⟨qq1, rfl⟩ := hv_
 have a0 := hf1.rep
 refine call_plain (toTermS_spec s1 hb1) fun u2 μ2 hle2 hf2 => ?_
 replace h0 := h0.mono hle2
 replace s1 := s1.mono hle2
 replace s2 := s2.mono hle2
 replace a0 := a0.mono hle2
 have hv_ := Rep.sl hf2.rep
 obtain ⟨bb2, cc2, rfl, a1⟩ := hv_
 rw [List.length_map] at a1 ⊢
 refine call_plain (toFactS_spec s2 hb2) fun u3 μ3 hle3 hf3 => ?_
 replace h0 := h0.mono hle3
 replace s1 := s1.mono hle3
 replace s2 := s2.mono hle3
 replace a0 := a0.mono hle3
 replace a1 := a1.mono hle3
 have a2r := hf3.rep
 have hv_ := Rep.sl hf3.rep
 obtain ⟨bb3, cc3, rfl, a2⟩ := hv_
 rw [List.length_map] at a2 ⊢
 rw [List.length_map] at a2r
 refine call_gives (Spec.forget (spec_IsStable_spec a0 w0 a1 w1 a2r w2)) ?_
 refine call_plain (toProgram_spec t0 h0 hb0) fun u4 μ4 hle4 hf4 => ?_
 replace h0 := h0.mono hle4
 replace s1 := s1.mono hle4
 replace s2 := s2.mono hle4
 replace a0 := a0.mono hle4
 replace a1 := a1.mono hle4
 replace a2 := a2.mono hle4
 replace a2r := a2r.mono hle4
 have hv_ := Pg.invV hf4.rep
 obtain ⟨qq4, rfl⟩ := hv_
 have x0 := hf4.rep
 intro rx0
 refine call_plain (toTermS_spec s1 hb1) fun u5 μ5 hle5 hf5 => ?_
 replace h0 := h0.mono hle5
 replace s1 := s1.mono hle5
 replace s2 := s2.mono hle5
 replace a0 := a0.mono hle5
 replace a1 := a1.mono hle5
 replace a2 := a2.mono hle5
 replace a2r := a2r.mono hle5
 replace x0 := x0.mono hle5
 have hv_ := Rep.sl hf5.rep
 obtain ⟨bb5, cc5, rfl, x1⟩ := hv_
 rw [List.length_map] at x1 ⊢
 refine call_plain (toFactS_spec s2 hb2) fun u6 μ6 hle6 hf6 => ?_
 replace h0 := h0.mono hle6
 replace s1 := s1.mono hle6
 replace s2 := s2.mono hle6
 replace a0 := a0.mono hle6
 replace a1 := a1.mono hle6
 replace a2 := a2.mono hle6
 replace a2r := a2r.mono hle6
 replace x0 := x0.mono hle6
 replace x1 := x1.mono hle6
 have x2r := hf6.rep
 have hv_ := Rep.sl hf6.rep
 obtain ⟨bb6, cc6, rfl, x2⟩ := hv_
 rw [List.length_map] at x2 ⊢
 rw [List.length_map] at x2r
 refine call_gives (Spec.forget (impl_IsStable_spec x0 x1 x2r (by omega))) ?_
 refine if_intro (fun h => absurd h (by simp)) (fun _ => ?_)
 refine call_plain (toProgram_spec t0 h0 hb0) fun u7 μ7 hle7 hf7 => ?_
 replace h0 := h0.mono hle7
 replace s1 := s1.mono hle7
 replace s2 := s2.mono hle7
 replace a0 := a0.mono hle7
 replace a1 := a1.mono hle7
 replace a2 := a2.mono hle7
 replace a2r := a2r.mono hle7
 replace x0 := x0.mono hle7
 replace x1 := x1.mono hle7
 replace x2 := x2.mono hle7
 replace x2r := x2r.mono hle7
 have hv_ := Pg.invV hf7.rep
 obtain ⟨qq7, rfl⟩ := hv_
 have y0 := hf7.rep
 refine call_gives (eqProgram_spec _ x0 y0) ?_
 refine if_intro (fun h => nomatch h) (fun _ => ?_)
 refine call_plain (toTermS_spec s1 hb1) fun u8 μ8 hle8 hf8 => ?_
 replace h0 := h0.mono hle8
 replace s1 := s1.mono hle8
 replace s2 := s2.mono hle8
 replace a0 := a0.mono hle8
 replace a1 := a1.mono hle8
 replace a2 := a2.mono hle8
 replace a2r := a2r.mono hle8
 replace x0 := x0.mono hle8
 replace x1 := x1.mono hle8
 replace x2 := x2.mono hle8
 replace x2r := x2r.mono hle8
 have hv_ := Rep.sl hf8.rep
 obtain ⟨bb8, cc8, rfl, y1⟩ := hv_
 rw [List.length_map] at y1 ⊢
 refine call_gives (eqTermS_spec x1 y1) ?_
 refine if_intro (fun h => nomatch h) (fun _ => ?_)
 refine call_plain (toFactS_spec s2 hb2) fun u9 μ9 hle9 hf9 => ?_
 replace h0 := h0.mono hle9
 replace s1 := s1.mono hle9
 replace s2 := s2.mono hle9
 replace a0 := a0.mono hle9
 replace a1 := a1.mono hle9
 replace a2 := a2.mono hle9
 replace a2r := a2r.mono hle9
 replace x0 := x0.mono hle9
 replace x1 := x1.mono hle9
 replace x2 := x2.mono hle9
 replace x2r := x2r.mono hle9
 have y2r := hf9.rep
 have hv_ := Rep.sl hf9.rep
 obtain ⟨bb9, cc9, rfl, y2⟩ := hv_
 rw [List.length_map] at y2 ⊢
 rw [List.length_map] at y2r
 refine call_gives (eqFactS_spec x2 y2) ?_
 refine if_intro (fun h => nomatch h) (fun _ => ?_)
 exact ret_plain rfl
end
end Go.Vx
