/- Texts of the proof, part M5. -/
import Derived.Test.YtheneidclfohoaaGreatM4
namespace Go.Vx
open Go.Proofs Classical
theorem prodC_size {a l : List (List Gl)} {m n : Nat} (h1 : ∀ c ∈ a, c.length ≤ m) (h2 : ∀ c ∈ l, c.length ≤ n) : ∀ c ∈ prodC a l, c.length ≤ m + n := fun c hc => by
 have w_ := prodC_mem hc
 obtain ⟨u, hu, w, hw, rfl⟩ := w_
 have := h1 u hu
 have := h2 w hw
 rw [List.length_append]; omega
mutual
theorem Gl.cl_bnd : ∀ (g : Gl) {L : List (List Gl)}, g.cl = some L → (∀ c ∈ L, c.length ≤ g.cnt) ∧ L.length ≤ 64
 | .mk k s ts gs, L, h => by
  rw [Gl.cl] at h
  rw [Gl.cnt]
  split at h
  ·cases h; simp
  split at h
  ·cases h; simp
  split at h
  ·have := Gl.clOr_bnd gs (acc := []) (n := 0) (by simp) (by simp) h
   exact ⟨fun c hc => by have := this.1 c hc; omega, this.2⟩
  split at h
  ·have := Gl.clAnd_bnd gs (acc := [[]]) (n := 0) (by simp) (by simp) h
   exact ⟨fun c hc => by have := this.1 c hc; omega, this.2⟩
  ·cases h
   refine ⟨fun c hc => ?_, by simp⟩
   rw [List.mem_singleton.1 hc, List.length_singleton]; omega
theorem Gl.clOr_bnd : ∀ (gs : List Gl) {acc L : List (List Gl)} {n : Nat}, (∀ c ∈ acc, c.length ≤ n) → acc.length ≤ 64 → Gl.clOr gs acc = some L → (∀ c ∈ L, c.length ≤ n + Gl.cnts gs) ∧ L.length ≤ 64
 | [], acc, L, n, h1, h2, h => by
  rw [Gl.clOr] at h; cases h
  exact ⟨fun c hc => Nat.le_trans (h1 c hc) (Nat.le_add_right _ _), h2⟩
 | g :: gs, acc, L, n, h1, h2, h => by
  rw [Gl.clOr] at h
  cases e : g.cl with
  | none => rw [e] at h; cases h
  | some l =>
   rw [e, Option.bind_some] at h
   have hb := Gl.cl_bnd g e
   split at h
   ·rename_i h64
    have := Gl.clOr_bnd gs (acc := acc ++ l) (n := n + g.cnt) (fun c hc => by
     rcases List.mem_append.1 hc with hc | hc
     ·have := h1 c hc; omega
     ·have := hb.1 c hc; omega) h64 h
    rw [Gl.cnts]
    exact ⟨fun c hc => by have := this.1 c hc; omega, this.2⟩
   ·cases h
theorem Gl.clAnd_bnd : ∀ (gs : List Gl) {acc L : List (List Gl)} {n : Nat}, (∀ c ∈ acc, c.length ≤ n) → acc.length ≤ 64 → Gl.clAnd gs acc = some L → (∀ c ∈ L, c.length ≤ n + Gl.cnts gs) ∧ L.length ≤ 64
 | [], acc, L, n, h1, h2, h => by
  rw [Gl.clAnd] at h; cases h
  exact ⟨fun c hc => Nat.le_trans (h1 c hc) (Nat.le_add_right _ _), h2⟩
 | g :: gs, acc, L, n, h1, h2, h => by
  rw [Gl.clAnd] at h
  cases e : g.cl with
  | none => rw [e] at h; cases h
  | some l =>
   rw [e, Option.bind_some] at h
   have hb := Gl.cl_bnd g e
   split at h
   ·rename_i h64
    have := Gl.clAnd_bnd gs (acc := prodC acc l) (n := n + g.cnt) (prodC_size h1 hb.1) h64 h
    rw [Gl.cnts]
    exact ⟨fun c hc => by have := this.1 c hc; omega, this.2⟩
   ·cases h
end
def optC (P : List (List Gl) → Value → Prop) (o : Option (List (List Gl))) (v : Value) : Prop := match o with
 | some L => ∃ tv, v = .tuple #[tv, .bool true] ∧ P L tv
 | none => v = .tuple #[.slice none 0 0, .bool false]
section
variable {μ : Mem}
set_option maxHeartbeats 8000000 in
theorem clausesOf_spec : ∀ (g : Gl) {μ : Mem} {v : Value}, RepV μ g.d v → g.Sh → g.cnt ≤ 80 → Spec Tryz.prog 156 [v] μ fun v μ' => optC (Cls μ') g.cl v :=
 Gl.ind fun g ih μ v hv hS hcnt => by
  have hv0 := hv
  have w_ := Gl.inv hv
  obtain ⟨p, rfl, hts, hgs⟩ := w_
  have hg8 := hS.top.gl
  have hce := Gl.cnt_eq1 g
  refine Spec.mk Tryz.func156 (by kernel_rfl) ?_
  intro r1 r19
  refine ifd (fun h0 => ?_) (fun h0 => ?_)
  ·intro r27 μ1 hle1 hno1 hat1 r28
   refine rFz [3] fun μ2 hle2 hno2 hat2 => .inl ?_
   rw [Gl.cl_eq, if_pos h0]
   exact ⟨_, rfl, Rows.sl hat2 (Rows.one (d := csD []) ((Rows.sl (μ := μ1) (ds := []) hat1 .nil (Nat.zero_le _)).mono hle2) rfl) (show 1 ≤ maxLen by decide)⟩
  refine ifd (fun h1 => ?_) (fun h1 => ?_)
  ·refine rFz [1] fun μ2 hle2 hno2 hat2 => .inl ?_
   rw [Gl.cl_eq, if_neg h0, if_pos h1]
   exact ⟨_, rfl, Rows.sl hat2 .nil (Nat.zero_le _)⟩
  refine ifd (fun h8 => ?_) (fun h8 => ?_)
  ·have hcl : g.cl = Gl.clOr g.goals [] := by rw [Gl.cl_eq, if_neg h0, if_neg h1, if_pos h8]
   refine lIn (fun q : Nat × List (List Gl) × Option Nat × Nat × List Value × Mem => q.1 ≤ g.goals.length ∧ μ.Le q.2.2.2.2.2 ∧ Rows q.2.2.2.2.2 1 (q.2.1.map csD) q.2.2.2.2.1 ∧ g.cl = Gl.clOr (g.goals.drop q.1) q.2.1 ∧ q.2.1.length ≤ 64)
    (fun (i, acc, b, c, ys, μ') => ⟨[(4, .row 1 b ys.length c), (34, .val (.slice p.2.1 g.goals.length p.2.2)), (35, .val (.int .i64 g.goals.length)), (36, .val (.int .i64 i))], [(1, some (.row b c 85 1 ys))], 2, μ', Mem.nil⟩) (fun q => g.goals.length - q.1)
    (0, [], some r19, 0, [], μ) ⟨Nat.zero_le _, Mem.Le.refl _, .nil, hcl, by simp⟩ (fun (_, _, _, _, _, _) => ⟨rfl, rfl⟩) ⟨⟨rfl, rfl, rfl, rfl, trivial⟩, ⟨rfl, trivial⟩, rfl, rfl⟩ ?_
   rintro ⟨i, acc, b, c, ys, μ'⟩ ⟨hi, hle, hrows, hJ, hmax⟩
   dsimp only at hi hle hrows hJ hmax
   have hyl := hrows.len
   rw [List.length_map] at hyl
   refine ifd (fun hlt => ?_) (fun hlt => ?_)
   ·have w_ := aSo (l := g.goals) (i := i) (by omega)
    obtain ⟨x, hx⟩ := w_
    have w_ := Gl.elem (hgs.mono hle) hx
    obtain ⟨ad, q, hel, hr⟩ := w_
    have hxc := Gl.cnts_take hx
    have hxl := Gl.cnts_le g.goals (i + 1)
    refine eIn hel ?_
    intro r5
    refine cPl (ih x (mAt hx) hr (hS.sub x (mAt hx)) (by omega)) fun v1 μ1 hle1 hR => ?_
    rw [drop_at hx, Gl.clOr] at hJ
    cases e : x.cl with
    | none =>
     rw [e] at hR hJ
     obtain rfl := hR
     refine iIn (fun _ => ?_) (fun h => nomatch h)
     exact rPl (by rw [hJ]; rfl)
    | some L =>
     rw [e] at hR
     rw [e, Option.bind_some] at hJ
     obtain ⟨tv, rfl, hLr⟩ := hR
     obtain ⟨pv, rfl⟩ := hLr.inv
     have hLb := Gl.cl_bnd x e
     have w_ := Rep.srcAll hLr
     obtain ⟨vs, hvr, hvl, hsrc⟩ := w_
     refine iIn (fun h => nomatch h) (fun _ => ?_)
     refine src_intro vs hsrc ?_
     refine gIn ?_ ?_ fun b9 c9 _ => ?_
     ·show (ys.length + vs.length) * 24 ≤ _; omega
     ·exact Nat.le_trans (m := 100000000) (show ys.length + vs.length ≤ _ by omega) (by decide)
     have hal : (ys ++ vs).length = (acc ++ L).length := by rw [List.length_append, List.length_append]; omega
     refine ifd (fun h64 => ?_) (fun h64 => ?_)
     ·rw [if_neg (by omega)] at hJ
      exact rPl (by rw [hJ]; rfl)
     ·rw [if_pos (by omega)] at hJ
      refine num64 (by omega) (by omega) ⟨(i + 1, acc ++ L, b9, c9, _, μ1), ⟨by dsimp only; omega, hle.trans hle1, ?_, hJ, by dsimp only; omega⟩, by dsimp only; omega, ⟨⟨rfl, rfl, rfl, rfl, trivial⟩, ⟨rfl, trivial⟩, rfl, rfl⟩⟩
      dsimp only
      rw [List.map_append]
      exact (hrows.mono hle1).append hvr
   ·obtain rfl : i = g.goals.length := by omega
    rw [List.drop_length, Gl.clOr] at hJ
    refine rFz [1] fun μ2 hle2 hno2 hat2 => .inl ?_
    rw [hJ]
    exact ⟨_, rfl, Rows.sl hat2 (hrows.mono hle2) (Nat.le_trans (m := 100000000) (by omega) (by decide))⟩
  refine ifd (fun h7 => ?_) (fun h7 => ?_)
  rotate_left
  ·intro r23 μ1 hle1 hno1 hat1 r24
   refine rFz [3] fun μ2 hle2 hno2 hat2 => .inl ?_
   rw [Gl.cl_eq, if_neg h0, if_neg h1, if_neg h8, if_neg h7]
   exact ⟨_, rfl, Rows.sl hat2 (Rows.one (d := csD [g]) ((Rows.sl (μ := μ1) (ds := [g.d]) hat1 (Rows.one (hv0.mono hle1) (Gl.d_n g)) (show 1 ≤ maxLen by decide)).mono hle2) rfl) (show 1 ≤ maxLen by decide)⟩
  have hcl : g.cl = Gl.clAnd g.goals [[]] := by rw [Gl.cl_eq, if_neg h0, if_neg h1, if_neg h8, if_pos h7]
  intro r56 μ1 hle1 hno1 hat1 r57
  refine lFz (fun q : Nat × List (List Gl) × Option Addr × Nat × Mem => q.1 ≤ g.goals.length ∧ μ.Le q.2.2.2.2 ∧ Cls q.2.2.2.2 q.2.1 (.slice q.2.2.1 q.2.1.length q.2.2.2.1) ∧ g.cl = Gl.clAnd (g.goals.drop q.1) q.2.1 ∧ (∀ c ∈ q.2.1, c.length ≤ Gl.cnts (g.goals.take q.1)) ∧ q.2.1.length ≤ 64)
   (fun (i, acc, b, c, μ') => ⟨[(4, .val (.slice b acc.length c)), (9, .val (.bool false)), (59, .val (.slice p.2.1 g.goals.length p.2.2)), (60, .val (.int .i64 g.goals.length)), (61, .val (.int .i64 i))], [], 0, μ', Mem.nil⟩) (fun q => g.goals.length - q.1) [3]
   (fun (_, _, _, _, _) => ⟨rfl, rfl⟩) (fun μ2 hle2 hno2 hat2 => ⟨(0, [[]], some ⟨r57, 0, none⟩, 1, μ2), ⟨Nat.zero_le _, hle1.trans hle2, Rows.sl hat2 (Rows.one (d := csD []) ((Rows.sl (μ := μ1) (ds := []) hat1 .nil (Nat.zero_le _)).mono hle2) rfl) (show 1 ≤ maxLen by decide), hcl, by simp, by simp⟩, ⟨rfl, rfl, rfl, rfl, rfl, trivial⟩, trivial, rfl, rfl⟩) ?_
  rintro ⟨i, acc, b, c, μ'⟩ ⟨hi, hle, hacc, hJ, hlen, hmax⟩
  dsimp only at hi hle hacc hJ hlen hmax
  refine ifd (fun hlt => ?_) (fun hlt => ?_)
  rotate_left
  ·obtain rfl : i = g.goals.length := by omega
   rw [List.drop_length, Gl.clAnd] at hJ
   exact rPl (by rw [hJ]; exact ⟨_, rfl, hacc⟩)
  have w_ := aSo (l := g.goals) (i := i) (by omega)
  obtain ⟨x, hx⟩ := w_
  have w_ := Gl.elem (hgs.mono hle) hx
  obtain ⟨ad, q, hel, hr⟩ := w_
  have hxc := Gl.cnts_take hx
  have hxl := Gl.cnts_le g.goals (i + 1)
  refine eIn hel ?_
  intro r11
  refine cPl (ih x (mAt hx) hr (hS.sub x (mAt hx)) (by omega)) fun v3 μ3 hle3 hR => ?_
  rw [drop_at hx, Gl.clAnd] at hJ
  obtain ⟨o, e⟩ : ∃ o, x.cl = o := ⟨_, rfl⟩
  rw [e] at hR hJ
  match o, e, hR, hJ with
  | none, e, hR, hJ =>
  obtain rfl := hR
  refine iIn (fun _ => ?_) (fun h => nomatch h)
  exact rPl (by rw [hJ]; rfl)
  | some L, e, hR, hJ =>
  obtain ⟨tv, rfl, hLr⟩ := hR
  obtain ⟨pv, rfl⟩ := hLr.inv
  have hLb := Gl.cl_bnd x e
  have hLl := hLb.1
  have hLm := hLb.2
  rw [Option.bind_some] at hJ
  refine iIn (fun h => nomatch h) (fun _ => ?_)
  intro r64
  have hasl := (Cls.sl (RepV.mono hle3 hacc)).1
  refine lIn (fun q : Nat × Option Nat × Nat × List Value × Mem => q.1 ≤ acc.length ∧ μ3.Le q.2.2.2.2 ∧ Rows q.2.2.2.2 1 ((prodC (acc.take q.1) L).map csD) q.2.2.2.1)
   (fun (j, b1, c1, ys, μ4) => ⟨[(9, .val (.bool false)), (12, .val (.slice pv.1 L.length pv.2)), (14, .row 1 b1 ys.length c1), (59, .val (.slice p.2.1 g.goals.length p.2.2)), (60, .val (.int .i64 g.goals.length)), (61, .val (.int .i64 i)), (73, .val (.slice b acc.length c)), (74, .val (.int .i64 acc.length)), (75, .val (.int .i64 j))], [(1, some (.row b1 c1 85 1 ys))], 2, μ4, Mem.nil⟩) (fun q => acc.length - q.1)
   (0, some r64, 0, [], μ3) ⟨Nat.zero_le _, Mem.Le.refl _, .nil⟩ (fun (_, _, _, _, _) => ⟨rfl, rfl⟩) ⟨⟨rfl, rfl, rfl, rfl, rfl, rfl, rfl, rfl, rfl, trivial⟩, ⟨rfl, trivial⟩, rfl, rfl⟩ ?_
  rintro ⟨j, b1, c1, ys, μ4⟩ ⟨hj, hle4, hrows⟩
  dsimp only at hj hle4 hrows
  have hyl := hrows.len
  rw [List.length_map, prodC_len, List.length_take] at hyl
  have hmul : min j acc.length * L.length ≤ 64 * 64 := Nat.mul_le_mul (by omega) (by omega)
  refine ifd (fun hlt2 => ?_) (fun hlt2 => ?_)
  ·have w_ := aSo (l := acc) (i := j) (by omega)
   obtain ⟨xa, hxa⟩ := w_
   have w_ := cls_elem (hasl.mono hle4) hxa
   obtain ⟨ad2, pa, hel2, hra⟩ := w_
   have hxal := hlen xa (mAt hxa)
   have hmul2 : j * L.length ≤ 64 * 64 := Nat.mul_le_mul (by omega) (by omega)
   rw [Nat.min_eq_left (by omega)] at hyl
   refine eIn hel2 ?_
   refine lIn (fun q : Nat × Option Nat × Nat × List Value × Mem => q.1 ≤ L.length ∧ μ4.Le q.2.2.2.2 ∧ Rows q.2.2.2.2 1 ((prodC (acc.take j) L ++ (L.take q.1).map fun y => xa ++ y).map csD) q.2.2.2.1)
    (fun (k, b1, c1, ys, μ5) => ⟨[(9, .val (.bool false)), (12, .val (.slice pv.1 L.length pv.2)), (14, .row 1 b1 ys.length c1), (16, .val (.slice pa.1 xa.length pa.2)), (59, .val (.slice p.2.1 g.goals.length p.2.2)), (60, .val (.int .i64 g.goals.length)), (61, .val (.int .i64 i)), (73, .val (.slice b acc.length c)), (74, .val (.int .i64 acc.length)), (75, .val (.int .i64 j)), (79, .val (.slice pv.1 L.length pv.2)), (80, .val (.int .i64 L.length)), (81, .val (.int .i64 k))], [(1, some (.row b1 c1 85 1 ys))], 2, μ5, Mem.nil⟩) (fun q => L.length - q.1)
    (0, b1, c1, ys, μ4) ⟨Nat.zero_le _, Mem.Le.refl _, by simpa using hrows⟩ (fun (_, _, _, _, _) => ⟨rfl, rfl⟩) ⟨⟨rfl, rfl, rfl, rfl, rfl, rfl, rfl, rfl, rfl, rfl, rfl, rfl, rfl, trivial⟩, ⟨rfl, trivial⟩, rfl, rfl⟩ ?_
   clear hrows
   rintro ⟨k, b2, c2, zs, μ5⟩ ⟨hk, hle5, hrows2⟩
   dsimp only at hk hle5 hrows2
   have hzl := hrows2.len
   rw [List.length_map, List.length_append, prodC_len, List.length_map, List.length_take, List.length_take, Nat.min_eq_left (show j ≤ acc.length by omega), Nat.min_eq_left hk] at hzl
   refine ifd (fun hlt3 => ?_) (fun hlt3 => ?_)
   ·have w_ := aSo (l := L) (i := k) (by omega)
    obtain ⟨y, hy⟩ := w_
    have w_ := cls_elem (((Cls.sl hLr).1.mono hle4).mono hle5) hy
    obtain ⟨ad3, py, hel3, hry⟩ := w_
    have hyl2 := hLl y (mAt hy)
    have w_ := csD_src (hra.mono hle5)
    obtain ⟨vx, hvx, hvxl, hsx⟩ := w_
    have w_ := csD_src hry
    obtain ⟨vy, hvy, hvyl, hsy⟩ := w_
    refine eIn hel3 ?_
    intro r78
    refine src_intro vx hsx ?_
    refine gIn ?_ ?_ fun b6 c6 _ => ?_
    ·show (0 + vx.length) * 72 ≤ _; omega
    ·exact Nat.le_trans (m := 100000000) (show 0 + vx.length ≤ _ by omega) (by decide)
    refine src_intro vy hsy ?_
    refine gIn ?_ ?_ fun b7 c7 _ => ?_
    ·show ((([] : List Value) ++ vx).length + vy.length) * 72 ≤ _; simp; omega
    ·exact Nat.le_trans (m := 100000000) (show (([] : List Value) ++ vx).length + vy.length ≤ _ by simp; omega) (by decide)
    intro μ6 hle6 hno6 hat6 r83
    refine gIn ?_ ?_ fun b8 c8 _ => ?_
    ·show (zs.length + 1) * 24 ≤ _; omega
    ·exact Nat.le_trans (m := 100000000) (show zs.length + 1 ≤ _ by omega) (by decide)
    have hrow : RepV μ6 (csD (xa ++ y)) (.slice (b7.map fun r => ⟨r, 0, none⟩) (([] : List Value) ++ vx ++ vy).length c7) := by
     have := Rows.sl hat6 ((hvx.append hvy).mono hle6) (Nat.le_trans (m := 100000000) (by simp; omega) (by decide))
     rw [← List.map_append] at this
     exact this
    refine num64 (by omega) (by omega) ⟨(k + 1, b8, c8, _, μ6), ⟨by dsimp only; omega, hle5.trans hle6, ?_⟩, by dsimp only; omega, ⟨⟨rfl, rfl, rfl, rfl, rfl, rfl, rfl, rfl, rfl, rfl, rfl, rfl, rfl, trivial⟩, ⟨rfl, trivial⟩, rfl, rfl⟩⟩
    dsimp only
    rw [List.take_add_one, hy, Option.toList_some, List.map_append (f := fun y => xa ++ y), ← List.append_assoc, List.map_append (f := csD)]
    exact (hrows2.mono hle6).append (Rows.one hrow rfl)
   ·obtain rfl : k = L.length := by omega
    rw [List.take_length, ← prodC_step hxa] at hrows2
    exact num64 (by omega) (by omega) ⟨(j + 1, b2, c2, zs, μ5), ⟨by dsimp only; omega, hle4.trans hle5, hrows2⟩, by dsimp only; omega, ⟨⟨rfl, rfl, rfl, rfl, rfl, rfl, rfl, rfl, rfl, trivial⟩, ⟨rfl, trivial⟩, rfl, rfl⟩⟩
  ·obtain rfl : j = acc.length := by omega
   rw [List.take_length] at hrows
   rw [Nat.min_self] at hyl hmul
   have hpl := prodC_len acc L
   have hzlen : ∀ c ∈ prodC acc L, c.length ≤ Gl.cnts (g.goals.take (i + 1)) := fun c hc => by
    have w_ := prodC_mem hc
    obtain ⟨u, hu, w, hw, rfl⟩ := w_
    have h1 := hlen u hu
    have h2 := hLl w hw
    rw [List.length_append]; omega
   refine iIn (fun h => nomatch h) (fun _ => ?_)
   refine ifd (fun hb => ?_) (fun hb => ?_)
   ·rw [if_neg (by omega)] at hJ
    exact rPl (by rw [hJ]; rfl)
   ·rw [if_pos (by omega)] at hJ
    refine num64 (by omega) (by omega) ⟨[1], fun μ5 hle5 hno5 hat5 => ⟨(i + 1, prodC acc L, b1.map (fun r => ⟨r, 0, none⟩), c1, μ5), ⟨by dsimp only; omega, ((hle.trans hle3).trans hle4).trans hle5, ?_, hJ, hzlen, by dsimp only; omega⟩, by dsimp only; omega, ⟨⟨?_, ?_, rfl, rfl, rfl, trivial⟩, trivial, rfl, rfl⟩⟩⟩
    ·have := Rows.sl hat5 (hrows.mono hle5) (Nat.le_trans (m := 100000000) (by omega) (by decide))
     rw [← hyl, ← hpl] at this
     exact this
    ·show some (SV.val (.slice _ _ _)) = some (SV.val (.slice _ _ _))
     rw [hpl, hyl]
    ·show some (SV.val (.bool _)) = some (SV.val (.bool _))
     rw [decide_eq_false hb]
end
end Go.Vx
namespace Go.Vx
open Go.Proofs Classical
structure RowsFit (p : Pg) (rows : List Int) : Prop where
 pos : p.Pos
 cls : ∀ r ∈ p.rels, r.body.cl ≠ none
 len : rows.length = p.rels.length
 rng : ∀ (i : Nat) n r, rows[i]? = some n → p.rels[i]? = some r → 0 ≤ n ∧ n < 2 ^ (2 ^ r.arity.toNat)
section
variable {μ : Mem}
theorem l16Copy_spec {c : List Gl} {base : Option Addr} {cap : Nat} (hsl : Sl μ 4 base c.length (c.map Gl.d)) (hn : c.length ≤ 1000000) (hS : ∀ x ∈ c, x.Sh) :
  Spec Tryz.prog 153 [.slice base c.length cap] μ fun v μ' => RepV μ' (csD c) v := by
 refine Spec.mk Tryz.func153 (by kernel_rfl) ?_
 intro r6
 refine lIn (fun p : Nat × Option Nat × Nat × List Value × Mem => p.1 ≤ c.length ∧ μ.Le p.2.2.2.2 ∧ Rows p.2.2.2.2 4 ((c.take p.1).map Gl.d) p.2.2.2.1)
  (fun (i, b, k, ys, μ') => ⟨[(3, .row 0 b ys.length k), (7, .val (.slice base c.length cap)), (8, .val (.int .i64 c.length)), (9, .val (.int .i64 i))], [(0, some (.row b k 87 4 ys))], 1, μ', Mem.nil⟩) (fun p => c.length - p.1)
  (0, some r6, 0, [], μ) ⟨by simp, Mem.Le.refl _, .nil⟩ (fun (_, _, _, _, _) => ⟨rfl, rfl⟩) ⟨⟨rfl, rfl, rfl, rfl, trivial⟩, ⟨rfl, trivial⟩, rfl, rfl⟩ ?_
 rintro ⟨i, b, k, ys, μ'⟩ ⟨hi, hle, hrows⟩
 dsimp only at hi hle hrows
 have hlen := hrows.len
 simp only [List.length_map, List.length_take] at hlen
 refine ifd (fun h => ?_) (fun h => ?_)
 ·have w_ := aSo (l := c) (i := i) (by omega)
  obtain ⟨x, hx⟩ := w_
  have w_ := Gl.elem (hsl.mono hle) hx
  obtain ⟨ad, p, hel, hr⟩ := w_
  refine eIn hel ?_
  intro r5
  refine cPl (l13Copy_spec x hr (hS x (mAt hx))) fun v4 μ4 hle4 hR4 => ?_
  have w_ := Gl.invV hR4
  obtain ⟨q, rfl⟩ := w_
  intro r16
  refine gIn ?_ ?_ fun b' c' _ => ?_
  ·show (ys.length + 1) * 72 ≤ _; omega
  ·exact Nat.le_trans (m := 100000000) (show ys.length + 1 ≤ _ by omega) (by decide)
  refine num64 (by omega) (by omega) ⟨(i + 1, b', c', _, μ4), ⟨by dsimp only; omega, hle.trans hle4, ?_⟩, by dsimp only; omega, ⟨⟨rfl, rfl, rfl, rfl, trivial⟩, ⟨rfl, trivial⟩, rfl, rfl⟩⟩
  dsimp only
  rw [List.take_add_one, hx, Option.toList_some, List.map_append]
  exact (hrows.mono hle4).append (Rows.one hR4 (Gl.d_n _))
 ·obtain rfl : i = c.length := by omega
  rw [List.take_length] at hrows
  refine rFz [0] fun μ' hle' hno hrow => .inl ?_
  exact Rows.sl hrow (hrows.mono hle') (Nat.le_trans (m := 100000000) (by omega) (by decide))
mutual
theorem Gl.cl_Sh : ∀ (g : Gl) {L : List (List Gl)}, g.Sh → g.cl = some L → ∀ c ∈ L, ∀ x ∈ c, x.Sh
 | .mk k s ts gs, L, hS, h => by
  have hsub : ∀ x ∈ gs, x.Sh := hS.sub
  rw [Gl.cl] at h
  split at h
  ·cases h; simp
  split at h
  ·cases h; simp
  split at h
  ·exact Gl.clOr_Sh gs hsub (by simp) h
  split at h
  ·exact Gl.clAnd_Sh gs hsub (by simp) h
  ·cases h
   intro c hc x hx
   rw [List.mem_singleton.1 hc] at hx
   rw [List.mem_singleton.1 hx]; exact hS
theorem Gl.clOr_Sh : ∀ (gs : List Gl) {acc L : List (List Gl)}, (∀ x ∈ gs, x.Sh) → (∀ c ∈ acc, ∀ x ∈ c, x.Sh) → Gl.clOr gs acc = some L → ∀ c ∈ L, ∀ x ∈ c, x.Sh
 | [], acc, L, _, h1, h => by
  rw [Gl.clOr] at h; cases h; exact h1
 | g :: gs, acc, L, hS, h1, h => by
  rw [Gl.clOr] at h
  cases e : g.cl with
  | none => rw [e] at h; cases h
  | some l =>
   rw [e, Option.bind_some] at h
   have hb := Gl.cl_Sh g (hS g (by simp)) e
   split at h
   ·exact Gl.clOr_Sh gs (acc := acc ++ l) (fun x hx => hS x (by simp [hx])) (fun c hc => by
     rcases List.mem_append.1 hc with hc | hc
     ·exact h1 c hc
     ·exact hb c hc) h
   ·cases h
theorem Gl.clAnd_Sh : ∀ (gs : List Gl) {acc L : List (List Gl)}, (∀ x ∈ gs, x.Sh) → (∀ c ∈ acc, ∀ x ∈ c, x.Sh) → Gl.clAnd gs acc = some L → ∀ c ∈ L, ∀ x ∈ c, x.Sh
 | [], acc, L, _, h1, h => by
  rw [Gl.clAnd] at h; cases h; exact h1
 | g :: gs, acc, L, hS, h1, h => by
  rw [Gl.clAnd] at h
  cases e : g.cl with
  | none => rw [e] at h; cases h
  | some l =>
   rw [e, Option.bind_some] at h
   have hb := Gl.cl_Sh g (hS g (by simp)) e
   split at h
   ·exact Gl.clAnd_Sh gs (acc := prodC acc l) (fun x hx => hS x (by simp [hx])) (fun c hc => by
     have w_ := prodC_mem hc
     obtain ⟨u, hu, w, hw, rfl⟩ := w_
     intro x hx
     rcases List.mem_append.1 hx with hx | hx
     ·exact h1 u hu x hx
     ·exact hb w hw x hx) h
   ·cases h
end
theorem ClausesOf_spec {g : Gl} {v : Value} (hv : RepV μ g.d v) (hw : g.d.wd) (hok : g.Ok) : Spec Tryz.prog 87 [v] μ fun v μ' => optC (Cls μ') g.cl v := by
 have hv0 := hv
 have w_ := Gl.inv hv
 obtain ⟨p, rfl, -, -⟩ := w_
 refine Spec.mk Tryz.func87 (by kernel_rfl) ?_
 intro r1
 refine cGv (spec_GoalOk_spec g hv0 hw) ?_
 refine ifnd (fun h => absurd hok h) (fun _ => ?_)
 refine cPl (l16Clauses_spec g hv0 hok.1 hok.2) fun v1 μ1 hle1 hR => ?_
 obtain ⟨L, hL⟩ := hR
 obtain ⟨pv, rfl⟩ := hL.rep.inv
 have hcl := hL.cl
 refine ifd (fun h64 => ?_) (fun h64 => ?_)
 ·rw [if_neg (by omega)] at hcl
  exact rPl (by rw [hcl]; rfl)
 rw [if_pos (by omega)] at hcl
 rw [hcl]
 have hSh := Gl.cl_Sh g hok.1 hcl
 have hbd := Gl.cl_bnd g hcl
 have h80 := hok.2
 have hsl := (Cls.sl hL.rep).1
 intro r16
 refine lIn (fun p : Nat × Option Nat × Nat × List Value × Mem => p.1 ≤ L.length ∧ μ1.Le p.2.2.2.2 ∧ Rows p.2.2.2.2 1 ((L.take p.1).map csD) p.2.2.2.1)
  (fun (i, b, k, ys, μ') => ⟨[(5, .row 1 b ys.length k), (17, .val (.slice pv.1 L.length pv.2)), (18, .val (.int .i64 L.length)), (19, .val (.int .i64 i))], [(1, some (.row b k 85 1 ys))], 2, μ', Mem.nil⟩) (fun p => L.length - p.1)
  (0, some r16, 0, [], μ1) ⟨by simp, Mem.Le.refl _, .nil⟩ (fun (_, _, _, _, _) => ⟨rfl, rfl⟩) ⟨⟨rfl, rfl, rfl, rfl, trivial⟩, ⟨rfl, trivial⟩, rfl, rfl⟩ ?_
 rintro ⟨i, b, k, ys, μ'⟩ ⟨hi, hle, hrows⟩
 dsimp only at hi hle hrows
 have hlen := hrows.len
 simp only [List.length_map, List.length_take] at hlen
 refine ifd (fun h => ?_) (fun h => ?_)
 ·have w_ := aSo (l := L) (i := i) (by omega)
  obtain ⟨c, hc⟩ := w_
  have w_ := cls_elem (hsl.mono hle) hc
  obtain ⟨ad, pc, hel, hrc⟩ := w_
  have hcl2 := hbd.1 c (mAt hc)
  have hcs : Sl μ' 4 pc.1 c.length (c.map Gl.d) := by
   have w_ := Rep.sl (xs := c.map Gl.d) hrc
   obtain ⟨b', c', e1, hs⟩ := w_
   have w_ := Value.slice.inj e1
   obtain ⟨rfl, _, _⟩ := w_
   simpa using hs
  refine eIn hel ?_
  refine cPl (l16Copy_spec hcs (by omega) (hSh c (mAt hc))) fun v4 μ4 hle4 hR4 => ?_
  have w_ := csD_inv hR4
  obtain ⟨q, rfl⟩ := w_
  intro r26
  refine gIn ?_ ?_ fun b' c' _ => ?_
  ·show (ys.length + 1) * 24 ≤ _; omega
  ·exact Nat.le_trans (m := 100000000) (show ys.length + 1 ≤ _ by omega) (by decide)
  refine num64 (by omega) (by omega) ⟨(i + 1, b', c', _, μ4), ⟨by dsimp only; omega, hle.trans hle4, ?_⟩, by dsimp only; omega, ⟨⟨rfl, rfl, rfl, rfl, trivial⟩, ⟨rfl, trivial⟩, rfl, rfl⟩⟩
  dsimp only
  rw [List.take_add_one, hc, Option.toList_some, List.map_append]
  exact (hrows.mono hle4).append (Rows.one hR4 rfl)
 ·obtain rfl : i = L.length := by omega
  rw [List.take_length] at hrows
  refine rFz [1] fun μ' hle' hno hrow => .inl ⟨_, rfl, ?_⟩
  exact Rows.sl hrow (hrows.mono hle') (Nat.le_trans (m := 100000000) (by omega) (by decide))
end
end Go.Vx
namespace Go.Vx
open Go.Proofs Classical
noncomputable def numTo (P : Nat → Prop) : Nat → Nat
 | 0 => 0
 | n + 1 => numTo P n + if P n then 2 ^ n else 0
theorem numTo_lt (P : Nat → Prop) : ∀ n, numTo P n < 2 ^ n
 | 0 => by simp [numTo]
 | n + 1 => by
  have h := numTo_lt P n
  have e : 2 ^ (n + 1) = 2 ^ n + 2 ^ n := by rw [Nat.pow_succ]; omega
  rw [numTo, e]
  split <;> omega
theorem numTo_bit (P : Nat → Prop) : ∀ n k, (numTo P n).testBit k = decide (k < n ∧ P k)
 | 0, k => by simp [numTo]
 | n + 1, k => by
  have ih := numTo_bit P n k
  have hlt := numTo_lt P n
  rw [numTo]
  split
  ·rename_i h
   rw [Nat.add_comm]
   rcases Nat.lt_trichotomy k n with h1 | h1 | h1
   ·rw [Nat.testBit_two_pow_add_gt h1, ih]
    congr 1
    exact propext ⟨fun k => ⟨by omega, k.2⟩, fun k => ⟨h1, k.2⟩⟩
   ·subst h1
    rw [Nat.testBit_two_pow_add_eq, ih]
    simp [h]
   ·rw [Nat.testBit_lt_two_pow]
    ·simp; omega
    ·have : 2 ^ (n + 1) ≤ 2 ^ k := Nat.pow_le_pow_right (by omega) h1
     rw [Nat.pow_succ] at this; omega
  ·rename_i h
   rw [Nat.add_zero, ih]
   congr 1
   refine propext ⟨fun g => ⟨by omega, g.2⟩, fun g => ⟨?_, g.2⟩⟩
   have : k ≠ n := fun e => by subst e; exact h g.2
   omega
theorem eq_numTo {P : Nat → Prop} {n m : Nat} (hm : m < 2 ^ n) (h : ∀ k, k < n → (m.testBit k = true ↔ P k)) : m = numTo P n := by
 refine Nat.eq_of_testBit_eq fun k => ?_
 rw [numTo_bit]
 by_cases hk : k < n
 ·rw [Bool.eq_iff_iff, h k hk, decide_eq_true_eq]; simp [hk]
 ·have : 2 ^ n ≤ 2 ^ k := Nat.pow_le_pow_right (by omega) (by omega)
  rw [Nat.testBit_lt_two_pow (by omega)]
  simp [hk]
def gndBy (s : Nat) (x : T) : Prop := ∀ n ∈ x.vars, s.testBit n.toNat = true
def fitEq (s : Nat) : T → T → Prop
 | .pair a b, .pair c d => fitEq s a c ∧ fitEq s b d
 | x, y => if x.tm.kind = 1 ∨ y.tm.kind = 1 then (gndBy s x ↔ gndBy s y) else x = y
noncomputable def callRow (s : Nat) (l : List T) : Nat → Nat := numTo fun i => ∃ x, l[i]? = some x ∧ gndBy s x
noncomputable def fitG (p : Pg) (rows : List Nat) (s : Nat) (g : Gl) : Prop :=
 if g.kind = 2 then ∃ x y, g.terms = [x, y] ∧ fitEq s x.toT y.toT
 else if g.kind = 9 then ∃ n, rows[(relAt p g.name).toNat]? = some n ∧ n.testBit (callRow s (g.terms.map Tm.toT) g.terms.length) = true
 else True
def rowHit (p : Pg) (rows : List Nat) (r : Rl) (k : Nat) : Prop :=
 ∃ s L c, s < 2 ^ (r.arity + r.locals).toNat ∧ s % 2 ^ r.arity.toNat = k ∧ r.body.cl = some L ∧ c ∈ L ∧ ∀ g ∈ c, fitG p rows s g
end Go.Vx
namespace Go.Vx
open Go.Proofs Classical
def Low (x : T) : Prop := ∀ n ∈ x.vars, 0 ≤ n ∧ n ≤ 60
theorem Low.arg {x y : T} (h : Low x) (hy : y ∈ x.args) : Low y := fun n hn => by
 cases x with
 | pair a b =>
  simp only [T.args, List.mem_cons, List.not_mem_nil, or_false] at hy
  refine h n ?_
  rw [T.vars, List.mem_append]
  rcases hy with rfl | rfl
  ·exact .inl hn
  ·exact .inr hn
 | _ => simp [T.args] at hy
theorem Low.var {x : T} (h : Low x) (hk : x.tm.kind = 1) : 0 ≤ x.tm.num ∧ x.tm.num ≤ 60 := by
 cases x with
 | var n => exact h n (by simp [T.vars])
 | _ => simp [T.tm, Tm.kind] at hk
section
variable {μ : Mem}
end
end Go.Vx
namespace Go.Vx
open Go.Proofs Classical
def Gl.single (x : Gl) : Prop := x.kind ≠ 0 ∧ x.kind ≠ 1 ∧ x.kind ≠ 7 ∧ x.kind ≠ 8
mutual
theorem Gl.cl_all : ∀ (g : Gl) {L : List (List Gl)}, g.cl = some L → ∀ c ∈ L, ∀ x ∈ c, x ∈ g.all ∧ x.single
 | .mk k s ts gs, L, h => by
  have hsub : ∀ y ∈ gs, ∀ x ∈ y.all, x ∈ (Gl.mk k s ts gs).all := fun y hy x hx => by
   rw [Gl.all_eq]
   exact List.mem_cons_of_mem _ (List.mem_flatMap.2 ⟨y, hy, hx⟩)
  rw [Gl.cl] at h
  split at h
  ·cases h; simp
  rename_i h0
  split at h
  ·cases h; simp
  rename_i h1
  split at h
  ·exact Gl.clOr_all gs (fun x => x ∈ (Gl.mk k s ts gs).all ∧ x.single) (fun y hy x hx hs => ⟨hsub y hy x hx, hs⟩) (by simp) h
  rename_i h8
  split at h
  ·exact Gl.clAnd_all gs (fun x => x ∈ (Gl.mk k s ts gs).all ∧ x.single) (fun y hy x hx hs => ⟨hsub y hy x hx, hs⟩) (by simp) h
  ·rename_i h7
   cases h
   intro c hc x hx
   rw [List.mem_singleton.1 hc] at hx
   rw [List.mem_singleton.1 hx]
   exact ⟨by rw [Gl.all_eq]; simp, h0, h1, h7, h8⟩
theorem Gl.clOr_all : ∀ (gs : List Gl) (Q : Gl → Prop) {acc L : List (List Gl)}, (∀ y ∈ gs, ∀ x ∈ y.all, x.single → Q x) → (∀ c ∈ acc, ∀ x ∈ c, Q x) → Gl.clOr gs acc = some L → ∀ c ∈ L, ∀ x ∈ c, Q x
 | [], Q, acc, L, _, h1, h => by
  rw [Gl.clOr] at h; cases h; exact h1
 | g :: gs, Q, acc, L, hQ, h1, h => by
  rw [Gl.clOr] at h
  cases e : g.cl with
  | none => rw [e] at h; cases h
  | some l =>
   rw [e, Option.bind_some] at h
   have hb := Gl.cl_all g e
   split at h
   ·exact Gl.clOr_all gs Q (acc := acc ++ l) (fun y hy => hQ y (by simp [hy])) (fun c hc x hx => by
     rcases List.mem_append.1 hc with hc | hc
     ·exact h1 c hc x hx
     ·exact hQ g (by simp) x (hb c hc x hx).1 (hb c hc x hx).2) h
   ·cases h
theorem Gl.clAnd_all : ∀ (gs : List Gl) (Q : Gl → Prop) {acc L : List (List Gl)}, (∀ y ∈ gs, ∀ x ∈ y.all, x.single → Q x) → (∀ c ∈ acc, ∀ x ∈ c, Q x) → Gl.clAnd gs acc = some L → ∀ c ∈ L, ∀ x ∈ c, Q x
 | [], Q, acc, L, _, h1, h => by
  rw [Gl.clAnd] at h; cases h; exact h1
 | g :: gs, Q, acc, L, hQ, h1, h => by
  rw [Gl.clAnd] at h
  cases e : g.cl with
  | none => rw [e] at h; cases h
  | some l =>
   rw [e, Option.bind_some] at h
   have hb := Gl.cl_all g e
   split at h
   ·exact Gl.clAnd_all gs Q (acc := prodC acc l) (fun y hy => hQ y (by simp [hy])) (fun c hc => by
     have w_ := prodC_mem hc
     obtain ⟨u, hu, w, hw, rfl⟩ := w_
     intro x hx
     rcases List.mem_append.1 hx with hx | hx
     ·exact h1 u hu x hx
     ·exact hQ g (by simp) x (hb w hw x hx).1 (hb w hw x hx).2) h
   ·cases h
end
structure GOk (p : Pg) (rows : List Nat) (g : Gl) : Prop where
 sh : g.Sh
 one : g.single
 low : ∀ t ∈ g.terms, Low t.toT
 rel : g.kind = 9 → ∃ k n : Nat, relAt p g.name = (k : Int) ∧ rows[k]? = some n ∧ n < 65536
theorem GOk.of {p : Pg} (hp : p.Ok) {rows : List Nat} (hl : rows.length = p.rels.length) (hr : ∀ n ∈ rows, n < 65536) {i : Nat} {r : Rl} (hi : p.rels[i]? = some r) {L : List (List Gl)} (hL : r.body.cl = some L) {c : List Gl} (hc : c ∈ L) {g : Gl} (hg : g ∈ c) : GOk p rows g := by
 have hrel := hp.2 i r hi
 have w_ := Gl.cl_all r.body hL c hc g hg
 obtain ⟨h1, h2⟩ := w_
 have hsh := hrel.body.all _ g h1
 refine ⟨hsh, h2, fun t ht n hn => ?_, fun h9 => ?_⟩
 ·have hv : n ∈ r.body.vars := by
   rw [Gl.vars]
   exact List.mem_flatMap.2 ⟨g, h1, List.mem_flatMap.2 ⟨t.toT, List.mem_map.2 ⟨t, ht, rfl⟩, hn⟩⟩
  have hlt := hrel.vars n hv
  have hge := Gl.vars_range hrel.body n hv
  have := hrel.ar4; have := hrel.lo8
  omega
 ·have w_ := hrel.calls.all g h1 h9
  obtain ⟨k, q, hk, hq, _⟩ := w_
  have hlen := (List.getElem?_eq_some_iff.1 hq).1
  have w_ := aSo (l := rows) (i := k) (by omega)
  obtain ⟨n, hn⟩ := w_
  exact ⟨k, n, hk, hn, hr n (mAt hn)⟩
section
variable {μ : Mem}
end
end Go.Vx
namespace Go.Vx
open Go.Proofs Classical
structure BitsOf (p : Pg) (rows : List Nat) (a N : Nat) (D : Nat → List Gl → Prop) : Prop where
 lt : N < 2 ^ (2 ^ a)
 bit : ∀ k, k < 2 ^ a → (N.testBit k = true ↔ ∃ s c, D s c ∧ s % 2 ^ a = k ∧ ∀ g ∈ c, fitG p rows s g)
section
variable {p : Pg} {rows : List Nat} {a N : Nat} {D D' : Nat → List Gl → Prop}
theorem BitsOf.zero (h : ∀ s c, ¬ D s c) : BitsOf p rows a 0 D where
 lt := Nat.two_pow_pos _
 bit := fun k _ => by
  simp only [Nat.zero_testBit, Bool.false_eq_true, false_iff]
  rintro ⟨s, c, h1, _⟩
  exact h s c h1
theorem BitsOf.congr (h : BitsOf p rows a N D) (e : ∀ s c, D' s c ↔ D s c) : BitsOf p rows a N D' where
 lt := h.lt
 bit := fun k hk => by simp only [e]; exact h.bit k hk
end
def DI (L : List (List Gl)) (M j b : Nat) (s : Nat) (c : List Gl) : Prop := (c ∈ L.take j ∧ s < M) ∨ (L[j]? = some c ∧ s < b)
def DS (L : List (List Gl)) (s0 j : Nat) (s : Nat) (c : List Gl) : Prop := (s < s0 ∧ c ∈ L) ∨ (s = s0 ∧ c ∈ L.take j)
theorem DI.next {L : List (List Gl)} {M j b : Nat} {c0 : List Gl} (h : L[j]? = some c0) (s : Nat) (c : List Gl) : DI L M j (b + 1) s c ↔ DI L M j b s c ∨ (s = b ∧ c = c0) := by
 unfold DI
 rw [h]
 constructor
 ·rintro (k | ⟨k1, k2⟩)
  ·exact .inl (.inl k)
  ·cases k1
   rcases Nat.lt_or_ge s b with k3 | k3
   ·exact .inl (.inr ⟨rfl, k3⟩)
   ·exact .inr ⟨by omega, rfl⟩
 ·rintro ((k | ⟨k1, k2⟩) | ⟨rfl, rfl⟩)
  ·exact .inl k
  ·exact .inr ⟨k1, by omega⟩
  ·exact .inr ⟨rfl, by omega⟩
theorem DS.next {L : List (List Gl)} {s0 j : Nat} {c0 : List Gl} (h : L[j]? = some c0) (s : Nat) (c : List Gl) : DS L s0 (j + 1) s c ↔ DS L s0 j s c ∨ (s = s0 ∧ c = c0) := by
 unfold DS
 rw [List.take_add_one, h, Option.toList_some, List.mem_append, List.mem_singleton]
 constructor
 ·rintro (k | ⟨rfl, k | rfl⟩)
  ·exact .inl (.inl k)
  ·exact .inl (.inr ⟨rfl, k⟩)
  ·exact .inr ⟨rfl, rfl⟩
 ·rintro ((k | ⟨rfl, k⟩) | ⟨rfl, rfl⟩)
  ·exact .inl k
  ·exact .inr ⟨rfl, .inl k⟩
  ·exact .inr ⟨rfl, .inr rfl⟩
theorem BitsOf.row {p : Pg} {rows : List Nat} {r : Rl} {L : List (List Gl)} (hL : r.body.cl = some L) {a l N : Nat} (ha : r.arity = (a : Int)) (hl : r.locals = (l : Int)) {D : Nat → List Gl → Prop} (h : BitsOf p rows a N D) (e : ∀ s c, D s c ↔ c ∈ L ∧ s < 2 ^ (a + l)) : N = numTo (rowHit p rows r) (2 ^ r.arity.toNat) := by
 have e1 : r.arity.toNat = a := by omega
 have e2 : (r.arity + r.locals).toNat = a + l := by omega
 rw [e1]
 refine eq_numTo h.lt fun k hk => ?_
 rw [h.bit k hk]
 constructor
 ·rintro ⟨s, c, h1, h2, h3⟩
  have w_ := (e s c).1 h1
  obtain ⟨h4, h5⟩ := w_
  exact ⟨s, L, c, by rw [e2]; exact h5, by rw [e1]; exact h2, hL, h4, h3⟩
 ·rintro ⟨s, L', c, h1, h2, h3, h4, h5⟩
  rw [hL] at h3
  cases h3
  rw [e2] at h1
  rw [e1] at h2
  exact ⟨s, c, (e s c).2 ⟨h4, h1⟩, h2, h5⟩
structure RowsIn (p : Pg) (rows : List Nat) : Prop where
 ok : p.Ok
 cls : ∀ r ∈ p.rels, r.body.cl ≠ none
 len : rows.length = p.rels.length
 lt : ∀ n ∈ rows, n < 65536
section
variable {μ : Mem}
set_option maxHeartbeats 8000000 in
end
end Go.Vx
namespace Go.Vx
open Go.Proofs Classical
section
variable {μ : Mem}
theorem rel_wd {p : Pg} (hw : p.d.wd) {i : Nat} {x : Rl} (hx : p.rels[i]? = some x) : x.body.d.wd := by
 have hw2 : D.wds (p.rels.map Rl.d) := by rw [Pg.d_eq] at hw; exact hw.1
 have h := D.wds_mem hw2 _ (mAt (at_map (f := Rl.d) hx))
 rw [Rl.d_eq] at h; exact h.2.2.2.1
set_option maxHeartbeats 8000000 in
end
end Go.Vx
namespace Go.Vx
open Go.Proofs Classical
section
variable {μ : Mem}
theorem pairR_spec {a b : T} {va vb : Value} (ha : RepV μ a.tm.d va) (hb : RepV μ b.tm.d vb) : Spec Tryz.prog 206 [va, vb] μ fun v μ' => RepV μ' (T.pair a b).tm.d v := by
 have w_ := Tm.invV ha
 obtain ⟨p, rfl⟩ := w_
 have w_ := Tm.invV hb
 obtain ⟨q, rfl⟩ := w_
 refine Spec.mk Tryz.func206 (by kernel_rfl) ?_
 intro r1 r2 r3 r4
 refine rFz [3] fun μ' hle hno hrow => .inl ?_
 rw [T.tm, Tm.d_mk]
 exact ⟨_, rfl, RepS.int (RepS.int (RepS.str (RepS.last (Rows.sl hrow (.cons (ha.mono hle) (Tm.d_n _) (.cons (hb.mono hle) (Tm.d_n _) .nil)) (show 2 ≤ maxLen by decide)))))⟩
theorem mapVars_rel {k : FuncId} {caps : List Value} {f : Int → Option T} (J : Mem → Mem → Prop) (hJ : ∀ {μ' μ'' h' : Mem}, μ'.Le μ'' → J μ' h' → J μ'' h') : ∀ (x : T) {μ h : Mem} {v : Value},
  (∀ μ' h', μ.Le μ' → J μ' h' → ∀ n ∈ x.vars, SpecH Tryz.prog k (.int .i64 n :: caps) μ' h' fun v μ'' h'' => optV (fun y tv => RepV μ'' y.tm.d tv) (f n) v ∧ J μ'' h'') → J μ h → RepV μ x.tm.d v →
  SpecH Tryz.prog 141 [v, .func (.func k) #[] caps.toArray] μ h fun v μ' h' => RepV μ' (x.subst f).tm.d v ∧ J μ' h' := by
 intro x
 induction x with
 | var n =>
  intro μ h v hk hj hv
  have w_ := Tm.invV hv
  obtain ⟨p, rfl⟩ := w_
  refine SpecH.mk [] Tryz.func141 (by kernel_rfl) ?_
  intro r1 r2
  refine ifd (fun _ => ?_) (fun h => absurd rfl h)
  refine cOw (hk μ h (Mem.Le.refl μ) hj n (by simp [T.vars])) fun v' μ' h' hle hap hR => ?_
  obtain ⟨hR, hj'⟩ := hR
  simp only [T.subst]
  cases hs : f n with
  | some y =>
   rw [hs] at hR
   obtain ⟨tv, rfl, htv⟩ := hR
   have w_ := Tm.invV htv
   obtain ⟨q, rfl⟩ := w_
   intro r3
   refine iIn (fun _ => ?_) (fun h => nomatch h)
   refine cPl (copyTerm_spec y htv) fun v2 μ2 hle2 hR2 => ?_
   have w_ := Tm.invV hR2.rep
   obtain ⟨q2, rfl⟩ := w_
   exact rPl ⟨hR2.rep, hJ hle2 hj'⟩
  | none =>
   rw [hs] at hR
   obtain rfl := hR
   intro r3
   refine iIn (fun h => nomatch h) (fun _ => ?_)
   exact rPl ⟨hv.mono hle, hj'⟩
 | pair a b iha ihb =>
  intro μ h v hk hj hv
  have w_ := Tm.inv hv
  obtain ⟨base', cap', rfl, hsa⟩ := w_
  have w_ := T.parts hsa
  obtain ⟨ad, ad', p, p', h1, h2, hra, hrb⟩ := w_
  refine SpecH.mk [] Tryz.func141 (by kernel_rfl) ?_
  intro r1 r2
  refine ifd (fun h => absurd h (by simp)) (fun _ => ?_)
  refine ifd (fun _ => ?_) (fun h => absurd rfl h)
  refine eIn h1 ?_
  refine eIn h2 ?_
  refine cOw (iha (fun μ' h' g1 g2 n hn => hk μ' h' g1 g2 n (by simp [T.vars, hn])) hj hra) fun v1 μ1 h1' hle1 hap1 hR1 => ?_
  obtain ⟨hR1, hj1⟩ := hR1
  refine cOw (ihb (fun μ' h' g1 g2 n hn => hk μ' h' (hle1.trans g1) g2 n (by simp [T.vars, hn])) hj1 (hrb.mono hle1)) fun v2 μ2 h2' hle2 hap2 hR2 => ?_
  obtain ⟨hR2, hj2⟩ := hR2
  refine cPl (pairR_spec (hR1.mono hle2) hR2) fun v3 μ3 hle3 hR3 => ?_
  have w_ := Tm.invV hR3
  obtain ⟨q, rfl⟩ := w_
  exact rPl ⟨hR3, hJ hle3 hj2⟩
 | _ =>
  intro μ h v hk hj hv
  have w_ := Tm.invV hv
  obtain ⟨p, rfl⟩ := w_
  refine SpecH.mk [] Tryz.func141 (by kernel_rfl) ?_
  intro r1 r2
  refine ifd (fun h => absurd h (by simp [T.tm, Tm.kind])) (fun _ => ?_)
  refine ifd (fun h => absurd h (by simp [T.tm, Tm.kind])) (fun _ => ?_)
  exact rPl ⟨hv, hj⟩
end
end Go.Vx
namespace Go.Vx
open Go.Proofs Classical
structure RuD where
 rel : ByteArray
 hargs : List Tm
 clause : Int
 vals : List Tm
 pos : List Fc
 neg : List Fc
def RuD.d (x : RuD) : D := .st [.s x.rel, .sl 4 (x.hargs.map Tm.d), .i x.clause, .sl 4 (x.vals.map Tm.d), .sl 2 (x.pos.map Fc.d), .sl 2 (x.neg.map Fc.d)]
theorem RuD.d_eq (x : RuD) : x.d = .st [.s x.rel, .sl 4 (x.hargs.map Tm.d), .i x.clause, .sl 4 (x.vals.map Tm.d), .sl 2 (x.pos.map Fc.d), .sl 2 (x.neg.map Fc.d)] := rfl
theorem RuD.d_n (x : RuD) : x.d.n = 6 := by
 rw [RuD.d_eq]
 simp only [D.n, D.ns]
abbrev RuD.P := (Option Addr × Nat) × (Option Addr × Nat) × (Option Addr × Nat) × (Option Addr × Nat)
def RuD.cs (x : RuD) (p : RuD.P) : List Value := [.string x.rel, .slice p.1.1 x.hargs.length p.1.2, .int .i64 x.clause, .slice p.2.1.1 x.vals.length p.2.1.2, .slice p.2.2.1.1 x.pos.length p.2.2.1.2, .slice p.2.2.2.1 x.neg.length p.2.2.2.2]
section
variable {μ : Mem}
def RuD.At (μ : Mem) (x : RuD) (p : RuD.P) : Prop := Sl μ 4 p.1.1 x.hargs.length (x.hargs.map Tm.d) ∧ Sl μ 4 p.2.1.1 x.vals.length (x.vals.map Tm.d) ∧ Sl μ 2 p.2.2.1.1 x.pos.length (x.pos.map Fc.d) ∧ Sl μ 2 p.2.2.2.1 x.neg.length (x.neg.map Fc.d)
theorem RuD.invA {x : RuD} {cs : List Value} (h : Rep μ x.d cs) : ∃ p : RuD.P, cs = x.cs p ∧ RuD.At μ x p := by
 rw [RuD.d_eq] at h
 obtain ⟨a0, t0, rfl, h0, h⟩ := h
 have h0 : a0 = [.string x.rel] := h0
 subst h0
 obtain ⟨a1, t1, rfl, h1, h⟩ := h
 have w_ := one_of (Rep.len _ _ h1)
 obtain ⟨v1, rfl⟩ := w_
 have w_ := Rep.sl h1
 obtain ⟨b1, c1, rfl, s1⟩ := w_
 rw [List.length_map] at s1
 obtain ⟨a2, t2, rfl, h2, h⟩ := h
 have h2 : a2 = [.int .i64 x.clause] := h2
 subst h2
 obtain ⟨a3, t3, rfl, h3, h⟩ := h
 have w_ := one_of (Rep.len _ _ h3)
 obtain ⟨v3, rfl⟩ := w_
 have w_ := Rep.sl h3
 obtain ⟨b3, c3, rfl, s3⟩ := w_
 rw [List.length_map] at s3
 obtain ⟨a4, t4, rfl, h4, h⟩ := h
 have w_ := one_of (Rep.len _ _ h4)
 obtain ⟨v4, rfl⟩ := w_
 have w_ := Rep.sl h4
 obtain ⟨b4, c4, rfl, s4⟩ := w_
 rw [List.length_map] at s4
 obtain ⟨a5, t5, rfl, h5, h⟩ := h
 have w_ := one_of (Rep.len _ _ h5)
 obtain ⟨v5, rfl⟩ := w_
 have w_ := Rep.sl h5
 obtain ⟨b5, c5, rfl, s5⟩ := w_
 rw [List.length_map] at s5
 obtain rfl : t5 = [] := h
 exact ⟨((b1, c1), (b3, c3), (b4, c4), (b5, c5)), by simp [RuD.cs], ⟨s1, s3, s4, s5⟩⟩
theorem RuD.rep {x : RuD} {cs : List Value} (h : Rep μ x.d cs) : RepV μ x.d (.agg cs.toArray) := by
 rw [RuD.d_eq] at h ⊢; exact ⟨cs, rfl, h⟩
theorem RuD.invR {x : RuD} {cs : List Value} (h : Rep μ x.d cs) : ∃ p : RuD.P, cs = x.cs p ∧ RepV μ x.d (.agg (x.cs p).toArray) := by
 have w_ := RuD.invA h
 obtain ⟨p, e, _⟩ := w_
 subst e
 exact ⟨p, rfl, RuD.rep h⟩
theorem RuD.inv {x : RuD} {v : Value} (h : RepV μ x.d v) : ∃ p : RuD.P, v = .agg #[.string x.rel, .slice p.1.1 x.hargs.length p.1.2, .int .i64 x.clause, .slice p.2.1.1 x.vals.length p.2.1.2, .slice p.2.2.1.1 x.pos.length p.2.2.1.2, .slice p.2.2.2.1 x.neg.length p.2.2.2.2] ∧ RuD.At μ x p := by
 have h2 : ∃ cs, v = .agg (List.toArray cs) ∧ Rep μ x.d cs := by rw [RuD.d_eq] at h ⊢; exact h
 obtain ⟨cs, rfl, h3⟩ := h2
 have w_ := RuD.invA h3
 obtain ⟨p, rfl, hA⟩ := w_
 exact ⟨p, rfl, hA⟩
theorem RuD.invV {x : RuD} {v : Value} (h : RepV μ x.d v) : ∃ p : RuD.P, v = .agg #[.string x.rel, .slice p.1.1 x.hargs.length p.1.2, .int .i64 x.clause, .slice p.2.1.1 x.vals.length p.2.1.2, .slice p.2.2.1.1 x.pos.length p.2.2.1.2, .slice p.2.2.2.1 x.neg.length p.2.2.2.2] := by
 have w_ := RuD.inv h
 obtain ⟨p, h, _⟩ := w_
 exact ⟨p, h⟩
theorem RuD.elemA {l : List RuD} {base : Option Addr} {n : Nat} (h : Sl μ 6 base n (l.map RuD.d)) {i : Nat} {x : RuD} (hx : l[i]? = some x) : ∃ ad, ∃ p : RuD.P, ElemAt μ base n 6 i ad (x.cs p) ∧ RepV μ x.d (.agg (x.cs p).toArray) ∧ RuD.At μ x p := by
 have w_ := h.get i x.d (by simp [hx])
 obtain ⟨ad, cs, h1, h2⟩ := w_
 have w_ := RuD.invA h2
 obtain ⟨p, rfl, hA⟩ := w_
 exact ⟨ad, p, h1, RuD.rep h2, hA⟩
theorem RuD.elem {l : List RuD} {base : Option Addr} {n : Nat} (h : Sl μ 6 base n (l.map RuD.d)) {i : Nat} {x : RuD} (hx : l[i]? = some x) : ∃ ad, ∃ p : RuD.P, ElemAt μ base n 6 i ad (x.cs p) ∧ RepV μ x.d (.agg (x.cs p).toArray) := by
 have w_ := RuD.elemA h hx
 obtain ⟨ad, p, h1, h2, _⟩ := w_
 exact ⟨ad, p, h1, h2⟩
end
end Go.Vx
namespace Go.Vx
open Go.Proofs Classical
noncomputable abbrev cmpL : List T → List T → Int := cmpList T.cmp
theorem cmpL_ord : Ord3 cmpL := cmpList_ord T.cmp_ord
structure F where
 rel : ByteArray
 args : List T
def F.fc (f : F) : Fc := ⟨f.rel, f.args.map T.tm⟩
noncomputable def cmpF (a b : F) : Int := lexI (cName a.rel b.rel) (cmpL a.args b.args)
theorem cmpF_ord : Ord3 cmpF where
 zero x y := by
  rw [cmpF, lexI_zero, cName_ord.zero, cmpL_ord.zero]
  cases x; cases y; simp
 anti x y := cName_ord.lex_anti fun _ => cmpL_ord.anti _ _
 trans x y z := cName_ord.lex_trans fun _ _ => cmpL_ord.trans _ _ _
noncomputable abbrev ascF (l : List F) : List F := ascOf cmpF_ord l
theorem len_le_of_sub {α : Type} : ∀ {a b : List α}, a.Nodup → (∀ x ∈ a, x ∈ b) → a.length ≤ b.length
 | [], _, _, _ => Nat.zero_le _
 | x :: a, b, hn, h => by
  have w_ := List.nodup_cons.1 hn
  obtain ⟨h1, h2⟩ := w_
  have w_ := List.append_of_mem (h x (by simp))
  obtain ⟨s, t, rfl⟩ := w_
  have := len_le_of_sub (a := a) (b := s ++ t) h2 fun y hy => by
   have h3 := h y (by simp [hy])
   rcases List.mem_append.1 h3 with h3 | h3
   ·simp [h3]
   ·rcases List.mem_cons.1 h3 with rfl | h3
    ·exact absurd hy h1
    ·simp [h3]
  simp only [List.length_append, List.length_cons] at *
  omega
theorem sub_of_len {α : Type} {a b : List α} (hn : a.Nodup) (h : ∀ x ∈ a, x ∈ b) (hl : b.length ≤ a.length) : ∀ x ∈ b, x ∈ a := fun x hx => Classical.byContradiction fun k => by
 have := len_le_of_sub (a := x :: a) (b := b) (List.nodup_cons.2 ⟨k, hn⟩) fun y hy => by
  rcases List.mem_cons.1 hy with rfl | hy
  ·exact hx
  ·exact h y hy
 rw [List.length_cons] at this; omega
theorem asc_same {α : Type} {c : α → α → Int} (ho : Ord3 c) {a b : List α} (ha : Asc3 c a) (hb : Asc3 c b) (h : ∀ x ∈ a, x ∈ b) (hl : b.length = a.length) : a = b :=
 ha.uniq ho hb fun x => ⟨h x, sub_of_len (ha.nodup ho) h (by omega) x⟩
theorem asc_more {α : Type} {c : α → α → Int} (ho : Ord3 c) {a b : List α} (ha : Asc3 c a) (_hb : Asc3 c b) (h : ∀ x ∈ a, x ∈ b) (hne : b.length ≠ a.length) : a.length < b.length := by
 have := len_le_of_sub (ha.nodup ho) h
 omega
structure Ru where
 head : F
 clause : Int
 vals : List T
 pos : List F
 neg : List F
def valF (vs : List T) (n : Int) : Option T := if 0 ≤ n then vs[n.toNat]? else none
noncomputable def callF (vs : List T) (g : Gl) : F := ⟨g.name, g.terms.map fun t => t.toT.subst (valF vs)⟩
def Gl.kid (g : Gl) : Gl := g.goals.getD 0 (.mk 0 ⟨#[]⟩ [] [])
def testT (k : Int) (xs : List T) : Prop :=
 if k = 0 then True else if k = 2 then xs[0]? = xs[1]? else if k = 3 then xs[0]? ≠ xs[1]? else if k = 4 then ∃ x, xs[0]? = some x ∧ x.tm.kind = 2
 else if k = 5 then ∃ x, xs[0]? = some x ∧ x.tm.kind = 3 else if k = 6 then ∃ x y, xs[0]? = some x ∧ xs[1]? = some y ∧ ¬ y.hasSym x.tm.name else False
def okG (U vs : List T) (g : Gl) : Prop :=
 if g.kind = 9 then ∀ a ∈ (callF vs g).args, a ∈ U else if g.kind = 10 then ∀ a ∈ (callF vs g.kid).args, a ∈ U else testT g.kind (g.terms.map fun t => t.toT.subst (valF vs))
noncomputable def posF (vs : List T) (c : List Gl) : List F := (c.filter fun g => decide (g.kind = 9)).map (callF vs)
noncomputable def negF (vs : List T) (c : List Gl) : List F := (c.filter fun g => decide (g.kind = 10)).map fun g => callF vs g.kid
noncomputable def ruleOf (r : Rl) (i : Nat) (c : List Gl) (vs : List T) : Ru := ⟨⟨r.name, vs.take r.arity.toNat⟩, i, vs, posF vs c, negF vs c⟩
def digs (U : List T) : Nat → Nat → List T
 | 0, _ => []
 | n + 1, w => U.getD (w % U.length) .nil :: digs U n (w / U.length)
theorem digs_len (U : List T) : ∀ n w, (digs U n w).length = n
 | 0, _ => rfl
 | n + 1, w => by rw [digs, List.length_cons, digs_len U n]
theorem digs_get (U : List T) : ∀ k n w, k < n → (digs U n w)[k]? = some (U.getD (w / U.length ^ k % U.length) .nil)
 | k, 0, w, h => by omega
 | 0, n + 1, w, h => by simp [digs]
 | k + 1, n + 1, w, h => by
  rw [digs, List.getElem?_cons_succ, digs_get U k n _ (by omega), Nat.div_div_eq_div_mul, ← Nat.pow_succ']
theorem digs_mem (U : List T) (hU : 0 < U.length) : ∀ n w, ∀ x ∈ digs U n w, x ∈ U
 | 0, w, x, h => by simp [digs] at h
 | n + 1, w, x, h => by
  rcases List.mem_cons.1 h with rfl | h
  ·rw [List.getD_eq_getElem?_getD, List.getElem?_eq_getElem (Nat.mod_lt _ hU)]
   exact List.getElem_mem _
  ·exact digs_mem U hU n _ x h
noncomputable def ruleAt (U : List T) (r : Rl) (i : Nat) (c : List Gl) (w : Nat) : Option Ru :=
 if ∀ g ∈ c, okG U (digs U (r.arity + r.locals).toNat w) g then some (ruleOf r i c (digs U (r.arity + r.locals).toNat w)) else none
noncomputable def rulesW (U : List T) (r : Rl) (i : Nat) (c : List Gl) (w : Nat) : List Ru := (List.range w).filterMap (ruleAt U r i c)
noncomputable def rulesC (U : List T) (r : Rl) (L : List (List Gl)) (k : Nat) : List Ru := (List.range k).flatMap fun i => rulesW U r i (L.getD i []) (U.length ^ (r.arity + r.locals).toNat)
noncomputable def rulesR (U : List T) (r : Rl) : List Ru := match r.body.cl with
 | none => []
 | some L => rulesC U r L L.length
noncomputable def rulesP (p : Pg) (U : List T) : List Ru := p.rels.flatMap (rulesR U)
def waysOk (p : Pg) (U : List T) : Prop := ∀ r ∈ p.rels, r.body.cl ≠ none ∧ U.length ^ (r.arity + r.locals).toNat ≤ 4096
noncomputable def groundR (p : Pg) (U : List T) : Option (List Ru) := if waysOk p U ∧ (rulesP p U).length ≤ 2000 then some (rulesP p U) else none
theorem rulesW_succ (U : List T) (r : Rl) (i : Nat) (c : List Gl) (w : Nat) : rulesW U r i c (w + 1) = rulesW U r i c w ++ (ruleAt U r i c w).toList := by
 rw [rulesW, List.range_succ, List.filterMap_append]
 cases h : ruleAt U r i c w <;> simp [h, rulesW]
theorem rulesC_succ {U : List T} {r : Rl} {L : List (List Gl)} {k : Nat} {c : List Gl} (h : L[k]? = some c) : rulesC U r L (k + 1) = rulesC U r L k ++ rulesW U r k c (U.length ^ (r.arity + r.locals).toNat) := by
 rw [rulesC, List.range_succ, List.flatMap_append]
 congr 1
 simp [List.getD_eq_getElem?_getD, h]
theorem rulesP_take {p : Pg} {U : List T} {i : Nat} {r : Rl} (h : p.rels[i]? = some r) : (p.rels.take (i + 1)).flatMap (rulesR U) = (p.rels.take i).flatMap (rulesR U) ++ rulesR U r := by
 rw [List.take_add_one, h, Option.toList_some, List.flatMap_append]
 simp
def fires (pos neg : List F) (r : Ru) : Prop := (∀ f ∈ r.pos, f ∈ pos) ∧ ∀ f ∈ r.neg, f ∉ neg
noncomputable def nextF (rs : List Ru) (pos neg : List F) : List F := ascF ((rs.filter fun r => decide (fires pos neg r)).map Ru.head)
theorem mem_nextF {rs : List Ru} {pos neg : List F} {f : F} : f ∈ nextF rs pos neg ↔ ∃ r ∈ rs, fires pos neg r ∧ r.head = f := by
 rw [nextF, ascOf_mem, List.mem_map]
 constructor
 ·rintro ⟨r, h1, h2⟩
  rw [List.mem_filter, decide_eq_true_eq] at h1
  exact ⟨r, h1.1, h1.2, h2⟩
 ·rintro ⟨r, h1, h2, h3⟩
  exact ⟨r, by rw [List.mem_filter, decide_eq_true_eq]; exact ⟨h1, h2⟩, h3⟩
inductive Der (rs : List Ru) (base : List F) : F → Prop
 | base {f : F} (h : f ∈ base) : Der rs base f
 | rule {r : Ru} (h : r ∈ rs) (hp : ∀ f ∈ r.pos, Der rs base f) : Der rs base r.head
noncomputable def lfp (rs : List Ru) (base : List F) : List F := ascF ((base ++ rs.map Ru.head).filter fun f => decide (Der rs base f))
theorem mem_lfp {rs : List Ru} {base : List F} {f : F} : f ∈ lfp rs base ↔ Der rs base f := by
 rw [lfp, ascOf_mem, List.mem_filter, decide_eq_true_eq]
 refine ⟨fun h => h.2, fun h => ⟨?_, h⟩⟩
 cases h with
 | base h => exact List.mem_append_left _ h
 | rule h _ => exact List.mem_append_right _ (List.mem_map_of_mem h)
theorem lfp_asc (rs : List Ru) (base : List F) : Asc3 cmpF (lfp rs base) := ascOf_asc cmpF_ord _
theorem lfp_eq {rs : List Ru} {base S : List F} (ha : Asc3 cmpF S) (hb : ∀ f ∈ base, f ∈ S) (hd : ∀ f ∈ S, Der rs base f) (hc : ∀ r ∈ rs, (∀ f ∈ r.pos, f ∈ S) → r.head ∈ S) : S = lfp rs base :=
 ha.uniq cmpF_ord (lfp_asc _ _) fun x => by
  rw [mem_lfp]
  refine ⟨hd x, fun h => ?_⟩
  induction h with
  | base h => exact hb _ h
  | rule h _ ih => exact hc _ h ih
noncomputable def unlessR (rs : List Ru) (S : List F) : List Ru := rs.filter fun r => decide (∀ f ∈ r.neg, f ∉ S)
theorem mem_unlessR {rs : List Ru} {S : List F} {r : Ru} : r ∈ unlessR rs S ↔ r ∈ rs ∧ ∀ f ∈ r.neg, f ∉ S := by
 rw [unlessR, List.mem_filter, decide_eq_true_eq]
end Go.Vx
namespace Go.Vx
open Go.Proofs Classical
section
variable {μ : Mem}
theorem T.elemL {xs : List T} {base : Option Addr} {n : Nat} (h : Sl μ 4 base n ((xs.map T.tm).map Tm.d)) {i : Nat} {x : T} (hx : xs[i]? = some x) : ∃ ad, ∃ p : Option Addr × Nat, ElemAt μ base n 4 i ad (x.tm.cs p) ∧ RepV μ x.tm.d (.agg (x.tm.cs p).toArray) :=
 Tm.elem h (by simp [hx])
theorem orderTermLists_spec {xs ys : List T} {base base2 : Option Addr} {cap cap2 : Nat} (hsl : Sl μ 4 base xs.length ((xs.map T.tm).map Tm.d)) (hsl2 : Sl μ 4 base2 ys.length ((ys.map T.tm).map Tm.d)) :
  Gives Tryz.prog 192 [.slice base xs.length cap, .slice base2 ys.length cap2] μ (.int .i64 (cmpL xs ys)) := by
 refine Spec.mk Tryz.func192 (by kernel_rfl) ?_
 have hm1 := maxLen_le hsl.max
 have hm2 := maxLen_le hsl2.max
 refine lIn (fun i : Nat => i ≤ xs.length ∧ i ≤ ys.length ∧ cmpL (xs.drop i) (ys.drop i) = cmpL xs ys)
  (fun i => ⟨[(0, .val (.slice base xs.length cap)), (1, .val (.slice base2 ys.length cap2)), (5, .val (.int .i64 i))], [], 0, μ, Mem.nil⟩) (fun i => xs.length - i)
  0 ⟨Nat.zero_le _, Nat.zero_le _, rfl⟩ (fun _ => ⟨rfl, rfl⟩) ⟨⟨rfl, rfl, rfl, trivial⟩, trivial, rfl, rfl⟩ ?_
 rintro i ⟨hi, hj, hJ⟩
 have fin : ¬ (i < xs.length ∧ i < ys.length) → cmpL xs ys = cInt xs.length ys.length := fun h => cmpList_end h hi hj hJ
 refine ifd (fun h1 => ?_) (fun h1 => ?_)
 ·refine ifd (fun h2 => ?_) (fun h2 => ?_)
  ·have w_ := aSo (l := xs) (i := i) (by omega)
   obtain ⟨x, hx⟩ := w_
   have w_ := aSo (l := ys) (i := i) (by omega)
   obtain ⟨y, hy⟩ := w_
   have w_ := T.elemL hsl hx
   obtain ⟨ad, p, hel, hto⟩ := w_
   have w_ := T.elemL hsl2 hy
   obtain ⟨ad2, p2, hel2, hto2⟩ := w_
   rw [drop_at hx, drop_at hy, cmpL, cmpList] at hJ
   refine eIn hel (eIn hel2 ?_)
   refine cGv (orderTerms_spec _ _ hto hto2) ?_
   refine ifnd (fun h5 => ?_) (fun h5 => ?_)
   ·rw [lexI_ne h5] at hJ
    exact rGv (congrArg (Value.int .i64) hJ) rfl
   ·rw [lexI_eq h5] at hJ
    exact num64 (by omega) (by omega) ⟨i + 1, ⟨by omega, by omega, hJ⟩, by omega, ⟨⟨rfl, rfl, rfl, trivial⟩, trivial, rfl, rfl⟩⟩
  ·refine cGv (orderInts_any _ _) ?_
   exact rGv (by rw [fin (by omega)]) rfl
 ·refine cGv (orderInts_any _ _) ?_
  exact rGv (by rw [fin (by omega)]) rfl
theorem l02CmpAll_spec {xs ys : List T} {base base2 : Option Addr} {cap cap2 : Nat} (hsl : Sl μ 4 base xs.length ((xs.map T.tm).map Tm.d)) (hsl2 : Sl μ 4 base2 ys.length ((ys.map T.tm).map Tm.d)) :
  Gives Tryz.prog 191 [.slice base xs.length cap, .slice base2 ys.length cap2] μ (.int .i64 (cmpL xs ys)) := by
 refine Spec.mk Tryz.func191 (by kernel_rfl) ?_
 have hm1 := maxLen_le hsl.max
 have hm2 := maxLen_le hsl2.max
 refine lIn (fun i : Nat => i ≤ xs.length ∧ i ≤ ys.length ∧ cmpL (xs.drop i) (ys.drop i) = cmpL xs ys)
  (fun i => ⟨[(0, .val (.slice base xs.length cap)), (1, .val (.slice base2 ys.length cap2)), (5, .val (.int .i64 i))], [], 0, μ, Mem.nil⟩) (fun i => xs.length - i)
  0 ⟨Nat.zero_le _, Nat.zero_le _, rfl⟩ (fun _ => ⟨rfl, rfl⟩) ⟨⟨rfl, rfl, rfl, trivial⟩, trivial, rfl, rfl⟩ ?_
 rintro i ⟨hi, hj, hJ⟩
 have fin : ¬ (i < xs.length ∧ i < ys.length) → cmpL xs ys = cInt xs.length ys.length := fun h => cmpList_end h hi hj hJ
 refine ifd (fun h1 => ?_) (fun h1 => ?_)
 ·refine ifd (fun h2 => ?_) (fun h2 => ?_)
  ·have w_ := aSo (l := xs) (i := i) (by omega)
   obtain ⟨x, hx⟩ := w_
   have w_ := aSo (l := ys) (i := i) (by omega)
   obtain ⟨y, hy⟩ := w_
   have w_ := T.elemL hsl hx
   obtain ⟨ad, p, hel, hto⟩ := w_
   have w_ := T.elemL hsl2 hy
   obtain ⟨ad2, p2, hel2, hto2⟩ := w_
   rw [drop_at hx, drop_at hy, cmpL, cmpList] at hJ
   refine eIn hel (eIn hel2 ?_)
   refine cGv (l02Cmp_spec _ _ hto hto2) ?_
   refine ifnd (fun h5 => ?_) (fun h5 => ?_)
   ·rw [lexI_ne h5] at hJ
    exact rGv (congrArg (Value.int .i64) hJ) rfl
   ·rw [lexI_eq h5] at hJ
    exact num64 (by omega) (by omega) ⟨i + 1, ⟨by omega, by omega, hJ⟩, by omega, ⟨⟨rfl, rfl, rfl, trivial⟩, trivial, rfl, rfl⟩⟩
  ·have hf := fin (by omega)
   refine ifnd (fun h3 => ?_) (fun h3 => ?_)
   ·refine cGv (l02Sign_spec _) ?_
    exact rGv (by rw [hf, cInt, if_neg h3]) rfl
   ·exact rGv (by rw [hf, cInt, if_pos h3]) rfl
 ·have hf := fin (by omega)
  refine ifnd (fun h3 => ?_) (fun h3 => ?_)
  ·refine cGv (l02Sign_spec _) ?_
   exact rGv (by rw [hf, cInt, if_neg h3]) rfl
  ·exact rGv (by rw [hf, cInt, if_pos h3]) rfl
theorem F.inv {f : F} {v : Value} (h : RepV μ f.fc.d v) : ∃ p : Fc.P, v = .agg #[.string f.rel, .slice p.1 f.args.length p.2] ∧ Sl μ 4 p.1 f.args.length ((f.args.map T.tm).map Tm.d) := by
 have w_ := Fc.inv h
 obtain ⟨p, rfl, hA⟩ := w_
 have e : f.fc.args.length = f.args.length := List.length_map ..
 have hA : Sl μ 4 p.1 f.fc.args.length ((f.args.map T.tm).map Tm.d) := hA
 rw [e] at hA ⊢
 exact ⟨p, rfl, hA⟩
def F.cs (f : F) (p : Fc.P) : List Value := [.string f.rel, .slice p.1 f.args.length p.2]
theorem F.elem {l : List F} {base : Option Addr} {n : Nat} (h : Sl μ 2 base n ((l.map F.fc).map Fc.d)) {i : Nat} {f : F} (hf : l[i]? = some f) : ∃ ad, ∃ p : Fc.P, ElemAt μ base n 2 i ad (f.cs p) ∧ RepV μ f.fc.d (.agg (f.cs p).toArray) ∧ Sl μ 4 p.1 f.args.length ((f.args.map T.tm).map Tm.d) := by
 have w_ := Fc.elemA h (i := i) (x := f.fc) (by simp [hf])
 obtain ⟨ad, p, h1, h2, h3⟩ := w_
 have e : f.fc.cs p = f.cs p := by
  show [_, Value.slice p.1 (f.args.map T.tm).length p.2] = _
  rw [List.length_map]; rfl
 rw [e] at h1 h2
 have h3 : Sl μ 4 p.1 (f.args.map T.tm).length ((f.args.map T.tm).map Tm.d) := h3
 rw [List.length_map] at h3
 exact ⟨ad, p, h1, h2, h3⟩
theorem F.mkV {f : F} {b : Option Addr} {c : Nat} (h : RepV μ (.sl 4 ((f.args.map T.tm).map Tm.d)) (.slice b f.args.length c)) : RepV μ f.fc.d (.agg #[.string f.rel, .slice b f.args.length c]) := by
 rw [Fc.d_eq]
 exact ⟨_, rfl, RepS.str (RepS.last h)⟩
theorem orderFacts_spec {f g : F} {v w : Value} (hv : RepV μ f.fc.d v) (hw : RepV μ g.fc.d w) : Gives Tryz.prog 128 [v, w] μ (.int .i64 (cmpF f g)) := by
 have w_ := F.inv hv
 obtain ⟨p, rfl, hs⟩ := w_
 have w_ := F.inv hw
 obtain ⟨q, rfl, hs2⟩ := w_
 refine Spec.mk Tryz.func128 (by kernel_rfl) ?_
 intro r1 r2
 rw [cmpF]
 refine ifnd (fun h => ?_) (fun h => ?_)
 ·have e : lexI (cName f.rel g.rel) (cmpL f.args g.args) = sgn (Op.bytesLess f.rel.data.toList g.rel.data.toList) := by
   rw [lexI_ne (fun k => h ((cName_ord.zero _ _).1 k)), cName, if_neg h]
  rw [e]
  refine iIn (fun h4 => rGv ?_ rfl) (fun h4 => rGv ?_ rfl)
  ·rw [h4]; rfl
  ·rw [h4]; rfl
 ·rw [lexI_eq ((cName_ord.zero _ _).2 h)]
  refine cGv (orderTermLists_spec hs hs2) ?_
  exact rGv rfl rfl
theorem l18Cmp_spec {f g : F} {v w : Value} (hv : RepV μ f.fc.d v) (hw : RepV μ g.fc.d w) : Gives Tryz.prog 127 [v, w] μ (.int .i64 (cmpF f g)) := by
 have w_ := F.inv hv
 obtain ⟨p, rfl, hs⟩ := w_
 have w_ := F.inv hw
 obtain ⟨q, rfl, hs2⟩ := w_
 refine Spec.mk Tryz.func127 (by kernel_rfl) ?_
 intro r1 r2
 rw [cmpF]
 refine ifnd (fun h => ?_) (fun h => ?_)
 ·have e : lexI (cName f.rel g.rel) (cmpL f.args g.args) = sgn (Op.bytesLess f.rel.data.toList g.rel.data.toList) := by
   rw [lexI_ne (fun k => h ((cName_ord.zero _ _).1 k)), cName, if_neg h]
  rw [e]
  refine cGv (l02Sign_spec _) ?_
  exact rGv rfl rfl
 ·rw [lexI_eq ((cName_ord.zero _ _).2 h)]
  refine cGv (l02CmpAll_spec hs hs2) ?_
  exact rGv rfl rfl
end
end Go.Vx
namespace Go.Vx
open Go.Proofs Classical
def GndT (t : Tm) : Prop := t.Ok ∧ t.toT.vars = []
structure UnivOk (l : List Tm) : Prop where
 pos : 1 ≤ l.length
 max : l.length ≤ 8
 gnd : ∀ t ∈ l, GndT t
 asc : ∀ (i : Nat) x y, l[i]? = some x → l[i + 1]? = some y → x.toT.cmp y.toT < 0
theorem UnivOk.lift {l : List Tm} (h : UnivOk l) : ∃ U : List T, l = U.map T.tm ∧ (∀ x ∈ U, x.ok ∧ x.vars = []) ∧ U.length = l.length := by
 have w_ := lift_ok fun t ht => (h.gnd t ht).1
 obtain ⟨U, rfl, hU⟩ := w_
 refine ⟨U, rfl, fun x hx => ⟨hU x hx, ?_⟩, by rw [List.length_map]⟩
 have := (h.gnd x.tm (List.mem_map_of_mem hx)).2
 rwa [T.toT_tm] at this
def relFor (p : Pg) (f : Fc) : Prop := ∃ (k : Nat) (r : Rl), relAt p f.rel = (k : Int) ∧ p.rels[k]? = some r ∧ r.arity = (f.args.length : Int)
def FactFits (p : Pg) (f : Fc) : Prop := relFor p f ∧ ∀ t ∈ f.args, GndT t
noncomputable def Fc.f (x : Fc) : F := ⟨x.rel, x.args.map Tm.toT⟩
theorem FactFits.lift {p : Pg} {x : Fc} (h : FactFits p x) : x.f.fc = x ∧ ∀ a ∈ x.f.args, a.ok ∧ a.vars = [] := by
 have w_ := lift_ok fun t ht => (h.2 t ht).1
 obtain ⟨xs, hxs, hok⟩ := w_
 have e : x.f.args = xs := by show x.args.map Tm.toT = xs; rw [hxs, toTs_tm]
 refine ⟨?_, fun a ha => ?_⟩
 ·show Fc.mk x.rel (x.f.args.map T.tm) = x
  rw [e, ← hxs]
 ·rw [e] at ha
  refine ⟨hok a ha, ?_⟩
  have := (h.2 a.tm (by rw [hxs]; exact List.mem_map_of_mem ha)).2
  rwa [T.toT_tm] at this
section
variable {μ : Mem}
theorem spec_IsGround_any (t : Tm) {v : Value} (hv : RepV μ t.d v) (hw : t.d.wd) : Gives Tryz.prog 63 [v] μ (.bool (decide (GndT t))) := by
 by_cases h : t.Ok
 ·obtain ⟨x, hx, rfl⟩ := h.lift
  have := spec_IsGround_spec x hv hx hw
  have e : (decide (x.vars = [])) = decide (GndT x.tm) := decide_eq_decide.2 ⟨fun k => ⟨h, by rw [T.toT_tm]; exact k⟩, fun k => by have := k.2; rwa [T.toT_tm] at this⟩
  rwa [e] at this
 ·have w_ := Tm.invV hv
  obtain ⟨p, rfl⟩ := w_
  refine Spec.mk Tryz.func63 (by kernel_rfl) ?_
  intro r
  refine cGv (spec_TermOk_spec t hv hw) ?_
  refine ifd (fun k => absurd k h) (fun _ => ?_)
  exact rGv (by rw [decide_eq_false fun k => h k.1]) rfl
theorem impl_IsGround_any (t : Tm) {v : Value} (hv : RepV μ t.d v) : Gives Tryz.prog 72 [v] μ (.bool (decide (GndT t))) := by
 have hv0 := hv
 have w_ := Tm.invV hv
 obtain ⟨p, rfl⟩ := w_
 refine Spec.forget (Spec.mk Tryz.func72 (by kernel_rfl) ?_)
 intro r
 refine cGv (impl_TermOk_spec t hv0) ?_
 refine ifd (fun h => ?_) (fun h => ?_)
 ·obtain ⟨x, hx, rfl⟩ := h.lift
  refine cGv (isGround_spec x hv0) ?_
  refine rPl (isI ⟨fun k => ⟨h, by rw [T.toT_tm]; exact k⟩, fun k => by have := k.2; rwa [T.toT_tm] at this⟩)
 ·exact rPl (isF fun k => h k.1)
def UnivTo (l : List Tm) (i : Nat) : Prop := ∀ j, j < i → (∀ t, l[j]? = some t → GndT t) ∧ ∀ k x y, k + 1 = j → l[k]? = some x → l[j]? = some y → x.toT.cmp y.toT < 0
theorem UnivTo.all {l : List Tm} (h : UnivTo l l.length) (h1 : 1 ≤ l.length) (h8 : l.length ≤ 8) : UnivOk l where
 pos := h1
 max := h8
 gnd t ht := by
  have w_ := List.mem_iff_getElem?.1 ht
  obtain ⟨j, hj⟩ := w_
  exact (h j (List.getElem?_eq_some_iff.1 hj).1).1 t hj
 asc i x y hx hy := (h (i + 1) (List.getElem?_eq_some_iff.1 hy).1).2 i x y rfl hx hy
theorem UnivOk.to {l : List Tm} (h : UnivOk l) (i : Nat) : UnivTo l i := fun j _ => ⟨fun t ht => h.gnd t (mAt ht), fun k x y hk hx hy => by subst hk; exact h.asc k x y hx hy⟩
theorem spec_UniverseOk_spec {l : List Tm} {base : Option Addr} {cap : Nat} (hsl : Sl μ 4 base l.length (l.map Tm.d)) (hw : D.wds (l.map Tm.d)) :
  Gives Tryz.prog 163 [.slice base l.length cap] μ (.bool (decide (UnivOk l))) := by
 have hn := maxLen_le hsl.max
 have bad : ¬ UnivOk l → Value.bool false = .bool (decide (UnivOk l)) := fun k => isF k
 refine Spec.mk Tryz.func163 (by kernel_rfl) ?_
 refine lIn (fun i : Nat => i ≤ l.length ∧ UnivTo l i)
  (fun i => ⟨[(0, .val (.slice base l.length cap)), (5, .val (.slice base l.length cap)), (6, .val (.int .i64 l.length)), (7, .val (.int .i64 i))], [], 0, μ, Mem.nil⟩) (fun i => l.length - i)
  0 ⟨Nat.zero_le _, fun j hj => by omega⟩ (fun _ => ⟨rfl, rfl⟩) ⟨⟨rfl, rfl, rfl, rfl, trivial⟩, trivial, rfl, rfl⟩ ?_
 rintro i ⟨hi, hall⟩
 refine ifd (fun hlt => ?_) (fun hlt => ?_)
 ·have w_ := aSo (l := l) (i := i) (by omega)
  obtain ⟨t, ht⟩ := w_
  have w_ := Tm.elem hsl ht
  obtain ⟨ad, p, hel, hr⟩ := w_
  refine eIn hel ?_
  intro r4
  refine cGv (spec_IsGround_any t hr (D.wds_mem hw _ (mAt (at_map (f := Tm.d) ht)))) ?_
  refine ifnd (fun h => rGv (bad fun k => h (k.gnd t (mAt ht))) rfl) (fun hg => ?_)
  have ok1 : (∀ k x y, k + 1 = i → l[k]? = some x → l[i]? = some y → x.toT.cmp y.toT < 0) → UnivTo l (i + 1) := fun hc j hj => by
   rcases Nat.lt_or_ge j i with h6 | h6
   ·exact hall j h6
   ·obtain rfl : j = i := by omega
    exact ⟨fun t' ht' => by rw [ht] at ht'; cases ht'; exact hg, hc⟩
  refine ifd (fun hi0 => ?_) (fun hi0 => ?_)
  ·have w_ := aSo (l := l) (i := i - 1) (by omega)
   obtain ⟨t', ht'⟩ := w_
   have w_ := Tm.elem hsl ht'
   obtain ⟨ad', p', hel', hr'⟩ := w_
   have hg' := (hall (i - 1) (by omega)).1 t' ht'
   obtain ⟨x, _, rfl⟩ := hg.1.lift
   obtain ⟨y, _, rfl⟩ := hg'.1.lift
   refine num64 (by omega) (by omega) ?_
   refine eIn (by rw [show ((i : Int) - 1) = ((i - 1 : Nat) : Int) by omega]; exact hel') ?_
   refine cGv (l02Cmp_spec y x hr' hr) ?_
   refine ifd (fun hc => (fun e => rGv e rfl) ?_ ) (fun hc => ?_)
   ·refine bad fun k => ?_
    have := k.asc (i - 1) _ _ ht' (by rw [show i - 1 + 1 = i by omega]; exact ht)
    rw [T.toT_tm, T.toT_tm] at this
    omega
   ·refine num64 (by omega) (by omega) ⟨i + 1, ⟨by omega, ok1 fun k a b hk ha hb => ?_⟩, by omega, ⟨⟨rfl, rfl, rfl, rfl, trivial⟩, trivial, rfl, rfl⟩⟩
    obtain rfl : k = i - 1 := by omega
    rw [ht'] at ha; rw [ht] at hb; cases ha; cases hb
    rw [T.toT_tm, T.toT_tm]; omega
  ·exact num64 (by omega) (by omega) ⟨i + 1, ⟨by omega, ok1 fun k a b hk _ _ => by omega⟩, by omega, ⟨⟨rfl, rfl, rfl, rfl, trivial⟩, trivial, rfl, rfl⟩⟩
 ·obtain rfl : i = l.length := by omega
  refine cGv (l01In_spec _ _ _ _) ?_
  refine rGv (isI ?_) rfl
  exact ⟨fun h => hall.all (by omega) (by omega), fun h => ⟨by have := h.pos; omega, by have := h.max; omega⟩⟩
theorem impl_UniverseOk_spec {l : List Tm} {base : Option Addr} {cap : Nat} (hsl : Sl μ 4 base l.length (l.map Tm.d)) :
  Gives Tryz.prog 169 [.slice base l.length cap] μ (.bool (decide (UnivOk l))) := by
 have hn := maxLen_le hsl.max
 have bad : ¬ UnivOk l → Value.bool false = .bool (decide (UnivOk l)) := fun k => isF k
 refine Spec.mk Tryz.func169 (by kernel_rfl) ?_
 refine ifd (fun h => rGv (bad fun k => by have := k.pos; omega) rfl) (fun h1 => ?_)
 refine ifd (fun h => rGv (bad fun k => by have := k.max; omega) rfl) (fun h8 => ?_)
 refine lIn (fun i : Nat => i ≤ l.length ∧ UnivTo l i)
  (fun i => ⟨[(0, .val (.slice base l.length cap)), (13, .val (.slice base l.length cap)), (14, .val (.int .i64 l.length)), (15, .val (.int .i64 i))], [], 0, μ, Mem.nil⟩) (fun i => l.length - i)
  0 ⟨Nat.zero_le _, fun j hj => by omega⟩ (fun _ => ⟨rfl, rfl⟩) ⟨⟨rfl, rfl, rfl, rfl, trivial⟩, trivial, rfl, rfl⟩ ?_
 rintro i ⟨hi, hall⟩
 refine ifd (fun hlt => ?_) (fun hlt => ?_)
 ·have w_ := aSo (l := l) (i := i) (by omega)
  obtain ⟨t, ht⟩ := w_
  have w_ := Tm.elem hsl ht
  obtain ⟨ad, p, hel, hr⟩ := w_
  refine eIn hel ?_
  intro r4
  refine cGv (impl_IsGround_any t hr) ?_
  refine ifnd (fun h => rGv (bad fun k => h (k.gnd t (mAt ht))) rfl) (fun hg => ?_)
  have ok1 : (∀ k x y, k + 1 = i → l[k]? = some x → l[i]? = some y → x.toT.cmp y.toT < 0) → UnivTo l (i + 1) := fun hc j hj => by
   rcases Nat.lt_or_ge j i with h6 | h6
   ·exact hall j h6
   ·obtain rfl : j = i := by omega
    exact ⟨fun t' ht' => by rw [ht] at ht'; cases ht'; exact hg, hc⟩
  refine ifd (fun hi0 => ?_) (fun hi0 => ?_)
  ·have w_ := aSo (l := l) (i := i - 1) (by omega)
   obtain ⟨t', ht'⟩ := w_
   have w_ := Tm.elem hsl ht'
   obtain ⟨ad', p', hel', hr'⟩ := w_
   have hg' := (hall (i - 1) (by omega)).1 t' ht'
   obtain ⟨x, _, rfl⟩ := hg.1.lift
   obtain ⟨y, _, rfl⟩ := hg'.1.lift
   refine num64 (by omega) (by omega) ?_
   refine eIn (by rw [show ((i : Int) - 1) = ((i - 1 : Nat) : Int) by omega]; exact hel') ?_
   refine cGv (orderTerms_spec y x hr' hr) ?_
   refine ifd (fun hc => (fun e => rGv e rfl) ?_ ) (fun hc => ?_)
   ·refine bad fun k => ?_
    have := k.asc (i - 1) _ _ ht' (by rw [show i - 1 + 1 = i by omega]; exact ht)
    rw [T.toT_tm, T.toT_tm] at this
    omega
   ·refine num64 (by omega) (by omega) ⟨i + 1, ⟨by omega, ok1 fun k a b hk ha hb => ?_⟩, by omega, ⟨⟨rfl, rfl, rfl, rfl, trivial⟩, trivial, rfl, rfl⟩⟩
    obtain rfl : k = i - 1 := by omega
    rw [ht'] at ha; rw [ht] at hb; cases ha; cases hb
    rw [T.toT_tm, T.toT_tm]; omega
  ·exact num64 (by omega) (by omega) ⟨i + 1, ⟨by omega, ok1 fun k a b hk _ _ => by omega⟩, by omega, ⟨⟨rfl, rfl, rfl, rfl, trivial⟩, trivial, rfl, rfl⟩⟩
 ·obtain rfl : i = l.length := by omega
  exact rGv (isT (hall.all (by omega) (by omega))) rfl
end
end Go.Vx
namespace Go.Vx
open Go.Proofs Classical
def valsB (vs : List T) : List B := vs.zipIdx.map fun p => ⟨(p.2 : Int), p.1⟩
theorem sub_zip : ∀ (vs : List T) (k : Nat) (n : Int), sub ((vs.zipIdx k).map fun p => ⟨(p.2 : Int), p.1⟩) n = if (k : Int) ≤ n then vs[(n - k).toNat]? else none
 | [], k, n => by simp [sub]
 | x :: vs, k, n => by
  rw [List.zipIdx_cons, List.map_cons, sub, sub_zip vs (k + 1) n]
  by_cases h : (k : Int) = n
  ·subst h; simp
  ·rw [if_neg h]
   by_cases h2 : (k : Int) ≤ n
   ·rw [if_pos (by omega), if_pos h2]
    obtain ⟨m, hm⟩ : ∃ m : Nat, (n - k).toNat = m + 1 := ⟨(n - k).toNat - 1, by omega⟩
    rw [hm, List.getElem?_cons_succ]
    congr 1; omega
   ·rw [if_neg (by omega), if_neg h2]
theorem sub_valsB (vs : List T) : sub (valsB vs) = valF vs := funext fun n => by
 rw [valsB, sub_zip vs 0 n, valF]
 simp
theorem valsB_len (vs : List T) : (valsB vs).length = vs.length := by simp [valsB]
theorem valsB_at {vs : List T} {i : Nat} {x : T} (h : vs[i]? = some x) : (valsB vs)[i]? = some ⟨(i : Int), x⟩ := by simp [valsB, h]
theorem valsB_take (vs : List T) (i : Nat) : (valsB vs).take i = valsB (vs.take i) := by
 refine List.ext_getElem? fun k => ?_
 simp only [valsB, List.getElem?_take, List.getElem?_map, List.getElem?_zipIdx]
 split <;> simp
def WaysR (size n most : Nat) (r : Value) : Prop := ∃ w : Nat, r = .int .i64 w ∧ (size ^ n ≤ most → w = size ^ n) ∧ (most < size ^ n → most < w)
section
variable {μ : Mem}
theorem l08Ways_spec {size n most : Nat} (h1 : 1 ≤ size) (h8 : size ≤ 8) (hm : most ≤ 100000) (hn : n ≤ 1000) (hm1 : 1 ≤ most) :
  Spec Tryz.prog 164 [.int .i64 size, .int .i64 n, .int .i64 most] μ fun r μ' => WaysR size n most r ∧ μ' = μ := by
 refine Spec.forget (Spec.mk Tryz.func164 (by kernel_rfl) ?_)
 refine lIn (fun z : Nat × Nat => z.1 ≤ n ∧ z.2 = size ^ z.1 ∧ z.2 ≤ 8 * most) (fun (i, k) => ⟨[(0, .val (.int .i64 size)), (1, .val (.int .i64 n)), (2, .val (.int .i64 most)), (7, .val (.int .i64 (k : Nat))), (8, .val (.int .i64 (i : Nat)))], [], 0, μ, Mem.nil⟩) (fun z => n - z.1)
  (0, 1) ⟨Nat.zero_le _, rfl, by dsimp only; omega⟩ (fun (_, _) => ⟨rfl, rfl⟩) ⟨⟨rfl, rfl, rfl, rfl, rfl, trivial⟩, trivial, rfl, rfl⟩ ?_
 rintro ⟨i, k⟩ ⟨hi, hk, hb⟩
 dsimp only at hi hk hb
 have mono : size ^ i ≤ size ^ n := Nat.pow_le_pow_right h1 hi
 refine ifd (fun g1 => ?_) (fun g1 => ?_)
 ·refine ifd (fun g2 => ?_) (fun g2 => ?_)
  ·have hks : k * size ≤ 8 * most := by
    have := Nat.mul_le_mul (show k ≤ most by omega) h8
    omega
   refine nEq (x := ((k * size : Nat) : Int)) (by rw [← Int.natCast_mul]; exact wrap64 (by omega) (by omega)) ?_
   exact num64 (by omega) (by omega) ⟨(i + 1, k * size), ⟨by dsimp only; omega, by dsimp only; rw [hk, Nat.pow_succ], hks⟩, by dsimp only; omega, ⟨⟨rfl, rfl, rfl, rfl, rfl, trivial⟩, trivial, rfl, rfl⟩⟩
  ·exact rPl ⟨k, rfl, fun h => by omega, fun h => by omega⟩
 ·obtain rfl : i = n := by omega
  exact rPl ⟨k, rfl, fun _ => hk, fun h => by omega⟩
theorem digs_elem {U : List T} {ub : Option Addr} (hu : Sl μ 4 ub U.length ((U.map T.tm).map Tm.d)) (hU : 0 < U.length) (w : Nat) : ∃ ad, ∃ p : Option Addr × Nat, ElemAt μ ub U.length 4 ((w % U.length : Nat) : Int) ad ((U.getD (w % U.length) .nil).tm.cs p) ∧ RepV μ (U.getD (w % U.length) .nil).tm.d (.agg ((U.getD (w % U.length) .nil).tm.cs p).toArray) :=
 T.elemL hu (by rw [List.getD_eq_getElem?_getD, List.getElem?_eq_getElem (Nat.mod_lt _ hU)]; rfl)
def rngI (n : Nat) : List Int := (List.range n).map fun i : Nat => (i : Int)
theorem rngI_len (n : Nat) : (rngI n).length = n := by simp [rngI]
theorem rngI_at {n i : Nat} (h : i < n) : (rngI n)[i]? = some (i : Int) := by simp [rngI, h]
set_option maxHeartbeats 1000000 in
theorem l08Values_spec {U : List T} {ub vb : Option Addr} {uc vc n w : Nat} (hu : Sl μ 4 ub U.length ((U.map T.tm).map Tm.d)) (hU : 0 < U.length) (hU8 : U.length ≤ 8) (hv : Sl μ 1 vb n ((rngI n).map D.i)) (hn : n ≤ 1000) (hw : w ≤ 100000) :
  Spec Tryz.prog 166 [.slice vb n vc, .slice ub U.length uc, .int .i64 w] μ fun v μ' => RepV μ' (.sl 5 (((valsB (digs U n w)).map B.bd).map Bd.d)) v := by
 refine Spec.mk Tryz.func166 (by kernel_rfl) ?_
 intro r10
 refine lIn (fun z : Nat × Option Nat × Nat × List Value => z.1 ≤ n ∧ Rows μ 5 (((valsB ((digs U n w).take z.1)).map B.bd).map Bd.d) z.2.2.2)
  (fun (i, b, c, ys) => ⟨[(1, .val (.slice ub U.length uc)), (2, .val (.int .i64 ((w / U.length ^ i : Nat) : Int))), (7, .row 0 b ys.length c), (11, .val (.slice vb n vc)), (12, .val (.int .i64 n)), (13, .val (.int .i64 i))], [(0, some (.row b c 93 5 ys))], 1, μ, Mem.nil⟩) (fun z => n - z.1)
  (0, some r10, 0, []) ⟨Nat.zero_le _, .nil⟩ (fun (_, _, _, _) => ⟨rfl, rfl⟩) ⟨⟨rfl, by rw [Nat.pow_zero, Nat.div_one]; rfl, rfl, rfl, rfl, rfl, trivial⟩, ⟨rfl, trivial⟩, rfl, rfl⟩ ?_
 rintro ⟨i, b, c, ys⟩ ⟨hi, hrows⟩
 dsimp only at hi hrows
 have hlen := hrows.len
 simp only [List.length_map, valsB_len, List.length_take, digs_len] at hlen
 have hdw : w / U.length ^ i ≤ w := Nat.div_le_self _ _
 refine ifd (fun h => ?_) (fun h => ?_)
 ·have w_ := Ints.elem hv (rngI_at (n := n) (i := i) (by omega))
  obtain ⟨ad, hel⟩ := w_
  refine eIn hel ?_
  refine need_intro (by omega) ?_
  refine nEq (x := ((w / U.length ^ i % U.length : Nat) : Int)) rfl ?_
  have w_ := digs_elem hu hU (w / U.length ^ i)
  obtain ⟨ad2, p, hel2, hr⟩ := w_
  refine eIn hel2 ?_
  intro r27
  refine gIn ?_ ?_ fun b' c' _ => ?_
  ·show (ys.length + 1) * 64 ≤ _; omega
  ·exact Nat.le_trans (m := 100000000) (show ys.length + 1 ≤ _ by omega) (by decide)
  refine need_intro (by omega) ?_
  refine nEq (x := ((w / U.length ^ (i + 1) : Nat) : Int)) ?_ ?_
  ·have e : w / U.length ^ (i + 1) = w / U.length ^ i / U.length := by rw [Nat.pow_succ, Nat.div_div_eq_div_mul]
   rw [e]
   have hd2 : w / U.length ^ i / U.length ≤ w / U.length ^ i := Nat.div_le_self _ _
   show IntKind.i64.wrap ((w / U.length ^ i / U.length : Nat) : Int) = _
   generalize w / U.length ^ i / U.length = m at hd2 ⊢
   exact wrap64 (by omega) (by omega)
  refine num64 (by omega) (by omega) ⟨(i + 1, b', c', _), ⟨by dsimp only; omega, ?_⟩, by dsimp only; omega, ⟨⟨rfl, rfl, rfl, rfl, rfl, rfl, trivial⟩, ⟨rfl, trivial⟩, rfl, rfl⟩⟩
  dsimp only
  rw [← valsB_take, List.take_add_one, valsB_at (digs_get U i n w (by omega)), Option.toList_some, valsB_take]
  simp only [List.map_append, List.map_cons, List.map_nil]
  exact hrows.append (Rows.one (RepV.bd hr) (Bd.d_n _))
 ·obtain rfl : i = n := by omega
  rw [List.take_of_length_le (by rw [digs_len]; omega)] at hrows
  refine rFz [0] fun μ' hle' hno hrow => .inl ?_
  exact Rows.sl hrow (hrows.mono hle') (Nat.le_trans (m := 100000000) (by omega) (by decide))
theorem l12Contains_spec {U : List T} {ub : Option Addr} {uc : Nat} {x : T} {v : Value} (hu : Sl μ 4 ub U.length ((U.map T.tm).map Tm.d)) (hv : RepV μ x.tm.d v) :
  Gives Tryz.prog 219 [.slice ub U.length uc, v] μ (.bool (decide (x ∈ U))) := by
 have hn := maxLen_le hu.max
 have w_ := Tm.invV hv
 obtain ⟨p, rfl⟩ := w_
 refine Spec.mk Tryz.func219 (by kernel_rfl) ?_
 intro r3
 refine lIn (fun i : Nat => i ≤ U.length ∧ x ∉ U.take i)
  (fun i => ⟨[(3, .loc 0 r3 0), (7, .val (.slice ub U.length uc)), (8, .val (.int .i64 U.length)), (9, .val (.int .i64 i))], [(0, some (.cells r3 [.val (.int .i64 x.tm.kind), .val (.int .i64 x.tm.num), .val (.string x.tm.name), .val (.slice p.1 x.tm.args.length p.2)] 38))], 1, μ, Mem.nil⟩) (fun i => U.length - i)
  0 ⟨Nat.zero_le _, by simp⟩ (fun _ => ⟨rfl, rfl⟩) ⟨⟨rfl, rfl, rfl, rfl, trivial⟩, ⟨rfl, trivial⟩, rfl, rfl⟩ ?_
 rintro i ⟨hi, hnot⟩
 refine ifd (fun h => ?_) (fun h => ?_)
 ·have w_ := aSo (l := U) (i := i) (by omega)
  obtain ⟨y, hy⟩ := w_
  have w_ := T.elemL hu hy
  obtain ⟨ad, q, hel, hr⟩ := w_
  refine eIn hel ?_
  intro r6
  refine cGv (l02Same_spec y x hr hv) ?_
  refine ifd (fun h2 => rGv ?_ rfl) (fun h2 => ?_)
  ·rw [decide_eq_true (by rw [← h2]; exact mAt hy)]
  ·refine num64 (by omega) (by omega) ⟨i + 1, ⟨by omega, ?_⟩, by omega, ⟨⟨rfl, rfl, rfl, rfl, trivial⟩, ⟨rfl, trivial⟩, rfl, rfl⟩⟩
   rw [List.take_add_one, hy, Option.toList_some, List.mem_append, List.mem_singleton]
   exact fun k => k.elim hnot fun k => h2 k.symm
 ·obtain rfl : i = U.length := by omega
  rw [List.take_length] at hnot
  exact rGv (by rw [decide_eq_false hnot]) rfl
theorem l18Inside_spec {U : List T} {ub fb : Option Addr} {uc fc : Nat} {l : List F} (hu : Sl μ 4 ub U.length ((U.map T.tm).map Tm.d)) (hl : Sl μ 2 fb l.length ((l.map F.fc).map Fc.d)) :
  Gives Tryz.prog 167 [.slice fb l.length fc, .slice ub U.length uc] μ (.bool (decide (∀ f ∈ l, ∀ a ∈ f.args, a ∈ U))) := by
 have hn := maxLen_le hl.max
 refine Spec.mk Tryz.func167 (by kernel_rfl) ?_
 refine lIn (fun i : Nat => i ≤ l.length ∧ ∀ f ∈ l.take i, ∀ a ∈ f.args, a ∈ U)
  (fun i => ⟨[(1, .val (.slice ub U.length uc)), (9, .val (.slice fb l.length fc)), (10, .val (.int .i64 l.length)), (11, .val (.int .i64 i))], [], 0, μ, Mem.nil⟩) (fun i => l.length - i)
  0 ⟨Nat.zero_le _, by simp⟩ (fun _ => ⟨rfl, rfl⟩) ⟨⟨rfl, rfl, rfl, rfl, trivial⟩, trivial, rfl, rfl⟩ ?_
 rintro i ⟨hi, hall⟩
 refine ifd (fun h => ?_) (fun h => ?_)
 ·have w_ := aSo (l := l) (i := i) (by omega)
  obtain ⟨f, hf⟩ := w_
  have w_ := F.elem hl hf
  obtain ⟨ad, p, hel, hr, hs⟩ := w_
  have hm := maxLen_le hs.max
  refine eIn hel ?_
  intro r6
  refine lIn (fun k : Nat => k ≤ f.args.length ∧ ∀ a ∈ f.args.take k, a ∈ U)
   (fun k => ⟨[(1, .val (.slice ub U.length uc)), (9, .val (.slice fb l.length fc)), (10, .val (.int .i64 l.length)), (11, .val (.int .i64 i)), (16, .val (.slice p.1 f.args.length p.2)), (17, .val (.int .i64 f.args.length)), (18, .val (.int .i64 k))], [], 1, μ, Mem.nil⟩) (fun k => f.args.length - k)
   0 ⟨Nat.zero_le _, by simp⟩ (fun _ => ⟨rfl, rfl⟩) ⟨⟨rfl, rfl, rfl, rfl, rfl, rfl, rfl, trivial⟩, trivial, rfl, rfl⟩ ?_
  rintro k ⟨hk, hargs⟩
  refine ifd (fun h2 => ?_) (fun h2 => ?_)
  ·have w_ := aSo (l := f.args) (i := k) (by omega)
   obtain ⟨a, ha⟩ := w_
   have w_ := T.elemL hs ha
   obtain ⟨ad2, q, hel2, hr2⟩ := w_
   refine eIn hel2 ?_
   intro r8
   refine cGv (l12Contains_spec hu hr2) ?_
   refine ifnd (fun h3 => rGv ?_ rfl) (fun h3 => ?_)
   ·rw [decide_eq_false fun k => h3 (k f (mAt hf) a (mAt ha))]
   ·refine num64 (by omega) (by omega) ⟨k + 1, ⟨by omega, ?_⟩, by omega, ⟨⟨rfl, rfl, rfl, rfl, rfl, rfl, rfl, trivial⟩, trivial, rfl, rfl⟩⟩
    rw [List.take_add_one, ha, Option.toList_some]
    intro y hy
    rcases List.mem_append.1 hy with hy | hy
    ·exact hargs y hy
    ·rw [List.mem_singleton.1 hy]; exact h3
  ·obtain rfl : k = f.args.length := by omega
   rw [List.take_length] at hargs
   refine num64 (by omega) (by omega) ⟨i + 1, ⟨by omega, ?_⟩, by omega, ⟨⟨rfl, rfl, rfl, rfl, trivial⟩, trivial, rfl, rfl⟩⟩
   rw [List.take_add_one, hf, Option.toList_some]
   intro y hy
   rcases List.mem_append.1 hy with hy | hy
   ·exact hall y hy
   ·rw [List.mem_singleton.1 hy]; exact hargs
 ·obtain rfl : i = l.length := by omega
  rw [List.take_length] at hall
  exact rGv (by rw [decide_eq_true hall]) rfl
theorem F.fc_args (f : F) : f.fc.args = f.args.map T.tm := rfl
theorem l18Copy_spec {l : List F} {base : Option Addr} {cap : Nat} (hsl : Sl μ 2 base l.length ((l.map F.fc).map Fc.d)) (hn : l.length ≤ 10000000) (hl : ∀ f ∈ l, f.args.length ≤ 1000000) :
  Spec Tryz.prog 97 [.slice base l.length cap] μ fun v μ' => RepV μ' (.sl 2 ((l.map F.fc).map Fc.d)) v := by
 refine Spec.mkO [6] Tryz.func97 (by kernel_rfl) ?_
 intro r6 hm6 ho6
 refine lIn (fun p : Nat × Nat × Nat × Nat × List Value × Mem × Mem => p.1 ≤ l.length ∧ p.2.2.2.2.1.length = p.2.2.2.1 ∧ RowO p.2.2.2.2.2.2 p.2.1 p.2.2.1 67 2 p.2.2.2.2.1 ∧ Apart p.2.2.2.2.2.1 p.2.2.2.2.2.2 ∧ μ.Le p.2.2.2.2.2.1 ∧ Rows p.2.2.2.2.2.1 2 (((l.take p.1).map F.fc).map Fc.d) p.2.2.2.2.1)
  (fun (i, b, c, m, ys, μ', h) => ⟨[(3, .val (.slice (some ⟨b, 0, none⟩) m c)), (7, .val (.slice base l.length cap)), (8, .val (.int .i64 l.length)), (9, .val (.int .i64 i))], [], 0, μ', h⟩) (fun p => l.length - p.1)
  (0, r6, 0, 0, [], μ, _) ⟨by simp, rfl, ⟨[], Mem.set_at _ _ _, by simp, by simp, by simp, rfl, rfl⟩, (apart_nil μ).set hm6, Mem.Le.refl _, .nil⟩ (fun (_, _, _, _, _, _, _) => ⟨rfl, rfl⟩) ⟨⟨rfl, rfl, rfl, rfl, trivial⟩, trivial, rfl, rfl⟩ ?_
 clear hm6 ho6
 rintro ⟨i, b, c, m, ys, μ', h⟩ ⟨hi, hm, hb, hap, hle, hrows⟩
 dsimp only at hi hm hb hap hle hrows
 have hlen := hrows.len
 simp only [List.length_map, List.length_take] at hlen
 refine ifd (fun hlt => ?_) (fun hlt => ?_)
 ·have w_ := aSo (l := l) (i := i) (by omega)
  obtain ⟨f, hf⟩ := w_
  have w_ := F.elem (hsl.mono hle) hf
  obtain ⟨ad, p, hel, hr, hs⟩ := w_
  refine eIn hel ?_
  intro r5
  have hfl := hl f (mAt hf)
  refine cDa hap (l02CopyAll_spec hs (by omega)) fun v1 μ1 hle1 hap1 hR => ?_
  have w_ := Rep.sl hR
  obtain ⟨b4, c4, rfl, _⟩ := w_
  rw [List.length_map, List.length_map] at hR ⊢
  intro r20
  refine app_intro ys hm hb ?_ ?_ fun b' c' o hrow hor => ?_
  ·show (m + 1) * 40 ≤ _; omega
  ·exact Nat.le_trans (m := 100000000) (show m + 1 ≤ _ by omega) (by decide)
  refine num64 (by omega) (by omega) ⟨(i + 1, b', c', m + 1, _, μ1, _), ⟨by dsimp only; omega, by dsimp only; rw [List.length_append, hm]; rfl, hrow, hap1.set (apartB hb hap1 hor), hle.trans hle1, ?_⟩, by dsimp only; omega, ⟨⟨rfl, rfl, rfl, rfl, trivial⟩, trivial, rfl, rfl⟩⟩
  dsimp only
  rw [List.take_add_one, hf, Option.toList_some]
  simp only [List.map_append, List.map_cons, List.map_nil]
  exact (hrows.mono hle1).append (Rows.one (F.mkV hR) (Fc.d_n _))
 ·obtain rfl : i = l.length := by omega
  rw [List.take_length] at hrows
  refine ret_own _ Mem.nil (Parts.nil_right _) ?_
  obtain ⟨cs, hcell, hlen0, hcap, hone, hcs, htake⟩ := hb
  have hb2 : μ' b = none := by
   cases e : μ' b with
   | none => rfl
   | some o => have := hap b (by simp [e]); rw [hcell] at this; cases this
  have hrow : RowAt (μ'.join h) (some b) c 2 ys := ⟨hlen0, hone, _, _, by rw [Mem.join_get, hb2]; exact hcell, by simpa using hcs, by simpa using htake⟩
  subst hm
  exact Rows.sl hrow (hrows.mono (Mem.le_join _ _)) (Nat.le_trans (m := 100000000) (by omega) (by decide))
theorem two_T {xs : List T} (h : xs.length = 2) : ∃ x y, xs = [x, y] := by
 match xs, h with
 | [x, y], _ => exact ⟨x, y, rfl⟩
theorem one_of' {xs : List T} (h : xs.length = 1) : ∃ x, xs = [x] := by
 match xs, h with
 | [x], _ => exact ⟨x, rfl⟩
structure SimpleLen (k : Int) (n : Nat) : Prop where
 two : k = 2 ∨ k = 3 ∨ k = 6 → n = 2
 one : k = 4 ∨ k = 5 → n = 1
theorem testT_2 {x y : T} : testT 2 [x, y] ↔ x = y := by simp [testT]
theorem testT_3 {x y : T} : testT 3 [x, y] ↔ x ≠ y := by simp [testT]
theorem testT_4 {x : T} : testT 4 [x] ↔ x.tm.kind = 2 := by simp [testT]
theorem testT_5 {x : T} : testT 5 [x] ↔ x.tm.kind = 3 := by simp [testT]
theorem testT_6 {x y : T} : testT 6 [x, y] ↔ ¬ y.hasSym x.tm.name := by simp [testT]
theorem l13Test_spec {g : Gl} {xs : List T} {v : Value} (hv : RepV μ g.d v) (hx : g.terms = xs.map T.tm) (hl : SimpleLen g.kind xs.length) :
  Gives Tryz.prog 218 [v] μ (.bool (decide (testT g.kind xs))) := by
 have w_ := Gl.inv hv
 obtain ⟨p, rfl, hts, -⟩ := w_
 rw [hx] at hts ⊢
 rw [List.length_map] at hts ⊢
 refine Spec.mk Tryz.func218 (by kernel_rfl) ?_
 intro r1
 refine ifd (fun h => rGv (by rw [h]; simp [testT]) rfl) (fun h0 => ?_)
 refine ifd (fun h => ?_) (fun h2 => ?_)
 ·have w_ := two_T (hl.two (by omega))
  obtain ⟨x, y, rfl⟩ := w_
  have w_ := T.elemL hts (i := 0) (x := x) rfl
  obtain ⟨ad1, p1, e1, g1⟩ := w_
  have w_ := T.elemL hts (i := 1) (x := y) rfl
  obtain ⟨ad2, p2, e2, g2⟩ := w_
  refine eIn e1 (eIn e2 (cGv (l02Same_spec x y g1 g2) (rGv ?_ rfl)))
  rw [h]; exact congrArg Value.bool (decide_eq_decide.2 testT_2.symm)
 refine ifd (fun h => ?_) (fun h3 => ?_)
 ·have w_ := two_T (hl.two (by omega))
  obtain ⟨x, y, rfl⟩ := w_
  have w_ := T.elemL hts (i := 0) (x := x) rfl
  obtain ⟨ad1, p1, e1, g1⟩ := w_
  have w_ := T.elemL hts (i := 1) (x := y) rfl
  obtain ⟨ad2, p2, e2, g2⟩ := w_
  refine eIn e1 (eIn e2 (cGv (l02Same_spec x y g1 g2) (rGv ?_ rfl)))
  rw [h, ← decide_not]; exact congrArg Value.bool (decide_eq_decide.2 testT_3.symm)
 refine ifd (fun h => ?_) (fun h4 => ?_)
 ·have w_ := one_of' (hl.one (by omega))
  obtain ⟨x, rfl⟩ := w_
  have w_ := T.elemL hts (i := 0) (x := x) rfl
  obtain ⟨ad1, p1, e1, g1⟩ := w_
  refine eIn e1 (rGv ?_ rfl)
  rw [h]; exact congrArg Value.bool (decide_eq_decide.2 testT_4.symm)
 refine ifd (fun h => ?_) (fun h5 => ?_)
 ·have w_ := one_of' (hl.one (by omega))
  obtain ⟨x, rfl⟩ := w_
  have w_ := T.elemL hts (i := 0) (x := x) rfl
  obtain ⟨ad1, p1, e1, g1⟩ := w_
  refine eIn e1 (rGv ?_ rfl)
  rw [h]; exact congrArg Value.bool (decide_eq_decide.2 testT_5.symm)
 refine ifd (fun h => ?_) (fun h6 => ?_)
 ·have w_ := two_T (hl.two (by omega))
  obtain ⟨x, y, rfl⟩ := w_
  have w_ := T.elemL hts (i := 0) (x := x) rfl
  obtain ⟨ad1, p1, e1, g1⟩ := w_
  have w_ := T.elemL hts (i := 1) (x := y) rfl
  obtain ⟨ad2, p2, e2, g2⟩ := w_
  refine eIn e2 (eIn e1 (cGv (l10Contains_spec x.tm.name y g2) (rGv ?_ rfl)))
  rw [h, ← decide_not]; exact congrArg Value.bool (decide_eq_decide.2 testT_6.symm)
 refine rGv ?_ rfl
 rw [decide_eq_false]
 unfold testT
 rw [if_neg h0, if_neg h2, if_neg h3, if_neg h4, if_neg h5, if_neg h6]
 exact id
end
end Go.Vx
namespace Go.Vx
open Go.Proofs Classical
def Ru.rd (r : Ru) : RuD := ⟨r.head.rel, r.head.args.map T.tm, r.clause, r.vals.map T.tm, r.pos.map F.fc, r.neg.map F.fc⟩
structure ClG (g : Gl) : Prop where
 sh : g.Sh
 one : g.kind ≠ 7 ∧ g.kind ≠ 8
def okS (vs : List T) (g : Gl) : Prop := g.kind ≠ 9 → g.kind ≠ 10 → testT g.kind (g.terms.map fun t => t.toT.subst (valF vs))
theorem callF_args (vs : List T) (g : Gl) : (callF vs g).fc.args = (g.put (valF vs)).terms := by
 rw [Gl.put_terms, F.fc_args]
 show (g.terms.map _).map _ = _
 rw [List.map_map]; rfl
theorem Gl.kid_at {g : Gl} (h : g.goals.length = 1) : g.goals[0]? = some g.kid := by
 rw [Gl.kid, List.getD_eq_getElem?_getD]
 have w_ := aSo (l := g.goals) (i := 0) (by omega)
 obtain ⟨x, hx⟩ := w_
 rw [hx]; rfl
theorem posF_succ {vs : List T} {c : List Gl} {j : Nat} {g : Gl} (h : c[j]? = some g) : posF vs (c.take (j + 1)) = posF vs (c.take j) ++ (if g.kind = 9 then [callF vs g] else []) := by
 rw [posF, List.take_add_one, h, Option.toList_some, List.filter_append, List.map_append]
 congr 1
 by_cases k : g.kind = 9 <;> simp [k]
theorem negF_succ {vs : List T} {c : List Gl} {j : Nat} {g : Gl} (h : c[j]? = some g) : negF vs (c.take (j + 1)) = negF vs (c.take j) ++ (if g.kind = 10 then [callF vs g.kid] else []) := by
 rw [negF, List.take_add_one, h, Option.toList_some, List.filter_append, List.map_append]
 congr 1
 by_cases k : g.kind = 10 <;> simp [k]
theorem ClG.simple {g : Gl} (h : ClG g) : SimpleLen g.kind g.terms.length := ⟨h.sh.top.ln2, h.sh.top.ln1⟩
section
variable {μ : Mem}
theorem Gl.termsV {g : Gl} {k n ts gs : Value} (h : RepV μ g.d (.agg #[k, n, ts, gs])) : RepV μ (.sl 4 (g.terms.map Tm.d)) ts := by
 rw [Gl.d_eq] at h
 obtain ⟨cs, e, h⟩ := h
 obtain ⟨a0, t0, rfl, h0, h⟩ := h
 obtain ⟨a1, t1, rfl, h1, h⟩ := h
 obtain ⟨a2, t2, rfl, h2, h⟩ := h
 obtain ⟨a3, t3, rfl, h3, h⟩ := h
 obtain rfl : t3 = [] := h
 have h0 : a0 = [.int .i64 g.kind] := h0
 have h1 : a1 = [.string g.name] := h1
 subst h0 h1
 have w_ := one_of (Rep.len _ _ h2)
 obtain ⟨v2, rfl⟩ := w_
 have w_ := one_of (Rep.len _ _ h3)
 obtain ⟨v3, rfl⟩ := w_
 have e2 : [k, n, ts, gs] = [.int .i64 g.kind, .string g.name, v2, v3] := congrArg (fun v => match v with | Value.agg a => a.toList | _ => []) e
 have e3 : ts = v2 := (List.cons.inj (List.cons.inj (List.cons.inj e2).2).2).1
 rw [e3]; exact h2
theorem callF_rep {vs : List T} {g : Gl} {k n gs : Value} {b : Option Addr} {m c : Nat} (h : RepV μ (g.put (valF vs)).d (.agg #[k, n, .slice b m c, gs])) : RepV μ (callF vs g).fc.d (.agg #[.string g.name, .slice b m c]) := by
 have h1 := Gl.termsV h
 rw [Fc.d_eq, callF_args]
 exact ⟨_, rfl, RepS.str (RepS.last h1)⟩
theorem flat_len2 {es : Nat} : ∀ {ys : List Value}, (∀ x ∈ ys, (vcells x).length = es) → (ys.flatMap vcells).length = ys.length * es
 | [], _ => by simp
 | y :: ys, h => by
  rw [List.flatMap_cons, List.length_append, flat_len2 fun x hx => h x (by simp [hx]), h y (by simp), List.length_cons, Nat.succ_mul]; omega
theorem RowAt.cut {b : Option Nat} {k es : Nat} {ys : List Value} (h : RowAt μ b k es ys) (a : Nat) : RowAt μ b k es (ys.take a) := by
 cases b with
 | none =>
  have h : ys = [] := h
  subst h
  exact List.take_nil
 | some r =>
  obtain ⟨h1, h2, arr, ty, h3, h4, h5⟩ := h
  have hl : (ys.take a).length ≤ ys.length := by rw [List.length_take]; omega
  refine ⟨by omega, fun x hx => h2 x (List.mem_of_mem_take hx), arr, ty, h3, h4, ?_⟩
  have e : ((ys.take a).flatMap vcells).length = (ys.take a).length * es := flat_len2 fun x hx => (h2 x (List.mem_of_mem_take hx)).1
  have e1 : arr.toList.take ((ys.take a).length * es) = (arr.toList.take (ys.length * es)).take ((ys.take a).length * es) := by
   rw [List.take_take]
   congr 1
   have := Nat.mul_le_mul_right es hl
   omega
  rw [e1, h5]
  conv => lhs; rw [← List.take_append_drop a ys]
  rw [List.flatMap_append, List.take_left' (by rw [e]; simp)]
theorem headSl {vs : List T} {a k : Nat} {b : Option Nat} {ys : List Value} (h : RowAt μ b k 4 ys) (hr : Rows μ 4 ((vs.map T.tm).map Tm.d) ys) (ha : a ≤ vs.length) (hm : vs.length ≤ 1000) :
  RepV μ (.sl 4 (((vs.take a).map T.tm).map Tm.d)) (.slice (if k = 0 then (b.map fun r => (⟨r, 0, none⟩ : Addr)) else (b.map fun r => (⟨r, 0, none⟩ : Addr)).map (·.add (0 * 4))) (a - 0) (k - 0)) := by
 have e : (if k = 0 then (b.map fun r => (⟨r, 0, none⟩ : Addr)) else (b.map fun r => (⟨r, 0, none⟩ : Addr)).map (·.add (0 * 4))) = b.map fun r => (⟨r, 0, none⟩ : Addr) := by
  split
  ·rfl
  ·cases b <;> simp [Addr.add]
 rw [e, Nat.sub_zero, Nat.sub_zero]
 have hl := hr.len
 simp only [List.length_map] at hl
 have hr2 : Rows μ 4 (((vs.take a).map T.tm).map Tm.d) (ys.take a) := by
  have := hr.take a
  simpa [List.map_take] using this
 have hyl : (ys.take a).length = a := by rw [List.length_take]; omega
 have ht : RowAt μ b k 4 (ys.take a) := RowAt.cut h a
 have := Rows.sl ht hr2 (Nat.le_trans (m := 1000) (by omega) (by decide))
 rwa [hyl] at this
set_option maxHeartbeats 16000000 in
set_option maxRecDepth 20000 in
theorem l18Rule_spec {r : Rl} {v : Value} {c : List Gl} {cb bb : Option Addr} {cc bc a : Nat} {vs : List T} {i : Nat} (hr : RepV μ r.d v) (ha : r.arity = (a : Int)) (hal : a ≤ vs.length) (hvs : vs.length ≤ 12)
  (hc : Sl μ 4 cb c.length (c.map Gl.d)) (hcl : c.length ≤ 1000) (hcs : ∀ g ∈ c, ClG g) (hb : Sl μ 5 bb vs.length (((valsB vs).map B.bd).map Bd.d)) :
  Spec Tryz.prog 165 [v, .int .i64 i, .slice cb c.length cc, .slice bb vs.length bc] μ fun res μ' => ∃ (ru : Ru) (rv : Value), res = .tuple #[rv, .bool (decide (∀ g ∈ c, okS vs g))] ∧ RepV μ' ru.rd.d rv ∧ ((∀ g ∈ c, okS vs g) → ru = ruleOf r i c vs) := by
 have w_ := Rl.invV hr
 obtain ⟨q, rfl⟩ := w_
 refine Spec.mk Tryz.func165 (by kernel_rfl) ?_
 intro r4 r8 r10
 refine loop_nil (fun z : Nat × Option Nat × Nat × List Value => z.1 ≤ vs.length ∧ z.1 ≤ z.2.2.1 ∧ Rows μ 4 (((vs.take z.1).map T.tm).map Tm.d) z.2.2.2)
  (fun (k, b, n, ys) => ⟨[(2, .val (.slice cb c.length cc)), (3, .val (.slice bb vs.length bc)), (4, .loc 0 r4 0), (8, .loc 1 r8 0), (10, .loc 2 r10 0), (18, .val (.slice bb vs.length bc)), (19, .val (.int .i64 vs.length)), (20, .val (.int .i64 k))], [(0, some (.cells r4 [.val (.string r.name), .val (.int .i64 r.arity), .val (.int .i64 r.locals), .val (.int .i64 r.body.kind), .val (.string r.body.name), .val (.slice q.1.1 r.body.terms.length q.1.2), .val (.slice q.2.1 r.body.goals.length q.2.2)] 89)), (1, some (.cells r8 [.val (.string ⟨#[]⟩), .val (.slice none 0 0), .val (.int .i64 0), .val (.slice none 0 0), .val (.slice none 0 0), .val (.slice none 0 0)] 126)), (2, some (.cells r10 [.val (.string ⟨#[]⟩), .val (.slice none 0 0), .val (.int .i64 i), .row 3 b ys.length n, .val (.slice none 0 0), .val (.slice none 0 0)] 126)), (3, some (.row b n 38 4 ys))], 4, μ, Mem.nil⟩) (fun z => vs.length - z.1)
  (0, none, 0, []) ⟨Nat.zero_le _, Nat.le_refl _, .nil⟩ (fun (_, _, _, _) => ⟨rfl, rfl⟩) ?_ ?_
 ·exact ⟨⟨⟨_, rfl, .inl rfl⟩, ⟨_, rfl, .inl rfl⟩, ⟨_, rfl, .inl rfl⟩, ⟨_, rfl, .inl rfl⟩, ⟨_, rfl, .inl rfl⟩, ⟨_, rfl, .inl rfl⟩, ⟨_, rfl, .inl rfl⟩, ⟨_, rfl, .inl rfl⟩, trivial⟩, ⟨.inl rfl, .inl rfl, .inr (.inr ⟨_, _, _, _, rfl, rfl, .inl rfl, .inl rfl, .inl rfl, .inr ⟨3, rfl, rfl, Nat.le_refl _⟩, .inl rfl, .inl rfl, trivial⟩), .inr (.inl ⟨_, _, rfl, Nat.le_refl _⟩), trivial⟩, rfl, rfl⟩
 rintro ⟨k, b, n, ys⟩ ⟨hk, hkn, hrows⟩
 dsimp only at hk hkn hrows
 have hlen := hrows.len
 simp only [List.length_map, List.length_take] at hlen
 refine ifd (fun hlt => ?_) (fun hlt => ?_)
 ·have w_ := aSo (l := vs) (i := k) (by omega)
  obtain ⟨x, hx⟩ := w_
  have w_ := B.elem hb (valsB_at hx)
  obtain ⟨ad, p, hel, hto⟩ := w_
  refine eIn hel ?_
  intro r12 r28
  refine grow_introC ?_ ?_ fun b' n' hcap _ => ?_
  ·show (ys.length + 1) * 56 ≤ _; omega
  ·exact Nat.le_trans (m := 100000000) (show ys.length + 1 ≤ _ by omega) (by decide)
  have hcap : ys.length + 1 ≤ n' := hcap
  refine num64 (by omega) (by omega) ⟨(k + 1, b', n', _), ⟨by dsimp only; omega, by dsimp only; omega, ?_⟩, by dsimp only; omega, ⟨⟨rfl, rfl, rfl, rfl, rfl, rfl, rfl, rfl, trivial⟩, ⟨rfl, rfl, rfl, rfl, trivial⟩, rfl, rfl⟩⟩
  dsimp only
  rw [List.take_add_one, hx, Option.toList_some]
  simp only [List.map_append, List.map_cons, List.map_nil]
  exact hrows.append (Rows.one hto (Tm.d_n _))
 obtain rfl : k = vs.length := by omega
 rw [List.take_length] at hrows
 refine cut_intro 0 a rfl ha (Nat.zero_le _) (by omega) ?_
 refine loop_nil (fun z : Nat × (Option Nat × Nat × List Value) × (Option Nat × Nat × List Value) × Mem => z.1 ≤ c.length ∧ μ.Le z.2.2.2 ∧ Rows z.2.2.2 2 (((posF vs (c.take z.1)).map F.fc).map Fc.d) z.2.1.2.2 ∧ Rows z.2.2.2 2 (((negF vs (c.take z.1)).map F.fc).map Fc.d) z.2.2.1.2.2 ∧ ∀ g ∈ c.take z.1, okS vs g)
  (fun (j, (pb, pc, ps), (nb, nc, ns), μ') => ⟨[(3, .val (.slice bb vs.length bc)), (8, .loc 1 r8 0), (10, .loc 2 r10 0), (41, .val (.slice cb c.length cc)), (42, .val (.int .i64 c.length)), (43, .val (.int .i64 j))], [(1, some (.cells r8 [.val (.string ⟨#[]⟩), .val (.slice none 0 0), .val (.int .i64 0), .val (.slice none 0 0), .val (.slice none 0 0), .val (.slice none 0 0)] 126)), (2, some (.cells r10 [.val (.string r.name), .val (.slice (if n = 0 then (b.map fun r => (⟨r, 0, none⟩ : Addr)) else (b.map fun r => (⟨r, 0, none⟩ : Addr)).map (·.add (0 * 4))) (a - 0) (n - 0)), .val (.int .i64 i), .row 3 b ys.length n, .row 4 pb ps.length pc, .row 5 nb ns.length nc] 126)), (3, some (.row b n 38 4 ys)), (4, some (.row pb pc 67 2 ps)), (5, some (.row nb nc 67 2 ns))], 6, μ', Mem.nil⟩) (fun z => c.length - z.1)
  (0, (none, 0, []), (none, 0, []), μ) ⟨Nat.zero_le _, Mem.Le.refl _, .nil, .nil, by simp⟩ (fun (_, (_, _, _), (_, _, _), _) => ⟨rfl, rfl⟩) ?_ ?_
 ·exact ⟨⟨⟨_, rfl, .inl rfl⟩, ⟨_, rfl, .inl rfl⟩, ⟨_, rfl, .inl rfl⟩, ⟨_, rfl, .inl rfl⟩, ⟨_, rfl, .inl rfl⟩, ⟨_, rfl, .inl rfl⟩, trivial⟩, ⟨.inl rfl, .inr (.inr ⟨_, _, _, _, rfl, rfl, .inl rfl, .inl rfl, .inl rfl, .inl rfl, .inr ⟨4, rfl, rfl, Nat.le_refl _⟩, .inr ⟨5, rfl, rfl, Nat.le_succ 4⟩, trivial⟩), .inl rfl, .inr (.inl ⟨_, _, rfl, Nat.le_refl _⟩), .inr (.inl ⟨_, _, rfl, Nat.le_succ 4⟩), trivial⟩, rfl, rfl⟩
 rintro ⟨j, ⟨pb, pc, ps⟩, ⟨nb, nc, ns⟩, μ'⟩ ⟨hj, hle, hps, hns, hall⟩
 dsimp only at hj hle hps hns hall
 have hpl := hps.len
 have hnl := hns.len
 have hpf : (posF vs (c.take j)).length ≤ 1000 := by
  rw [posF, List.length_map]
  exact Nat.le_trans (List.length_filter_le _ _) (by rw [List.length_take]; omega)
 have hnf : (negF vs (c.take j)).length ≤ 1000 := by
  rw [negF, List.length_map]
  exact Nat.le_trans (List.length_filter_le _ _) (by rw [List.length_take]; omega)
 simp only [List.length_map] at hpl hnl
 have fin : ∀ μ2 μ3 μ4 : Mem, μ'.Le μ2 → RowAt μ2 b n 4 ys → μ2.Le μ3 → RowAt μ3 pb pc 2 ps → μ3.Le μ4 → RowAt μ4 nb nc 2 ns →
   RepV μ4 (Ru.rd ⟨⟨r.name, vs.take a⟩, i, vs, posF vs (c.take j), negF vs (c.take j)⟩).d (.agg #[.string r.name, .slice (if n = 0 then (b.map fun r => (⟨r, 0, none⟩ : Addr)) else (b.map fun r => (⟨r, 0, none⟩ : Addr)).map (·.add (0 * 4))) (a - 0) (n - 0), .int .i64 i, .slice (b.map fun r => (⟨r, 0, none⟩ : Addr)) ys.length n, .slice (pb.map fun r => (⟨r, 0, none⟩ : Addr)) ps.length pc, .slice (nb.map fun r => (⟨r, 0, none⟩ : Addr)) ns.length nc]) := by
  intro μ2 μ3 μ4 h1 h2 h3 h4 h5 h6
  have hmax : (1000 : Nat) ≤ maxLen := by decide
  have k1 := headSl h2 (hrows.mono (hle.trans h1)) hal (by omega)
  have k2 := Rows.sl h2 (hrows.mono (hle.trans h1)) (Nat.le_trans (m := 1000) (by omega) hmax)
  have k3 := Rows.sl h4 (hps.mono (h1.trans h3)) (Nat.le_trans (m := 1000) (by omega) hmax)
  have k4 := Rows.sl h6 (hns.mono ((h1.trans h3).trans h5)) (Nat.le_trans (m := 1000) (by omega) hmax)
  rw [RuD.d_eq]
  exact ⟨_, rfl, RepS.str (RepS.cons1 (k1.mono (h3.trans h5)) (RepS.int (RepS.cons1 (k2.mono (h3.trans h5)) (RepS.cons1 (k3.mono h5) (RepS.last k4)))))⟩
 refine ifd (fun hlt => ?_) (fun hlt => ?_)
 rotate_left
 ·obtain rfl : j = c.length := by omega
  rw [List.take_length] at hall fin
  refine rFz [3, 4, 5] fun μ2 hle2 hno2 hat2 μ3 hle3 hno3 hat3 μ4 hle4 hno4 hat4 => .inl ⟨_, _, ?_, fin μ2 μ3 μ4 hle2 hat2 hle3 hat3 hle4 hat4, fun _ => by rw [ruleOf, ha]; rfl⟩
  rw [decide_eq_true hall]
 have w_ := aSo (l := c) (i := j) (by omega)
 obtain ⟨g, hg⟩ := w_
 have w_ := Gl.elem (hc.mono hle) hg
 obtain ⟨ad, pg, hel, hrg⟩ := w_
 have hG := hcs g (mAt hg)
 refine eIn hel ?_
 intro r14
 have hput := l13Put_spec (bs := valsB vs) (b0 := bb) (c0 := bc) g hrg hG.sh (by rw [valsB_len]; exact hb.mono hle)
 rw [valsB_len, sub_valsB] at hput
 refine cPl hput fun v1 μ1 hle1 hR => ?_
 have w_ := Gl.invV hR
 obtain ⟨p1, rfl⟩ := w_
 intro r15
 have all1 : okS vs g → ∀ x ∈ c.take (j + 1), okS vs x := fun h x hx => by
  rw [List.take_add_one, hg, Option.toList_some] at hx
  rcases List.mem_append.1 hx with hx | hx
  ·exact hall x hx
  ·rw [List.mem_singleton.1 hx]; exact h
 refine ifd (fun h9 => ?_) (fun h9 => ?_)
 ·intro r61
  refine gIn ?_ ?_ fun b' c' _ => ?_
  ·show (ps.length + 1) * 40 ≤ _; omega
  ·exact Nat.le_trans (m := 100000000) (show ps.length + 1 ≤ _ by omega) (by decide)
  refine num64 (by omega) (by omega) ⟨(j + 1, (b', c', _), (nb, nc, ns), μ1), ⟨by dsimp only; omega, hle.trans hle1, ?_, ?_, all1 fun k => absurd h9 k⟩, by dsimp only; omega, ⟨⟨rfl, rfl, rfl, rfl, rfl, rfl, trivial⟩, ⟨rfl, rfl, rfl, rfl, rfl, trivial⟩, rfl, rfl⟩⟩
  ·dsimp only
   rw [posF_succ hg, if_pos h9]
   simp only [List.map_append, List.map_cons, List.map_nil]
   have := callF_rep hR
   rw [Gl.put_name]
   exact (hps.mono hle1).append (Rows.one this (Fc.d_n _))
  ·dsimp only
   rw [negF_succ hg, if_neg (by omega), List.append_nil]
   exact hns.mono hle1
 refine ifd (fun h10 => ?_) (fun h10 => ?_)
 ·have hgl := hG.sh.top.gl1 h10
  have w_ := Gl.inv hR
  obtain ⟨q1, e1, _, hgs⟩ := w_
  have hkid : (g.put (valF vs)).goals[0]? = some (g.kid.put (valF vs)) := by rw [Gl.put_goals, List.getElem?_map, Gl.kid_at hgl]; rfl
  have w_ := Gl.elem hgs hkid
  obtain ⟨ad2, pk, hel2, hrk⟩ := w_
  have hp : q1 = p1 := by
   have h2 := congrArg (fun v => match v with | Value.agg a => (a[2]?, a[3]?) | _ => (none, none)) e1
   simp at h2
   exact Prod.ext (Prod.ext h2.1.1.symm h2.1.2.symm) (Prod.ext h2.2.1.symm h2.2.2.symm)
  subst hp
  refine eIn hel2 ?_
  refine eIn hel2 ?_
  intro r81
  refine gIn ?_ ?_ fun b' c' _ => ?_
  ·show (ns.length + 1) * 40 ≤ _; omega
  ·exact Nat.le_trans (m := 100000000) (show ns.length + 1 ≤ _ by omega) (by decide)
  refine num64 (by omega) (by omega) ⟨(j + 1, (pb, pc, ps), (b', c', _), μ1), ⟨by dsimp only; omega, hle.trans hle1, ?_, ?_, all1 fun _ k => absurd h10 k⟩, by dsimp only; omega, ⟨⟨rfl, rfl, rfl, rfl, rfl, rfl, trivial⟩, ⟨rfl, rfl, rfl, rfl, rfl, trivial⟩, rfl, rfl⟩⟩
  ·dsimp only
   rw [posF_succ hg, if_neg h9, List.append_nil]
   exact hps.mono hle1
  ·dsimp only
   rw [negF_succ hg, if_pos h10]
   simp only [List.map_append, List.map_cons, List.map_nil]
   have := callF_rep (vs := vs) (g := g.kid) hrk
   rw [Gl.put_name]
   exact (hns.mono hle1).append (Rows.one this (Fc.d_n _))
 have hterms : (g.put (valF vs)).terms = (g.terms.map fun t => t.toT.subst (valF vs)).map T.tm := by rw [Gl.put_terms, List.map_map]; rfl
 refine cGv (l13Test_spec hR hterms (by rw [Gl.put_kind, List.length_map]; exact hG.simple)) ?_
 rw [Gl.put_kind]
 refine ifnd (fun hf => ?_) (fun hf => ?_)
 ·refine rFz [3, 4, 5] fun μ2 hle2 hno2 hat2 μ3 hle3 hno3 hat3 μ4 hle4 hno4 hat4 => .inl ⟨_, _, ?_, fin μ2 μ3 μ4 (hle1.trans hle2) hat2 hle3 hat3 hle4 hat4, fun k => absurd (k g (mAt hg) h9 h10) hf⟩
  rw [decide_eq_false fun k => hf (k g (mAt hg) h9 h10)]
 ·refine num64 (by omega) (by omega) ⟨(j + 1, (pb, pc, ps), (nb, nc, ns), μ1), ⟨by dsimp only; omega, hle.trans hle1, ?_, ?_, all1 fun _ _ => hf⟩, by dsimp only; omega, ⟨⟨rfl, rfl, rfl, rfl, rfl, rfl, trivial⟩, ⟨rfl, rfl, rfl, rfl, rfl, trivial⟩, rfl, rfl⟩⟩
  ·dsimp only
   rw [posF_succ hg, if_neg h9, List.append_nil]
   exact hps.mono hle1
  ·dsimp only
   rw [negF_succ hg, if_neg h10, List.append_nil]
   exact hns.mono hle1
end
end Go.Vx
namespace Go.Vx
open Go.Proofs Classical
theorem gl_cnt_sz3 : ∀ g : Gl, g.d.cnt ≤ 3 + 3 * g.d.sz :=
 Gl.ind fun g ih => by
  have h1 := tms_cnt g.terms
  have h2 : D.cnts (g.goals.map Gl.d) ≤ 3 * g.goals.length + 3 * D.szs (g.goals.map Gl.d) := by
   generalize g.goals = l at ih
   induction l with
   | nil => simp [D.cnts, D.szs]
   | cons t l ih2 =>
    have h1 := ih t (by simp)
    have h2 := ih2 fun t ht => ih t (by simp [ht])
    simp only [List.map_cons, D.cnts, D.szs, List.length_cons]; omega
  rw [Gl.cnt_eq, Gl.sz_eq]; omega
theorem rls_cnt : ∀ l : List Rl, D.cnts (l.map Rl.d) ≤ 10 * l.length + 3 * D.szs (l.map Rl.d)
 | [] => by simp [D.cnts, D.szs]
 | x :: l => by
  have h1 := rls_cnt l
  have h2 := gl_cnt_sz3 x.body
  have h3 := Rl.sz_eq x
  rw [Gl.cnt_eq] at h2
  simp only [List.map_cons, D.cnts, D.szs, List.length_cons]
  rw [Rl.cnt_eq, Rl.sz_eq]; omega
theorem pg_cnt_sz (p : Pg) : p.d.cnt ≤ 10 * p.d.sz := by
 have h1 := rls_cnt p.rels
 rw [Pg.cnt_eq, Pg.sz_eq]; omega
theorem pg_mt (p : Pg) (k : Int) : (p.d.mt k).2 = k + D.cnts (p.rels.map Rl.d) := by
 rw [Pg.mt_eq]
 exact D.mks_cnt (p.rels.map Rl.d) k
end Go.Vx
namespace Go.Vx
open Go.Proofs Classical
section
variable {μ : Mem}
theorem relAt_get {p : Pg} {s : ByteArray} (h : 0 ≤ relAt p s) : ∃ (k : Nat) (r : Rl), relAt p s = (k : Int) ∧ p.rels[k]? = some r ∧ r.name = s := by
 have w_ := relFrom_some (l := p.rels) (i := 0) (s := s) h
 obtain ⟨j, r, h1, h2, h3⟩ := w_
 exact ⟨j, r, by rw [relAt, h1]; congr 1; omega, h2, h3⟩
end
end Go.Vx
namespace Go.Vx
open Go.Proofs Classical
def optRu (P : List Ru → Value → Prop) (o : Option (List Ru)) (v : Value) : Prop := match o with
 | some y => ∃ tv, v = .tuple #[tv, .bool true] ∧ P y tv
 | none => v = .tuple #[.slice none 0 0, .bool false]
noncomputable def groundO (p : Pg) (l : List Tm) : Option (List Ru) := if p.Ok ∧ UnivOk l then groundR p (l.map Tm.toT) else none
theorem rulesW_prefix {U : List T} {r : Rl} {i : Nat} {c : List Gl} {w : Nat} : ∀ m, ∃ X, rulesW U r i c (w + m) = rulesW U r i c w ++ X
 | 0 => ⟨[], by simp⟩
 | m + 1 => by
  have w_ := rulesW_prefix (U := U) (r := r) (i := i) (c := c) (w := w) m
  obtain ⟨X, hX⟩ := w_
  exact ⟨X ++ (ruleAt U r i c (w + m)).toList, by rw [← Nat.add_assoc, rulesW_succ, hX, List.append_assoc]⟩
theorem take_more {α : Type} {A B : List α} (h : 2000 < (A.take 2001).length) : (A ++ B).take 2001 = A.take 2001 := by
 rw [List.length_take] at h
 rw [List.take_append_of_le_length (by omega)]
theorem take_all {α : Type} {A : List α} (h : (A.take 2001).length ≤ 2000) : A.length ≤ 2000 := by
 rw [List.length_take] at h; omega
theorem okG_iff {U vs : List T} {c : List Gl} : (∀ g ∈ c, okG U vs g) ↔ (∀ g ∈ c, okS vs g) ∧ (∀ f ∈ posF vs c, ∀ a ∈ f.args, a ∈ U) ∧ ∀ f ∈ negF vs c, ∀ a ∈ f.args, a ∈ U := by
 constructor
 ·intro h
  refine ⟨fun g hg h9 h10 => ?_, fun f hf => ?_, fun f hf => ?_⟩
  ·have := h g hg
   rwa [okG, if_neg h9, if_neg h10] at this
  ·have w_ := List.mem_map.1 hf
   obtain ⟨g, hg, rfl⟩ := w_
   have w_ := List.mem_filter.1 hg
   obtain ⟨hg, h9⟩ := w_
   have h9 : g.kind = 9 := of_decide_eq_true h9
   have := h g hg
   rwa [okG, if_pos h9] at this
  ·have w_ := List.mem_map.1 hf
   obtain ⟨g, hg, rfl⟩ := w_
   have w_ := List.mem_filter.1 hg
   obtain ⟨hg, h10⟩ := w_
   have h10 : g.kind = 10 := of_decide_eq_true h10
   have := h g hg
   rwa [okG, if_neg (by omega), if_pos h10] at this
 ·rintro ⟨h1, h2, h3⟩ g hg
  rw [okG]
  split
  ·rename_i h9
   exact h2 _ (List.mem_map.2 ⟨g, List.mem_filter.2 ⟨hg, by simpa using h9⟩, rfl⟩)
  ·rename_i h9
   split
   ·rename_i h10
    exact h3 _ (List.mem_map.2 ⟨g, List.mem_filter.2 ⟨hg, by simpa using h10⟩, rfl⟩)
   ·rename_i h10
    exact h1 g hg h9 h10
theorem ClG.of {p : Pg} (hp : p.Ok) {i : Nat} {r : Rl} (hi : p.rels[i]? = some r) {L : List (List Gl)} (hL : r.body.cl = some L) {c : List Gl} (hc : c ∈ L) {g : Gl} (hg : g ∈ c) : ClG g := by
 have w_ := Gl.cl_all r.body hL c hc g hg
 obtain ⟨h1, h2⟩ := w_
 exact ⟨(hp.2 i r hi).body.all _ g h1, h2.2.2.1, h2.2.2.2⟩
theorem Gl.Sh.lens4 {g : Gl} (h : g.Sh) : g.terms.length ≤ 4 := by
 have T := h.top
 have e9 := T.ln9; have e2 := T.ln2; have e1 := T.ln1; have e0 := T.ln0; have k0 := T.k0; have k1 := T.k1
 omega
theorem callF_len {g : Gl} (h : ClG g) (vs : List T) : (callF vs g).args.length ≤ 4 := by
 show (g.terms.map _).length ≤ 4
 rw [List.length_map]
 exact h.sh.lens4
theorem posF_len {vs : List T} {c : List Gl} (h : ∀ g ∈ c, ClG g) : ∀ f ∈ posF vs c, f.args.length ≤ 4 := fun f hf => by
 have w_ := List.mem_map.1 hf
 obtain ⟨g, hg, rfl⟩ := w_
 exact callF_len (h g (List.mem_filter.1 hg).1) vs
theorem ClG.kid {g : Gl} (h : ClG g) (h10 : g.kind = 10) : ClG g.kid := by
 have hk := Gl.kid_at (h.sh.top.gl1 h10)
 have := h.sh.top.cl h10 _ hk
 exact ⟨h.sh.sub _ (mAt hk), by omega, by omega⟩
theorem negF_len {vs : List T} {c : List Gl} (h : ∀ g ∈ c, ClG g) : ∀ f ∈ negF vs c, f.args.length ≤ 4 := fun f hf => by
 have w_ := List.mem_map.1 hf
 obtain ⟨g, hg, rfl⟩ := w_
 have w_ := List.mem_filter.1 hg
 obtain ⟨hg, h10⟩ := w_
 exact callF_len ((h g hg).kid (of_decide_eq_true h10)) vs
theorem posF_le {vs : List T} {c : List Gl} : (posF vs c).length ≤ c.length := by
 rw [posF, List.length_map]; exact List.length_filter_le _ _
theorem negF_le {vs : List T} {c : List Gl} : (negF vs c).length ≤ c.length := by
 rw [negF, List.length_map]; exact List.length_filter_le _ _
section
variable {μ : Mem}
theorem Ru.inv {r : Ru} {v : Value} (h : RepV μ r.rd.d v) : ∃ p : RuD.P, v = .agg #[.string r.head.rel, .slice p.1.1 r.head.args.length p.1.2, .int .i64 r.clause, .slice p.2.1.1 r.vals.length p.2.1.2, .slice p.2.2.1.1 r.pos.length p.2.2.1.2, .slice p.2.2.2.1 r.neg.length p.2.2.2.2] ∧
  Sl μ 4 p.1.1 r.head.args.length ((r.head.args.map T.tm).map Tm.d) ∧ Sl μ 4 p.2.1.1 r.vals.length ((r.vals.map T.tm).map Tm.d) ∧ Sl μ 2 p.2.2.1.1 r.pos.length ((r.pos.map F.fc).map Fc.d) ∧ Sl μ 2 p.2.2.2.1 r.neg.length ((r.neg.map F.fc).map Fc.d) := by
 have w_ := RuD.inv h
 obtain ⟨p, rfl, h1, h2, h3, h4⟩ := w_
 have e1 : r.rd.hargs.length = r.head.args.length := List.length_map ..
 have e2 : r.rd.vals.length = r.vals.length := List.length_map ..
 have e3 : r.rd.pos.length = r.pos.length := List.length_map ..
 have e4 : r.rd.neg.length = r.neg.length := List.length_map ..
 rw [e1] at h1; rw [e2] at h2; rw [e3] at h3; rw [e4] at h4
 rw [e1, e2, e3, e4]
 exact ⟨p, rfl, h1, h2, h3, h4⟩
theorem Ru.mkV {r : Ru} {b1 b2 b3 b4 : Option Addr} {c1 c2 c3 c4 : Nat} (h1 : RepV μ (.sl 4 ((r.head.args.map T.tm).map Tm.d)) (.slice b1 r.head.args.length c1)) (h2 : RepV μ (.sl 4 ((r.vals.map T.tm).map Tm.d)) (.slice b2 r.vals.length c2))
  (h3 : RepV μ (.sl 2 ((r.pos.map F.fc).map Fc.d)) (.slice b3 r.pos.length c3)) (h4 : RepV μ (.sl 2 ((r.neg.map F.fc).map Fc.d)) (.slice b4 r.neg.length c4)) :
  RepV μ r.rd.d (.agg #[.string r.head.rel, .slice b1 r.head.args.length c1, .int .i64 r.clause, .slice b2 r.vals.length c2, .slice b3 r.pos.length c3, .slice b4 r.neg.length c4]) := by
 rw [RuD.d_eq]
 exact ⟨_, rfl, RepS.str (RepS.cons1 h1 (RepS.int (RepS.cons1 h2 (RepS.cons1 h3 (RepS.last h4)))))⟩
set_option maxHeartbeats 8000000 in
set_option maxRecDepth 20000 in
theorem spec_GroundRules_spec {p : Pg} {l : List Tm} {v : Value} {ub : Option Addr} {uc : Nat} (hp : RepV μ p.d v) (hw : p.d.wd) (hu : Sl μ 4 ub l.length (l.map Tm.d)) (hwu : D.wds (l.map Tm.d)) :
  Spec Tryz.prog 95 [v, .slice ub l.length uc] μ fun v μ' => optRu (fun y tv => RepV μ' (.sl 6 ((y.map Ru.rd).map RuD.d)) tv) (groundO p l) v := by
 have hp0 := hp
 have w_ := Pg.inv hp
 obtain ⟨q, rfl, hrl⟩ := w_
 refine Spec.mk Tryz.func95 (by kernel_rfl) ?_
 intro r2
 refine cPl (spec_ProgramOk_spec hp0 hw) fun v1 μ1 hle1 hR => ?_
 obtain rfl := hR
 refine ifnd (fun h => rPl (by rw [groundO, if_neg fun k => h k.1]; rfl)) (fun hok => ?_)
 refine cGv (spec_UniverseOk_spec (hu.mono hle1) hwu) ?_
 refine ifnd (fun h => rPl (by rw [groundO, if_neg fun k => h k.2]; rfl)) (fun huok => ?_)
 obtain ⟨U, rfl, hUg, hUl⟩ := huok.lift
 have hgo : groundO p (U.map T.tm) = groundR p U := by rw [groundO, if_pos ⟨hok, huok⟩, toTs_tm]
 rw [hgo]
 have hU1 : 1 ≤ U.length := by rw [hUl]; exact huok.pos
 have hU8 : U.length ≤ 8 := by rw [hUl]; exact huok.max
 rw [← hUl] at hu ⊢
 clear hgo hUl huok hUg hwu
 have hn := hok.1
 intro r27
 refine lIn (fun z : Nat × Option Nat × Nat × List Value × Mem => z.1 ≤ p.rels.length ∧ μ1.Le z.2.2.2.2 ∧ Rows z.2.2.2.2 6 (((((p.rels.take z.1).flatMap (rulesR U)).take 2001).map Ru.rd).map RuD.d) z.2.2.2.1 ∧ ∀ r ∈ p.rels.take z.1, r.body.cl ≠ none ∧ U.length ^ (r.arity + r.locals).toNat ≤ 4096)
  (fun (i, b, c, ys, μ') => ⟨[(1, .val (.slice ub U.length uc)), (6, .row 1 b ys.length c), (29, .val (.slice q.1 p.rels.length q.2)), (30, .val (.int .i64 p.rels.length)), (31, .val (.int .i64 i))], [(1, some (.row b c 126 6 ys))], 2, μ', Mem.nil⟩) (fun z => p.rels.length - z.1)
  (0, some r27, 0, [], μ1) ⟨Nat.zero_le _, Mem.Le.refl _, .nil, by simp⟩ (fun (_, _, _, _, _) => ⟨rfl, rfl⟩) ⟨⟨rfl, rfl, rfl, rfl, rfl, trivial⟩, ⟨rfl, trivial⟩, rfl, rfl⟩ ?_
 rintro ⟨i, b, c, ys, μ'⟩ ⟨hi, hle, hrows, hways⟩
 dsimp only at hi hle hrows hways
 have hyl := hrows.len
 simp only [List.length_map] at hyl
 refine ifd (fun hlt => ?_) (fun hlt => ?_)
 rotate_left
 ·obtain rfl : i = p.rels.length := by omega
  rw [List.take_length] at hrows hways hyl
  have hall : (p.rels.flatMap (rulesR U)) = rulesP p U := rfl
  rw [hall] at hrows hyl
  refine ifd (fun hbig => rPl ?_) (fun hbig => ?_)
  ·rw [groundR, if_neg fun k => by have := k.2; rw [List.length_take] at hyl; omega]; rfl
  ·have hle2 : (rulesP p U).length ≤ 2000 := take_all (by omega)
   rw [List.take_of_length_le (by omega)] at hrows
   rw [groundR, if_pos ⟨hways, hle2⟩]
   refine rFz [1] fun μ2 hle2 hno hat => .inl ⟨_, rfl, ?_⟩
   exact Rows.sl hat (hrows.mono hle2) (Nat.le_trans (m := 100000) (by rw [List.length_take] at hyl; omega) (by decide))
 have w_ := aSo (l := p.rels) (i := i) (by omega)
 obtain ⟨r, hr⟩ := w_
 have w_ := Rl.elemA ((hrl.mono hle1).mono hle) hr
 obtain ⟨ad, q2, hel, hrv, hb⟩ := w_
 have hb : RepV μ' r.body.d (.agg (r.body.cs q2).toArray) := hb
 have hrok := hok.2 i r hr
 have w_ := Int.eq_ofNat_of_zero_le hrok.ar0
 obtain ⟨a, ha⟩ := w_
 have w_ := Int.eq_ofNat_of_zero_le hrok.lo0
 obtain ⟨lo, hlo⟩ := w_
 have har4 := hrok.ar4
 have hlo8 := hrok.lo8
 have hnn : (r.arity + r.locals).toNat = a + lo := by omega
 have hsz := hrok.size
 refine eIn hel ?_
 intro r8 r35
 refine lIn (fun z : Nat × Option Nat × Nat => z.1 ≤ a + lo)
  (fun (n, vb, vc) => ⟨[(1, .val (.slice ub U.length uc)), (6, .row 1 b ys.length c), (8, .loc 2 r8 0), (9, .row 3 vb (ints (rngI n)).length vc), (10, .val (.int .i64 n)), (29, .val (.slice q.1 p.rels.length q.2)), (30, .val (.int .i64 p.rels.length)), (31, .val (.int .i64 i))], [(1, some (.row b c 126 6 ys)), (2, some (.cells r8 [.val (.string r.name), .val (.int .i64 r.arity), .val (.int .i64 r.locals), .val (.int .i64 r.body.kind), .val (.string r.body.name), .val (.slice q2.1.1 r.body.terms.length q2.1.2), .val (.slice q2.2.1 r.body.goals.length q2.2.2)] 89)), (3, some (.row vb vc 3 1 (ints (rngI n))))], 4, μ', Mem.nil⟩) (fun z => a + lo - z.1)
  (0, some r35, 0) (Nat.zero_le _) (fun (_, _, _) => ⟨rfl, rfl⟩) ⟨⟨rfl, rfl, rfl, rfl, rfl, rfl, rfl, rfl, trivial⟩, ⟨rfl, rfl, rfl, trivial⟩, rfl, rfl⟩ ?_
 rintro ⟨n, vb, vc⟩ hn2
 dsimp only at hn2
 have hil : (ints (rngI n)).length = n := by rw [ints, List.length_map, rngI_len]
 refine nEq (x := ((a + lo : Nat) : Int)) (by rw [wrap64 (by omega) (by omega)]; omega) ?_
 refine ifd (fun h2 => ?_) (fun h2 => ?_)
 ·intro r47
  refine gIn ?_ ?_ fun b' c' _ => ?_
  ·show (_ + 1) * 8 ≤ _; omega
  ·exact Nat.le_trans (m := 1000) (show _ + 1 ≤ _ by omega) (by decide)
  have ez : ints (rngI (n + 1)) = ints (rngI n) ++ [.int .i64 (n : Int)] := by simp [ints, rngI, List.range_succ]
  refine num64 (by omega) (by omega) ⟨(n + 1, b', c'), by dsimp only; omega, by dsimp only; omega, ?_⟩
  dsimp only
  rw [ez]
  exact ⟨⟨rfl, rfl, rfl, by rw [List.length_append]; rfl, rfl, rfl, rfl, rfl, trivial⟩, ⟨rfl, rfl, rfl, trivial⟩, rfl, rfl⟩
 obtain rfl : n = a + lo := by omega
 refine cPl (ClausesOf_spec hb (rel_wd hw hr) ⟨hrok.body, by omega⟩) fun v3 μ3 hle3 hR3 => ?_
 have hwsp := l08Ways_spec (μ := μ3) (size := U.length) (n := (ints (rngI (a + lo))).length) (most := 4096) hU1 hU8 (by omega) (by omega) (by omega)
 cases hL : r.body.cl with
 | none =>
  rw [hL] at hR3
  obtain rfl := hR3
  refine cPl hwsp fun v4 μ4 hle4 hR4 => ?_
  obtain ⟨⟨W, rfl, _, _⟩, rfl⟩ := hR4
  refine iIn (fun _ => rPl ?_) (fun h => nomatch h)
  rw [groundR, if_neg fun k => (k.1 r (mAt hr)).1 hL]; rfl
 | some L =>
 rw [hL] at hR3
 obtain ⟨tv, rfl, hLr⟩ := hR3
 obtain ⟨pv, rfl⟩ := hLr.inv
 refine cPl hwsp fun v4 μ4 hle4 hR4 => ?_
 obtain ⟨⟨W, rfl, hW1, hW2⟩, e4⟩ := hR4
 obtain rfl := e4.symm
 rw [hil] at hW1 hW2
 refine iIn (fun h => nomatch h) (fun _ => ?_)
 refine ifd (fun hbig => rPl ?_) (fun hsmall => ?_)
 ·rw [groundR, if_neg fun k => by
   have h1 := (k.1 r (mAt hr)).2
   rw [hnn] at h1
   have := hW1 h1
   omega]; rfl
 have hWle : U.length ^ (a + lo) ≤ 4096 := Nat.le_of_not_lt fun h => by have := hW2 h; omega
 have w_ := hW1 hWle
 obtain rfl := w_
 have hLs := (Cls.sl hLr).1
 have hLb := Gl.cl_bnd r.body hL
 generalize hpre : (p.rels.take i).flatMap (rulesR U) = pre at *
 refine lFz (fun z : Nat × Option Nat × Nat × List Value × Mem × (Option Nat × Nat) => z.1 ≤ L.length ∧ μ3.Le z.2.2.2.2.1 ∧ Sl z.2.2.2.2.1 1 (z.2.2.2.2.2.1.map fun r => (⟨r, 0, none⟩ : Addr)) (a + lo) ((rngI (a + lo)).map D.i) ∧ Rows z.2.2.2.2.1 6 ((((pre ++ rulesC U r L z.1).take 2001).map Ru.rd).map RuD.d) z.2.2.2.1)
  (fun (k, b, c, ys, μ', vb, vc) => ⟨[(1, .val (.slice ub U.length uc)), (6, .row 1 b ys.length c), (8, .loc 2 r8 0), (9, .val (.slice (vb.map fun r => (⟨r, 0, none⟩ : Addr)) (ints (rngI (a + lo))).length vc)), (13, .val (.int .i64 ((U.length ^ (a + lo) : Nat) : Int))), (29, .val (.slice q.1 p.rels.length q.2)), (30, .val (.int .i64 p.rels.length)), (31, .val (.int .i64 i)), (66, .val (.slice pv.1 L.length pv.2)), (67, .val (.int .i64 L.length)), (68, .val (.int .i64 k))], [(1, some (.row b c 126 6 ys)), (2, some (.cells r8 [.val (.string r.name), .val (.int .i64 r.arity), .val (.int .i64 r.locals), .val (.int .i64 r.body.kind), .val (.string r.body.name), .val (.slice q2.1.1 r.body.terms.length q2.1.2), .val (.slice q2.2.1 r.body.goals.length q2.2.2)] 89))], 4, μ', Mem.nil⟩) (fun z => L.length - z.1) [3]
  (fun (_, _, _, _, _, _, _) => ⟨rfl, rfl⟩) ?_ ?_
 ·intro μf hlef hnof hatf
  have hsl := Ints.sl hatf (Nat.le_trans (m := 1000) (by rw [rngI_len]; omega) (by decide))
  rw [hil] at hsl
  have w_ := Rep.sl hsl
  obtain ⟨bz, cz, ez, hzs⟩ := w_
  have w_ := Value.slice.inj ez
  obtain ⟨e1, _, _⟩ := w_
  rw [← e1, List.length_map, rngI_len] at hzs
  refine ⟨(0, b, c, ys, μf, vb, vc), ⟨Nat.zero_le _, hlef, hzs, ?_⟩, ⟨⟨rfl, rfl, rfl, rfl, rfl, rfl, rfl, rfl, rfl, rfl, rfl, trivial⟩, ⟨rfl, rfl, trivial⟩, rfl, rfl⟩⟩
  have e0 : pre ++ rulesC U r L 0 = pre := by simp [rulesC]
  dsimp only
  rw [e0]
  exact (hrows.mono hle3).mono hlef
 clear hrows hyl hil
 rintro ⟨k, b, c, ys, μ5, vb, vc⟩ ⟨hk, hle5, hvs, hrows⟩
 dsimp only at hk hle5 hvs hrows
 have hil : (ints (rngI (a + lo))).length = a + lo := by rw [ints, List.length_map, rngI_len]
 refine ifd (fun hltk => ?_) (fun hltk => ?_)
 rotate_left
 ·obtain rfl : k = L.length := by omega
  refine num64 (by omega) (by omega) ⟨(i + 1, b, c, ys, μ5), ⟨by dsimp only; omega, (hle.trans hle3).trans hle5, ?_, ?_⟩, by dsimp only; omega, ⟨⟨rfl, rfl, rfl, rfl, rfl, trivial⟩, ⟨rfl, trivial⟩, rfl, rfl⟩⟩
  ·dsimp only
   rw [rulesP_take hr, hpre]
   have e : rulesR U r = rulesC U r L L.length := by rw [rulesR, hL]
   rw [e]; exact hrows
  ·dsimp only
   intro x hx
   rw [List.take_add_one, hr, Option.toList_some] at hx
   rcases List.mem_append.1 hx with hx | hx
   ·exact hways x hx
   ·rw [List.mem_singleton.1 hx, hL, hnn]
    exact ⟨(fun h => nomatch h), hWle⟩
 have w_ := aSo (l := L) (i := k) (by omega)
 obtain ⟨cl, hcl⟩ := w_
 have w_ := cls_elem (hLs.mono hle5) hcl
 obtain ⟨adc, pc, helc, hrc⟩ := w_
 have hcs : Sl μ5 4 pc.1 cl.length (cl.map Gl.d) := by
  have w_ := Rep.sl (xs := cl.map Gl.d) hrc
  obtain ⟨b', c', e1, hs⟩ := w_
  have w_ := Value.slice.inj e1
  obtain ⟨rfl, _, _⟩ := w_
  simpa using hs
 have hcb := hLb.1 cl (mAt hcl)
 have hG : ∀ g ∈ cl, ClG g := fun g hg => ClG.of hok hr hL (mAt hcl) hg
 refine eIn helc ?_
 refine lIn (fun z : Nat × Option Nat × Nat × List Value × Mem => z.1 ≤ U.length ^ (a + lo) ∧ μ5.Le z.2.2.2.2 ∧ Rows z.2.2.2.2 6 ((((pre ++ rulesC U r L k ++ rulesW U r k cl z.1).take 2001).map Ru.rd).map RuD.d) z.2.2.2.1)
  (fun (w, b, c, ys, μ') => ⟨[(1, .val (.slice ub U.length uc)), (6, .row 1 b ys.length c), (8, .loc 2 r8 0), (9, .val (.slice (vb.map fun r => (⟨r, 0, none⟩ : Addr)) (ints (rngI (a + lo))).length vc)), (13, .val (.int .i64 ((U.length ^ (a + lo) : Nat) : Int))), (14, .val (.int .i64 k)), (15, .val (.slice pc.1 cl.length pc.2)), (16, .val (.int .i64 (w : Nat))), (29, .val (.slice q.1 p.rels.length q.2)), (30, .val (.int .i64 p.rels.length)), (31, .val (.int .i64 i)), (66, .val (.slice pv.1 L.length pv.2)), (67, .val (.int .i64 L.length)), (68, .val (.int .i64 k))], [(1, some (.row b c 126 6 ys)), (2, some (.cells r8 [.val (.string r.name), .val (.int .i64 r.arity), .val (.int .i64 r.locals), .val (.int .i64 r.body.kind), .val (.string r.body.name), .val (.slice q2.1.1 r.body.terms.length q2.1.2), .val (.slice q2.2.1 r.body.goals.length q2.2.2)] 89))], 4, μ', Mem.nil⟩) (fun z => U.length ^ (a + lo) - z.1)
  (0, b, c, ys, μ5) ⟨Nat.zero_le _, Mem.Le.refl _, by simpa [rulesW] using hrows⟩ (fun (_, _, _, _, _) => ⟨rfl, rfl⟩) ⟨⟨rfl, rfl, rfl, rfl, rfl, rfl, rfl, rfl, rfl, rfl, rfl, rfl, rfl, rfl, trivial⟩, ⟨rfl, rfl, trivial⟩, rfl, rfl⟩ ?_
 clear hrows
 rintro ⟨w, b, c, ys, μ6⟩ ⟨hw6, hle6, hrows⟩
 dsimp only at hw6 hle6 hrows
 have hyl := hrows.len
 simp only [List.length_map] at hyl
 have done : (pre ++ rulesC U r L k ++ rulesW U r k cl w).take 2001 = (pre ++ rulesC U r L (k + 1)).take 2001 → ∃ i' : Nat × Option Nat × Nat × List Value × Mem × (Option Nat × Nat), i' = (k + 1, b, c, ys, μ6, vb, vc) ∧ (k + 1 ≤ L.length ∧ μ3.Le μ6 ∧ Sl μ6 1 (vb.map fun r => (⟨r, 0, none⟩ : Addr)) (a + lo) ((rngI (a + lo)).map D.i) ∧ Rows μ6 6 ((((pre ++ rulesC U r L (k + 1)).take 2001).map Ru.rd).map RuD.d) ys) := fun e =>
  ⟨_, rfl, by omega, hle5.trans hle6, hvs.mono hle6, by rw [← e]; exact hrows⟩
 have hsucc := rulesC_succ (U := U) (r := r) hcl
 rw [hnn] at hsucc
 refine ifd (fun hltw => ?_) (fun hltw => ?_)
 rotate_left
 ·obtain rfl : w = U.length ^ (a + lo) := by omega
  have w_ := done (by rw [hsucc, List.append_assoc])
  obtain ⟨i', rfl, hI⟩ := w_
  exact num64 (by omega) (by omega) ⟨[], (k + 1, b, c, ys, μ6, vb, vc), hI, by dsimp only; omega, ⟨⟨rfl, rfl, rfl, rfl, rfl, rfl, rfl, rfl, rfl, rfl, rfl, trivial⟩, ⟨rfl, rfl, trivial⟩, rfl, rfl⟩⟩
 refine ifd (fun hroom => ?_) (fun hroom => ?_)
 rotate_left
 ·have w_ := rulesW_prefix (U := U) (r := r) (i := k) (c := cl) (w := w) (U.length ^ (a + lo) - w)
  obtain ⟨X, hX⟩ := w_
  rw [show w + (U.length ^ (a + lo) - w) = U.length ^ (a + lo) by omega] at hX
  obtain ⟨i', rfl, hI⟩ := done (by
   rw [hsucc, hX, ← List.append_assoc, ← List.append_assoc]
   exact (take_more (by omega)).symm)
  exact num64 (by omega) (by omega) ⟨[], (k + 1, b, c, ys, μ6, vb, vc), hI, by dsimp only; omega, ⟨⟨rfl, rfl, rfl, rfl, rfl, rfl, rfl, rfl, rfl, rfl, rfl, trivial⟩, ⟨rfl, rfl, trivial⟩, rfl, rfl⟩⟩
 have hA := take_all (A := pre ++ rulesC U r L k ++ rulesW U r k cl w) (by omega)
 have hA1 : (pre ++ rulesC U r L k ++ rulesW U r k cl w).take 2001 = pre ++ rulesC U r L k ++ rulesW U r k cl w := List.take_of_length_le (by omega)
 rw [hA1] at hrows hyl
 have hnext := rulesW_succ U r k cl w
 have hu6 := (((hu.mono hle1).mono hle).mono hle3).mono (hle5.trans hle6)
 have hvals := l08Values_spec (uc := uc) (vc := vc) (n := a + lo) (w := w) hu6 (by omega) hU8 (hvs.mono hle6) (by omega) (by omega)
 rw [← hil] at hvals
 refine cPl hvals fun v7 μ7 hle7 hR7 => ?_
 rw [hil] at hR7
 have w_ := Rep.sl hR7
 obtain ⟨b7, c7, e7, hs7⟩ := w_
 simp only [List.length_map, valsB_len] at e7 hs7
 subst e7
 have hdl := digs_len U (a + lo) w
 have hrv7 := (hrv.mono hle3).mono ((hle5.trans hle6).trans hle7)
 refine cPl (l18Rule_spec (i := k) (vs := digs U (a + lo) w) (a := a) hrv7 ha (by omega) (by omega) ((hcs.mono hle6).mono hle7) (by omega) hG hs7) fun v8 μ8 hle8 hR8 => ?_
 obtain ⟨ru, rv, rfl, hrr, hru⟩ := hR8
 have w_ := Ru.inv hrr
 obtain ⟨pr, rfl, h81, h82, h83, h84⟩ := w_
 intro r17
 have hu8 := (hu6.mono hle7).mono hle8
 have hmono := (hle6.trans hle7).trans hle8
 have skip : ¬ (∀ g ∈ cl, okG U (digs U (a + lo) w) g) → Rows μ8 6 ((((pre ++ rulesC U r L k ++ rulesW U r k cl (w + 1)).take 2001).map Ru.rd).map RuD.d) ys := fun h => by
  rw [hnext, ruleAt, hnn, if_neg h, Option.toList_none, List.append_nil, hA1]
  exact (hrows.mono hle7).mono hle8
 refine ifd (fun hS => ?_) (fun hS => ?_)
 rotate_left
 ·exact num64 (by omega) (by omega) ⟨(w + 1, b, c, ys, μ8), ⟨by dsimp only; omega, hmono, skip fun k => hS (okG_iff.1 k).1⟩, by dsimp only; omega, ⟨⟨rfl, rfl, rfl, rfl, rfl, rfl, rfl, rfl, rfl, rfl, rfl, rfl, rfl, rfl, trivial⟩, ⟨rfl, rfl, trivial⟩, rfl, rfl⟩⟩
 have w_ := hru hS
 obtain rfl := w_
 refine cGv (l18Inside_spec hu8 h83) ?_
 refine ifd (fun hP => ?_) (fun hP => ?_)
 rotate_left
 ·exact num64 (by omega) (by omega) ⟨(w + 1, b, c, ys, μ8), ⟨by dsimp only; omega, hmono, skip fun k => hP (okG_iff.1 k).2.1⟩, by dsimp only; omega, ⟨⟨rfl, rfl, rfl, rfl, rfl, rfl, rfl, rfl, rfl, rfl, rfl, rfl, rfl, rfl, trivial⟩, ⟨rfl, rfl, trivial⟩, rfl, rfl⟩⟩
 refine cGv (l18Inside_spec hu8 h84) ?_
 refine ifd (fun hN => ?_) (fun hN => ?_)
 rotate_left
 ·exact num64 (by omega) (by omega) ⟨(w + 1, b, c, ys, μ8), ⟨by dsimp only; omega, hmono, skip fun k => hN (okG_iff.1 k).2.2⟩, by dsimp only; omega, ⟨⟨rfl, rfl, rfl, rfl, rfl, rfl, rfl, rfl, rfl, rfl, rfl, rfl, rfl, rfl, trivial⟩, ⟨rfl, rfl, trivial⟩, rfl, rfl⟩⟩
 have hOk := okG_iff.2 ⟨hS, hP, hN⟩
 have lens : (ruleOf r k cl (digs U (a + lo) w)).vals.length ≤ 12 ∧ (ruleOf r k cl (digs U (a + lo) w)).head.args.length ≤ 12 ∧ (ruleOf r k cl (digs U (a + lo) w)).pos.length ≤ 1000 ∧ (ruleOf r k cl (digs U (a + lo) w)).neg.length ≤ 1000 := by
  refine ⟨by show (digs U (a + lo) w).length ≤ 12; omega, by show ((digs U (a + lo) w).take _).length ≤ 12; rw [List.length_take]; omega, ?_, ?_⟩
  ·have := posF_le (vs := digs U (a + lo) w) (c := cl)
   show (posF _ cl).length ≤ 1000; omega
  ·have := negF_le (vs := digs U (a + lo) w) (c := cl)
   show (negF _ cl).length ≤ 1000; omega
 have lpos : ∀ f ∈ (ruleOf r k cl (digs U (a + lo) w)).pos, f.args.length ≤ 4 := posF_len hG
 have lneg : ∀ f ∈ (ruleOf r k cl (digs U (a + lo) w)).neg, f.args.length ≤ 4 := negF_len hG
 have hat1 : ruleAt U r k cl w = some (ruleOf r k cl (digs U (a + lo) w)) := by rw [ruleAt, hnn, if_pos hOk]
 generalize ruleOf r k cl (digs U (a + lo) w) = R at *
 refine cPl (l02CopyAll_spec h82 (by omega)) fun v9 μ9 hle9 hR9 => ?_
 have w_ := Rep.sl hR9
 obtain ⟨b9, c9, e, hs9⟩ := w_
 simp only [List.length_map] at e hs9
 subst e
 refine cPl (l02CopyAll_spec (h81.mono hle9) (by omega)) fun v10 μ10 hle10 hR10 => ?_
 have w_ := Rep.sl hR10
 obtain ⟨b10, c10, e, hs10⟩ := w_
 simp only [List.length_map] at e hs10
 subst e
 refine cPl (l18Copy_spec ((h83.mono hle9).mono hle10) (by omega) (fun f hf => by have := lpos f hf; omega)) fun v11 μ11 hle11 hR11 => ?_
 have w_ := Rep.sl hR11
 obtain ⟨b11, c11, e, hs11⟩ := w_
 simp only [List.length_map] at e hs11
 subst e
 refine cPl (l18Copy_spec (((h84.mono hle9).mono hle10).mono hle11) (by omega) (fun f hf => by have := lneg f hf; omega)) fun v12 μ12 hle12 hR12 => ?_
 have w_ := Rep.sl hR12
 obtain ⟨b12, c12, e, hs12⟩ := w_
 simp only [List.length_map] at e hs12
 subst e
 intro r127
 refine gIn ?_ ?_ fun b' c' _ => ?_
 ·show (ys.length + 1) * 120 ≤ _; omega
 ·exact Nat.le_trans (m := 100000) (show ys.length + 1 ≤ _ by omega) (by decide)
 refine num64 (by omega) (by omega) ⟨(w + 1, b', c', _, μ12), ⟨by dsimp only; omega, hmono.trans (((hle9.trans hle10).trans hle11).trans hle12), ?_⟩, by dsimp only; omega, ⟨⟨rfl, rfl, rfl, rfl, rfl, rfl, rfl, rfl, rfl, rfl, rfl, rfl, rfl, rfl, trivial⟩, ⟨rfl, rfl, trivial⟩, rfl, rfl⟩⟩
 dsimp only
 have hlen2 : (pre ++ rulesC U r L k ++ rulesW U r k cl w ++ [R]).length ≤ 2001 := by
  rw [List.length_append]
  simp only [List.length_singleton]
  omega
 rw [hnext, hat1, Option.toList_some, ← List.append_assoc, List.take_of_length_le hlen2, List.map_append, List.map_append]
 refine ((((((hrows.mono hle7).mono hle8).mono hle9).mono hle10).mono hle11).mono hle12).append (Rows.one ?_ (RuD.d_n _))
 exact Ru.mkV (((hR10.mono hle11).mono hle12)) (((hR9.mono hle10).mono hle11).mono hle12) (hR11.mono hle12) hR12
end
end Go.Vx
namespace Go.Vx
open Go.Proofs Classical
theorem valF_at {vs : List T} {n : Int} (h0 : 0 ≤ n) (h1 : n < vs.length) : ∃ x, valF vs n = some x ∧ vs[n.toNat]? = some x := by
 have w_ := aSo (l := vs) (i := n.toNat) (by omega)
 obtain ⟨x, hx⟩ := w_
 exact ⟨x, by rw [valF, if_pos h0, hx], hx⟩
section
variable {μ : Mem}
theorem ways_spec {size n most : Nat} (h1 : 1 ≤ size) (h8 : size ≤ 8) (hm : most ≤ 100000) (hn : n ≤ 1000) (hm1 : 1 ≤ most) :
  Spec Tryz.prog 220 [.int .i64 size, .int .i64 n, .int .i64 most] μ fun r μ' => WaysR size n most r ∧ μ' = μ := by
 refine Spec.forget (Spec.mk Tryz.func220 (by kernel_rfl) ?_)
 refine lIn (fun z : Nat × Nat => z.1 ≤ n ∧ z.2 = size ^ z.1 ∧ z.2 ≤ 8 * most) (fun (i, k) => ⟨[(0, .val (.int .i64 size)), (1, .val (.int .i64 n)), (2, .val (.int .i64 most)), (7, .val (.int .i64 (k : Nat))), (8, .val (.int .i64 (i : Nat)))], [], 0, μ, Mem.nil⟩) (fun z => n - z.1)
  (0, 1) ⟨Nat.zero_le _, rfl, by dsimp only; omega⟩ (fun (_, _) => ⟨rfl, rfl⟩) ⟨⟨rfl, rfl, rfl, rfl, rfl, trivial⟩, trivial, rfl, rfl⟩ ?_
 rintro ⟨i, k⟩ ⟨hi, hk, hb⟩
 dsimp only at hi hk hb
 have mono : size ^ i ≤ size ^ n := Nat.pow_le_pow_right h1 hi
 have fin : (¬ i < n ∨ ¬ k ≤ most) → WaysR size n most (.int .i64 (if ((most : Int) + 1) < (k : Int) then (most : Int) + 1 else (k : Int))) := fun h => by
  by_cases g : (most : Int) + 1 < (k : Int)
  ·rw [if_pos g]
   exact ⟨most + 1, rfl, fun h => by omega, fun _ => by omega⟩
  ·rw [if_neg g]
   refine ⟨k, rfl, fun h2 => ?_, fun h2 => ?_⟩
   ·rcases h with h | h
    ·obtain rfl : i = n := by omega
     exact hk
    ·omega
   ·rcases h with h | h
    ·obtain rfl : i = n := by omega
     omega
    ·omega
 refine ifd (fun g1 => ?_) (fun g1 => ?_)
 ·refine ifd (fun g2 => ?_) (fun g2 => ?_)
  ·have hks : k * size ≤ 8 * most := by
    have := Nat.mul_le_mul (show k ≤ most by omega) h8
    omega
   refine nEq (x := ((k * size : Nat) : Int)) (by rw [← Int.natCast_mul]; exact wrap64 (by omega) (by omega)) ?_
   exact num64 (by omega) (by omega) ⟨(i + 1, k * size), ⟨by dsimp only; omega, by dsimp only; rw [hk, Nat.pow_succ], hks⟩, by dsimp only; omega, ⟨⟨rfl, rfl, rfl, rfl, rfl, trivial⟩, trivial, rfl, rfl⟩⟩
  ·exact num64 (by omega) (by omega) (rPl (fin (.inr (by omega))))
 ·exact num64 (by omega) (by omega) (rPl (fin (.inl (by omega))))
theorem with1_spec {vs : List T} {vb : Option Addr} {vc r3 : Nat} {ty : TypeId} {n : Int} (hv : Sl μ 4 vb vs.length ((vs.map T.tm).map Tm.d)) (h3 : μ r3 = some (.cells #[.slice vb vs.length vc] ty (0, 0))) (h0 : 0 ≤ n) (h1 : n < vs.length) :
  Spec Tryz.prog 253 [.int .i64 n, .pointer (some ⟨r3, 0, none⟩)] μ fun v μ' => optV (fun y tv => RepV μ' y.tm.d tv) (valF vs n) v := by
 have w_ := valF_at h0 h1
 obtain ⟨x, hx, hx2⟩ := w_
 have w_ := T.elemL hv hx2
 obtain ⟨ad, p, hel, hr⟩ := w_
 rw [hx]
 refine Spec.mk Tryz.func253 (by kernel_rfl) ?_
 intro r
 refine ext_intro [.slice vb vs.length vc] rfl (box_at h3) ?_
 refine eIn (by rw [show n = ((n.toNat : Nat) : Int) by omega]; exact hel) ?_
 exact rPl ⟨_, rfl, hr⟩
theorem with_spec {vs : List T} {vb : Option Addr} {vc : Nat} {x : T} {v : Value} (hv : Sl μ 4 vb vs.length ((vs.map T.tm).map Tm.d)) (hx : RepV μ x.tm.d v) (hl : ∀ n ∈ x.vars, 0 ≤ n ∧ n < vs.length) :
  Spec Tryz.prog 247 [v, .slice vb vs.length vc] μ fun v μ' => RepV μ' (x.subst (valF vs)).tm.d v := by
 have hx0 := hx
 have w_ := Tm.invV hx
 obtain ⟨p, rfl⟩ := w_
 refine Spec.mk Tryz.func247 (by kernel_rfl) ?_
 intro r2 r3 r4
 refine call_frz [1] fun μ1 hle1 hno1 hat1 => ?_
 refine own_go (mapVars_rel (f := valF vs) (fun μ' h' => h' = Mem.nil ∧ μ1.Le μ') (fun g1 g2 => ⟨g2.1, g2.2.trans g1⟩) x (fun μ' h' g1 g2 n hn => ?_) ⟨rfl, Mem.Le.refl _⟩ (hx0.mono hle1)) fun v1 μ2 h2 hle2 hap2 hR => ?_
 ·obtain ⟨rfl, g2⟩ := g2
  exact SpecH.weaken (Spec.beside (apart_nil _) (with1_spec (ty := 36) ((hv.mono hle1).mono g2) (g2 _ _ hat1) (hl n hn).1 (hl n hn).2)) fun v μ'' h'' g3 g4 g5 => ⟨g5.2, g5.1, g2.trans g3⟩
 ·obtain ⟨hR, rfl, _⟩ := hR
  have w_ := Tm.invV hR
  obtain ⟨q, rfl⟩ := w_
  exact rPl hR
theorem subst_take {xs : List T} {f : Int → Option T} {i : Nat} {x : T} (h : xs[i]? = some x) : (xs.map (T.subst f)).take (i + 1) = (xs.map (T.subst f)).take i ++ [x.subst f] := by
 rw [List.take_add_one, List.getElem?_map, h]; rfl
theorem callF_args2 {vs : List T} {g : Gl} {xs : List T} (h : g.terms = xs.map T.tm) : (callF vs g).args = xs.map (T.subst (valF vs)) := by
 show g.terms.map _ = _
 rw [h, List.map_map]
 exact List.map_congr_left fun x _ => by simp [T.toT_tm]
theorem callFact_spec {vs xs : List T} {vb : Option Addr} {vc : Nat} {g : Gl} {v : Value} (hv : Sl μ 4 vb vs.length ((vs.map T.tm).map Tm.d)) (hg : RepV μ g.d v) (hx : g.terms = xs.map T.tm) (hx4 : xs.length ≤ 4) (hl : ∀ x ∈ xs, ∀ n ∈ x.vars, 0 ≤ n ∧ n < vs.length) :
  Spec Tryz.prog 221 [v, .slice vb vs.length vc] μ fun v μ' => RepV μ' (callF vs g).fc.d v := by
 have w_ := Gl.inv hg
 obtain ⟨p0, rfl, hts, -⟩ := w_
 have hca := callF_args2 (vs := vs) hx
 rw [hx, List.length_map] at hts
 rw [show g.terms.length = xs.length by rw [hx, List.length_map]]
 refine Spec.mk Tryz.func221 (by kernel_rfl) ?_
 intro r2 r4 r5
 refine loop_nil (fun z : Nat × Option Nat × Nat × List Value × Mem => z.1 ≤ xs.length ∧ μ.Le z.2.2.2.2 ∧ Rows z.2.2.2.2 4 ((((xs.map (T.subst (valF vs))).take z.1).map T.tm).map Tm.d) z.2.2.2.1)
  (fun (i, b, c, ys, μ') => ⟨[(1, .val (.slice vb vs.length vc)), (4, .loc 1 r4 0), (5, .loc 2 r5 0), (12, .val (.slice p0.1.1 xs.length p0.1.2)), (13, .val (.int .i64 xs.length)), (14, .val (.int .i64 i))], [(1, some (.cells r4 [.val (.string ⟨#[]⟩), .val (.slice none 0 0)] 67)), (2, some (.cells r5 [.val (.string g.name), .row 3 b ys.length c] 67)), (3, some (.row b c 38 4 ys))], 4, μ', Mem.nil⟩) (fun z => xs.length - z.1)
  (0, none, 0, [], μ) ⟨Nat.zero_le _, Mem.Le.refl _, .nil⟩ (fun (_, _, _, _, _) => ⟨rfl, rfl⟩) ⟨⟨⟨_, rfl, .inl rfl⟩, ⟨_, rfl, .inl rfl⟩, ⟨_, rfl, .inl rfl⟩, ⟨_, rfl, .inl rfl⟩, ⟨_, rfl, .inl rfl⟩, ⟨_, rfl, .inl rfl⟩, trivial⟩, ⟨.inl rfl, .inr (.inr ⟨_, _, _, _, rfl, rfl, .inl rfl, .inr ⟨3, rfl, rfl, Nat.le_refl _⟩, trivial⟩), .inr (.inl ⟨_, _, rfl, Nat.le_refl _⟩), trivial⟩, rfl, rfl⟩ ?_
 rintro ⟨i, b, c, ys, μ'⟩ ⟨hi, hle, hrows⟩
 dsimp only at hi hle hrows
 have hlen := hrows.len
 simp only [List.length_map, List.length_take] at hlen
 refine ifd (fun hlt => ?_) (fun hlt => ?_)
 ·have w_ := aSo (l := xs) (i := i) (by omega)
  obtain ⟨x, hx⟩ := w_
  have w_ := T.elemL (hts.mono hle) hx
  obtain ⟨ad, p, hel, hr⟩ := w_
  refine eIn hel ?_
  intro r7
  refine cPl (with_spec (hv.mono hle) hr (hl x (mAt hx))) fun v1 μ1 hle1 hR => ?_
  have w_ := Tm.invV hR
  obtain ⟨q1, rfl⟩ := w_
  intro r23
  refine gIn ?_ ?_ fun b' c' _ => ?_
  ·show (ys.length + 1) * 56 ≤ _; omega
  ·exact Nat.le_trans (m := 1000) (show ys.length + 1 ≤ _ by omega) (by decide)
  refine num64 (by omega) (by omega) ⟨(i + 1, b', c', _, μ1), ⟨by dsimp only; omega, hle.trans hle1, ?_⟩, by dsimp only; omega, ⟨⟨rfl, rfl, rfl, rfl, rfl, rfl, trivial⟩, ⟨rfl, rfl, rfl, trivial⟩, rfl, rfl⟩⟩
  dsimp only
  rw [subst_take hx]
  simp only [List.map_append, List.map_cons, List.map_nil]
  exact (hrows.mono hle1).append (Rows.one hR (Tm.d_n _))
 obtain rfl : i = xs.length := by omega
 rw [List.take_of_length_le (by rw [List.length_map]; omega)] at hrows
 refine rFz [3] fun μ2 hle2 hno2 hat2 => .inl ?_
 have k := Rows.sl hat2 (hrows.mono hle2) (Nat.le_trans (m := 1000) (by omega) (by decide))
 rw [Fc.d_eq, F.fc_args, hca]
 exact ⟨_, rfl, RepS.str (RepS.last k)⟩
theorem inUniverse_spec {U l : List T} {ub lb : Option Addr} {uc lc : Nat} (hu : Sl μ 4 ub U.length ((U.map T.tm).map Tm.d)) (hl : Sl μ 4 lb l.length ((l.map T.tm).map Tm.d)) :
  Gives Tryz.prog 176 [.slice ub U.length uc, .slice lb l.length lc] μ (.bool (decide (∀ a ∈ l, a ∈ U))) := by
 have hn := maxLen_le hl.max
 have hm := maxLen_le hu.max
 refine Spec.mk Tryz.func176 (by kernel_rfl) ?_
 refine lIn (fun i : Nat => i ≤ l.length ∧ ∀ a ∈ l.take i, a ∈ U)
  (fun i => ⟨[(0, .val (.slice ub U.length uc)), (10, .val (.slice lb l.length lc)), (11, .val (.int .i64 l.length)), (12, .val (.int .i64 i))], [], 0, μ, Mem.nil⟩) (fun i => l.length - i)
  0 ⟨Nat.zero_le _, by simp⟩ (fun _ => ⟨rfl, rfl⟩) ⟨⟨rfl, rfl, rfl, rfl, trivial⟩, trivial, rfl, rfl⟩ ?_
 rintro i ⟨hi, hall⟩
 refine ifd (fun hlt => ?_) (fun hlt => ?_)
 ·have w_ := aSo (l := l) (i := i) (by omega)
  obtain ⟨x, hx⟩ := w_
  have w_ := T.elemL hl hx
  obtain ⟨ad, p, hel, hr⟩ := w_
  refine eIn hel ?_
  intro r6
  refine lIn (fun z : Nat × Bool => z.1 ≤ U.length ∧ (z.2 = true ↔ x ∈ U.take z.1))
   (fun (k, f) => ⟨[(0, .val (.slice ub U.length uc)), (6, .loc 0 r6 0), (7, .val (.bool f)), (10, .val (.slice lb l.length lc)), (11, .val (.int .i64 l.length)), (12, .val (.int .i64 i)), (16, .val (.slice ub U.length uc)), (17, .val (.int .i64 U.length)), (18, .val (.int .i64 k))], [(0, some (.cells r6 [.val (.int .i64 x.tm.kind), .val (.int .i64 x.tm.num), .val (.string x.tm.name), .val (.slice p.1 x.tm.args.length p.2)] 38))], 1, μ, Mem.nil⟩) (fun z => U.length - z.1)
   (0, false) ⟨Nat.zero_le _, by simp⟩ (fun (_, _) => ⟨rfl, rfl⟩) ⟨⟨rfl, rfl, rfl, rfl, rfl, rfl, rfl, rfl, rfl, trivial⟩, ⟨rfl, trivial⟩, rfl, rfl⟩ ?_
  rintro ⟨k, f⟩ ⟨hk, hf⟩
  dsimp only at hk hf
  refine ifd (fun h2 => ?_) (fun h2 => ?_)
  ·have w_ := aSo (l := U) (i := k) (by omega)
   obtain ⟨y, hy⟩ := w_
   have w_ := T.elemL hu hy
   obtain ⟨ad2, p2, hel2, hr2⟩ := w_
   have htk : x ∈ U.take (k + 1) ↔ x ∈ U.take k ∨ y = x := by
    rw [List.take_add_one, hy, Option.toList_some, List.mem_append, List.mem_singleton]
    exact or_congr_right ⟨Eq.symm, Eq.symm⟩
   refine eIn hel2 ?_
   intro r9
   refine iIn (fun hb => ?_) (fun hb => ?_)
   ·refine num64 (by omega) (by omega) ⟨(k + 1, true), ⟨by dsimp only; omega, ?_⟩, by dsimp only; omega, ⟨⟨rfl, rfl, rfl, rfl, rfl, rfl, rfl, rfl, rfl, trivial⟩, ⟨rfl, trivial⟩, rfl, rfl⟩⟩
    dsimp only
    rw [htk]
    exact ⟨fun _ => .inl (hf.1 hb), fun _ => rfl⟩
   ·refine cGv (equalTerms_spec y x hr2 hr) ?_
    refine num64 (by omega) (by omega) ⟨(k + 1, decide (y = x)), ⟨by dsimp only; omega, ?_⟩, by dsimp only; omega, ⟨⟨rfl, rfl, rfl, rfl, rfl, rfl, rfl, rfl, rfl, trivial⟩, ⟨rfl, trivial⟩, rfl, rfl⟩⟩
    dsimp only
    rw [htk, decide_eq_true_eq]
    exact ⟨.inr, fun h => h.elim (fun h => by rw [hf.2 h] at hb; cases hb) id⟩
  obtain rfl : k = U.length := by omega
  rw [List.take_length] at hf
  refine iIn (fun hb => ?_) (fun hb => ?_)
  ·have hb : f = false := by simpa using hb
   refine rGv (isF fun k => ?_) rfl
   rw [hf.2 (k x (mAt hx))] at hb; cases hb
  ·have hb : f = true := by simpa using hb
   refine num64 (by omega) (by omega) ⟨i + 1, ⟨by omega, ?_⟩, by omega, ⟨⟨rfl, rfl, rfl, rfl, trivial⟩, trivial, rfl, rfl⟩⟩
   rw [List.take_add_one, hx, Option.toList_some]
   intro y hy
   rcases List.mem_append.1 hy with hy | hy
   ·exact hall y hy
   ·rw [List.mem_singleton.1 hy]; exact hf.1 hb
 ·obtain rfl : i = l.length := by omega
  rw [List.take_length] at hall
  exact rGv (isT hall) rfl
set_option maxHeartbeats 4000000 in
set_option maxRecDepth 20000 in
theorem trueWith_spec {vs xs : List T} {vb : Option Addr} {vc : Nat} {g : Gl} {v : Value} (hv : Sl μ 4 vb vs.length ((vs.map T.tm).map Tm.d)) (hg : RepV μ g.d v) (hx : g.terms = xs.map T.tm) (hx4 : xs.length ≤ 4) (hl : ∀ x ∈ xs, ∀ n ∈ x.vars, 0 ≤ n ∧ n < vs.length) (hsl : SimpleLen g.kind xs.length) :
  Spec Tryz.prog 222 [v, .slice vb vs.length vc] μ fun v _ => v = .bool (decide (testT g.kind (xs.map (T.subst (valF vs))))) := by
 have w_ := Gl.inv hg
 obtain ⟨p0, rfl, hts, -⟩ := w_
 rw [hx, List.length_map] at hts
 rw [show g.terms.length = xs.length by rw [hx, List.length_map]]
 refine Spec.mk Tryz.func222 (by kernel_rfl) ?_
 intro r2 r5
 refine loop_nil (fun z : Nat × Option Nat × Nat × List Value × Mem => z.1 ≤ xs.length ∧ μ.Le z.2.2.2.2 ∧ Rows z.2.2.2.2 4 ((((xs.map (T.subst (valF vs))).take z.1).map T.tm).map Tm.d) z.2.2.2.1)
  (fun (i, b, c, ys, μ') => ⟨[(1, .val (.slice vb vs.length vc)), (2, .loc 0 r2 0), (5, .loc 1 r5 0), (12, .val (.slice p0.1.1 xs.length p0.1.2)), (13, .val (.int .i64 xs.length)), (14, .val (.int .i64 i))], [(0, some (.cells r2 [.val (.int .i64 g.kind), .val (.string g.name), .val (.slice p0.1.1 xs.length p0.1.2), .val (.slice p0.2.1 g.goals.length p0.2.2)] 87)), (1, some (.cells r5 [.val (.int .i64 g.kind), .val (.string ⟨#[]⟩), .row 2 b ys.length c, .val (.slice none 0 0)] 87)), (2, some (.row b c 38 4 ys))], 3, μ', Mem.nil⟩) (fun z => xs.length - z.1)
  (0, none, 0, [], μ) ⟨Nat.zero_le _, Mem.Le.refl _, .nil⟩ (fun (_, _, _, _, _) => ⟨rfl, rfl⟩) ⟨⟨⟨_, rfl, .inl rfl⟩, ⟨_, rfl, .inl rfl⟩, ⟨_, rfl, .inl rfl⟩, ⟨_, rfl, .inl rfl⟩, ⟨_, rfl, .inl rfl⟩, ⟨_, rfl, .inl rfl⟩, trivial⟩, ⟨.inl rfl, .inr (.inr ⟨_, _, _, _, rfl, rfl, .inl rfl, .inl rfl, .inr ⟨2, rfl, rfl, Nat.le_refl _⟩, .inl rfl, trivial⟩), .inr (.inl ⟨_, _, rfl, Nat.le_refl _⟩), trivial⟩, rfl, rfl⟩ ?_
 rintro ⟨i, b, c, ys, μ'⟩ ⟨hi, hle, hrows⟩
 dsimp only at hi hle hrows
 have hlen := hrows.len
 simp only [List.length_map, List.length_take] at hlen
 refine ifd (fun hlt => ?_) (fun hlt => ?_)
 ·have w_ := aSo (l := xs) (i := i) (by omega)
  obtain ⟨x, hx⟩ := w_
  have w_ := T.elemL (hts.mono hle) hx
  obtain ⟨ad, p, hel, hr⟩ := w_
  refine eIn hel ?_
  intro r7
  refine cPl (with_spec (hv.mono hle) hr (hl x (mAt hx))) fun v1 μ1 hle1 hR => ?_
  have w_ := Tm.invV hR
  obtain ⟨q1, rfl⟩ := w_
  intro r23
  refine gIn ?_ ?_ fun b' c' _ => ?_
  ·show (ys.length + 1) * 56 ≤ _; omega
  ·exact Nat.le_trans (m := 1000) (show ys.length + 1 ≤ _ by omega) (by decide)
  refine num64 (by omega) (by omega) ⟨(i + 1, b', c', _, μ1), ⟨by dsimp only; omega, hle.trans hle1, ?_⟩, by dsimp only; omega, ⟨⟨rfl, rfl, rfl, rfl, rfl, rfl, trivial⟩, ⟨rfl, rfl, rfl, trivial⟩, rfl, rfl⟩⟩
  dsimp only
  rw [subst_take hx]
  simp only [List.map_append, List.map_cons, List.map_nil]
  exact (hrows.mono hle1).append (Rows.one hR (Tm.d_n _))
 obtain rfl : i = xs.length := by omega
 rw [List.take_of_length_le (by rw [List.length_map]; omega)] at hrows
 refine if_frz [2] fun μ2 hle2 hno2 hat2 => ?_
 have hs : Sl μ2 4 (b.map fun r => (⟨r, 0, none⟩ : Addr)) ys.length (((xs.map (T.subst (valF vs))).map T.tm).map Tm.d) := by
  have k := Rows.sl hat2 (hrows.mono hle2) (Nat.le_trans (m := 1000) (by omega) (by decide))
  have w_ := Rep.sl k
  obtain ⟨bz, cz, ez, hs⟩ := w_
  have w_ := Value.slice.inj ez
  obtain ⟨e1, e2, _⟩ := w_
  rwa [← e1, ← e2] at hs
 refine ⟨fun h => ?_, fun h0 => ?_⟩
 ·have h := of_decide_eq_true h
  exact rPl (by rw [h]; simp [testT])
 replace h0 := of_decide_eq_false h0
 refine ifd (fun h => ?_) (fun h2 => ?_)
 ·obtain ⟨x, y, hxy⟩ := two_T (xs := xs.map (T.subst (valF vs))) (by rw [List.length_map]; exact hsl.two (by omega))
  rw [hxy] at hs ⊢
  have w_ := T.elemL hs (i := 0) (x := x) rfl
  obtain ⟨ad1, p1, e1, g1⟩ := w_
  have w_ := T.elemL hs (i := 1) (x := y) rfl
  obtain ⟨ad2, p2, e2, g2⟩ := w_
  refine eIn e1 (eIn e2 (cGv (equalTerms_spec x y g1 g2) (rPl ?_)))
  rw [h]; exact congrArg Value.bool (decide_eq_decide.2 testT_2.symm)
 refine ifd (fun h => ?_) (fun h3 => ?_)
 ·obtain ⟨x, y, hxy⟩ := two_T (xs := xs.map (T.subst (valF vs))) (by rw [List.length_map]; exact hsl.two (by omega))
  rw [hxy] at hs ⊢
  have w_ := T.elemL hs (i := 0) (x := x) rfl
  obtain ⟨ad1, p1, e1, g1⟩ := w_
  have w_ := T.elemL hs (i := 1) (x := y) rfl
  obtain ⟨ad2, p2, e2, g2⟩ := w_
  refine eIn e1 (eIn e2 (cGv (equalTerms_spec x y g1 g2) (rPl ?_)))
  rw [h, ← decide_not]; exact congrArg Value.bool (decide_eq_decide.2 testT_3.symm)
 refine ifd (fun h => ?_) (fun h4 => ?_)
 ·obtain ⟨x, hxy⟩ := one_of' (xs := xs.map (T.subst (valF vs))) (by rw [List.length_map]; exact hsl.one (by omega))
  rw [hxy] at hs ⊢
  have w_ := T.elemL hs (i := 0) (x := x) rfl
  obtain ⟨ad1, p1, e1, g1⟩ := w_
  refine eIn e1 (rPl ?_)
  rw [h]; exact congrArg Value.bool (decide_eq_decide.2 testT_4.symm)
 refine ifd (fun h => ?_) (fun h5 => ?_)
 ·obtain ⟨x, hxy⟩ := one_of' (xs := xs.map (T.subst (valF vs))) (by rw [List.length_map]; exact hsl.one (by omega))
  rw [hxy] at hs ⊢
  have w_ := T.elemL hs (i := 0) (x := x) rfl
  obtain ⟨ad1, p1, e1, g1⟩ := w_
  refine eIn e1 (rPl ?_)
  rw [h]; exact congrArg Value.bool (decide_eq_decide.2 testT_5.symm)
 refine ifd (fun h => ?_) (fun h6 => ?_)
 ·obtain ⟨x, y, hxy⟩ := two_T (xs := xs.map (T.subst (valF vs))) (by rw [List.length_map]; exact hsl.two (by omega))
  rw [hxy] at hs ⊢
  have w_ := T.elemL hs (i := 0) (x := x) rfl
  obtain ⟨ad1, p1, e1, g1⟩ := w_
  have w_ := T.elemL hs (i := 1) (x := y) rfl
  obtain ⟨ad2, p2, e2, g2⟩ := w_
  refine eIn e2 (eIn e1 (cGv (hasSymbol_spec x.tm.name y g2) (rPl ?_)))
  rw [h, ← decide_not]; exact congrArg Value.bool (decide_eq_decide.2 testT_6.symm)
 refine rPl ?_
 rw [decide_eq_false]
 unfold testT
 rw [if_neg h0, if_neg h2, if_neg h3, if_neg h4, if_neg h5, if_neg h6]
 exact id
end
end Go.Vx
namespace Go.Vx
open Go.Proofs Classical
theorem Gl.all_trans : ∀ (b : Gl) {g x : Gl}, g ∈ b.all → x ∈ g.all → x ∈ b.all :=
 Gl.ind fun b ih g x hg hx => by
  rw [Gl.all_eq] at hg
  rcases List.mem_cons.1 hg with rfl | hg
  ·exact hx
  ·have w_ := List.mem_flatMap.1 hg
   obtain ⟨y, hy, hg⟩ := w_
   rw [Gl.all_eq]
   exact List.mem_cons_of_mem _ (List.mem_flatMap.2 ⟨y, hy, ih y hy hg hx⟩)
structure ClV (n : Nat) (g : Gl) (xs : List T) : Prop where
 terms : g.terms = xs.map T.tm
 len : xs.length ≤ 4
 low : ∀ x ∈ xs, ∀ m ∈ x.vars, 0 ≤ m ∧ m < (n : Int)
theorem ClV.mk1 {r : Rl} {p : Pg} {i : Nat} (h : RelOk p i r) {g : Gl} (hg : g ∈ r.body.all) {n : Nat} (hn : r.arity + r.locals = (n : Int)) : ∃ xs, ClV n g xs := by
 have hS := h.body.all _ g hg
 have w_ := lift_ok hS.top.tm
 obtain ⟨xs, hxs, hok⟩ := w_
 refine ⟨xs, hxs, by have := hS.lens4; rw [hxs, List.length_map] at this; exact this, fun x hx m hm => ?_⟩
 have hv : m ∈ r.body.vars := by
  rw [Gl.vars]
  refine List.mem_flatMap.2 ⟨g, hg, List.mem_flatMap.2 ⟨x, ?_, hm⟩⟩
  rw [hxs, toTs_tm]; exact hx
 have h1 := h.vars m hv
 have h2 := Gl.vars_range h.body m hv
 omega
theorem ClV.of {p : Pg} (hp : p.Ok) {i : Nat} {r : Rl} (hi : p.rels[i]? = some r) {L : List (List Gl)} (hL : r.body.cl = some L) {c : List Gl} (hc : c ∈ L) {g : Gl} (hg : g ∈ c) {n : Nat} (hn : r.arity + r.locals = (n : Int)) :
  (∃ xs, ClV n g xs) ∧ (g.kind = 10 → ∃ xs, ClV n g.kid xs) := by
 have w_ := Gl.cl_all r.body hL c hc g hg
 obtain ⟨h1, h2⟩ := w_
 have hrel := hp.2 i r hi
 refine ⟨ClV.mk1 hrel h1 hn, fun h10 => ClV.mk1 hrel (Gl.all_trans _ h1 ?_) hn⟩
 have hk := Gl.kid_at ((hrel.body.all _ g h1).top.gl1 h10)
 rw [Gl.all_eq]
 refine List.mem_cons_of_mem _ (List.mem_flatMap.2 ⟨_, mAt hk, ?_⟩)
 rw [Gl.all_eq]; simp
theorem okG_9 {U vs : List T} {g : Gl} (h : g.kind = 9) : okG U vs g ↔ ∀ a ∈ (callF vs g).args, a ∈ U := by rw [okG, if_pos h]
theorem okG_10 {U vs : List T} {g : Gl} (h : g.kind = 10) : okG U vs g ↔ ∀ a ∈ (callF vs g.kid).args, a ∈ U := by rw [okG, if_neg (by omega), if_pos h]
theorem okG_else {U vs xs : List T} {g : Gl} (h9 : g.kind ≠ 9) (h10 : g.kind ≠ 10) (hx : g.terms = xs.map T.tm) : okG U vs g ↔ testT g.kind (xs.map (T.subst (valF vs))) := by
 rw [okG, if_neg h9, if_neg h10, hx, List.map_map]
 have e : (List.map ((fun t => T.subst (valF vs) t.toT) ∘ T.tm) xs) = xs.map (T.subst (valF vs)) := List.map_congr_left fun x _ => by simp [T.toT_tm]
 rw [e]
def clsD (L : List (List Gl)) : D := .sl 1 (L.map csD)
theorem clsD_n (L : List (List Gl)) : (clsD L).n = 1 := rfl
noncomputable def clOf (r : Rl) : List (List Gl) := r.body.cl.getD []
section
variable {μ : Mem}
structure Fill (μ : Mem) (vs : List T) (n k : Nat) (xs : List Value) : Prop where
 len : xs.length = n
 done : ∀ (j : Nat) x, j < k → vs[j]? = some x → ∃ v, xs[j]? = some v ∧ RepV μ x.tm.d v
 rest : ∀ j, k ≤ j → j < n → xs[j]? = some (.agg #[.int .i64 0, .int .i64 0, .string ⟨#[]⟩, .slice none 0 0])
theorem Fill.start {vs : List T} {n : Nat} : Fill μ vs n 0 (List.replicate n (.agg #[.int .i64 0, .int .i64 0, .string ⟨#[]⟩, .slice none 0 0])) :=
 ⟨by simp, fun j x h => by omega, fun j _ h => by simp [h]⟩
theorem Fill.step {vs : List T} {n k : Nat} {xs : List Value} (h : Fill μ vs n k xs) {x : T} {v : Value} (hx : vs[k]? = some x) (hv : RepV μ x.tm.d v) (hk : k < n) : Fill μ vs n (k + 1) (xs.set k v) := by
 refine ⟨by rw [List.length_set]; exact h.len, fun j y hj hy => ?_, fun j hj hn => ?_⟩
 ·by_cases e : j = k
  ·subst e
   rw [hx] at hy; cases hy
   exact ⟨v, by rw [List.getElem?_set_self (by rw [h.len]; exact hk)], hv⟩
  ·have w_ := h.done j y (by omega) hy
   obtain ⟨w, h1, h2⟩ := w_
   exact ⟨w, by rw [List.getElem?_set_ne (Ne.symm e)]; exact h1, h2⟩
 ·rw [List.getElem?_set_ne (by omega)]; exact h.rest j (by omega) hn
theorem RowAt.up {μ' : Mem} {b : Option Nat} {k es : Nat} {ys : List Value} (h : RowAt μ b k es ys) (hle : μ.Le μ') : RowAt μ' b k es ys := by
 cases b with
 | none => exact h
 | some r =>
  obtain ⟨h1, h2, arr, ty, h3, h4⟩ := h
  exact ⟨h1, h2, arr, ty, hle _ _ h3, h4⟩
theorem Rows.atI {es : Nat} : ∀ {ds : List D} {xs : List Value}, Rows μ es ds xs → ∀ {i : Nat} {d : D} {v : Value}, ds[i]? = some d → xs[i]? = some v → RepV μ d v
 | _, _, .nil, i, d, v, h, _ => by simp at h
 | _, _, .cons h1 _ h, 0, d, v, e1, e2 => by cases e1; cases e2; exact h1
 | _, _, .cons _ _ h, i + 1, d, v, e1, e2 => Rows.atI h (i := i) (by simpa using e1) (by simpa using e2)
theorem Rows.of_at {es : Nat} : ∀ {ds : List D} {xs : List Value}, ds.length = xs.length → (∀ (j : Nat) d v, ds[j]? = some d → xs[j]? = some v → RepV μ d v ∧ d.n = es) → Rows μ es ds xs
 | [], [], _, _ => .nil
 | [], _ :: _, h, _ => by simp at h
 | _ :: _, [], h, _ => by simp at h
 | d :: ds, x :: xs, h, k => .cons (k 0 d x rfl rfl).1 (k 0 d x rfl rfl).2 (Rows.of_at (by simpa using h) fun j d v h1 h2 => k (j + 1) d v (by simpa using h1) (by simpa using h2))
theorem Fill.all {vs : List T} {n : Nat} {xs : List Value} (h : Fill μ vs n n xs) (hl : vs.length = n) : Rows μ 4 ((vs.map T.tm).map Tm.d) xs :=
 Rows.of_at (by simp [h.len, hl]) fun j d v h1 h2 => by
  simp only [List.getElem?_map, Option.map_eq_some_iff] at h1
  obtain ⟨t, ⟨x, hx, rfl⟩, rfl⟩ := h1
  obtain ⟨w, h3, h4⟩ := h.done j x (by have := (List.getElem?_eq_some_iff.1 hx).1; omega) hx
  rw [h2] at h3
  cases h3
  exact ⟨h4, Tm.d_n _⟩
set_option maxHeartbeats 16000000 in
set_option maxRecDepth 20000 in
theorem groundRules_spec {p : Pg} {U : List T} {v : Value} {ub : Option Addr} {uc : Nat} (hp : RepV μ p.d v) (hok : p.Ok) (hu : Sl μ 4 ub U.length ((U.map T.tm).map Tm.d)) (hU1 : 1 ≤ U.length) (hU8 : U.length ≤ 8) :
  Spec Tryz.prog 170 [v, .slice ub U.length uc] μ fun v μ' => optRu (fun y tv => RepV μ' (.sl 6 ((y.map Ru.rd).map RuD.d)) tv) (groundR p U) v := by
 have hp0 := hp
 have w_ := Pg.inv hp
 obtain ⟨q, rfl, hrl⟩ := w_
 have hn := hok.1
 refine Spec.mk Tryz.func170 (by kernel_rfl) ?_
 intro r2 r28
 refine lIn (fun z : Nat × Option Nat × Nat × List Value × Mem => z.1 ≤ p.rels.length ∧ μ.Le z.2.2.2.2 ∧ Rows z.2.2.2.2 1 (((p.rels.take z.1).map clOf).map clsD) z.2.2.2.1 ∧ ∀ r ∈ p.rels.take z.1, r.body.cl ≠ none ∧ U.length ^ (r.arity + r.locals).toNat ≤ 4096)
  (fun (i, b, c, ys, μ') => ⟨[(1, .val (.slice ub U.length uc)), (2, .loc 0 r2 0), (6, .row 1 b ys.length c), (30, .val (.slice q.1 p.rels.length q.2)), (31, .val (.int .i64 p.rels.length)), (32, .val (.int .i64 i))], [(0, some (.cells r2 [.val (.slice q.1 p.rels.length q.2)] 32)), (1, some (.row b c 108 1 ys))], 2, μ', Mem.nil⟩) (fun z => p.rels.length - z.1)
  (0, some r28, 0, [], μ) ⟨Nat.zero_le _, Mem.Le.refl _, .nil, by simp⟩ (fun (_, _, _, _, _) => ⟨rfl, rfl⟩) ⟨⟨rfl, rfl, rfl, rfl, rfl, rfl, trivial⟩, ⟨rfl, rfl, trivial⟩, rfl, rfl⟩ ?_
 rintro ⟨i, b, c, ys, μ'⟩ ⟨hi, hle, hbod, hways⟩
 dsimp only at hi hle hbod hways
 have hbl := hbod.len
 simp only [List.length_map, List.length_take] at hbl
 refine ifd (fun hlt => ?_) (fun hlt => ?_)
 ·have w_ := aSo (l := p.rels) (i := i) (by omega)
  obtain ⟨r, hr⟩ := w_
  have w_ := Rl.elemA (hrl.mono hle) hr
  obtain ⟨ad, q2, hel, hrv, hb⟩ := w_
  have hb : RepV μ' r.body.d (.agg (r.body.cs q2).toArray) := hb
  have hrok := hok.2 i r hr
  have w_ := Int.eq_ofNat_of_zero_le hrok.ar0
  obtain ⟨a, ha⟩ := w_
  have w_ := Int.eq_ofNat_of_zero_le hrok.lo0
  obtain ⟨lo, hlo⟩ := w_
  have har4 := hrok.ar4
  have hlo8 := hrok.lo8
  have hsz := hrok.size
  have hnn : (r.arity + r.locals).toNat = a + lo := by omega
  refine eIn hel ?_
  intro r8
  refine cPl (clausesOf_spec r.body hb hrok.body (by omega)) fun v3 μ3 hle3 hR3 => ?_
  cases hL : r.body.cl with
  | none =>
   rw [hL] at hR3
   obtain rfl := hR3
   refine iIn (fun _ => rPl ?_) (fun h => nomatch h)
   rw [groundR, if_neg fun k => (k.1 r (mAt hr)).1 hL]; rfl
  | some L =>
  rw [hL] at hR3
  obtain ⟨tv, rfl, hLr⟩ := hR3
  obtain ⟨pv, rfl⟩ := hLr.inv
  refine iIn (fun h => nomatch h) (fun _ => ?_)
  refine nEq (x := ((a + lo : Nat) : Int)) (by rw [wrap64 (by omega) (by omega)]; omega) ?_
  refine cPl (ways_spec (size := U.length) (n := a + lo) (most := 4096) hU1 hU8 (by omega) (by omega) (by omega)) fun v4 μ4 hle4 hR4 => ?_
  obtain ⟨⟨W, rfl, hW1, hW2⟩, e4⟩ := hR4
  obtain rfl := e4.symm
  refine ifd (fun hbig => rPl ?_) (fun hsmall => ?_)
  ·rw [groundR, if_neg fun k => by
    have h1 := (k.1 r (mAt hr)).2
    rw [hnn] at h1
    have := hW1 h1
    omega]; rfl
  have hWle : U.length ^ (a + lo) ≤ 4096 := Nat.le_of_not_lt fun h => by have := hW2 h; omega
  intro r57
  refine gIn ?_ ?_ fun b' c' _ => ?_
  ·show (ys.length + 1) * 24 ≤ _; omega
  ·exact Nat.le_trans (m := 1000) (show ys.length + 1 ≤ _ by omega) (by decide)
  have hLr2 : RepV μ3 (clsD L) (.slice pv.1 L.length pv.2) := hLr
  have hcl : clOf r = L := by rw [clOf, hL]; rfl
  refine num64 (by omega) (by omega) ⟨(i + 1, b', c', _, μ3), ⟨by dsimp only; omega, hle.trans hle3, ?_, ?_⟩, by dsimp only; omega, ⟨⟨rfl, rfl, rfl, rfl, rfl, rfl, trivial⟩, ⟨rfl, rfl, trivial⟩, rfl, rfl⟩⟩
  ·dsimp only
   rw [List.take_add_one, hr, Option.toList_some, List.map_append, List.map_append]
   refine (hbod.mono hle3).append (Rows.one (d := clsD (clOf r)) ?_ (clsD_n _))
   rw [hcl]; exact hLr2
  ·dsimp only
   intro x hx
   rw [List.take_add_one, hr, Option.toList_some] at hx
   rcases List.mem_append.1 hx with hx | hx
   ·exact hways x hx
   ·rw [List.mem_singleton.1 hx, hL, hnn]
    exact ⟨(fun h => nomatch h), hWle⟩
 obtain rfl : i = p.rels.length := by omega
 rw [List.take_length] at hbod hways
 clear hlt hi
 intro r60
 refine lIn (fun z : Nat × Option Nat × Nat × List Value × Mem => z.1 ≤ p.rels.length ∧ μ'.Le z.2.2.2.2 ∧ Rows z.2.2.2.2 6 ((((p.rels.take z.1).flatMap (rulesR U)).map Ru.rd).map RuD.d) z.2.2.2.1 ∧ ((p.rels.take z.1).flatMap (rulesR U)).length ≤ 2000)
  (fun (i, ob, oc, os, μ2) => ⟨[(1, .val (.slice ub U.length uc)), (6, .row 1 b ys.length c), (11, .row 2 ob os.length oc), (62, .val (.slice q.1 p.rels.length q.2)), (63, .val (.int .i64 p.rels.length)), (64, .val (.int .i64 i))], [(1, some (.row b c 108 1 ys)), (2, some (.row ob oc 126 6 os))], 3, μ2, Mem.nil⟩) (fun z => p.rels.length - z.1)
  (0, some r60, 0, [], μ') ⟨Nat.zero_le _, Mem.Le.refl _, .nil, by simp⟩ (fun (_, _, _, _, _) => ⟨rfl, rfl⟩) ⟨⟨rfl, rfl, rfl, rfl, rfl, rfl, trivial⟩, ⟨rfl, rfl, trivial⟩, rfl, rfl⟩ ?_
 rintro ⟨i, ob, oc, os, μ2⟩ ⟨hi, hle2, hrows, hroom⟩
 dsimp only at hi hle2 hrows hroom
 have hol := hrows.len
 simp only [List.length_map] at hol
 refine ifd (fun hlt => ?_) (fun hlt => ?_)
 rotate_left
 ·obtain rfl : i = p.rels.length := by omega
  rw [List.take_length] at hrows hroom hol
  have hall : (p.rels.flatMap (rulesR U)) = rulesP p U := rfl
  rw [hall] at hrows hroom hol
  rw [groundR, if_pos ⟨hways, hroom⟩]
  refine rFz [2] fun μ3 hle3 hno hat => .inl ⟨_, rfl, ?_⟩
  exact Rows.sl hat (hrows.mono hle3) (Nat.le_trans (m := 100000) (by omega) (by decide))
 have w_ := aSo (l := p.rels) (i := i) (by omega)
 obtain ⟨r, hr⟩ := w_
 have w_ := Rl.elemA ((hrl.mono hle).mono hle2) hr
 obtain ⟨ad, q2, hel, hrv, _⟩ := w_
 have hrok := hok.2 i r hr
 have w_ := Int.eq_ofNat_of_zero_le hrok.ar0
 obtain ⟨a, ha⟩ := w_
 have w_ := Int.eq_ofNat_of_zero_le hrok.lo0
 obtain ⟨lo, hlo⟩ := w_
 have har4 := hrok.ar4
 have hlo8 := hrok.lo8
 have hsz := hrok.size
 have hnn : (r.arity + r.locals).toNat = a + lo := by omega
 have w_ := Option.ne_none_iff_exists'.1 (hways r (mAt hr)).1
 obtain ⟨L, hL⟩ := w_
 have hWle := (hways r (mAt hr)).2
 rw [hnn] at hWle
 have hclr : clOf r = L := by rw [clOf, hL]; rfl
 have hLb := Gl.cl_bnd r.body hL
 have w_ := aSo (l := ys) (i := i) (by omega)
 obtain ⟨vL, hvL⟩ := w_
 have hLrep := Rows.atI hbod (i := i) (d := clsD L) (by simp [hr, hclr]) hvL
 have w_ := Rep.sl (xs := L.map csD) hLrep
 obtain ⟨bL, cL, rfl, _⟩ := w_
 rw [List.length_map] at hvL hLrep
 have hLs : Sl μ' 1 bL L.length (L.map csD) := (Cls.sl hLrep).1
 obtain ⟨pv, hpv⟩ : ∃ pv : Option Addr × Nat, pv = (bL, cL) := ⟨_, rfl⟩
 rw [show bL = pv.1 by rw [hpv]] at hvL hLs
 rw [show cL = pv.2 by rw [hpv]] at hvL
 clear hpv hLrep
 refine eIn hel ?_
 intro r13
 refine nEq (x := ((a + lo : Nat) : Int)) (by rw [wrap64 (by omega) (by omega)]; omega) ?_
 refine cPl (ways_spec (size := U.length) (n := a + lo) (most := 4096) hU1 hU8 (by omega) (by omega) (by omega)) fun v4 μ4 hle4 hR4 => ?_
 obtain ⟨⟨W, rfl, hW1, _⟩, e4⟩ := hR4
 obtain rfl := e4.symm
 have w_ := hW1 hWle
 obtain rfl := w_
 refine rel_intro i rfl (by omega) ?_
 refine get_intro _ hvL ?_
 generalize hpre : (p.rels.take i).flatMap (rulesR U) = pre at *
 have hP : ∀ k w cl, L[k]? = some cl → w ≤ U.length ^ (a + lo) → 2000 < (pre ++ rulesC U r L k ++ rulesW U r k cl w).length → ∀ μx : Mem, optRu (fun y tv => RepV μx (.sl 6 ((y.map Ru.rd).map RuD.d)) tv) (groundR p U) (.tuple #[.slice none 0 0, .bool false]) := fun k w cl hcl hw hbig μx => by
  rw [groundR, if_neg fun kk => ?_]; rfl
  have h1 : (rulesP p U).length ≥ ((p.rels.take (i + 1)).flatMap (rulesR U)).length := by
   conv => lhs; rw [rulesP, ← List.take_append_drop (i + 1) p.rels]
   rw [List.flatMap_append, List.length_append]; omega
  have h2 : rulesR U r = rulesC U r L L.length := by rw [rulesR, hL]
  have h3 : ∀ m, k + 1 + m ≤ L.length → (rulesC U r L (k + 1)).length ≤ (rulesC U r L (k + 1 + m)).length := fun m => by
   induction m with
   | zero => intro _; exact Nat.le_refl _
   | succ m ih =>
    intro hm
    have w_ := aSo (l := L) (i := k + 1 + m) (by omega)
    obtain ⟨c2, hc2⟩ := w_
    rw [show k + 1 + (m + 1) = k + 1 + m + 1 by omega, rulesC_succ hc2, List.length_append]
    have := ih (by omega)
    omega
  have hkl := (List.getElem?_eq_some_iff.1 hcl).1
  have h4 := h3 (L.length - (k + 1)) (by omega)
  rw [show k + 1 + (L.length - (k + 1)) = L.length by omega, rulesC_succ hcl, hnn] at h4
  have w_ := rulesW_prefix (U := U) (r := r) (i := k) (c := cl) (w := w) (U.length ^ (a + lo) - w)
  obtain ⟨X, hX⟩ := w_
  rw [show w + (U.length ^ (a + lo) - w) = U.length ^ (a + lo) by omega] at hX
  rw [hX] at h4
  rw [rulesP_take hr, hpre, h2, List.length_append] at h1
  simp only [List.length_append] at h4 hbig
  have := kk.2
  omega
 refine lIn (fun z : Nat × Option Nat × Nat × List Value × Mem => z.1 ≤ L.length ∧ μ2.Le z.2.2.2.2 ∧ Rows z.2.2.2.2 6 (((pre ++ rulesC U r L z.1).map Ru.rd).map RuD.d) z.2.2.2.1 ∧ (pre ++ rulesC U r L z.1).length ≤ 2000)
  (fun (k, ob, oc, os, μ5) => ⟨[(1, .val (.slice ub U.length uc)), (6, .row 1 b ys.length c), (11, .row 2 ob os.length oc), (13, .loc 3 r13 0), (14, .val (.int .i64 ((a + lo : Nat) : Int))), (15, .val (.int .i64 ((U.length ^ (a + lo) : Nat) : Int))), (62, .val (.slice q.1 p.rels.length q.2)), (63, .val (.int .i64 p.rels.length)), (64, .val (.int .i64 i)), (81, .val (.slice pv.1 L.length pv.2)), (82, .val (.int .i64 L.length)), (83, .val (.int .i64 k))], [(1, some (.row b c 108 1 ys)), (2, some (.row ob oc 126 6 os)), (3, some (.cells r13 [.val (.string r.name), .val (.int .i64 r.arity), .val (.int .i64 r.locals), .val (.int .i64 r.body.kind), .val (.string r.body.name), .val (.slice q2.1.1 r.body.terms.length q2.1.2), .val (.slice q2.2.1 r.body.goals.length q2.2.2)] 89))], 4, μ5, Mem.nil⟩) (fun z => L.length - z.1)
  (0, ob, oc, os, μ2) ⟨Nat.zero_le _, Mem.Le.refl _, by simpa [rulesC] using hrows, by simpa [rulesC] using hroom⟩ (fun (_, _, _, _, _) => ⟨rfl, rfl⟩) ⟨⟨rfl, rfl, rfl, rfl, rfl, rfl, rfl, rfl, rfl, rfl, rfl, rfl, trivial⟩, ⟨rfl, rfl, rfl, trivial⟩, rfl, rfl⟩ ?_
 clear hrows hroom hol
 rintro ⟨k, ob, oc, os, μ5⟩ ⟨hk, hle5, hrows, hroom⟩
 dsimp only at hk hle5 hrows hroom
 refine ifd (fun hltk => ?_) (fun hltk => ?_)
 rotate_left
 ·obtain rfl : k = L.length := by omega
  have e : rulesR U r = rulesC U r L L.length := by rw [rulesR, hL]
  refine num64 (by omega) (by omega) ⟨(i + 1, ob, oc, os, μ5), ⟨by dsimp only; omega, hle2.trans hle5, ?_, ?_⟩, by dsimp only; omega, ⟨⟨rfl, rfl, rfl, rfl, rfl, rfl, trivial⟩, ⟨rfl, rfl, trivial⟩, rfl, rfl⟩⟩
  ·dsimp only
   rw [rulesP_take hr, hpre, e]; exact hrows
  ·dsimp only
   rw [rulesP_take hr, hpre, e]; exact hroom
 have w_ := aSo (l := L) (i := k) (by omega)
 obtain ⟨cl, hcl⟩ := w_
 have w_ := cls_elem ((hLs.mono hle2).mono hle5) hcl
 obtain ⟨adc, pc, helc, hrc⟩ := w_
 have hcs : Sl μ5 4 pc.1 cl.length (cl.map Gl.d) := by
  have w_ := Rep.sl (xs := cl.map Gl.d) hrc
  obtain ⟨b', c', e1, hs⟩ := w_
  have w_ := Value.slice.inj e1
  obtain ⟨rfl, _, _⟩ := w_
  simpa using hs
 have hcb := hLb.1 cl (mAt hcl)
 have hsucc := rulesC_succ (U := U) (r := r) hcl
 rw [hnn] at hsucc
 refine eIn helc ?_
 refine lFz (fun z : Nat × Option Nat × Nat × List Value × Mem => z.1 ≤ U.length ^ (a + lo) ∧ μ5.Le z.2.2.2.2 ∧ Rows z.2.2.2.2 6 (((pre ++ rulesC U r L k ++ rulesW U r k cl z.1).map Ru.rd).map RuD.d) z.2.2.2.1 ∧ (pre ++ rulesC U r L k ++ rulesW U r k cl z.1).length ≤ 2000)
  (fun (w, ob, oc, os, μ6) => ⟨[(1, .val (.slice ub U.length uc)), (6, .row 1 b ys.length c), (11, .row 2 ob os.length oc), (13, .loc 3 r13 0), (14, .val (.int .i64 ((a + lo : Nat) : Int))), (15, .val (.int .i64 ((U.length ^ (a + lo) : Nat) : Int))), (16, .val (.int .i64 k)), (17, .val (.slice pc.1 cl.length pc.2)), (18, .val (.int .i64 (w : Nat))), (62, .val (.slice q.1 p.rels.length q.2)), (63, .val (.int .i64 p.rels.length)), (64, .val (.int .i64 i)), (81, .val (.slice pv.1 L.length pv.2)), (82, .val (.int .i64 L.length)), (83, .val (.int .i64 k))], [(1, some (.row b c 108 1 ys)), (2, some (.row ob oc 126 6 os)), (3, some (.cells r13 [.val (.string r.name), .val (.int .i64 r.arity), .val (.int .i64 r.locals), .val (.int .i64 r.body.kind), .val (.string r.body.name), .val (.slice q2.1.1 r.body.terms.length q2.1.2), .val (.slice q2.2.1 r.body.goals.length q2.2.2)] 89))], 4, μ6, Mem.nil⟩) (fun z => U.length ^ (a + lo) - z.1) []
  (fun (_, _, _, _, _) => ⟨rfl, rfl⟩) ⟨(0, ob, oc, os, μ5), ⟨Nat.zero_le _, Mem.Le.refl _, by simpa [rulesW] using hrows, by simpa [rulesW] using hroom⟩, ⟨⟨rfl, rfl, rfl, rfl, rfl, rfl, rfl, rfl, rfl, rfl, rfl, rfl, rfl, rfl, rfl, trivial⟩, ⟨rfl, rfl, rfl, trivial⟩, rfl, rfl⟩⟩ ?_
 clear hrows hroom
 rintro ⟨w, ob, oc, os, μ6⟩ ⟨hw6, hle6, hrows, hroom⟩
 dsimp only at hw6 hle6 hrows hroom
 have hol := hrows.len
 simp only [List.length_map] at hol
 refine ifd (fun hltw => ?_) (fun hltw => ?_)
 rotate_left
 ·obtain rfl : w = U.length ^ (a + lo) := by omega
  refine num64 (by omega) (by omega) ⟨(k + 1, ob, oc, os, μ6), ⟨by dsimp only; omega, hle5.trans hle6, ?_, ?_⟩, by dsimp only; omega, ⟨⟨rfl, rfl, rfl, rfl, rfl, rfl, rfl, rfl, rfl, rfl, rfl, rfl, trivial⟩, ⟨rfl, rfl, rfl, trivial⟩, rfl, rfl⟩⟩
  ·dsimp only
   rw [hsucc, ← List.append_assoc]; exact hrows
  ·dsimp only
   rw [hsucc, ← List.append_assoc]; exact hroom
 have hdl := digs_len U (a + lo) w
 generalize hvs : digs U (a + lo) w = vs at *
 have hu6 := ((((hu.mono hle).mono hle2).mono hle5).mono hle6)
 refine make_intro (a + lo) rfl rfl (by simp only; omega) (Nat.le_trans (m := 1000) (by omega) (by decide)) ?_
 intro r94
 refine lIn (fun z : Nat × List Value => z.1 ≤ a + lo ∧ Fill μ6 vs (a + lo) z.1 z.2)
  (fun (j, xs) => ⟨[(1, .val (.slice ub U.length uc)), (6, .row 1 b ys.length c), (11, .row 2 ob os.length oc), (13, .loc 3 r13 0), (14, .val (.int .i64 ((a + lo : Nat) : Int))), (15, .val (.int .i64 ((U.length ^ (a + lo) : Nat) : Int))), (16, .val (.int .i64 k)), (17, .val (.slice pc.1 cl.length pc.2)), (18, .val (.int .i64 (w : Nat))), (19, .row 4 (some r94) (a + lo) (a + lo)), (20, .val (.int .i64 ((w / U.length ^ j : Nat) : Int))), (21, .val (.int .i64 j)), (62, .val (.slice q.1 p.rels.length q.2)), (63, .val (.int .i64 p.rels.length)), (64, .val (.int .i64 i)), (81, .val (.slice pv.1 L.length pv.2)), (82, .val (.int .i64 L.length)), (83, .val (.int .i64 k))], [(1, some (.row b c 108 1 ys)), (2, some (.row ob oc 126 6 os)), (3, some (.cells r13 [.val (.string r.name), .val (.int .i64 r.arity), .val (.int .i64 r.locals), .val (.int .i64 r.body.kind), .val (.string r.body.name), .val (.slice q2.1.1 r.body.terms.length q2.1.2), .val (.slice q2.2.1 r.body.goals.length q2.2.2)] 89)), (4, some (.row (some r94) (a + lo) 38 4 xs))], 5, μ6, Mem.nil⟩) (fun z => a + lo - z.1)
  (0, _) ⟨Nat.zero_le _, Fill.start⟩ (fun (_, _) => ⟨rfl, rfl⟩) ⟨⟨rfl, rfl, rfl, rfl, rfl, rfl, rfl, rfl, rfl, rfl, by rw [Nat.pow_zero, Nat.div_one]; rfl, rfl, rfl, rfl, rfl, rfl, rfl, rfl, trivial⟩, ⟨rfl, rfl, rfl, rfl, trivial⟩, rfl, rfl⟩ ?_
 rintro ⟨j, xs⟩ ⟨hj, hfill⟩
 dsimp only at hj hfill
 have hxl := hfill.len
 have hdw : w / U.length ^ j ≤ w := Nat.div_le_self _ _
 refine ifd (fun hltj => ?_) (fun hltj => ?_)
 ·refine need_intro (by omega) ?_
  refine nEq (x := ((w / U.length ^ j % U.length : Nat) : Int)) rfl ?_
  have w_ := digs_elem hu6 (by omega) (w / U.length ^ j)
  obtain ⟨ad2, p2, hel2, hr2⟩ := w_
  refine eIn hel2 ?_
  refine rel_intro j rfl (by omega) ?_
  refine get_intro _ (hfill.rest j (by omega) (by omega)) ?_
  refine need_intro (by omega) ?_
  refine nEq (x := ((w / U.length ^ (j + 1) : Nat) : Int)) ?_ ?_
  ·have e : w / U.length ^ (j + 1) = w / U.length ^ j / U.length := by rw [Nat.pow_succ, Nat.div_div_eq_div_mul]
   rw [e]
   have hd2 : w / U.length ^ j / U.length ≤ w / U.length ^ j := Nat.div_le_self _ _
   show IntKind.i64.wrap ((w / U.length ^ j / U.length : Nat) : Int) = _
   generalize w / U.length ^ j / U.length = m at hd2 ⊢
   exact wrap64 (by omega) (by omega)
  have hg := digs_get U j (a + lo) w (by omega)
  rw [hvs] at hg
  exact num64 (by omega) (by omega) ⟨(j + 1, _), ⟨by dsimp only; omega, hfill.step hg hr2 (by omega)⟩, by dsimp only; omega, ⟨⟨rfl, rfl, rfl, rfl, rfl, rfl, rfl, rfl, rfl, rfl, rfl, rfl, rfl, rfl, rfl, rfl, rfl, rfl, trivial⟩, ⟨rfl, rfl, rfl, rfl, trivial⟩, rfl, rfl⟩⟩
 obtain rfl : j = a + lo := by omega
 have hvrows := hfill.all hdl
 refine cut_intro 0 a rfl ha (Nat.zero_le _) (by omega) ?_
 intro r22
 refine loop_frzN (fun z : Nat × Bool × (Option Nat × Nat × List Value) × (Option Nat × Nat × List Value) × Mem => z.1 ≤ cl.length ∧ μ6.Le z.2.2.2.2 ∧ RowAt z.2.2.2.2 (some r94) (a + lo) 4 xs ∧ Rows z.2.2.2.2 2 (((posF vs (cl.take z.1)).map F.fc).map Fc.d) z.2.2.1.2.2 ∧ Rows z.2.2.2.2 2 (((negF vs (cl.take z.1)).map F.fc).map Fc.d) z.2.2.2.1.2.2 ∧ (z.2.1 = true ↔ ∀ g ∈ cl.take z.1, okG U vs g))
  (fun (m, f, (pb, pc2, ps), (nb, nc, ns), μ7) => ⟨[(1, .val (.slice ub U.length uc)), (6, .row 1 b ys.length c), (11, .row 2 ob os.length oc), (13, .loc 3 r13 0), (14, .val (.int .i64 ((a + lo : Nat) : Int))), (15, .val (.int .i64 ((U.length ^ (a + lo) : Nat) : Int))), (16, .val (.int .i64 k)), (17, .val (.slice pc.1 cl.length pc.2)), (18, .val (.int .i64 (w : Nat))), (19, .val (.slice (some ⟨r94, 0, none⟩) (a + lo) (a + lo))), (22, .loc 5 r22 0), (23, .val (.bool f)), (62, .val (.slice q.1 p.rels.length q.2)), (63, .val (.int .i64 p.rels.length)), (64, .val (.int .i64 i)), (81, .val (.slice pv.1 L.length pv.2)), (82, .val (.int .i64 L.length)), (83, .val (.int .i64 k)), (125, .val (.slice pc.1 cl.length pc.2)), (126, .val (.int .i64 cl.length)), (127, .val (.int .i64 m))], [(1, some (.row b c 108 1 ys)), (2, some (.row ob oc 126 6 os)), (3, some (.cells r13 [.val (.string r.name), .val (.int .i64 r.arity), .val (.int .i64 r.locals), .val (.int .i64 r.body.kind), .val (.string r.body.name), .val (.slice q2.1.1 r.body.terms.length q2.1.2), .val (.slice q2.2.1 r.body.goals.length q2.2.2)] 89)), (5, some (.cells r22 [.val (.string r.name), .val (.slice (if a + lo = 0 then ((some r94).map fun r => (⟨r, 0, none⟩ : Addr)) else ((some r94).map fun r => (⟨r, 0, none⟩ : Addr)).map (·.add (0 * 4))) (a - 0) (a + lo - 0)), .val (.int .i64 k), .val (.slice (some ⟨r94, 0, none⟩) (a + lo) (a + lo)), .row 6 pb ps.length pc2, .row 7 nb ns.length nc] 126)), (6, some (.row pb pc2 67 2 ps)), (7, some (.row nb nc 67 2 ns))], 8, μ7, Mem.nil⟩) (fun z => cl.length - z.1) [4]
  (fun (_, _, (_, _, _), (_, _, _), _) => ⟨rfl, rfl⟩) ?_ ?_
 ·intro μv hlev hnov hatv
  refine ⟨(0, true, (none, 0, []), (none, 0, []), μv), ⟨Nat.zero_le _, hlev, hatv, .nil, .nil, by simp⟩, ?_⟩
  exact ⟨⟨⟨_, rfl, .inl rfl⟩, ⟨_, rfl, .inl rfl⟩, ⟨_, rfl, .inl rfl⟩, ⟨_, rfl, .inl rfl⟩, ⟨_, rfl, .inl rfl⟩, ⟨_, rfl, .inl rfl⟩, ⟨_, rfl, .inl rfl⟩, ⟨_, rfl, .inl rfl⟩, ⟨_, rfl, .inl rfl⟩, ⟨_, rfl, .inl rfl⟩, ⟨_, rfl, .inl rfl⟩, ⟨_, rfl, .inl rfl⟩, ⟨_, rfl, .inl rfl⟩, ⟨_, rfl, .inl rfl⟩, ⟨_, rfl, .inl rfl⟩, ⟨_, rfl, .inl rfl⟩, ⟨_, rfl, .inl rfl⟩, ⟨_, rfl, .inl rfl⟩, ⟨_, rfl, .inl rfl⟩, ⟨_, rfl, .inl rfl⟩, ⟨_, rfl, .inl rfl⟩, trivial⟩, ⟨.inl rfl, .inl rfl, .inl rfl, .inr (.inr ⟨_, _, _, _, rfl, rfl, .inl rfl, .inl rfl, .inl rfl, .inl rfl, .inr ⟨6, rfl, rfl, Nat.le_refl _⟩, .inr ⟨7, rfl, rfl, Nat.le_succ 6⟩, trivial⟩), .inr (.inl ⟨_, _, rfl, Nat.le_refl _⟩), .inr (.inl ⟨_, _, rfl, Nat.le_succ 6⟩), trivial⟩, rfl, rfl⟩
 rintro ⟨m, f, ⟨pb, pc2, ps⟩, ⟨nb, nc, ns⟩, μ7⟩ ⟨hm, hle7, hat7, hps, hns, hf⟩
 dsimp only at hm hle7 hat7 hps hns hf
 have hpl := hps.len
 have hnl := hns.len
 have hpf := posF_le (vs := vs) (c := cl.take m)
 have hnf := negF_le (vs := vs) (c := cl.take m)
 rw [List.length_take] at hpf hnf
 simp only [List.length_map] at hpl hnl
 have hnext := rulesW_succ U r k cl w
 have skipE : ¬ (∀ g ∈ cl, okG U vs g) → rulesW U r k cl (w + 1) = rulesW U r k cl w := fun h => by rw [hnext, ruleAt, hnn, hvs, if_neg h, Option.toList_none, List.append_nil]
 have skip : ¬ (∀ g ∈ cl, okG U vs g) → ∀ μ8, μ7.Le μ8 → Rows μ8 6 (((pre ++ rulesC U r L k ++ rulesW U r k cl (w + 1)).map Ru.rd).map RuD.d) os := fun h μ8 h8 => by
  rw [skipE h]; exact (hrows.mono hle7).mono h8
 have skipL : ¬ (∀ g ∈ cl, okG U vs g) → (pre ++ rulesC U r L k ++ rulesW U r k cl (w + 1)).length ≤ 2000 := fun h => by rw [skipE h]; exact hroom
 refine ifd (fun hltm => ?_) (fun hltm => ?_)
 rotate_left
 ·obtain rfl : m = cl.length := by omega
  rw [List.take_length] at hf hps hns
  refine iIn (fun hb => ?_) (fun hb => ?_)
  ·have hOk := hf.1 hb
   have hat1 : ruleAt U r k cl w = some (ruleOf r k cl vs) := by rw [ruleAt, hnn, hvs, if_pos hOk]
   intro r177
   refine gIn ?_ ?_ fun b' c' _ => ?_
   ·show (os.length + 1) * 120 ≤ _; omega
   ·exact Nat.le_trans (m := 100000) (show os.length + 1 ≤ _ by omega) (by decide)
   have hnew : (pre ++ rulesC U r L k ++ rulesW U r k cl (w + 1)).length = os.length + 1 := by
    rw [hnext, hat1, Option.toList_some, ← List.append_assoc, List.length_append, List.length_singleton]; omega
   refine ifd (fun hbig => ?_) (fun hbig => ?_)
   ·rw [List.length_append, List.length_singleton] at hbig
    exact rPl (hP k (w + 1) cl hcl (by omega) (by omega) _)
   rw [List.length_append, List.length_singleton] at hbig
   refine num64 (by omega) (by omega) ⟨[6, 7], fun μ8 hle8 hno8 hat8 μ9 hle9 hno9 hat9 => ⟨(w + 1, b', c', _, μ9), ⟨by dsimp only; omega, ((hle6.trans hle7).trans hle8).trans hle9, ?_, by dsimp only; omega⟩, by dsimp only; omega, ⟨⟨rfl, rfl, rfl, rfl, rfl, rfl, rfl, rfl, rfl, rfl, rfl, rfl, rfl, rfl, rfl, trivial⟩, ⟨rfl, rfl, rfl, trivial⟩, rfl, rfl⟩⟩⟩
   dsimp only
   rw [hnext, hat1, Option.toList_some, ← List.append_assoc, List.map_append, List.map_append]
   refine (((hrows.mono hle7).mono hle8).mono hle9).append (Rows.one ?_ (RuD.d_n _))
   have hmax : (1000 : Nat) ≤ maxLen := by decide
   have hvr := (hvrows.mono hle7)
   have k1 := headSl hat7 hvr (a := a) (by omega) (by omega)
   have k2 := Rows.sl hat7 hvr (Nat.le_trans (m := 1000) (by omega) hmax)
   have k3 := Rows.sl hat8 (hps.mono hle8) (Nat.le_trans (m := 1000) (by omega) hmax)
   have k4 := Rows.sl hat9 ((hns.mono hle8).mono hle9) (Nat.le_trans (m := 1000) (by omega) hmax)
   rw [hxl] at k2
   rw [RuD.d_eq]
   have ea : r.arity.toNat = a := by omega
   show RepV μ9 (.st [.s r.name, .sl 4 (((vs.take r.arity.toNat).map T.tm).map Tm.d), .i (k : Int), .sl 4 ((vs.map T.tm).map Tm.d), .sl 2 (((posF vs cl).map F.fc).map Fc.d), .sl 2 (((negF vs cl).map F.fc).map Fc.d)]) _
   rw [ea]
   exact ⟨_, rfl, RepS.str (RepS.cons1 ((k1.mono hle8).mono hle9) (RepS.int (RepS.cons1 ((k2.mono hle8).mono hle9) (RepS.cons1 (k3.mono hle9) (RepS.last k4)))))⟩
  ·have hno : ¬ ∀ g ∈ cl, okG U vs g := fun h => by rw [hf.2 h] at hb; cases hb
   refine ifd (fun h => by omega) (fun _ => ?_)
   exact num64 (by omega) (by omega) ⟨[], (w + 1, ob, oc, os, μ7), ⟨by dsimp only; omega, hle6.trans hle7, skip hno μ7 (Mem.Le.refl _), skipL hno⟩, by dsimp only; omega, ⟨⟨rfl, rfl, rfl, rfl, rfl, rfl, rfl, rfl, rfl, rfl, rfl, rfl, rfl, rfl, rfl, trivial⟩, ⟨rfl, rfl, rfl, trivial⟩, rfl, rfl⟩⟩
 have w_ := aSo (l := cl) (i := m) (by omega)
 obtain ⟨g, hg⟩ := w_
 have w_ := Gl.elem (((hcs.mono hle6).mono hle7)) hg
 obtain ⟨adg, pg, helg, hrg⟩ := w_
 have hG := ClG.of hok hr hL (mAt hcl) (mAt hg)
 have w_ := ClV.of hok hr hL (mAt hcl) (mAt hg) (n := a + lo) (by omega)
 obtain ⟨⟨gx, hgx⟩, hkx⟩ := w_
 refine eIn helg ?_
 intro r25
 refine iIn (fun hb => ?_) (fun hb => ?_)
 ·have hb : f = false := by simpa using hb
  subst hb
  have hno : ¬ ∀ g ∈ cl, okG U vs g := fun h => by
   have := hf.2 fun x hx => h x (List.mem_of_mem_take hx)
   cases this
  refine iIn (fun h => nomatch h) (fun _ => ?_)
  refine ifd (fun h => by omega) (fun _ => ?_)
  exact num64 (by omega) (by omega) ⟨[], (w + 1, ob, oc, os, μ7), ⟨by dsimp only; omega, hle6.trans hle7, skip hno μ7 (Mem.Le.refl _), skipL hno⟩, by dsimp only; omega, ⟨⟨rfl, rfl, rfl, rfl, rfl, rfl, rfl, rfl, rfl, rfl, rfl, rfl, rfl, rfl, rfl, trivial⟩, ⟨rfl, rfl, rfl, trivial⟩, rfl, rfl⟩⟩
 have hb : f = true := by simpa using hb
 have hf1 := hf.1 hb
 have hall : ∀ bb : Bool, (bb = true ↔ okG U vs g) → (bb = true ↔ ∀ x ∈ cl.take (m + 1), okG U vs x) := fun bb h => by
  rw [h, List.take_add_one, hg, Option.toList_some]
  constructor
  ·intro k x hx
   rcases List.mem_append.1 hx with hx | hx
   ·exact hf1 x hx
   ·rw [List.mem_singleton.1 hx]; exact k
  ·exact fun k => k g (by simp)
 have hvsl : Sl μ7 4 (some ⟨r94, 0, none⟩) vs.length ((vs.map T.tm).map Tm.d) := by
  have k2 := Rows.sl hat7 (hvrows.mono hle7) (Nat.le_trans (m := 1000) (by omega) (by decide))
  have w_ := Rep.sl k2
  obtain ⟨bz, cz, ez, hs⟩ := w_
  have w_ := Value.slice.inj ez
  obtain ⟨e1, e2, _⟩ := w_
  rw [← e1] at hs
  simpa using hs
 have hu7 := hu6.mono hle7
 refine ifd (fun h9 => ?_) (fun h9 => ?_)
 ·have hcall := callFact_spec (vc := a + lo) hvsl hrg hgx.terms hgx.len (fun x hx n hn => by have := hgx.low x hx n hn; omega)
  rw [hdl] at hcall
  refine cPl hcall fun v8 μ8 hle8 hR8 => ?_
  have w_ := F.inv (f := callF vs g) hR8
  obtain ⟨pf, rfl, hfs⟩ := w_
  intro r26
  refine cGv (inUniverse_spec (U := U) (l := (callF vs g).args) (hu7.mono hle8) hfs) ?_
  intro r150
  refine gIn ?_ ?_ fun b' c' _ => ?_
  ·show (ps.length + 1) * 40 ≤ _; omega
  ·exact Nat.le_trans (m := 100000) (show ps.length + 1 ≤ _ by omega) (by decide)
  refine num64 (by omega) (by omega) ⟨[], (m + 1, decide (∀ a ∈ (callF vs g).args, a ∈ U), (b', c', _), (nb, nc, ns), μ8), ⟨by dsimp only; omega, hle7.trans hle8, RowAt.up hat7 hle8, ?_, ?_, hall _ (by rw [decide_eq_true_eq, okG_9 h9])⟩, by dsimp only; omega, ⟨⟨rfl, rfl, rfl, rfl, rfl, rfl, rfl, rfl, rfl, rfl, rfl, rfl, rfl, rfl, rfl, rfl, rfl, rfl, rfl, rfl, rfl, trivial⟩, ⟨rfl, rfl, rfl, rfl, rfl, rfl, trivial⟩, rfl, rfl⟩⟩
  ·dsimp only
   rw [posF_succ hg, if_pos h9]
   simp only [List.map_append, List.map_cons, List.map_nil]
   exact (hps.mono hle8).append (Rows.one hR8 (Fc.d_n _))
  ·dsimp only
   rw [negF_succ hg, if_neg (by omega), List.append_nil]
   exact hns.mono hle8
 refine ifd (fun h10 => ?_) (fun h10 => ?_)
 ·have hgl := hG.sh.top.gl1 h10
  have w_ := hkx h10
  obtain ⟨kx, hkx⟩ := w_
  have w_ := Gl.inv hrg
  obtain ⟨q1, e1, _, hgs⟩ := w_
  have w_ := Gl.elem hgs (Gl.kid_at hgl)
  obtain ⟨ad2, pk, hel2, hrk⟩ := w_
  have hp : q1 = pg := by
   have h2 := congrArg (fun v => match v with | Value.agg a => (a[2]?, a[3]?) | _ => (none, none)) e1
   simp [Gl.cs] at h2
   exact Prod.ext (Prod.ext h2.1.1.symm h2.1.2.symm) (Prod.ext h2.2.1.symm h2.2.2.symm)
  subst hp
  refine eIn hel2 ?_
  have hcall := callFact_spec (vc := a + lo) hvsl hrk hkx.terms hkx.len (fun x hx n hn => by have := hkx.low x hx n hn; omega)
  rw [hdl] at hcall
  refine cPl hcall fun v8 μ8 hle8 hR8 => ?_
  have w_ := F.inv (f := callF vs g.kid) hR8
  obtain ⟨pf, rfl, hfs⟩ := w_
  intro r27
  refine cGv (inUniverse_spec (U := U) (l := (callF vs g.kid).args) (hu7.mono hle8) hfs) ?_
  intro r170
  refine gIn ?_ ?_ fun b' c' _ => ?_
  ·show (ns.length + 1) * 40 ≤ _; omega
  ·exact Nat.le_trans (m := 100000) (show ns.length + 1 ≤ _ by omega) (by decide)
  refine num64 (by omega) (by omega) ⟨[], (m + 1, decide (∀ a ∈ (callF vs g.kid).args, a ∈ U), (pb, pc2, ps), (b', c', _), μ8), ⟨by dsimp only; omega, hle7.trans hle8, RowAt.up hat7 hle8, ?_, ?_, hall _ (by rw [decide_eq_true_eq, okG_10 h10])⟩, by dsimp only; omega, ⟨⟨rfl, rfl, rfl, rfl, rfl, rfl, rfl, rfl, rfl, rfl, rfl, rfl, rfl, rfl, rfl, rfl, rfl, rfl, rfl, rfl, rfl, trivial⟩, ⟨rfl, rfl, rfl, rfl, rfl, rfl, trivial⟩, rfl, rfl⟩⟩
  ·dsimp only
   rw [posF_succ hg, if_neg h9, List.append_nil]
   exact hps.mono hle8
  ·dsimp only
   rw [negF_succ hg, if_pos h10]
   simp only [List.map_append, List.map_cons, List.map_nil]
   exact (hns.mono hle8).append (Rows.one hR8 (Fc.d_n _))
 have htrue := trueWith_spec (vc := a + lo) hvsl hrg hgx.terms hgx.len (fun x hx n hn => by have := hgx.low x hx n hn; omega) (by have := hG.simple; rwa [hgx.terms, List.length_map] at this)
 rw [hdl] at htrue
 refine cPl htrue fun v8 μ8 hle8 hR8 => ?_
 obtain rfl := hR8
 refine num64 (by omega) (by omega) ⟨[], (m + 1, decide (testT g.kind (gx.map (T.subst (valF vs)))), (pb, pc2, ps), (nb, nc, ns), μ8), ⟨by dsimp only; omega, hle7.trans hle8, RowAt.up hat7 hle8, ?_, ?_, hall _ (by rw [decide_eq_true_eq, okG_else h9 h10 hgx.terms])⟩, by dsimp only; omega, ⟨⟨rfl, rfl, rfl, rfl, rfl, rfl, rfl, rfl, rfl, rfl, rfl, rfl, rfl, rfl, rfl, rfl, rfl, rfl, rfl, rfl, rfl, trivial⟩, ⟨rfl, rfl, rfl, rfl, rfl, rfl, trivial⟩, rfl, rfl⟩⟩
 ·dsimp only
  rw [posF_succ hg, if_neg h9, List.append_nil]
  exact hps.mono hle8
 ·dsimp only
  rw [negF_succ hg, if_neg h10, List.append_nil]
  exact hns.mono hle8
end
end Go.Vx
namespace Go.Vx
open Go.Proofs Classical
def AscF (l : List F) (i : Nat) : Prop := ∀ j x y, j + 1 < i → l[j]? = some x → l[j + 1]? = some y → cmpF x y < 0
theorem AscF.next {l : List F} {i : Nat} (h : AscF l i) (hc : ∀ x y, 0 < i → l[i - 1]? = some x → l[i]? = some y → cmpF x y < 0) : AscF l (i + 1) := fun j x y hj hx hy => by
 rcases Nat.lt_or_ge (j + 1) i with h6 | h6
 ·exact h j x y h6 hx hy
 ·obtain rfl : i = j + 1 := by omega
  exact hc x y (by omega) hx hy
theorem groundO_some {p : Pg} {u : List Tm} {y : List Ru} (h : groundO p u = some y) : p.Ok ∧ UnivOk u := by
 unfold groundO at h
 split at h
 ·assumption
 ·cases h
section
variable {μ : Mem}
end
end Go.Vx
namespace Go.Vx
open Go.Proofs Classical
def Tm.Is (t : Tm) : Prop := ∃ x : T, t = x.tm
def Gl.Mild (g : Gl) : Prop := ∀ x ∈ g.all, (∀ t ∈ x.terms, t.Is) ∧ x.terms.length ≤ 100000 ∧ x.goals.length ≤ 100000
theorem Gl.Mild.top {g : Gl} (h : g.Mild) : (∀ t ∈ g.terms, t.Is) ∧ g.terms.length ≤ 100000 ∧ g.goals.length ≤ 100000 := h g (by rw [Gl.all_eq]; simp)
theorem Gl.Mild.sub {g : Gl} (h : g.Mild) (x : Gl) (hx : x ∈ g.goals) : x.Mild := fun y hy => h y (by rw [Gl.all_eq]; exact List.mem_cons_of_mem _ (List.mem_flatMap.2 ⟨x, hx, hy⟩))
section
variable {μ : Mem}
theorem copyTerms_spec {xs : List T} {base : Option Addr} {cap : Nat} (hsl : Sl μ 4 base xs.length ((xs.map T.tm).map Tm.d)) (hn : xs.length ≤ 1000000) :
  Spec Tryz.prog 142 [.slice base xs.length cap] μ fun v μ' => Fresh μ μ' (.sl 4 ((xs.map T.tm).map Tm.d)) v := by
 refine Spec.mk Tryz.func142 (by kernel_rfl) ?_
 intro r6
 refine lIn (fun p : Nat × Option Nat × Nat × List Value × Mem => p.1 ≤ xs.length ∧ μ.Le p.2.2.2.2 ∧ Grown 4 μ p.2.2.2.2 (((xs.take p.1).map T.tm).map Tm.d) p.2.2.2.1)
  (fun (i, b, c, ys, μ') => ⟨[(3, .row 0 b ys.length c), (7, .val (.slice base xs.length cap)), (8, .val (.int .i64 xs.length)), (9, .val (.int .i64 i))], [(0, some (.row b c 38 4 ys))], 1, μ', Mem.nil⟩) (fun p => xs.length - p.1)
  (0, some r6, 0, [], μ) ⟨Nat.zero_le _, Mem.Le.refl _, Grown.nil _ _ _⟩ (fun (_, _, _, _, _) => ⟨rfl, rfl⟩) ⟨⟨rfl, rfl, rfl, rfl, trivial⟩, ⟨rfl, trivial⟩, rfl, rfl⟩ ?_
 rintro ⟨i, b, c, ys, μ'⟩ ⟨hi, hle, hrows⟩
 dsimp only at hi hle hrows
 have hlen := hrows.len
 simp only [List.length_map, List.length_take] at hlen
 refine ifd (fun hlt => ?_) (fun hlt => ?_)
 ·have w_ := aSo (l := xs) (i := i) (by omega)
  obtain ⟨x, hx⟩ := w_
  have w_ := T.elemL (hsl.mono hle) hx
  obtain ⟨ad, p, hel, hr⟩ := w_
  refine eIn hel ?_
  intro r5
  refine cPl (copyTerm_spec x hr) fun v1 μ1 hle1 hR => ?_
  have w_ := Tm.invV hR.rep
  obtain ⟨q, rfl⟩ := w_
  intro r16
  refine gIn ?_ ?_ fun b' c' _ => ?_
  ·show (ys.length + 1) * 56 ≤ _; omega
  ·exact Nat.le_trans (m := 100000000) (show ys.length + 1 ≤ _ by omega) (by decide)
  refine num64 (by omega) (by omega) ⟨(i + 1, b', c', _, μ1), ⟨by dsimp only; omega, hle.trans hle1, ?_⟩, by dsimp only; omega, ⟨⟨rfl, rfl, rfl, rfl, trivial⟩, ⟨rfl, trivial⟩, rfl, rfl⟩⟩
  dsimp only
  rw [List.take_add_one, hx, Option.toList_some]
  simp only [List.map_append, List.map_cons, List.map_nil]
  exact hrows.snoc hle hR hle1 (Tm.d_n _)
 ·obtain rfl : i = xs.length := by omega
  rw [List.take_length] at hrows
  refine rFz [0] fun μ2 hle2 hno hrow => .inl ?_
  exact hrows.fresh hle hle2 hno hrow (Nat.le_trans (m := 1000000) (by omega) (by decide))
end
end Go.Vx
namespace Go.Vx
open Go.Proofs Classical
theorem ascF_congr {a b : List F} (h : ∀ x, x ∈ a ↔ x ∈ b) : ascF a = ascF b := ascOf_eq cmpF_ord (ascOf_asc _ _) fun x => by rw [ascOf_mem, h]
theorem ascF_id {L : List F} (h : Asc3 cmpF L) : ascF L = L := (ascOf_eq cmpF_ord h fun _ => Iff.rfl).symm
theorem ascF_asc (L : List F) : Asc3 cmpF (ascF L) := ascOf_asc _ _
theorem mem_ascF {L : List F} {x : F} : x ∈ ascF L ↔ x ∈ L := ascOf_mem _ _ _
theorem ascF_len (L : List F) : (ascF L).length ≤ L.length := ascOf_len _ _
noncomputable def insF (L : List F) (f : F) : List F := ascF (f :: L)
theorem mem_insF {L : List F} {f x : F} : x ∈ insF L f ↔ x = f ∨ x ∈ L := by rw [insF, mem_ascF, List.mem_cons]
theorem insF_asc (L : List F) (f : F) : Asc3 cmpF (insF L f) := ascF_asc _
theorem insF_len (L : List F) (f : F) : (insF L f).length ≤ L.length + 1 := ascF_len _
theorem insF_old {L : List F} {f : F} (hL : Asc3 cmpF L) (h : f ∈ L) : insF L f = L := (hL.uniq cmpF_ord (insF_asc L f) fun x => by
 rw [mem_insF]
 exact ⟨.inr, fun k => k.elim (fun e => e ▸ h) id⟩).symm
theorem insF_at {L : List F} {f : F} {k : Nat} (hL : Asc3 cmpF L) (h1 : ∀ x ∈ L.take k, cmpF x f < 0) (h2 : ∀ x ∈ L.drop k, cmpF f x < 0) : L.take k ++ f :: L.drop k = insF L f := by
 refine Asc3.uniq cmpF_ord ?_ (insF_asc L f) fun x => ?_
 ·have := hL.ins cmpF_ord h1 h2
  simpa [insAt] using this
 ·rw [mem_insF, List.mem_append, List.mem_cons]
  have : x ∈ L ↔ x ∈ L.take k ∨ x ∈ L.drop k := by rw [← List.mem_append, List.take_append_drop]
  rw [this]
  constructor
  ·rintro (h | h | h)
   ·exact .inr (.inl h)
   ·exact .inl h
   ·exact .inr (.inr h)
  ·rintro (h | h | h)
   ·exact .inr (.inl h)
   ·exact .inl h
   ·exact .inr (.inr h)
noncomputable def headsF (rs : List Ru) (pos neg : List F) (i : Nat) : List F := ((rs.take i).filter fun r => decide (fires pos neg r)).map Ru.head
theorem headsF_all (rs : List Ru) (pos neg : List F) : ascF (headsF rs pos neg rs.length) = nextF rs pos neg := by rw [headsF, List.take_length, nextF]
theorem headsF_len (rs : List Ru) (pos neg : List F) (i : Nat) : (headsF rs pos neg i).length ≤ i := by
 rw [headsF, List.length_map]
 exact Nat.le_trans (List.length_filter_le _ _) (List.length_take_le _ _)
theorem nextF_len (rs : List Ru) (pos neg : List F) : (nextF rs pos neg).length ≤ rs.length := by
 rw [← headsF_all]
 exact Nat.le_trans (ascF_len _) (headsF_len _ _ _ _)
theorem nextF_asc (rs : List Ru) (pos neg : List F) : Asc3 cmpF (nextF rs pos neg) := ascF_asc _
theorem nextF_mono {rs : List Ru} {pos pos' neg : List F} (h : ∀ f ∈ pos, f ∈ pos') {f : F} (hf : f ∈ nextF rs pos neg) : f ∈ nextF rs pos' neg := by
 rw [mem_nextF] at hf ⊢
 obtain ⟨r, h1, h2, h3⟩ := hf
 exact ⟨r, h1, ⟨fun x hx => h x (h2.1 x hx), h2.2⟩, h3⟩
structure RedI (rs : List Ru) (S out : List F) : Prop where
 asc : Asc3 cmpF out
 der : ∀ f ∈ out, Der (unlessR rs S) [] f
 sub : ∀ f ∈ out, f ∈ nextF rs out S
section
variable {rs : List Ru} {S out : List F}
theorem RedI.nil (rs : List Ru) (S : List F) : RedI rs S [] := ⟨List.Pairwise.nil, (fun _ h => nomatch h), (fun _ h => nomatch h)⟩
theorem RedI.next (h : RedI rs S out) : RedI rs S (nextF rs out S) := by
 refine ⟨nextF_asc _ _ _, fun f hf => ?_, fun f hf => nextF_mono h.sub hf⟩
 rw [mem_nextF] at hf
 obtain ⟨r, h1, h2, rfl⟩ := hf
 exact .rule (mem_unlessR.2 ⟨h1, h2.2⟩) fun x hx => h.der x (h2.1 x hx)
theorem RedI.done (h : RedI rs S out) (e : (nextF rs out S).length = out.length) : out = lfp (unlessR rs S) [] := by
 have e2 := asc_same cmpF_ord h.asc (nextF_asc rs out S) h.sub e
 refine lfp_eq h.asc (fun _ h => nomatch h) h.der fun r hr hp => ?_
 rw [e2, mem_nextF]
 rw [mem_unlessR] at hr
 exact ⟨r, hr.1, ⟨hp, hr.2⟩, rfl⟩
theorem RedI.more (h : RedI rs S out) (e : (nextF rs out S).length ≠ out.length) : out.length < (nextF rs out S).length := asc_more cmpF_ord h.asc (nextF_asc _ _ _) h.sub e
theorem RedI.len (h : RedI rs S out) : out.length ≤ rs.length := Nat.le_trans (len_le_of_sub (h.asc.nodup cmpF_ord) h.sub) (nextF_len _ _ _)
end
noncomputable def growL (rs : List Ru) (out : List F) (i : Nat) : List F := ((rs.take i).filter fun r => decide (r.head ∉ out ∧ ∀ f ∈ r.pos, f ∈ out)).map Ru.head
theorem growL_succ {rs : List Ru} {out : List F} {i : Nat} {r : Ru} (h : rs[i]? = some r) : growL rs out (i + 1) = growL rs out i ++ (if r.head ∉ out ∧ ∀ f ∈ r.pos, f ∈ out then [r.head] else []) := by
 rw [growL, List.take_add_one, h, Option.toList_some, List.filter_append, List.map_append, ← growL]
 congr 1
 by_cases k : r.head ∉ out ∧ ∀ f ∈ r.pos, f ∈ out
 ·rw [if_pos k, List.filter_cons_of_pos (by simpa using k)]; rfl
 ·rw [if_neg k, List.filter_cons_of_neg (by simpa using k)]; rfl
theorem growL_len (rs : List Ru) (out : List F) (i : Nat) : (growL rs out i).length ≤ i := by
 rw [growL, List.length_map]
 exact Nat.le_trans (List.length_filter_le _ _) (List.length_take_le _ _)
noncomputable def growF (rs : List Ru) (out : List F) : List F := ascF (out ++ growL rs out rs.length)
theorem mem_growF {rs : List Ru} {out : List F} {f : F} : f ∈ growF rs out ↔ f ∈ out ∨ ∃ r ∈ rs, (∀ f ∈ r.pos, f ∈ out) ∧ r.head = f := by
 rw [growF, mem_ascF, List.mem_append, growL, List.take_length, List.mem_map]
 constructor
 ·rintro (h | ⟨r, h1, h2⟩)
  ·exact .inl h
  ·rw [List.mem_filter, decide_eq_true_eq] at h1
   exact .inr ⟨r, h1.1, h1.2.2, h2⟩
 ·rintro (h | ⟨r, h1, h2, h3⟩)
  ·exact .inl h
  ·by_cases k : f ∈ out
   ·exact .inl k
   ·exact .inr ⟨r, by rw [List.mem_filter, decide_eq_true_eq]; exact ⟨h1, by rw [h3]; exact k, h2⟩, h3⟩
structure BasI (rs : List Ru) (base out : List F) : Prop where
 asc : Asc3 cmpF out
 sub : ∀ f ∈ base, f ∈ out
 der : ∀ f ∈ out, Der rs base f
section
variable {rs : List Ru} {base out : List F}
theorem BasI.start (rs : List Ru) (base : List F) : BasI rs base (ascF base) := ⟨ascF_asc _, fun _ h => mem_ascF.2 h, fun _ h => .base (mem_ascF.1 h)⟩
theorem BasI.next (h : BasI rs base out) : BasI rs base (growF rs out) := by
 refine ⟨ascF_asc _, fun f hf => mem_growF.2 (.inl (h.sub f hf)), fun f hf => ?_⟩
 rcases mem_growF.1 hf with k | ⟨r, h1, h2, rfl⟩
 ·exact h.der f k
 ·exact .rule h1 fun x hx => h.der x (h2 x hx)
theorem BasI.done (h : BasI rs base out) (e : (growF rs out).length = out.length) : out = lfp rs base := by
 have e2 := asc_same cmpF_ord h.asc (ascF_asc (out ++ growL rs out rs.length)) (fun f hf => mem_growF.2 (.inl hf)) e
 refine lfp_eq h.asc h.sub h.der fun r hr hp => ?_
 rw [e2]
 exact mem_growF.2 (.inr ⟨r, hr, hp, rfl⟩)
theorem BasI.more (h : BasI rs base out) (e : (growF rs out).length ≠ out.length) : out.length < (growF rs out).length := asc_more cmpF_ord h.asc (ascF_asc _) (fun _ hf => mem_growF.2 (.inl hf)) e
theorem BasI.len (h : BasI rs base out) : out.length ≤ base.length + rs.length := by
 have := len_le_of_sub (a := out) (b := base ++ rs.map Ru.head) (h.asc.nodup cmpF_ord) fun f hf => by
  cases h.der f hf with
  | base k => exact List.mem_append_left _ k
  | rule k _ => exact List.mem_append_right _ (List.mem_map_of_mem k)
 rwa [List.length_append, List.length_map] at this
end
theorem Der.congr {rs : List Ru} {b b' : List F} (h : ∀ f ∈ b, f ∈ b') {f : F} (k : Der rs b f) : Der rs b' f := by
 induction k with
 | base k => exact .base (h _ k)
 | rule k _ ih => exact .rule k ih
theorem unlessR_len (rs : List Ru) (S : List F) : (unlessR rs S).length ≤ rs.length := List.length_filter_le _ _
theorem unlessR_take {rs : List Ru} {S : List F} {i : Nat} {r : Ru} (h : rs[i]? = some r) : unlessR (rs.take (i + 1)) S = unlessR (rs.take i) S ++ (if ∀ f ∈ r.neg, f ∉ S then [r] else []) := by
 rw [unlessR, List.take_add_one, h, Option.toList_some, List.filter_append, ← unlessR]
 congr 1
 by_cases k : ∀ f ∈ r.neg, f ∉ S
 ·rw [if_pos k, List.filter_cons_of_pos (by simpa using k)]; rfl
 ·rw [if_neg k, List.filter_cons_of_neg (by simpa using k)]; rfl
noncomputable def stF (rs : List Ru) : Nat → List F
 | 0 => []
 | n + 1 => nextF rs (stF rs n) []
theorem stF_red (rs : List Ru) : ∀ n, RedI rs [] (stF rs n)
 | 0 => RedI.nil _ _
 | n + 1 => (stF_red rs n).next
theorem unlessR_nil (rs : List Ru) : unlessR rs [] = rs := by
 rw [unlessR]
 exact List.filter_eq_self.2 fun r _ => by simp
def LastSt (rs : List Ru) (n : Nat) : Prop := nextF rs (stF rs n) [] = stF rs n ∧ ∀ m, m < n → nextF rs (stF rs m) [] ≠ stF rs m
theorem LastSt.uniq {rs : List Ru} {n m : Nat} (h : LastSt rs n) (k : LastSt rs m) : n = m := by
 rcases Nat.lt_trichotomy n m with e | e | e
 ·exact absurd h.1 (k.2 n e)
 ·exact e
 ·exact absurd k.1 (h.2 m e)
theorem LastSt.eq {rs : List Ru} {n : Nat} (h : LastSt rs n) : stF rs n = lfp rs [] := by
 have := (stF_red rs n).done (by rw [h.1])
 rwa [unlessR_nil] at this
inductive Over (rs : List Ru) (model B : List F) : F → Prop
 | self {f : F} (h : f ∈ B) : Over rs model B f
 | rule {r : Ru} {y : F} (h : r ∈ rs) (hp : ∀ x ∈ r.pos, x ∈ model) (hy : y ∈ r.pos) (ho : Over rs model B y) : Over rs model B r.head
noncomputable def overF (rs : List Ru) (model B : List F) : List F := ascF ((B ++ rs.map Ru.head).filter fun x => decide (Over rs model B x))
structure OvI (rs : List Ru) (model B out : List F) : Prop where
 asc : Asc3 cmpF out
 self : ∀ f ∈ B, f ∈ out
 der : ∀ x ∈ out, Over rs model B x
section
variable {rs : List Ru} {model B out : List F}
theorem OvI.mem {x : F} (h : Over rs model B x) : x ∈ B ++ rs.map Ru.head := by
 cases h with
 | self k => exact List.mem_append_left _ k
 | rule k _ _ _ => exact List.mem_append_right _ (List.mem_map_of_mem k)
theorem OvI.done (h : OvI rs model B out) (hc : ∀ r ∈ rs, (∀ x ∈ r.pos, x ∈ model) → (∃ y ∈ r.pos, y ∈ out) → r.head ∈ out) : out = overF rs model B :=
 h.asc.uniq cmpF_ord (ascF_asc _) fun x => by
  rw [overF, mem_ascF, List.mem_filter, decide_eq_true_eq]
  constructor
  ·exact fun hx => ⟨OvI.mem (h.der x hx), h.der x hx⟩
  ·rintro ⟨hm, k⟩
   clear hm
   induction k with
   | self k => exact h.self _ k
   | rule k hp hy _ ih => exact hc _ k hp ⟨_, hy, ih⟩
theorem OvI.len (h : OvI rs model B out) : out.length ≤ B.length + rs.length := by
 have := len_le_of_sub (a := out) (b := B ++ rs.map Ru.head) (h.asc.nodup cmpF_ord) fun x hx => OvI.mem (h.der x hx)
 rwa [List.length_append, List.length_map] at this
theorem OvI.ins (h : OvI rs model B out) {r : Ru} (hr : r ∈ rs) (hp : ∀ x ∈ r.pos, x ∈ model) {y : F} (hy : y ∈ r.pos) (ho : Over rs model B y) : OvI rs model B (insF out r.head) :=
 ⟨insF_asc _ _, fun f hf => mem_insF.2 (.inr (h.self f hf)), fun x hx => (mem_insF.1 hx).elim (fun e => by rw [e]; exact .rule hr hp hy ho) (h.der x)⟩
end
inductive Relv (rs : List Ru) (f : F) : F → Prop
 | self : Relv rs f f
 | rule {r : Ru} {y : F} (h : r ∈ rs) (ho : Relv rs f r.head) (hy : y ∈ r.pos) : Relv rs f y
noncomputable def relF (rs : List Ru) (f : F) : List F := ascF ((f :: rs.flatMap Ru.pos).filter fun x => decide (Relv rs f x))
structure RvI (rs : List Ru) (f : F) (out : List F) : Prop where
 asc : Asc3 cmpF out
 self : f ∈ out
 der : ∀ x ∈ out, Relv rs f x
theorem RvI.mem {rs : List Ru} {f x : F} (h : Relv rs f x) : x ∈ f :: rs.flatMap Ru.pos := by
 cases h with
 | self => simp
 | rule k _ hy => exact List.mem_cons_of_mem _ (List.mem_flatMap.2 ⟨_, k, hy⟩)
theorem RvI.done {rs : List Ru} {f : F} {out : List F} (h : RvI rs f out) (hc : ∀ r ∈ rs, r.head ∈ out → ∀ y ∈ r.pos, y ∈ out) : out = relF rs f :=
 h.asc.uniq cmpF_ord (ascF_asc _) fun x => by
  rw [relF, mem_ascF, List.mem_filter, decide_eq_true_eq]
  constructor
  ·exact fun hx => ⟨RvI.mem (h.der x hx), h.der x hx⟩
  ·rintro ⟨hm, k⟩
   clear hm
   induction k with
   | self => exact h.self
   | rule k _ hy ih => exact hc _ k ih _ hy
theorem RvI.len {rs : List Ru} {f : F} {out : List F} (h : RvI rs f out) : out.length ≤ (rs.flatMap Ru.pos).length + 1 := by
 have := len_le_of_sub (a := out) (b := f :: rs.flatMap Ru.pos) (h.asc.nodup cmpF_ord) fun x hx => RvI.mem (h.der x hx)
 rwa [List.length_cons] at this
theorem RvI.ins {rs : List Ru} {f : F} {out : List F} (h : RvI rs f out) {r : Ru} (hr : r ∈ rs) (ho : Relv rs f r.head) {y : F} (hy : y ∈ r.pos) : RvI rs f (insF out y) :=
 ⟨insF_asc _ _, mem_insF.2 (.inr h.self), fun x hx => (mem_insF.1 hx).elim (fun e => by rw [e]; exact .rule hr ho hy) (h.der x)⟩
end Go.Vx
namespace Go.Vx
open Go.Proofs Classical
abbrev FsV (μ : Mem) (L : List F) (v : Value) : Prop := RepV μ (.sl 2 ((L.map F.fc).map Fc.d)) v
abbrev RsV (μ : Mem) (rs : List Ru) (v : Value) : Prop := RepV μ (.sl 6 ((rs.map Ru.rd).map RuD.d)) v
section
variable {μ : Mem}
theorem FsV.sl {L : List F} {v : Value} (h : FsV μ L v) : ∃ b c, v = .slice b L.length c ∧ L.length ≤ c ∧ Sl μ 2 b L.length ((L.map F.fc).map Fc.d) := by
 have w_ := Rep.sl h
 obtain ⟨b, c, rfl, hs⟩ := w_
 have hl := Rep.lens h
 simp only [List.length_map] at hs hl ⊢
 exact ⟨b, c, rfl, hl, hs⟩
theorem RsV.sl {L : List Ru} {v : Value} (h : RsV μ L v) : ∃ b c, v = .slice b L.length c ∧ Sl μ 6 b L.length ((L.map Ru.rd).map RuD.d) := by
 have w_ := Rep.sl h
 obtain ⟨b, c, rfl, hs⟩ := w_
 simp only [List.length_map] at hs ⊢
 exact ⟨b, c, rfl, hs⟩
theorem FsV.nil (b : Option Addr) (c : Nat) : FsV μ [] (.slice b 0 c) := ⟨b, c, rfl, ⟨Nat.zero_le _, Nat.zero_le _⟩, (fun _ h => nomatch h), .inl rfl⟩
def Ru.cs (r : Ru) (p : RuD.P) : List Value := [.string r.head.rel, .slice p.1.1 r.head.args.length p.1.2, .int .i64 r.clause, .slice p.2.1.1 r.vals.length p.2.1.2, .slice p.2.2.1.1 r.pos.length p.2.2.1.2, .slice p.2.2.2.1 r.neg.length p.2.2.2.2]
structure Ru.At (μ : Mem) (r : Ru) (p : RuD.P) : Prop where
 head : RepV μ r.head.fc.d (.agg #[.string r.head.rel, .slice p.1.1 r.head.args.length p.1.2])
 pos : Sl μ 2 p.2.2.1.1 r.pos.length ((r.pos.map F.fc).map Fc.d)
 neg : Sl μ 2 p.2.2.2.1 r.neg.length ((r.neg.map F.fc).map Fc.d)
theorem Ru.at {r : Ru} {p : RuD.P} (h : RepV μ r.rd.d (.agg (r.cs p).toArray)) : r.At μ p := by
 have h0 := h
 rw [RuD.d_eq] at h
 obtain ⟨cs, e, h⟩ := h
 have e := (Value.agg.inj e)
 have e : cs = r.cs p := by
  have := congrArg Array.toList e
  simpa using this.symm
 subst e
 have w_ := Ru.inv h0
 obtain ⟨q, e, h1, h2, h3, h4⟩ := w_
 have e := Value.agg.inj e
 have e : r.cs p = r.cs q := by simpa [Ru.cs] using congrArg Array.toList e
 simp only [Ru.cs, List.cons.injEq, Value.slice.injEq, true_and, and_true] at e
 obtain ⟨⟨e1, e2⟩, ⟨e3, e4⟩, ⟨e5, e6⟩, e7, e8⟩ := e
 refine ⟨?_, by rw [e5]; exact h3, by rw [e7]; exact h4⟩
 obtain ⟨c1, c2, k1, k2, k3⟩ := h
 obtain ⟨d1, d2, m1, m2, m3⟩ := k3
 have l1 : c1 = [.string r.head.rel] := k2
 subst l1
 obtain ⟨b, c, l2, l3⟩ := m2
 subst l2
 subst m1
 simp only [Ru.cs, List.cons_append, List.nil_append, List.cons.injEq, true_and] at k1
 obtain ⟨k1, _⟩ := k1
 refine F.mkV ?_
 rw [k1]
 exact ⟨b, c, rfl, l3⟩
theorem Ru.elem {l : List Ru} {base : Option Addr} {n : Nat} (h : Sl μ 6 base n ((l.map Ru.rd).map RuD.d)) {i : Nat} {r : Ru} (hr : l[i]? = some r) : ∃ ad, ∃ p : RuD.P, ElemAt μ base n 6 i ad (r.cs p) ∧ RepV μ r.rd.d (.agg (r.cs p).toArray) ∧ r.At μ p := by
 have w_ := RuD.elem h (i := i) (x := r.rd) (by simp [hr])
 obtain ⟨ad, p, h1, h2⟩ := w_
 have e : r.rd.cs p = r.cs p := by
  show [_, Value.slice p.1.1 (r.head.args.map T.tm).length p.1.2, _, Value.slice p.2.1.1 (r.vals.map T.tm).length p.2.1.2, Value.slice p.2.2.1.1 (r.pos.map F.fc).length p.2.2.1.2, Value.slice p.2.2.2.1 (r.neg.map F.fc).length p.2.2.2.2] = _
  simp only [List.length_map]; rfl
 rw [e] at h1 h2
 exact ⟨ad, p, h1, h2, Ru.at h2⟩
theorem l18Insert_spec {L : List F} {f : F} {v w : Value} (hL : Asc3 cmpF L) (h : FsV μ L v) (hf : RepV μ f.fc.d w) (hn : L.length ≤ 10000000) :
  Spec Tryz.prog 105 [v, w] μ fun r μ' => FsV μ' (insF L f) r := by
 have w_ := FsV.sl h
 obtain ⟨b, c, rfl, hlc, hs⟩ := w_
 have hf0 := hf
 have w_ := F.inv hf
 obtain ⟨p, rfl, hfs⟩ := w_
 have w_ := Rep.src h
 obtain ⟨vs, hrows, hvs, hcap, hsrc⟩ := w_
 refine Spec.mk Tryz.func105 (by kernel_rfl) ?_
 intro r3
 refine lIn (fun k : Nat => k ≤ L.length ∧ ∀ x ∈ L.drop k, ¬ cmpF x f < 0)
  (fun k => ⟨[(0, .val (.slice b L.length c)), (3, .loc 0 r3 0), (5, .val (.int .i64 k))], [(0, some (.cells r3 [.val (.string f.rel), .val (.slice p.1 f.args.length p.2)] 67))], 1, μ, Mem.nil⟩) (fun k => k)
  L.length ⟨Nat.le_refl _, by simp⟩ (fun _ => ⟨rfl, rfl⟩) ⟨⟨rfl, rfl, rfl, trivial⟩, ⟨rfl, trivial⟩, rfl, rfl⟩ ?_
 rintro k ⟨hk, hge⟩
 refine ifd (fun h0 => ?_) (fun h0 => ?_)
 ·obtain ⟨k, rfl⟩ : ∃ k', k = k' + 1 := ⟨k - 1, by omega⟩
  have w_ := aSo (l := L) (i := k) (by omega)
  obtain ⟨y, hy⟩ := w_
  have w_ := F.elem hs hy
  obtain ⟨ad3, p3, hel3, hry, hsy⟩ := w_
  refine nEq (x := (k : Int)) (by rw [wrap64 (by omega) (by omega)]; omega) ?_
  refine eIn hel3 ?_
  refine cGv (l18Cmp_spec hry hf0) ?_
  refine ifd (fun hc => ?_) (fun hc => ?_)
  ·refine nEq (x := (k : Int)) (by rw [wrap64 (by omega) (by omega)]; omega) ⟨k, ⟨by omega, fun x hx => ?_⟩, by omega, ⟨⟨rfl, rfl, rfl, trivial⟩, ⟨rfl, trivial⟩, rfl, rfl⟩⟩
   rw [drop_at hy] at hx
   rcases List.mem_cons.1 hx with rfl | hx
   ·omega
   ·exact hge x hx
  ·have hlt3 := hL.take_lt cmpF_ord hy (e := f) (by omega)
   generalize k + 1 = k at *
   refine ifd (fun hkl => ?_) (fun hkl => ?_)
   ·have w_ := aSo (l := L) (i := k) (by omega)
    obtain ⟨y2, hy2⟩ := w_
    have w_ := F.elem hs hy2
    obtain ⟨ad4, p4, hel4, hry2, hsy2⟩ := w_
    refine eIn hel4 ?_
    refine cGv (l18Cmp_spec hry2 hf0) ?_
    refine ifd (fun hc2 => ?_) (fun hc2 => ?_)
    ·have : f ∈ L := by rw [← (cmpF_ord.zero _ _).1 hc2]; exact mAt hy2
     rw [insF_old hL this]
     exact rPl h
    ·have hgt3 : ∀ x ∈ L.drop k, cmpF f x < 0 := hL.drop_gt cmpF_ord hy2 (cmpF_ord.ge_pos (hge y2 (by rw [drop_at hy2]; simp)) hc2)
     intro r70
     refine cut_intro 0 k rfl rfl (by omega) (by omega) ?_
     refine src_intro _ (hsrc 0 k (by omega) hk) ?_
     refine gIn ?_ ?_ fun b1 c1 _ => ?_
     ·show (0 + _) * 40 ≤ _; simp; omega
     ·exact Nat.le_trans (m := 2000000000) (by simp; omega) (by decide)
     intro r77
     refine gIn ?_ ?_ fun b2 c2 _ => ?_
     ·show (_ + 1) * 40 ≤ _; simp; omega
     ·exact Nat.le_trans (m := 2000000000) (by simp; omega) (by decide)
     refine cut_intro k L.length rfl rfl hk (by omega) ?_
     refine src_intro _ (hsrc k L.length hk (Nat.le_refl _)) ?_
     refine gIn ?_ ?_ fun b3 c3 _ => ?_
     ·show (_ + _) * 40 ≤ _; simp; omega
     ·exact Nat.le_trans (m := 3000000000) (by simp; omega) (by decide)
     have hr2 := (hrows.take k).append ((Rows.one hf0 (Fc.d_n _)).append (hrows.drop k))
     have ev : (([] : List Value) ++ (vs.drop 0).take (k - 0) ++ [.agg #[.string f.rel, .slice p.1 f.args.length p.2]] ++ (vs.drop k).take (L.length - k)) = vs.take k ++ ([.agg #[.string f.rel, .slice p.1 f.args.length p.2]] ++ vs.drop k) := by
      simp
      rw [List.take_of_length_le (by simp; omega)]
     have hins := insF_at hL hlt3 hgt3
     have e2 : ((insF L f).map F.fc).map Fc.d = ((L.map F.fc).map Fc.d).take k ++ ([f.fc.d] ++ ((L.map F.fc).map Fc.d).drop k) := by rw [← hins]; simp
     have e3 : (vs.take k ++ ([Value.agg #[.string f.rel, .slice p.1 f.args.length p.2]] ++ vs.drop k)).length = (insF L f).length := by rw [← hins]; simp; omega
     refine rFz [1] fun μ2 hle2 hno2 hrow2 => .inl ?_
     rw [ev] at hrow2
     have e4 : (insF L f).length ≤ L.length + 1 := insF_len L f
     have := Rows.sl hrow2 (hr2.mono hle2) (Nat.le_trans (m := 3000000000) (by rw [e3]; omega) (by decide))
     rw [← e2] at this
     rw [ev]
     exact this
   ·have hgt3 : ∀ x ∈ L.drop k, cmpF f x < 0 := by
     rw [List.drop_of_length_le (by omega)]; simp
    intro r70
    refine cut_intro 0 k rfl rfl (by omega) (by omega) ?_
    refine src_intro _ (hsrc 0 k (by omega) hk) ?_
    refine gIn ?_ ?_ fun b1 c1 _ => ?_
    ·show (0 + _) * 40 ≤ _; simp; omega
    ·exact Nat.le_trans (m := 2000000000) (by simp; omega) (by decide)
    intro r77
    refine gIn ?_ ?_ fun b2 c2 _ => ?_
    ·show (_ + 1) * 40 ≤ _; simp; omega
    ·exact Nat.le_trans (m := 2000000000) (by simp; omega) (by decide)
    refine cut_intro k L.length rfl rfl hk (by omega) ?_
    refine src_intro _ (hsrc k L.length hk (Nat.le_refl _)) ?_
    refine gIn ?_ ?_ fun b3 c3 _ => ?_
    ·show (_ + _) * 40 ≤ _; simp; omega
    ·exact Nat.le_trans (m := 3000000000) (by simp; omega) (by decide)
    have hr2 := (hrows.take k).append ((Rows.one hf0 (Fc.d_n _)).append (hrows.drop k))
    have ev : (([] : List Value) ++ (vs.drop 0).take (k - 0) ++ [.agg #[.string f.rel, .slice p.1 f.args.length p.2]] ++ (vs.drop k).take (L.length - k)) = vs.take k ++ ([.agg #[.string f.rel, .slice p.1 f.args.length p.2]] ++ vs.drop k) := by
     simp
     rw [List.take_of_length_le (by simp; omega)]
    have hins := insF_at hL hlt3 hgt3
    have e2 : ((insF L f).map F.fc).map Fc.d = ((L.map F.fc).map Fc.d).take k ++ ([f.fc.d] ++ ((L.map F.fc).map Fc.d).drop k) := by rw [← hins]; simp
    have e3 : (vs.take k ++ ([Value.agg #[.string f.rel, .slice p.1 f.args.length p.2]] ++ vs.drop k)).length = (insF L f).length := by rw [← hins]; simp; omega
    refine rFz [1] fun μ2 hle2 hno2 hrow2 => .inl ?_
    rw [ev] at hrow2
    have e4 : (insF L f).length ≤ L.length + 1 := insF_len L f
    have := Rows.sl hrow2 (hr2.mono hle2) (Nat.le_trans (m := 3000000000) (by rw [e3]; omega) (by decide))
    rw [← e2] at this
    rw [ev]
    exact this
 ·have hk0 : k = 0 := by omega
  have hlt3 : ∀ x ∈ L.take k, cmpF x f < 0 := by rw [hk0]; simp
  refine ifd (fun hkl => ?_) (fun hkl => ?_)
  ·have w_ := aSo (l := L) (i := k) (by omega)
   obtain ⟨y2, hy2⟩ := w_
   have w_ := F.elem hs hy2
   obtain ⟨ad4, p4, hel4, hry2, hsy2⟩ := w_
   refine eIn hel4 ?_
   refine cGv (l18Cmp_spec hry2 hf0) ?_
   refine ifd (fun hc2 => ?_) (fun hc2 => ?_)
   ·have : f ∈ L := by rw [← (cmpF_ord.zero _ _).1 hc2]; exact mAt hy2
    rw [insF_old hL this]
    exact rPl h
   ·have hgt3 : ∀ x ∈ L.drop k, cmpF f x < 0 := hL.drop_gt cmpF_ord hy2 (cmpF_ord.ge_pos (hge y2 (by rw [drop_at hy2]; simp)) hc2)
    intro r70
    refine cut_intro 0 k rfl rfl (by omega) (by omega) ?_
    refine src_intro _ (hsrc 0 k (by omega) hk) ?_
    refine gIn ?_ ?_ fun b1 c1 _ => ?_
    ·show (0 + _) * 40 ≤ _; simp; omega
    ·exact Nat.le_trans (m := 2000000000) (by simp; omega) (by decide)
    intro r77
    refine gIn ?_ ?_ fun b2 c2 _ => ?_
    ·show (_ + 1) * 40 ≤ _; simp; omega
    ·exact Nat.le_trans (m := 2000000000) (by simp; omega) (by decide)
    refine cut_intro k L.length rfl rfl hk (by omega) ?_
    refine src_intro _ (hsrc k L.length hk (Nat.le_refl _)) ?_
    refine gIn ?_ ?_ fun b3 c3 _ => ?_
    ·show (_ + _) * 40 ≤ _; simp; omega
    ·exact Nat.le_trans (m := 3000000000) (by simp; omega) (by decide)
    have hr2 := (hrows.take k).append ((Rows.one hf0 (Fc.d_n _)).append (hrows.drop k))
    have ev : (([] : List Value) ++ (vs.drop 0).take (k - 0) ++ [.agg #[.string f.rel, .slice p.1 f.args.length p.2]] ++ (vs.drop k).take (L.length - k)) = vs.take k ++ ([.agg #[.string f.rel, .slice p.1 f.args.length p.2]] ++ vs.drop k) := by
     simp
     rw [List.take_of_length_le (by simp; omega)]
    have hins := insF_at hL hlt3 hgt3
    have e2 : ((insF L f).map F.fc).map Fc.d = ((L.map F.fc).map Fc.d).take k ++ ([f.fc.d] ++ ((L.map F.fc).map Fc.d).drop k) := by rw [← hins]; simp
    have e3 : (vs.take k ++ ([Value.agg #[.string f.rel, .slice p.1 f.args.length p.2]] ++ vs.drop k)).length = (insF L f).length := by rw [← hins]; simp; omega
    refine rFz [1] fun μ2 hle2 hno2 hrow2 => .inl ?_
    rw [ev] at hrow2
    have e4 : (insF L f).length ≤ L.length + 1 := insF_len L f
    have := Rows.sl hrow2 (hr2.mono hle2) (Nat.le_trans (m := 3000000000) (by rw [e3]; omega) (by decide))
    rw [← e2] at this
    rw [ev]
    exact this
  ·have hgt3 : ∀ x ∈ L.drop k, cmpF f x < 0 := by
    rw [List.drop_of_length_le (by omega)]; simp
   intro r70
   refine cut_intro 0 k rfl rfl (by omega) (by omega) ?_
   refine src_intro _ (hsrc 0 k (by omega) hk) ?_
   refine gIn ?_ ?_ fun b1 c1 _ => ?_
   ·show (0 + _) * 40 ≤ _; simp; omega
   ·exact Nat.le_trans (m := 2000000000) (by simp; omega) (by decide)
   intro r77
   refine gIn ?_ ?_ fun b2 c2 _ => ?_
   ·show (_ + 1) * 40 ≤ _; simp; omega
   ·exact Nat.le_trans (m := 2000000000) (by simp; omega) (by decide)
   refine cut_intro k L.length rfl rfl hk (by omega) ?_
   refine src_intro _ (hsrc k L.length hk (Nat.le_refl _)) ?_
   refine gIn ?_ ?_ fun b3 c3 _ => ?_
   ·show (_ + _) * 40 ≤ _; simp; omega
   ·exact Nat.le_trans (m := 3000000000) (by simp; omega) (by decide)
   have hr2 := (hrows.take k).append ((Rows.one hf0 (Fc.d_n _)).append (hrows.drop k))
   have ev : (([] : List Value) ++ (vs.drop 0).take (k - 0) ++ [.agg #[.string f.rel, .slice p.1 f.args.length p.2]] ++ (vs.drop k).take (L.length - k)) = vs.take k ++ ([.agg #[.string f.rel, .slice p.1 f.args.length p.2]] ++ vs.drop k) := by
    simp
    rw [List.take_of_length_le (by simp; omega)]
   have hins := insF_at hL hlt3 hgt3
   have e2 : ((insF L f).map F.fc).map Fc.d = ((L.map F.fc).map Fc.d).take k ++ ([f.fc.d] ++ ((L.map F.fc).map Fc.d).drop k) := by rw [← hins]; simp
   have e3 : (vs.take k ++ ([Value.agg #[.string f.rel, .slice p.1 f.args.length p.2]] ++ vs.drop k)).length = (insF L f).length := by rw [← hins]; simp; omega
   refine rFz [1] fun μ2 hle2 hno2 hrow2 => .inl ?_
   rw [ev] at hrow2
   have e4 : (insF L f).length ≤ L.length + 1 := insF_len L f
   have := Rows.sl hrow2 (hr2.mono hle2) (Nat.le_trans (m := 3000000000) (by rw [e3]; omega) (by decide))
   rw [← e2] at this
   rw [ev]
   exact this
theorem l18Has_spec {L : List F} {f : F} {b : Option Addr} {c : Nat} {w : Value} (hs : Sl μ 2 b L.length ((L.map F.fc).map Fc.d)) (hf : RepV μ f.fc.d w) :
  Gives Tryz.prog 92 [.slice b L.length c, w] μ (.bool (decide (f ∈ L))) := by
 have hf0 := hf
 have w_ := F.inv hf
 obtain ⟨p, rfl, hfs⟩ := w_
 have hn := maxLen_le hs.max
 refine Spec.mk Tryz.func92 (by kernel_rfl) ?_
 intro r3
 refine lIn (fun k : Nat => k ≤ L.length ∧ f ∉ L.take k)
  (fun k => ⟨[(3, .loc 0 r3 0), (7, .val (.slice b L.length c)), (8, .val (.int .i64 L.length)), (9, .val (.int .i64 k))], [(0, some (.cells r3 [.val (.string f.rel), .val (.slice p.1 f.args.length p.2)] 67))], 1, μ, Mem.nil⟩) (fun k => L.length - k)
  0 ⟨Nat.zero_le _, by simp⟩ (fun _ => ⟨rfl, rfl⟩) ⟨⟨rfl, rfl, rfl, rfl, trivial⟩, ⟨rfl, trivial⟩, rfl, rfl⟩ ?_
 rintro k ⟨hk, hno⟩
 refine ifd (fun hlt => ?_) (fun hlt => ?_)
 ·have w_ := aSo (l := L) (i := k) (by omega)
  obtain ⟨y, hy⟩ := w_
  have w_ := F.elem hs hy
  obtain ⟨ad3, p3, hel3, hry, hsy⟩ := w_
  refine eIn hel3 ?_
  intro r6
  refine cGv (l18Cmp_spec hry hf0) ?_
  refine ifd (fun hc => ?_) (fun hc => ?_)
  ·refine rGv ?_ rfl
   rw [decide_eq_true]
   rw [← (cmpF_ord.zero _ _).1 hc]; exact mAt hy
  ·refine num64 (by omega) (by omega) ⟨k + 1, ⟨by omega, ?_⟩, by omega, ⟨⟨rfl, rfl, rfl, rfl, trivial⟩, ⟨rfl, trivial⟩, rfl, rfl⟩⟩
   rw [List.take_add_one, hy, Option.toList_some, List.mem_append, List.mem_singleton]
   rintro (k1 | k1)
   ·exact hno k1
   ·exact hc ((cmpF_ord.zero _ _).2 k1.symm)
 ·obtain rfl : k = L.length := by omega
  rw [List.take_length] at hno
  refine rGv ?_ rfl
  rw [decide_eq_false hno]
theorem take_all_at {α : Type} {l : List α} {i : Nat} {x : α} {P : α → Prop} (h : ∀ y ∈ l.take i, P y) (hx : l[i]? = some x) (hp : P x) : ∀ y ∈ l.take (i + 1), P y := by
 rw [List.take_add_one, hx, Option.toList_some]
 intro y hy
 rcases List.mem_append.1 hy with k | k
 ·exact h y k
 ·rw [List.mem_singleton.1 k]; exact hp
theorem l19Fires_spec {r : Ru} {pos neg : List F} {v : Value} {b b2 : Option Addr} {c c2 : Nat} (hr : RepV μ r.rd.d v) (hs : Sl μ 2 b pos.length ((pos.map F.fc).map Fc.d)) (hs2 : Sl μ 2 b2 neg.length ((neg.map F.fc).map Fc.d)) :
  Gives Tryz.prog 111 [v, .slice b pos.length c, .slice b2 neg.length c2] μ (.bool (decide (fires pos neg r))) := by
 have w_ := Ru.inv hr
 obtain ⟨p, rfl, -, -, h3, h4⟩ := w_
 have hm1 := maxLen_le h3.max
 have hm2 := maxLen_le h4.max
 refine Spec.mk Tryz.func111 (by kernel_rfl) ?_
 intro r3
 refine lIn (fun k : Nat => k ≤ r.pos.length ∧ ∀ f ∈ r.pos.take k, f ∈ pos)
  (fun k => ⟨[(1, .val (.slice b pos.length c)), (2, .val (.slice b2 neg.length c2)), (3, .loc 0 r3 0), (12, .val (.slice p.2.2.1.1 r.pos.length p.2.2.1.2)), (13, .val (.int .i64 r.pos.length)), (14, .val (.int .i64 k))], [(0, some (.cells r3 (vals (r.cs p)) 126))], 1, μ, Mem.nil⟩) (fun k => r.pos.length - k)
  0 ⟨Nat.zero_le _, by simp⟩ (fun _ => ⟨rfl, rfl⟩) ⟨⟨rfl, rfl, rfl, rfl, rfl, rfl, trivial⟩, ⟨rfl, trivial⟩, rfl, rfl⟩ ?_
 rintro k ⟨hk, hall⟩
 refine ifd (fun hlt => ?_) (fun hlt => ?_)
 ·have w_ := aSo (l := r.pos) (i := k) (by omega)
  obtain ⟨y, hy⟩ := w_
  have w_ := F.elem h3 hy
  obtain ⟨ad3, p3, hel3, hry, hsy⟩ := w_
  refine eIn hel3 ?_
  intro r8
  refine cGv (l18Has_spec hs hry) ?_
  refine ifnd (fun h => rGv (isF fun k => h (k.1 y (mAt hy))) rfl) (fun h => ?_)
  ·exact num64 (by omega) (by omega) ⟨k + 1, ⟨by omega, take_all_at hall hy h⟩, by omega, ⟨⟨rfl, rfl, rfl, rfl, rfl, rfl, trivial⟩, ⟨rfl, trivial⟩, rfl, rfl⟩⟩
 obtain rfl : k = r.pos.length := by omega
 rw [List.take_length] at hall
 refine lIn (fun k : Nat => k ≤ r.neg.length ∧ ∀ f ∈ r.neg.take k, f ∉ neg)
  (fun k => ⟨[(2, .val (.slice b2 neg.length c2)), (24, .val (.slice p.2.2.2.1 r.neg.length p.2.2.2.2)), (25, .val (.int .i64 r.neg.length)), (26, .val (.int .i64 k))], [], 1, μ, Mem.nil⟩) (fun k => r.neg.length - k)
  0 ⟨Nat.zero_le _, by simp⟩ (fun _ => ⟨rfl, rfl⟩) ⟨⟨rfl, rfl, rfl, rfl, trivial⟩, trivial, rfl, rfl⟩ ?_
 rintro k ⟨hk, hall2⟩
 refine ifd (fun hlt => ?_) (fun hlt => ?_)
 ·have w_ := aSo (l := r.neg) (i := k) (by omega)
  obtain ⟨y, hy⟩ := w_
  have w_ := F.elem h4 hy
  obtain ⟨ad3, p3, hel3, hry, hsy⟩ := w_
  refine eIn hel3 ?_
  intro r8
  refine cGv (l18Has_spec hs2 hry) ?_
  refine ifd (fun h => rGv (isF fun k => (k.2 y (mAt hy)) h) rfl) (fun h => ?_)
  ·exact num64 (by omega) (by omega) ⟨k + 1, ⟨by omega, take_all_at hall2 hy h⟩, by omega, ⟨⟨rfl, rfl, rfl, rfl, trivial⟩, trivial, rfl, rfl⟩⟩
 obtain rfl : k = r.neg.length := by omega
 rw [List.take_length] at hall2
 exact rGv (isT ⟨hall, hall2⟩) rfl
end
end Go.Vx
namespace Go.Vx
open Go.Proofs Classical
open Go.Sort
abbrev FE := F × Value
noncomputable instance : Inhabited F := ⟨⟨⟨#[]⟩, []⟩⟩
theorem slFact : SlTy 52 67 Tryz.t52 Tryz.t67 25 := ⟨by kernel_rfl, by kernel_rfl, by kernel_rfl, by kernel_rfl, fun _ => by kernel_rfl, by kernel_rfl⟩
noncomputable def ltF (a b : FE) : Bool := decide (cmpF a.1 b.1 < 0)
theorem swo_ltF : SWO ltF := ⟨fun x => cmpF_ord.swo.irrefl x.1, fun x y z => cmpF_ord.swo.trans x.1 y.1 z.1, fun x y z => cmpF_ord.swo.ntrans x.1 y.1 z.1⟩
theorem sortedF_new {S : List F} (hS : ∀ (a b : Nat) x y, a < b → S[a]? = some x → S[b]? = some y → ¬ cmpF y x < 0) {i : Nat} {e y : F} (hi : S[i + 1]? = some e) (hy : S[i]? = some y) (hne : cmpF y e ≠ 0) : ∀ x ∈ S.take (i + 1), cmpF x e < 0 := by
 have h1 : cmpF y e < 0 := cmpF_ord.ge_pos (hS i (i + 1) y e (by omega) hy hi) (cmpF_ord.ne_comm hne)
 intro x hx
 have w_ := List.mem_iff_getElem?.1 hx
 obtain ⟨t, ht⟩ := w_
 rw [List.getElem?_take] at ht
 split at ht
 ·rename_i hlt
  refine cmpF_ord.le_lt ?_ h1
  rcases Nat.lt_or_ge t i with k | k
  ·exact hS t i x y k ht hy
  ·obtain rfl : t = i := by omega
   rw [hy] at ht; cases ht
   exact cmpF_ord.irrefl _
 ·cases ht
def FElts (μ : Mem) (l : List FE) : Prop := ∀ p ∈ l, RepV μ p.1.fc.d p.2
section
variable {μ h0 : Mem} {r : Nat} {ty : TypeId} {rest : List Value}
theorem FElts.mono {μ' : Mem} {l : List FE} (h : FElts μ l) (hle : μ.Le μ') : FElts μ' l := fun p hp => RepV.mono hle (h p hp)
theorem FElts.perm {l m : List FE} (h : FElts μ l) (p : m.Perm l) : FElts μ m := fun q hq => h q (p.mem_iff.1 hq)
theorem FElts.els {d : Array FE} (h : FElts μ d.toList) : Els 2 (d.map Prod.snd) := fun x hx => by
 simp only [Array.toList_map, List.mem_map] at hx
 obtain ⟨p, hp, rfl⟩ := hx
 have w_ := F.inv (h p hp)
 obtain ⟨q, e, _⟩ := w_
 rw [e]
 exact ⟨rfl, fun u hu => by simp only [vcells, List.mem_cons, List.not_mem_nil, or_false] at hu; rcases hu with rfl | rfl <;> rfl⟩
theorem FElts.at {d : Array FE} {n : Nat} (h : FElts μ d.toList) (hn : d.size = n) {i : Nat} (hi : i < n) : ∃ p : Fc.P, d[i]!.2 = .agg (d[i]!.1.cs p).toArray ∧ RepV μ d[i]!.1.fc.d (.agg (d[i]!.1.cs p).toArray) := by
 have hm : d[i]! ∈ d.toList := by
  rw [getElem!_pos d i (by omega)]
  exact Array.getElem_mem_toList _
 have hv := h _ hm
 have w_ := F.inv hv
 obtain ⟨p, e, _⟩ := w_
 rw [e] at hv
 exact ⟨p, e, hv⟩
theorem rdO {h : Mem} {b : Nat} {d : Array Value} {i : Nat} {x y : Value} {K : List Value → Prop} (hb : h b = some (.cells (List.toArray (d.toList.flatMap vcells ++ rest)) ty (0, 0))) (hE : Els 2 d) (hi : i < d.size) (e : d[i]! = .agg #[x, y]) (k : K [x, y]) : extVC μ h ⟨b, i * 2, none⟩ 2 K := by
 have hh : RowV h b ty rest d = h := funext fun k => by
  rw [RowV]
  by_cases e : k = b
  ·subst e; rw [Mem.set_at, hb]
  ·rw [Mem.set_ne e]
 refine oIn [x, y] rfl (fun j z hz => ?_) k
 rw [Addr.add_lit']
 rw [← hh]
 refine RowV.cell hE hi ?_
 rw [e]
 exact hz
theorem sortFacts1_spec {rs n cap i j : Nat} {d : Array FE} (hs : h0 rs = some (.cells #[.slice (some ⟨r, 0, none⟩) n cap] 52 (0, 0))) (hne : rs ≠ r) (hP : FElts μ d.toList) (hn : d.size = n) (hi : i < n) (hj : j < n) :
  SpecH Tryz.prog 162 [.int .i64 i, .int .i64 j, .pointer (some ⟨rs, 0, none⟩)] μ (RowV h0 r ty rest (d.map Prod.snd)) fun v μ' h' => v = .bool (ltF d[i]! d[j]!) ∧ μ' = μ ∧ h' = RowV h0 r ty rest (d.map Prod.snd) := by
 have hrs : RowV h0 r ty rest (d.map Prod.snd) rs = some (.cells #[.slice (some ⟨r, 0, none⟩) n cap] 52 (0, 0)) := (Mem.set_ne hne).trans hs
 have hb : RowV h0 r ty rest (d.map Prod.snd) r = some (.cells (List.toArray ((d.map Prod.snd).toList.flatMap vcells ++ rest)) ty (0, 0)) := Mem.set_at _ _ _
 have w_ := hP.at hn hi
 obtain ⟨p, e1, hs1⟩ := w_
 have w_ := hP.at hn hj
 obtain ⟨q, e2, hs2⟩ := w_
 refine SpecH.mk [] Tryz.func162 (by kernel_rfl) ?_
 refine oIn [.slice (some ⟨r, 0, none⟩) n cap] rfl (box_at hrs) ?_
 refine idxV i rfl hi ?_
 refine rdO hb hP.els (by simpa [hn] using hi) ((map_get (by omega)).trans e1) ?_
 refine oIn [.slice (some ⟨r, 0, none⟩) n cap] rfl (box_at hrs) ?_
 refine idxV j rfl hj ?_
 refine rdO hb hP.els (by simpa [hn] using hj) ((map_get (by omega)).trans e2) ?_
 refine cGv (orderFacts_spec hs1 hs2) ?_
 exact rPl ⟨rfl, rfl, rfl⟩
end
def NewRow (μ μ' : Mem) (ys : List Value) (v : Value) : Prop := ∃ b c, ∃ g : Mem, v = .slice (some ⟨b, 0, none⟩) ys.length c ∧ RowO g b c 67 2 ys ∧ g.Le μ' ∧ ∀ x, g x ≠ none → μ x = none
theorem fst_at {d : Array FE} {n i : Nat} (hn : d.size = n) (hi : i < n) : (d.toList.map Prod.fst)[i]? = some d[i]!.1 := by
 rw [List.getElem?_map, getElem!_pos d i (by omega), Array.getElem?_toList, Array.getElem?_eq_getElem (by omega)]
 rfl
section
variable {μ : Mem}
set_option maxHeartbeats 8000000 in
theorem sortFacts_core {l : List FE} {base : Option Addr} {cap : Nat} (hsrc : SrcAt μ base l.length 2 (l.map Prod.snd)) (hE : FElts μ l) (hn : l.length ≤ 100000000) :
  Spec Tryz.prog 94 [.slice base l.length cap] μ fun v μ' => ∃ l' : List FE, (∃ dl : List FE, dl.Perm l ∧ l'.Sublist dl) ∧ l'.map Prod.fst = ascF (l.map Prod.fst) ∧ NewRow μ μ' (l'.map Prod.snd) v := by
 generalize hvs : l.map Prod.snd = vs at hsrc
 have hvl : vs.length = l.length := by rw [← hvs, List.length_map]
 refine Spec.mkO [3, 7, 14] Tryz.func94 (by kernel_rfl) ?_
 intro r22 hm22 ho22
 refine src_intro _ hsrc ?_
 refine app_intro [] rfl ⟨[], Mem.set_at _ _ _, by simp, by simp, by simp, rfl, rfl⟩ ?_ ?_ fun b c o hrow hor => ?_
 ·show (0 + _) * 40 ≤ _; omega
 ·exact Nat.le_trans (m := 2000000000) (by omega) (by decide)
 generalize hH1 : Mem.set (Mem.set _ r22 _) b o = H1
 have hB1 : RowO H1 b c 67 2 vs := by rw [← hH1]; exact hrow
 have hap1 : Apart μ H1 := by
  rw [← hH1]
  refine ((apart_nil μ).set hm22).set ?_
  rcases hor with rfl | h
  ·exact hm22
  ·exact h.2
 clear hrow hor hH1 hm22 ho22
 have hN : 0 + vs.length = l.length := by omega
 rw [hN]
 intro r5 hm5 ho5
 refine sIn [.slice none 0 0] 52 (Mem.set_at _ _ _) rfl (Nat.le_refl _) ?_
 obtain ⟨cs, hcell, hlen0, hcap, hone, hcs, htake⟩ := hB1
 obtain ⟨rest, rfl⟩ : ∃ rest, cs = vs.flatMap vcells ++ rest := by
  refine ⟨cs.drop (vs.length * 2), ?_⟩
  conv => lhs; rw [← List.take_append_drop (vs.length * 2) cs, htake]
 have hne : r5 ≠ b := fun e => by
  have h5 : H1 r5 = none := ho5
  rw [e, hcell] at h5; cases h5
 obtain ⟨h0, hh0, hsplit⟩ : ∃ h0 : Mem, h0 r5 = some (.cells #[.slice (some ⟨b, 0, none⟩) l.length c] 52 (0, 0)) ∧ ((H1.set r5 (.cells #[.slice none 0 0] 52 (0, 0))).set r5 (.cells #[.slice (some ⟨b, 0, none⟩) l.length c] 52 (0, 0))) = RowV h0 b 67 rest vs.toArray := by
  refine ⟨fun k => if k = b then none else ((H1.set r5 (.cells #[.slice none 0 0] 52 (0, 0))).set r5 (.cells #[.slice (some ⟨b, 0, none⟩) l.length c] 52 (0, 0))) k, by simp only [if_neg hne]; exact Mem.set_at _ _ _, funext fun k => ?_⟩
  rw [RowV]
  by_cases e : k = b
  ·subst e; rw [Mem.set_ne (Ne.symm hne), Mem.set_ne (Ne.symm hne), hcell, Mem.set_at]
  ·conv => rhs; rw [Mem.set_ne e]
   rw [if_neg e]
 have hap2 : Apart μ (RowV h0 b 67 rest vs.toArray) := by
  rw [← hsplit]
  exact (hap1.set hm5).set hm5
 have ea : vs.toArray = l.toArray.map Prod.snd := by simp [hvs]
 have hzn : l.toArray.size = l.length := by simp
 have hspec := SortStable_spec (μ := μ) (h0 := h0) (r := b) (ty := 67) (rest := rest) (cap := c) (d0 := l.toArray) (lf := 162) (lb := [.pointer (some ⟨r5, 0, none⟩)]) (enc := Prod.snd) slFact (ttok.get rfl) (fun h => nomatch h) (FElts.els (μ := μ) (by simpa using hE)) hzn (by omega) swo_ltF
  fun {μ' d i j} hle' hV hi hj => sortFacts1_spec hh0 hne (FElts.perm (FElts.mono (by simpa using hE) hle') (permIn_list hzn hV)) (hV.1.trans hzn) hi hj
 rw [← ea, ← hsplit] at hspec
 refine oIn [.slice (some ⟨b, 0, none⟩) l.length c] rfl (box_at (Mem.set_at _ _ _)) ?_
 refine cOw hspec fun v μ2 h2 hle2 hap3 hR => ?_
 obtain ⟨rfl, d', p1, p2, rfl⟩ := hR
 have hdn : d'.size = l.length := p1.1.trans hzn
 have hpd : d'.toList.Perm l := by simpa using permIn_list hzn p1
 have hP2 : FElts μ2 d'.toList := FElts.perm (hE.mono hle2) hpd
 generalize hS : d'.toList.map Prod.fst = S
 have hSp : S.Perm (l.map Prod.fst) := by rw [← hS]; exact hpd.map _
 have hSl : S.length = l.length := by rw [hSp.length_eq, List.length_map]
 have hSat : ∀ i, i < l.length → S[i]? = some d'[i]!.1 := fun i hi => by rw [← hS]; exact fst_at hdn hi
 have hSS : ∀ (a b : Nat) x y, a < b → S[a]? = some x → S[b]? = some y → ¬ cmpF y x < 0 := fun a b' x y hab hx hy => by
  have hb' := (List.getElem?_eq_some_iff.1 hy).1
  have h3 := p2 a b' (Nat.zero_le _) hab (by omega)
  have h4 := hSat a (by omega)
  have h5 := hSat b' (by omega)
  rw [hx] at h4; rw [hy] at h5
  cases h4; cases h5
  simpa [ltF] using h3
 have hrs : RowV h0 b 67 rest (d'.map Prod.snd) r5 = some (.cells #[.slice (some ⟨b, 0, none⟩) l.length c] 52 (0, 0)) := (Mem.set_ne hne).trans hh0
 have hbb : RowV h0 b 67 rest (d'.map Prod.snd) b = some (.cells (List.toArray ((d'.map Prod.snd).toList.flatMap vcells ++ rest)) 67 (0, 0)) := Mem.set_at _ _ _
 clear hspec hsplit hcell hap2 ho5 hm5 hap1 p1 ea htake hcs hone hcap hlen0 hh0
 generalize hHH : RowV h0 b 67 rest (d'.map Prod.snd) = HH at *
 clear hHH
 intro r14 hm14 ho14
 have hr5 : r5 ≠ r14 := fun e => by
  have h5 : HH r14 = none := ho14
  rw [← e, hrs] at h5; cases h5
 have hrb : b ≠ r14 := fun e => by
  have h5 : HH r14 = none := ho14
  rw [← e, hbb] at h5; cases h5
 have hrs0 : ∀ o, (HH.set r14 o) r5 = some (.cells #[.slice (some ⟨b, 0, none⟩) l.length c] 52 (0, 0)) := fun o => (Mem.set_ne hr5).trans hrs
 have hbb0 : ∀ o, (HH.set r14 o) b = some (.cells (List.toArray ((d'.map Prod.snd).toList.flatMap vcells ++ rest)) 67 (0, 0)) := fun o => (Mem.set_ne hrb).trans hbb
 refine oIn [.slice (some ⟨b, 0, none⟩) l.length c] rfl (box_at (hrs0 _)) ?_
 refine lIn (fun p : Nat × Nat × Nat × List FE × Mem => p.1 ≤ l.length ∧ RowO p.2.2.2.2 p.2.1 p.2.2.1 67 2 (p.2.2.2.1.map Prod.snd) ∧ Apart μ2 p.2.2.2.2 ∧ p.2.1 ≠ r5 ∧ p.2.1 ≠ b ∧ p.2.2.2.2 r5 = some (.cells #[.slice (some ⟨b, 0, none⟩) l.length c] 52 (0, 0)) ∧ p.2.2.2.2 b = some (.cells (List.toArray ((d'.map Prod.snd).toList.flatMap vcells ++ rest)) 67 (0, 0)) ∧
   Asc3 cmpF (p.2.2.2.1.map Prod.fst) ∧ p.2.2.2.1.length ≤ p.1 ∧ (∀ x, x ∈ p.2.2.2.1.map Prod.fst ↔ x ∈ S.take p.1) ∧ p.2.2.2.1.Sublist (d'.toList.take p.1))
  (fun (i, b', c', acc, h) => ⟨[(3, .val (.pointer (some ⟨r5, 0, none⟩))), (4, .val (.slice (some ⟨b', 0, none⟩) acc.length c')), (15, .val (.slice (some ⟨b, 0, none⟩) l.length c)), (16, .val (.int .i64 l.length)), (17, .val (.int .i64 i))], [], 0, μ2, h⟩) (fun p => l.length - p.1)
  (0, r14, 0, [], _) ⟨Nat.zero_le _, ⟨[], Mem.set_at _ _ _, by simp, by simp, by simp, rfl, rfl⟩, hap3.set hm14, hr5.symm, hrb.symm, hrs0 _, hbb0 _, List.Pairwise.nil, Nat.le_refl _, by simp, by simp⟩ (fun (_, _, _, _, _) => ⟨rfl, rfl⟩) ⟨⟨rfl, rfl, rfl, rfl, rfl, trivial⟩, trivial, rfl, rfl⟩ ?_
 clear hrs0 hbb0 hrs hbb hap3 ho14 hm14 hr5 hrb
 rintro ⟨i, b', c', acc, h⟩ ⟨hi, hro, hap, hn5, hnb, hrs, hbb, hasc, hlen, hmem, hsub⟩
 dsimp only at hi hro hap hn5 hnb hrs hbb hasc hlen hmem hsub
 refine ifd (fun hlt => ?_) (fun hlt => ?_)
 rotate_left
 ·obtain rfl : i = l.length := by omega
  rw [← hSl, List.take_length] at hmem
  refine ret_own _ Mem.nil (Parts.nil_right _) ?_
  refine ⟨acc, ⟨d'.toList, hpd, hsub.trans (List.take_sublist _ _)⟩, Asc3.uniq cmpF_ord hasc (ascF_asc _) fun x => by rw [hmem, mem_ascF, hSp.mem_iff], ?_⟩
  have hro0 := hro
  obtain ⟨cs, hcell, hrest⟩ := hro
  refine ⟨b', c', Mem.nil.set b' (.cells cs.toArray 67 (0, 0)), by rw [List.length_map], ⟨cs, Mem.set_at _ _ _, hrest⟩, fun x o hx => ?_, fun x hx => ?_⟩
  ·by_cases e : x = b'
   ·subst e
    rw [Mem.set_at] at hx
    rw [← hx, ← hcell]
    exact (Mem.le_join_right hap) _ _ hcell |>.trans hcell.symm
   ·rw [Mem.set_ne e] at hx; cases hx
  ·by_cases e : x = b'
   ·subst e
    have h6 : μ2 x = none := hap.symm x (by rw [hcell]; simp)
    cases e2 : μ x with
    | none => rfl
    | some o => have h7 : μ2 x = some o := hle2 x o e2; rw [h6] at h7; cases h7
   ·rw [Mem.set_ne e] at hx; exact absurd rfl hx
 have hlt : i < l.length := by omega
 have w_ := hP2.at hdn hlt
 obtain ⟨p, ee, hre⟩ := w_
 have hei := hSat i hlt
 have hdi : d'.toList[i]? = some d'[i]! := by rw [getElem!_pos d' i (by omega), Array.getElem?_toList, Array.getElem?_eq_getElem (by omega)]
 have htk : ∀ x, x ∈ S.take (i + 1) ↔ x ∈ S.take i ∨ x = d'[i]!.1 := fun x => by
  rw [List.take_add_one, hei, Option.toList_some, List.mem_append, List.mem_singleton]
 refine idxV i rfl hlt ?_
 refine rdO hbb hP2.els (by simpa [hdn] using hlt) ((map_get (by omega)).trans ee) ?_
 intro r6
 have hnext : (∀ x ∈ S.take i, cmpF x d'[i]!.1 < 0) → Asc3 cmpF ((acc ++ [d'[i]!]).map Prod.fst) ∧ (∀ x, x ∈ (acc ++ [d'[i]!]).map Prod.fst ↔ x ∈ S.take (i + 1)) := fun hnew => by
  rw [List.map_append, List.map_cons, List.map_nil]
  refine ⟨?_, fun x => ?_⟩
  ·rw [Asc3, List.pairwise_append]
   exact ⟨hasc, List.pairwise_singleton _ _, fun x hx y hy => by rw [List.mem_singleton.1 hy]; exact hnew x ((hmem x).1 hx)⟩
  ·rw [List.mem_append, List.mem_singleton, hmem, htk]
 refine ifd (fun h0 => ?_) (fun h0 => ?_)
 ·have hnew : ∀ x ∈ S.take i, cmpF x d'[i]!.1 < 0 := by rw [show i = 0 by omega]; simp
  intro r36
  refine app_intro _ (List.length_map ..) hro ?_ ?_ fun b9 c9 o hrow hor => ?_
  ·show (acc.length + 1) * 40 ≤ _; omega
  ·exact Nat.le_trans (m := 2000000000) (show acc.length + 1 ≤ _ by omega) (by decide)
  have hn := hnext hnew
  have h9 : b9 ≠ r5 ∧ b9 ≠ b := by
   rcases hor with rfl | h9
   ·exact ⟨hn5, hnb⟩
   ·have h91 : h b9 = none := h9.1
    refine ⟨fun e => ?_, fun e => ?_⟩
    ·rw [e, hrs] at h91; cases h91
    ·rw [e, hbb] at h91; cases h91
  refine num64 (by omega) (by omega) ⟨(i + 1, b9, c9, acc ++ [d'[i]!], _), ⟨by dsimp only; omega, ?_, hap.set (apartB hro hap hor), h9.1, h9.2, (Mem.set_ne h9.1.symm).trans hrs, (Mem.set_ne h9.2.symm).trans hbb, hn.1, by dsimp only; rw [List.length_append]; simp; omega, hn.2, ?_⟩, by dsimp only; omega, ⟨⟨rfl, ?_, rfl, rfl, rfl, trivial⟩, trivial, rfl, rfl⟩⟩
  ·dsimp only
   rw [List.map_append, List.map_cons, List.map_nil, ee]
   exact hrow
  ·dsimp only
   rw [List.take_add_one, hdi, Option.toList_some]
   exact hsub.append (List.Sublist.refl _)
  ·dsimp only; rw [List.length_append]; rfl
 ·obtain ⟨i, rfl⟩ : ∃ k, i = k + 1 := ⟨i - 1, by omega⟩
  have hit2 : i < l.length := by omega
  have w_ := hP2.at hdn hit2
  obtain ⟨q, eq, hsq⟩ := w_
  have hqi := hSat i hit2
  refine oIn [.slice (some ⟨b, 0, none⟩) l.length c] rfl (box_at hrs) ?_
  refine nEq (x := (i : Int)) (by rw [wrap64 (by omega) (by omega)]; omega) ?_
  refine idxV i rfl hit2 ?_
  refine rdO hbb hP2.els (by simpa [hdn] using hit2) ((map_get (by omega)).trans eq) ?_
  refine cGv (orderFacts_spec hsq hre) ?_
  refine ifnd (fun hc => ?_) (fun hc => ?_)
  ·have hnew : ∀ x ∈ S.take (i + 1), cmpF x d'[i + 1]!.1 < 0 := sortedF_new hSS hei hqi hc
   generalize i + 1 = i at *
   intro r36
   refine app_intro _ (List.length_map ..) hro ?_ ?_ fun b9 c9 o hrow hor => ?_
   ·show (acc.length + 1) * 40 ≤ _; omega
   ·exact Nat.le_trans (m := 2000000000) (show acc.length + 1 ≤ _ by omega) (by decide)
   have hn := hnext hnew
   have h9 : b9 ≠ r5 ∧ b9 ≠ b := by
    rcases hor with rfl | h9
    ·exact ⟨hn5, hnb⟩
    ·have h91 : h b9 = none := h9.1
     refine ⟨fun e => ?_, fun e => ?_⟩
     ·rw [e, hrs] at h91; cases h91
     ·rw [e, hbb] at h91; cases h91
   refine num64 (by omega) (by omega) ⟨(i + 1, b9, c9, acc ++ [d'[i]!], _), ⟨by dsimp only; omega, ?_, hap.set (apartB hro hap hor), h9.1, h9.2, (Mem.set_ne h9.1.symm).trans hrs, (Mem.set_ne h9.2.symm).trans hbb, hn.1, by dsimp only; rw [List.length_append]; simp; omega, hn.2, ?_⟩, by dsimp only; omega, ⟨⟨rfl, ?_, rfl, rfl, rfl, trivial⟩, trivial, rfl, rfl⟩⟩
   ·dsimp only
    rw [List.map_append, List.map_cons, List.map_nil, ee]
    exact hrow
   ·dsimp only
    rw [List.take_add_one, hdi, Option.toList_some]
    exact hsub.append (List.Sublist.refl _)
   ·dsimp only; rw [List.length_append]; rfl
  ·refine num64 (by omega) (by omega) ⟨(i + 1 + 1, b', c', acc, h), ⟨by dsimp only; omega, hro, hap, hn5, hnb, hrs, hbb, hasc, by dsimp only; omega, fun x => ?_, hsub.trans (by rw [List.take_add_one (i := i + 1)]; exact List.sublist_append_left _ _)⟩, by dsimp only; omega, ⟨⟨rfl, rfl, rfl, rfl, rfl, trivial⟩, trivial, rfl, rfl⟩⟩
   dsimp only
   rw [hmem, htk, ← (cmpF_ord.zero _ _).1 hc, List.take_add_one, hqi]
   simp
theorem core_mem {l l' : List FE} (h : ∃ dl : List FE, dl.Perm l ∧ l'.Sublist dl) : ∀ p ∈ l', p ∈ l := fun p hp => by
 obtain ⟨dl, h1, h2⟩ := h
 exact h1.mem_iff.1 (h2.subset hp)
theorem FElts.zip : ∀ {L : List F} {vs : List Value}, Rows μ 2 ((L.map F.fc).map Fc.d) vs → FElts μ (L.zip vs)
 | [], _, _ => fun p hp => by simp at hp
 | x :: L, _, .cons h _ r => fun p hp => by
  rcases List.mem_cons.1 hp with rfl | hp
  ·exact h
  ·exact FElts.zip r p hp
theorem FElts.rows : ∀ {l : List FE}, FElts μ l → Rows μ 2 (((l.map Prod.fst).map F.fc).map Fc.d) (l.map Prod.snd)
 | [], _ => .nil
 | p :: l, h => .cons (h p (by simp)) (Fc.d_n _) (FElts.rows fun q hq => h q (List.mem_cons_of_mem _ hq))
theorem zip_fst {L : List F} {vs : List Value} (h : L.length = vs.length) : (L.zip vs).map Prod.fst = L := List.map_fst_zip (by omega)
theorem zip_snd {L : List F} {vs : List Value} (h : L.length = vs.length) : (L.zip vs).map Prod.snd = vs := List.map_snd_zip (by omega)
theorem sortFacts_spec {L : List F} {v : Value} (h : FsV μ L v) (hn : L.length ≤ 100000000) :
  Spec Tryz.prog 94 [v] μ fun v μ' => FsV μ' (ascF L) v := by
 have w_ := FsV.sl h
 obtain ⟨b, c, rfl, hlc, hs⟩ := w_
 have w_ := Rep.srcAll h
 obtain ⟨vs, hrows, hvl, hsrc⟩ := w_
 have hE := FElts.zip hrows
 have hl : (L.zip vs).length = L.length := by rw [List.length_zip]; omega
 have := sortFacts_core (l := L.zip vs) (base := b) (cap := c) (by rw [hl, zip_snd (by omega)]; exact hsrc) hE (by omega)
 rw [hl] at this
 refine this.weaken fun v μ' hle hR => ?_
 obtain ⟨l', h1, h2, bb, cc, g, rfl, hro, hg, _⟩ := hR
 replace h1 := core_mem h1
 have hE' : FElts μ' l' := fun p hp => RepV.mono hle (hE p (h1 p hp))
 rw [zip_fst (by omega)] at h2
 have := hro.rep hg hE'.rows
 rw [h2] at this
 exact this
end
end Go.Vx
namespace Go.Vx
open Go.Proofs Classical
theorem ascF_at {L : List F} (h : Asc3 cmpF L) {i j : Nat} {x y : F} (hij : i < j) (hx : L[i]? = some x) (hy : L[j]? = some y) : cmpF x y < 0 := by
 have w_ := List.getElem?_eq_some_iff.1 hx
 obtain ⟨h1, rfl⟩ := w_
 have w_ := List.getElem?_eq_some_iff.1 hy
 obtain ⟨h2, rfl⟩ := w_
 exact List.pairwise_iff_getElem.1 h i j h1 h2 hij
def atLeastF (L : List F) (f : F) (i : Int) : Prop := ∃ x, L[i.toNat]? = some x ∧ 0 ≤ cmpF x f
section
variable {μ : Mem}
theorem box2_at {r : Nat} {x y : Value} {ty : TypeId} (h : μ r = some (.cells #[x, y] ty (0, 0))) : ∀ j v, [x, y][j]? = some v → μ.cell ((⟨r, 0, none⟩ : Addr).add j) = some v := fun j v hj => by
 match j, hj with
 | 0, hj => cases hj; simp [Mem.cell, Addr.add_lit', h]
 | 1, hj => cases hj; simp [Mem.cell, Addr.add_lit', h]
theorem hasFact1_spec {L : List F} {f : F} {b : Option Addr} {c i r1 r2 : Nat} {p : Fc.P} (hs : Sl μ 2 b L.length ((L.map F.fc).map Fc.d)) (hf : RepV μ f.fc.d (.agg #[.string f.rel, .slice p.1 f.args.length p.2]))
  (h1 : μ r1 = some (.cells #[.slice b L.length c] 52 (0, 0))) (h2 : μ r2 = some (.cells #[.string f.rel, .slice p.1 f.args.length p.2] 67 (0, 0))) (hi : i < L.length) :
  Gives Tryz.prog 172 [.int .i64 i, .pointer (some ⟨r1, 0, none⟩), .pointer (some ⟨r2, 0, none⟩)] μ (.bool (decide (atLeastF L f i))) := by
 have w_ := aSo (l := L) (i := i) hi
 obtain ⟨x, hx⟩ := w_
 have w_ := F.elem hs hx
 obtain ⟨ad, q, hel, hrx, _⟩ := w_
 refine Spec.mk Tryz.func172 (by kernel_rfl) ?_
 refine ext_intro [.slice b L.length c] rfl (box_at h1) ?_
 refine eIn hel ?_
 refine ext_intro [.string f.rel, .slice p.1 f.args.length p.2] rfl (box2_at h2) ?_
 refine cGv (orderFacts_spec hrx hf) ?_
 refine rGv (isI ?_) rfl
 constructor
 ·intro h; exact ⟨x, hx, h⟩
 ·rintro ⟨y, hy, h⟩
  have hy : L[i]? = some y := hy
  rw [hx] at hy; cases hy; exact h
theorem hasFact_spec {L : List F} {f : F} {b : Option Addr} {c : Nat} {w : Value} (hL : Asc3 cmpF L) (hn : L.length ≤ 1000000000) (hs : Sl μ 2 b L.length ((L.map F.fc).map Fc.d)) (hf : RepV μ f.fc.d w) :
  Gives Tryz.prog 100 [.slice b L.length c, w] μ (.bool (decide (f ∈ L))) := by
 have hf0 := hf
 have w_ := F.inv hf
 obtain ⟨p, rfl, hfs⟩ := w_
 refine Spec.forget (Spec.mk Tryz.func100 (by kernel_rfl) ?_)
 intro r1 r2
 refine call_frz [0, 1] ?_
 intro μ1 hle1 hno1 hat1 μ2 hle2 hno2 hat2
 have hs2 := (hs.mono hle1).mono hle2
 have hf2 := (hf0.mono hle1).mono hle2
 have e1 : μ2 r1 = some (.cells #[.slice b L.length c] 52 (0, 0)) := hle2 _ _ hat1
 refine call_go (Search_spec (p := atLeastF L f) hn fun i hi => hasFact1_spec hs2 hf2 e1 hat2 hi) fun v μ3 hle3 hR => ?_
 obtain ⟨⟨i, rfl, g1, g2, g3⟩, rfl⟩ := hR
 have low : ∀ (j : Nat), j < i → L[j]? ≠ some f := fun j hj hb => by
  have w_ := aSo (l := L) (i := i - 1) (by omega)
  obtain ⟨y, hy⟩ := w_
  refine g3 (i - 1) (by omega) ⟨y, hy, ?_⟩
  rcases Nat.lt_or_ge j (i - 1) with h | h
  ·have := ascF_at hL h hb hy
   have := (cmpF_ord.anti f y).1 this
   omega
  ·obtain rfl : j = i - 1 := by omega
   rw [hb] at hy; cases hy
   have := (cmpF_ord.zero f f).2 rfl
   omega
 have none : (∀ x, L[i]? = some x → cmpF x f ≠ 0) → f ∉ L := fun h hm => by
  have w_ := List.mem_iff_getElem?.1 hm
  obtain ⟨j, hj⟩ := w_
  rcases Nat.lt_or_ge j i with h1 | h1
  ·exact low j h1 hj
  ·have hjl := (List.getElem?_eq_some_iff.1 hj).1
   have w_ := aSo (l := L) (i := i) (by omega)
   obtain ⟨x, hx⟩ := w_
   have w_ := g2 (by omega)
   obtain ⟨x', hx', h2⟩ := w_
   have hx' : L[i]? = some x' := hx'
   rw [hx] at hx'; cases hx'
   have h4 := h x hx
   rcases Nat.eq_or_lt_of_le h1 with h3 | h3
   ·subst h3; rw [hj] at hx; cases hx; exact h4 ((cmpF_ord.zero f f).2 rfl)
   ·have := ascF_at hL h3 hx hj; omega
 refine ext_intro [.slice b L.length c] rfl (box_at e1) ?_
 refine ifd (fun h => ?_) (fun h => ?_)
 ·have w_ := aSo (l := L) (i := i) (by omega)
  obtain ⟨x, hx⟩ := w_
  have w_ := F.elem hs2 hx
  obtain ⟨ad, q, hel, hrx, _⟩ := w_
  refine ext_intro [.slice b L.length c] rfl (box_at e1) ?_
  refine eIn hel ?_
  refine ext_intro [.string f.rel, .slice p.1 f.args.length p.2] rfl (box2_at hat2) ?_
  refine cGv (orderFacts_spec hrx hf2) ?_
  refine rPl (isI ?_)
  constructor
  ·intro e; rw [← (cmpF_ord.zero _ _).1 e]; exact mAt hx
  ·intro hm
   refine Classical.byContradiction fun k => none (fun y hy => ?_) hm
   rw [hx] at hy; cases hy; exact k
 ·refine rPl (isF (none fun x hx => ?_))
  have := (List.getElem?_eq_some_iff.1 hx).1
  omega
end
theorem all_take {α : Type} {l : List α} {j : Nat} {x : α} {P : α → Prop} (h : l[j]? = some x) : (∀ y ∈ l.take (j + 1), P y) ↔ (∀ y ∈ l.take j, P y) ∧ P x := by
 rw [List.take_add_one, h, Option.toList_some]
 constructor
 ·exact fun k => ⟨fun y hy => k y (List.mem_append_left _ hy), k x (by simp)⟩
 ·rintro ⟨h1, h2⟩ y hy
  rcases List.mem_append.1 hy with k | k
  ·exact h1 y k
  ·rw [List.mem_singleton.1 k]; exact h2
section
variable {μ : Mem}
set_option maxHeartbeats 1000000 in
theorem unless_spec {rs : List Ru} {S : List F} {b b3 : Option Addr} {c c3 : Nat} (hr : Sl μ 6 b3 rs.length ((rs.map Ru.rd).map RuD.d)) (hn : rs.length ≤ 10000000) (hS : Asc3 cmpF S) (hSn : S.length ≤ 1000000000) (hs : Sl μ 2 b S.length ((S.map F.fc).map Fc.d)) :
  Spec Tryz.prog 115 [.slice b3 rs.length c3, .slice b S.length c] μ fun r μ' => RsV μ' (unlessR rs S) r := by
 refine Spec.mk Tryz.func115 (by kernel_rfl) ?_
 intro r13
 refine lIn (fun z : Nat × Option Nat × Nat × List Value => z.1 ≤ rs.length ∧ Rows μ 6 (((unlessR (rs.take z.1) S).map Ru.rd).map RuD.d) z.2.2.2)
  (fun (i, bo, co, ys) => ⟨[(1, .val (.slice b S.length c)), (5, .row 0 bo ys.length co), (12, .val (.slice b3 rs.length c3)), (13, .val (.int .i64 rs.length)), (14, .val (.int .i64 i))], [(0, some (.row bo co 126 6 ys))], 1, μ, Mem.nil⟩) (fun z => rs.length - z.1)
  (0, some r13, 0, []) ⟨Nat.zero_le _, by simpa [unlessR] using .nil⟩ (fun (_, _, _, _) => ⟨rfl, rfl⟩) ⟨⟨rfl, rfl, rfl, rfl, rfl, trivial⟩, ⟨rfl, trivial⟩, rfl, rfl⟩ ?_
 rintro ⟨i, bo, co, ys⟩ ⟨hi, hrows⟩
 dsimp only at hi hrows
 have hyl := hrows.len
 simp only [List.length_map] at hyl
 have hhl := unlessR_len (rs.take i) S
 rw [List.length_take] at hhl
 refine ifd (fun hlt => ?_) (fun hlt => ?_)
 rotate_left
 ·obtain rfl : i = rs.length := by omega
  rw [List.take_length] at hrows
  refine rFz [0] fun μ2 hle2 hno2 hrow2 => .inl ?_
  exact Rows.sl hrow2 (hrows.mono hle2) (Nat.le_trans (m := 100000000) (by omega) (by decide))
 have w_ := aSo (l := rs) (i := i) (by omega)
 obtain ⟨r, hri⟩ := w_
 have w_ := Ru.elem hr hri
 obtain ⟨ad, p, hel, hrv, hat⟩ := w_
 have hsucc := unlessR_take (S := S) hri
 refine eIn hel ?_
 intro r7
 have hmn := maxLen_le hat.neg.max
 refine lIn (fun z : Nat × Bool => z.1 ≤ r.neg.length ∧ (z.2 = true ↔ ∀ f ∈ r.neg.take z.1, f ∉ S))
  (fun (j, fine) => ⟨[(1, .val (.slice b S.length c)), (5, .row 0 bo ys.length co), (7, .loc 1 r7 0), (8, .val (.bool fine)), (12, .val (.slice b3 rs.length c3)), (13, .val (.int .i64 rs.length)), (14, .val (.int .i64 i)), (19, .val (.slice p.2.2.2.1 r.neg.length p.2.2.2.2)), (20, .val (.int .i64 r.neg.length)), (21, .val (.int .i64 j))],
   [(0, some (.row bo co 126 6 ys)), (1, some (.cells r7 (vals (r.cs p)) 126))], 2, μ, Mem.nil⟩) (fun z => r.neg.length - z.1)
  (0, true) ⟨Nat.zero_le _, by simp⟩ (fun (_, _) => ⟨rfl, rfl⟩) ⟨⟨rfl, rfl, rfl, rfl, rfl, rfl, rfl, rfl, rfl, rfl, trivial⟩, ⟨rfl, rfl, trivial⟩, rfl, rfl⟩ ?_
 rintro ⟨j, fine⟩ ⟨hj, hfine⟩
 dsimp only at hj hfine
 refine ifd (fun hlt2 => ?_) (fun hlt2 => ?_)
 ·have w_ := aSo (l := r.neg) (i := j) (by omega)
  obtain ⟨f, hf⟩ := w_
  have w_ := F.elem hat.neg hf
  obtain ⟨ad2, p2, hel2, hrf, _⟩ := w_
  have hstep := all_take (P := fun f => f ∉ S) hf
  refine eIn hel2 ?_
  intro r10
  refine iIn (fun hk => ?_) (fun hk => ?_)
  ·refine cGv (hasFact_spec hS hSn hs hrf) ?_
   refine num64 (by omega) (by omega) ⟨(j + 1, !decide (f ∈ S)), ⟨by dsimp only; omega, ?_⟩, by dsimp only; omega, ⟨⟨rfl, rfl, rfl, rfl, rfl, rfl, rfl, rfl, rfl, rfl, trivial⟩, ⟨rfl, rfl, trivial⟩, rfl, rfl⟩⟩
   dsimp only
   rw [hstep, ← hfine, Bool.not_eq_true', decide_eq_false_iff_not]
   exact ⟨fun h => ⟨hk, h⟩, fun h => h.2⟩
  ·refine num64 (by omega) (by omega) ⟨(j + 1, false), ⟨by dsimp only; omega, ?_⟩, by dsimp only; omega, ⟨⟨rfl, rfl, rfl, rfl, rfl, rfl, rfl, rfl, rfl, rfl, trivial⟩, ⟨rfl, rfl, trivial⟩, rfl, rfl⟩⟩
   dsimp only
   rw [hstep, ← hfine, hk]
   simp
 obtain rfl : j = r.neg.length := by omega
 rw [List.take_length] at hfine
 refine iIn (fun hk => ?_) (fun hk => ?_)
 ·rw [if_pos (hfine.1 hk)] at hsucc
  intro r53
  refine gIn ?_ ?_ fun b' c' _ => ?_
  ·show (ys.length + 1) * 120 ≤ _; omega
  ·exact Nat.le_trans (m := 100000000) (show ys.length + 1 ≤ _ by omega) (by decide)
  refine num64 (by omega) (by omega) ⟨(i + 1, b', c', _), ⟨by dsimp only; omega, ?_⟩, by dsimp only; omega, ⟨⟨rfl, rfl, rfl, rfl, rfl, trivial⟩, ⟨rfl, trivial⟩, rfl, rfl⟩⟩
  dsimp only
  rw [hsucc]
  simp only [List.map_append, List.map_cons, List.map_nil]
  exact hrows.append (Rows.one hrv (RuD.d_n _))
 ·rw [if_neg (fun k => by rw [hfine.2 k] at hk; cases hk), List.append_nil] at hsucc
  refine num64 (by omega) (by omega) ⟨(i + 1, bo, co, ys), ⟨by dsimp only; omega, ?_⟩, by dsimp only; omega, ⟨⟨rfl, rfl, rfl, rfl, rfl, trivial⟩, ⟨rfl, trivial⟩, rfl, rfl⟩⟩
  dsimp only
  rw [hsucc]; exact hrows
set_option maxHeartbeats 1000000 in
theorem grow_spec {rs : List Ru} {base : List F} {v : Value} {b3 : Option Addr} {c3 : Nat} (hr : Sl μ 6 b3 rs.length ((rs.map Ru.rd).map RuD.d)) (hn : rs.length ≤ 3000000) (h : FsV μ base v) (hbn : base.length ≤ 3000000) :
  Spec Tryz.prog 114 [.slice b3 rs.length c3, v] μ fun r μ' => FsV μ' (lfp rs base) r := by
 have w_ := FsV.sl h
 obtain ⟨b, c, rfl, hlc, hs⟩ := w_
 refine Spec.mk Tryz.func114 (by kernel_rfl) ?_
 refine cPl (sortFacts_spec h (by omega)) fun v1 μ1 hle1 hR1 => ?_
 have w_ := FsV.sl hR1
 obtain ⟨b1, c1, rfl, -, -⟩ := w_
 refine lIn (fun z : List F × Option Addr × Nat × Mem => BasI rs base z.1 ∧ μ1.Le z.2.2.2 ∧ FsV z.2.2.2 z.1 (.slice z.2.1 z.1.length z.2.2.1))
  (fun (out, b4, c4, μ') => ⟨[(0, .val (.slice b3 rs.length c3)), (5, .val (.slice b4 out.length c4))], [], 0, μ', Mem.nil⟩) (fun z => base.length + rs.length - z.1.length)
  (ascF base, b1, c1, μ1) ⟨BasI.start rs base, Mem.Le.refl _, hR1⟩ (fun (_, _, _, _) => ⟨rfl, rfl⟩) ⟨⟨rfl, rfl, trivial⟩, trivial, rfl, rfl⟩ ?_
 rintro ⟨out, b4, c4, μ'⟩ ⟨hI, hle, hout⟩
 dsimp only at hI hle hout
 have w_ := FsV.sl hout
 obtain ⟨b5, c5, e, -, hso⟩ := w_
 have w_ := Value.slice.inj e
 obtain ⟨rfl, _, rfl⟩ := w_
 have hol := hI.len
 have w_ := Rep.srcAll hout
 obtain ⟨vs, hvrows, hvl, hsrc⟩ := w_
 have hr' := (hr.mono hle1).mono hle
 intro r14
 refine src_intro _ hsrc ?_
 refine gIn ?_ ?_ fun bn cn _ => ?_
 ·show (0 + _) * 40 ≤ _; omega
 ·exact Nat.le_trans (m := 100000000) (show 0 + vs.length ≤ _ by omega) (by decide)
 refine lIn (fun z : Nat × Option Nat × Nat × List Value => z.1 ≤ rs.length ∧ Rows μ' 2 (((out ++ growL rs out z.1).map F.fc).map Fc.d) z.2.2.2)
  (fun (i, bo, co, ys) => ⟨[(0, .val (.slice b3 rs.length c3)), (5, .val (.slice b4 out.length c4)), (6, .row 0 bo ys.length co), (17, .val (.slice b3 rs.length c3)), (18, .val (.int .i64 rs.length)), (19, .val (.int .i64 i))], [(0, some (.row bo co 67 2 ys))], 1, μ', Mem.nil⟩) (fun z => rs.length - z.1)
  (0, bn, cn, [] ++ vs) ⟨Nat.zero_le _, by simpa [growL] using hvrows⟩ (fun (_, _, _, _) => ⟨rfl, rfl⟩) ⟨⟨rfl, rfl, rfl, rfl, rfl, rfl, trivial⟩, ⟨rfl, trivial⟩, rfl, rfl⟩ ?_
 rintro ⟨i, bo, co, ys⟩ ⟨hi, hrows⟩
 dsimp only at hi hrows
 have hyl := hrows.len
 simp only [List.length_map, List.length_append] at hyl
 have hhl := growL_len rs out i
 refine ifd (fun hlt => ?_) (fun hlt => ?_)
 rotate_left
 ·obtain rfl : i = rs.length := by omega
  refine call_frz [0] ?_
  intro μ2 hle2 hno2 hat2
  have hrep := Rows.sl hat2 (hrows.mono hle2) (Nat.le_trans (m := 100000000) (by omega) (by decide))
  refine call_go (sortFacts_spec hrep (by rw [List.length_append]; omega)) fun v3 μ3 hle3 hR => ?_
  have hR : FsV μ3 (growF rs out) v3 := hR
  have w_ := FsV.sl hR
  obtain ⟨b6, c6, rfl, -, -⟩ := w_
  have hgl := hI.next.len
  refine ifd (fun he => ?_) (fun he => ?_)
  ·refine rPl ?_
   rw [← hI.done (by omega)]
   exact RepV.mono (hle2.trans hle3) hout
  ·have := hI.more (by omega)
   exact ⟨(growF rs out, b6, c6, μ3), ⟨hI.next, hle.trans (hle2.trans hle3), hR⟩, by dsimp only; omega, ⟨⟨rfl, rfl, trivial⟩, trivial, rfl, rfl⟩⟩
 have w_ := aSo (l := rs) (i := i) (by omega)
 obtain ⟨r, hri⟩ := w_
 have w_ := Ru.elem hr' hri
 obtain ⟨ad, p, hel, hrv, hat⟩ := w_
 have hsucc := growL_succ (out := out) hri
 refine eIn hel ?_
 intro r7
 have hmp := maxLen_le hat.pos.max
 refine cGv (hasFact_spec hI.asc (by omega) hso hat.head) ?_
 refine lIn (fun z : Nat × Bool => z.1 ≤ r.pos.length ∧ (z.2 = true ↔ r.head ∉ out ∧ ∀ f ∈ r.pos.take z.1, f ∈ out))
  (fun (j, fine) => ⟨[(0, .val (.slice b3 rs.length c3)), (5, .val (.slice b4 out.length c4)), (6, .row 0 bo ys.length co), (8, .loc 1 r7 0), (9, .val (.bool fine)), (17, .val (.slice b3 rs.length c3)), (18, .val (.int .i64 rs.length)), (19, .val (.int .i64 i)), (29, .val (.slice p.2.2.1.1 r.pos.length p.2.2.1.2)), (30, .val (.int .i64 r.pos.length)), (31, .val (.int .i64 j))],
   [(0, some (.row bo co 67 2 ys)), (1, some (.cells r7 (vals (r.cs p)) 126))], 2, μ', Mem.nil⟩) (fun z => r.pos.length - z.1)
  (0, !decide (r.head ∈ out)) ⟨Nat.zero_le _, by simp⟩ (fun (_, _) => ⟨rfl, rfl⟩) ⟨⟨rfl, rfl, rfl, rfl, rfl, rfl, rfl, rfl, rfl, rfl, rfl, trivial⟩, ⟨rfl, rfl, trivial⟩, rfl, rfl⟩ ?_
 rintro ⟨j, fine⟩ ⟨hj, hfine⟩
 dsimp only at hj hfine
 refine ifd (fun hlt2 => ?_) (fun hlt2 => ?_)
 ·have w_ := aSo (l := r.pos) (i := j) (by omega)
  obtain ⟨f, hf⟩ := w_
  have w_ := F.elem hat.pos hf
  obtain ⟨ad2, p2, hel2, hrf, _⟩ := w_
  have hstep := all_take (P := fun f => f ∈ out) hf
  refine eIn hel2 ?_
  intro r10
  refine iIn (fun hk => ?_) (fun hk => ?_)
  ·refine cGv (hasFact_spec hI.asc (by omega) hso hrf) ?_
   refine num64 (by omega) (by omega) ⟨(j + 1, decide (f ∈ out)), ⟨by dsimp only; omega, ?_⟩, by dsimp only; omega, ⟨⟨rfl, rfl, rfl, rfl, rfl, rfl, rfl, rfl, rfl, rfl, rfl, trivial⟩, ⟨rfl, rfl, trivial⟩, rfl, rfl⟩⟩
   dsimp only
   rw [hstep, ← and_assoc, ← hfine, decide_eq_true_eq]
   exact ⟨fun h => ⟨hk, h⟩, fun h => h.2⟩
  ·refine num64 (by omega) (by omega) ⟨(j + 1, false), ⟨by dsimp only; omega, ?_⟩, by dsimp only; omega, ⟨⟨rfl, rfl, rfl, rfl, rfl, rfl, rfl, rfl, rfl, rfl, rfl, trivial⟩, ⟨rfl, rfl, trivial⟩, rfl, rfl⟩⟩
   dsimp only
   rw [hstep, ← and_assoc, ← hfine, hk]
   simp
 obtain rfl : j = r.pos.length := by omega
 rw [List.take_length] at hfine
 refine iIn (fun hk => ?_) (fun hk => ?_)
 ·rw [if_pos (hfine.1 hk)] at hsucc
  intro r53
  refine gIn ?_ ?_ fun b' c' _ => ?_
  ·show (ys.length + 1) * 40 ≤ _; omega
  ·exact Nat.le_trans (m := 100000000) (show ys.length + 1 ≤ _ by omega) (by decide)
  refine num64 (by omega) (by omega) ⟨(i + 1, b', c', _), ⟨by dsimp only; omega, ?_⟩, by dsimp only; omega, ⟨⟨rfl, rfl, rfl, rfl, rfl, rfl, trivial⟩, ⟨rfl, trivial⟩, rfl, rfl⟩⟩
  dsimp only
  rw [hsucc, ← List.append_assoc, List.map_append (l₂ := [r.head]), List.map_append (l₂ := [r.head].map F.fc)]
  exact hrows.append (Rows.one hat.head (Fc.d_n _))
 ·rw [if_neg (fun k => by rw [hfine.2 k] at hk; cases hk), List.append_nil] at hsucc
  refine num64 (by omega) (by omega) ⟨(i + 1, bo, co, ys), ⟨by dsimp only; omega, ?_⟩, by dsimp only; omega, ⟨⟨rfl, rfl, rfl, rfl, rfl, rfl, trivial⟩, ⟨rfl, trivial⟩, rfl, rfl⟩⟩
  dsimp only
  rw [hsucc]; exact hrows
end
end Go.Vx
namespace Go.Vx
open Go.Proofs Classical
structure RuOk (p : Pg) (r : Ru) : Prop where
 head : FactFits p r.head.fc
 hlen : r.head.args.length ≤ 4
 plen : ∀ f ∈ r.pos, f.args.length ≤ 4
 pcnt : r.pos.length ≤ 60
 pok : ∀ f ∈ r.pos, ∀ a ∈ f.args, a.ok
theorem groundO_ok {p : Pg} {u : List Tm} {rs : List Ru} (h : groundO p u = some rs) : rs.length ≤ 2000 ∧ ∀ r ∈ rs, RuOk p r := by
 have hok := groundO_some h
 rw [groundO, if_pos hok, groundR] at h
 split at h
 ·rename_i hw
  cases h
  refine ⟨hw.2, fun r hr => ?_⟩
  have w_ := List.mem_flatMap.1 hr
  obtain ⟨rel, hrel, hr⟩ := w_
  have w_ := List.mem_iff_getElem?.1 hrel
  obtain ⟨k, hk⟩ := w_
  have hro := hok.1.2 k rel hk
  rw [rulesR] at hr
  split at hr
  ·simp at hr
  ·rename_i L hL
   rw [rulesC, List.mem_flatMap] at hr
   obtain ⟨i, hi, hr⟩ := hr
   rw [List.mem_range] at hi
   have w_ := aSo (l := L) (i := i) hi
   obtain ⟨c, hc⟩ := w_
   have ec : L.getD i [] = c := by rw [List.getD_eq_getElem?_getD, hc]; rfl
   rw [ec, rulesW, List.mem_filterMap] at hr
   obtain ⟨w, -, hr⟩ := hr
   rw [ruleAt] at hr
   split at hr
   ·rename_i hokg
    cases hr
    have hG : ∀ g ∈ c, ClG g := fun g hg => ClG.of hok.1 hk hL (mAt hc) hg
    have w_ := hok.2.lift
    obtain ⟨U, hU, hUg, hUl⟩ := w_
    have e1 : u.map Tm.toT = U := by rw [hU, toTs_tm]
    rw [e1]
    have h1 := hok.2.pos
    have har0 := hro.ar0
    have har4 := hro.ar4
    have hlo0 := hro.lo0
    have hlen : ((digs U (rel.arity + rel.locals).toNat w).take rel.arity.toNat).length = rel.arity.toNat := by
     rw [List.length_take, digs_len]; omega
    refine ⟨⟨⟨k, rel, hro.at_, hk, ?_⟩, fun t ht => ?_⟩, ?_, posF_len hG, Nat.le_trans posF_le (Nat.le_trans ((Gl.cl_bnd _ hL).1 c (mAt hc)) hro.size), fun f hf a ha => (hUg a ((okG_iff.1 (by rw [e1] at hokg; exact hokg)).2.1 f hf a ha)).1⟩
    ·show rel.arity = (((digs U (rel.arity + rel.locals).toNat w).take rel.arity.toNat).map T.tm).length
     rw [List.length_map, hlen]; omega
    ·have w_ := List.mem_map.1 ht
     obtain ⟨x, hx, rfl⟩ := w_
     have hx := digs_mem U (by omega) _ _ x (List.mem_of_mem_take hx)
     exact ⟨T.ok.tm (hUg x hx).1, by rw [T.toT_tm]; exact (hUg x hx).2⟩
    ·show ((digs U (rel.arity + rel.locals).toNat w).take rel.arity.toNat).length ≤ 4
     rw [hlen]; omega
   ·cases hr
 ·cases h
theorem FactFits.len {p : Pg} (hp : p.Ok) {f : Fc} (h : FactFits p f) : f.args.length ≤ 4 := by
 obtain ⟨⟨k, r, h1, h2, h3⟩, _⟩ := h
 have := (hp.2 k r h2).ar4
 omega
theorem FactFits.wd {p : Pg} (hp : p.Ok) {f : Fc} (h : FactFits p f) : f.d.wd := by
 have hl := h.lift
 obtain ⟨⟨k, r, h1, h2, h3⟩, _⟩ := h
 have w_ := relAt_get (p := p) (s := f.rel) (by omega)
 obtain ⟨k', r', e1, e2, e3⟩ := w_
 have hn := (hp.2 k' r' e2).name
 rw [e3] at hn
 rw [Fc.d_eq]
 refine ⟨Nat.le_trans hn.2.2.1 (by decide), ?_, trivial⟩
 have e : f.args = f.f.args.map T.tm := (congrArg Fc.args hl.1).symm
 rw [e]
 exact goods_wd fun a ha => (hl.2 a ha).1.1
def FsOk (p : Pg) (L : List F) : Prop := ∀ f ∈ L, FactFits p f.fc
theorem FsOk.len {p : Pg} (hp : p.Ok) {L : List F} (h : FsOk p L) : ∀ f ∈ L, f.args.length ≤ 4 := fun f hf => by
 have := (h f hf).len hp
 rwa [F.fc_args, List.length_map] at this
theorem FsOk.lift {p : Pg} {L : List F} (h : FsOk p L) : ∀ f ∈ L.map F.fc, FactFits p f := fun f hf => by
 have w_ := List.mem_map.1 hf
 obtain ⟨x, hx, rfl⟩ := w_
 exact h x hx
theorem AscF.asc {L : List F} (h : AscF L L.length) : Asc3 cmpF L := by
 refine List.pairwise_iff_getElem.2 fun i j hi hj hij => ?_
 have go : ∀ d i j (hi : i < L.length) (hj : j < L.length), j = i + d + 1 → cmpF L[i] L[j] < 0 := fun d => by
  induction d with
  | zero =>
   intro i j hi hj e
   subst e
   exact h i _ _ hj (List.getElem?_eq_getElem hi) (List.getElem?_eq_getElem hj)
  | succ d ih =>
   intro i j hi hj e
   have h1 := ih i (j - 1) hi (by omega) (by omega)
   have h2 := h (j - 1) _ _ (by omega) (List.getElem?_eq_getElem (by omega)) (List.getElem?_eq_getElem (show j - 1 + 1 < L.length by omega))
   have e2 : L[j - 1 + 1] = L[j] := by congr 1; omega
   rw [e2] at h2
   exact cmpF_ord.trans _ _ _ h1 h2
 exact go (j - i - 1) i j hi hj (by omega)
theorem AscF.of {L : List F} (h : Asc3 cmpF L) (n : Nat) : AscF L n := fun j x y _ hx hy => ascF_at h (by omega) hx hy
def optFs (P : List F → Value → Prop) (o : Option (List F)) (v : Value) : Prop := match o with
 | some y => ∃ tv, v = .tuple #[tv, .bool true] ∧ P y tv
 | none => v = .tuple #[.slice none 0 0, .bool false]
section
variable {μ : Mem}
theorem copyFact_spec {f : F} {v : Value} (hf : RepV μ f.fc.d v) (hl : f.args.length ≤ 1000000) : Spec Tryz.prog 173 [v] μ fun v μ' => Fresh μ μ' f.fc.d v := by
 have w_ := F.inv hf
 obtain ⟨p, rfl, hfs⟩ := w_
 refine Spec.mk Tryz.func173 (by kernel_rfl) ?_
 intro r1 r2
 refine cPl (copyTerms_spec hfs hl) fun v1 μ1 hle1 hR => ?_
 have w_ := Rep.sl hR.rep
 obtain ⟨b, c, rfl, -⟩ := w_
 refine rPl ?_
 have := (FreshS.str (n := f.rel) (FreshS.cons hR hle1 (Mem.Le.refl _) FreshS.nil)).st
 exact this
theorem copyFacts_spec {L : List F} {v : Value} (h : FsV μ L v) (hn : L.length ≤ 10000000) (hl : ∀ f ∈ L, f.args.length ≤ 1000000) :
  Spec Tryz.prog 101 [v] μ fun v μ' => Fresh μ μ' (.sl 2 ((L.map F.fc).map Fc.d)) v := by
 have w_ := FsV.sl h
 obtain ⟨base, cap, rfl, -, hsl⟩ := w_
 refine Spec.mk Tryz.func101 (by kernel_rfl) ?_
 intro r6
 refine lIn (fun p : Nat × Option Nat × Nat × List Value × Mem => p.1 ≤ L.length ∧ μ.Le p.2.2.2.2 ∧ Grown 2 μ p.2.2.2.2 (((L.take p.1).map F.fc).map Fc.d) p.2.2.2.1)
  (fun (i, b, c, ys, μ') => ⟨[(3, .row 0 b ys.length c), (7, .val (.slice base L.length cap)), (8, .val (.int .i64 L.length)), (9, .val (.int .i64 i))], [(0, some (.row b c 67 2 ys))], 1, μ', Mem.nil⟩) (fun p => L.length - p.1)
  (0, some r6, 0, [], μ) ⟨Nat.zero_le _, Mem.Le.refl _, Grown.nil _ _ _⟩ (fun (_, _, _, _, _) => ⟨rfl, rfl⟩) ⟨⟨rfl, rfl, rfl, rfl, trivial⟩, ⟨rfl, trivial⟩, rfl, rfl⟩ ?_
 rintro ⟨i, b, c, ys, μ'⟩ ⟨hi, hle, hgr⟩
 dsimp only at hi hle hgr
 have hyl := hgr.len
 simp only [List.length_map, List.length_take] at hyl
 refine ifd (fun hlt => ?_) (fun hlt => ?_)
 ·have w_ := aSo (l := L) (i := i) (by omega)
  obtain ⟨f, hf⟩ := w_
  have w_ := F.elem (hsl.mono hle) hf
  obtain ⟨ad, p, hel, hrf, _⟩ := w_
  refine eIn hel ?_
  intro r5
  refine cPl (copyFact_spec hrf (hl f (mAt hf))) fun v1 μ1 hle1 hR => ?_
  have w_ := F.inv hR.rep
  obtain ⟨q, rfl, _⟩ := w_
  intro r16
  refine gIn ?_ ?_ fun b' c' _ => ?_
  ·show (ys.length + 1) * 40 ≤ _; omega
  ·exact Nat.le_trans (m := 100000000) (show ys.length + 1 ≤ _ by omega) (by decide)
  refine num64 (by omega) (by omega) ⟨(i + 1, b', c', _, μ1), ⟨by dsimp only; omega, hle.trans hle1, ?_⟩, by dsimp only; omega, ⟨⟨rfl, rfl, rfl, rfl, trivial⟩, ⟨rfl, trivial⟩, rfl, rfl⟩⟩
  dsimp only
  rw [List.take_add_one, hf, Option.toList_some]
  simp only [List.map_append, List.map_cons, List.map_nil]
  exact hgr.snoc hle hR hle1 (Fc.d_n _)
 ·obtain rfl : i = L.length := by omega
  rw [List.take_length] at hgr
  refine rFz [0] fun μ2 hle2 hno hrow => .inl ?_
  exact hgr.fresh hle hle2 hno hrow (Nat.le_trans (m := 100000000) (by omega) (by decide))
theorem rulesFor_spec {p : Pg} {u : List Tm} {v : Value} {ub : Option Addr} {uc : Nat} (hp : RepV μ p.d v) (hu : Sl μ 4 ub u.length (u.map Tm.d)) :
  Spec Tryz.prog 98 [v, .slice ub u.length uc] μ fun v μ' => optRu (fun y tv => RsV μ' y tv) (groundO p u) v := by
 have hp0 := hp
 have w_ := Pg.inv hp
 obtain ⟨q, rfl, hrl⟩ := w_
 refine Spec.mk Tryz.func98 (by kernel_rfl) ?_
 intro r2
 refine cPl (impl_ProgramOk_spec hp0) fun v1 μ1 hle1 hR => ?_
 obtain rfl := hR
 refine ifnd (fun h => rPl (by rw [groundO, if_neg fun k => h k.1]; rfl)) (fun hok => ?_)
 refine cGv (impl_UniverseOk_spec (hu.mono hle1)) ?_
 refine ifnd (fun h => rPl (by rw [groundO, if_neg fun k => h k.2]; rfl)) (fun huok => ?_)
 have w_ := huok.lift
 obtain ⟨U, rfl, hUg, hUl⟩ := w_
 have hgo : groundO p (U.map T.tm) = groundR p U := by rw [groundO, if_pos ⟨hok, huok⟩, toTs_tm]
 rw [hgo]
 have h1 := huok.pos
 have h8 := huok.max
 rw [List.length_map] at h1 h8 hu ⊢
 refine cPl (groundRules_spec (hp0.mono hle1) hok (hu.mono hle1) h1 h8) fun v2 μ2 hle2 hR => ?_
 cases hL : groundR p U with
 | none =>
  rw [hL] at hR
  obtain rfl := hR
  exact rPl rfl
 | some y =>
  rw [hL] at hR
  obtain ⟨tv, rfl, hR⟩ := hR
  exact rPl ⟨tv, rfl, hR⟩
end
end Go.Vx
namespace Go.Vx
open Go.Proofs Classical
theorem fcs_cnt2 {p : Pg} (hp : p.Ok) : ∀ L : List F, FsOk p L → D.cnts ((L.map F.fc).map Fc.d) ≤ 60001 * L.length
 | [], _ => by simp [D.cnts]
 | f :: L, h => by
  have ih := fcs_cnt2 hp L fun x hx => h x (List.mem_cons_of_mem _ hx)
  have h0 := h f (by simp)
  have h1 := h0.len hp
  have h2 := tms_cnt2 f.fc.args fun t ht => (h0.2 t ht).1.2
  have h3 := Fc.cnt_eq f.fc
  have := Nat.mul_le_mul_left 15000 h1
  simp only [List.map_cons, D.cnts, List.length_cons]
  omega
def resF (o : Option (List F)) : List Fc := (o.getD []).map F.fc
theorem optFs_rep {μ : Mem} {o : Option (List F)} {v : Value} (h : optFs (fun y tv => FsV μ y tv) o v) : ∃ tv, v = .tuple #[tv, .bool o.isSome] ∧ RepV μ (.sl 2 ((resF o).map Fc.d)) tv := by
 cases o with
 | some y => obtain ⟨tv, rfl, h⟩ := h; exact ⟨tv, rfl, h⟩
 | none => exact ⟨_, h, OwnV.rep (h := Mem.nil) (Own.nilSl 2) (fun _ _ h => nomatch h)⟩
theorem optFs_fresh {μ μ' : Mem} {o : Option (List F)} {v : Value} (h : optFs (fun y tv => Fresh μ μ' (.sl 2 ((y.map F.fc).map Fc.d)) tv) o v) : ∃ tv, v = .tuple #[tv, .bool o.isSome] ∧ Fresh μ μ' (.sl 2 ((resF o).map Fc.d)) tv := by
 cases o with
 | some y => obtain ⟨tv, rfl, h⟩ := h; exact ⟨tv, rfl, h⟩
 | none => exact ⟨_, h, Mem.nil, Own.nilSl 2, (fun _ _ h => nomatch h), fun _ h => absurd rfl h⟩
theorem resF_cnt {o : Option (List F)} {n : Nat} (h : ∀ y, o = some y → ∃ p : Pg, p.Ok ∧ FsOk p y ∧ y.length ≤ n) : D.cnts ((resF o).map Fc.d) ≤ 60001 * n := by
 cases o with
 | none => simp [resF, D.cnts]
 | some y =>
  have w_ := h y rfl
  obtain ⟨p, h1, h2, h3⟩ := w_
  have := fcs_cnt2 h1 y h2
  have := Nat.mul_le_mul_left 60001 h3
  rw [resF, Option.getD_some]; omega
end Go.Vx
