/- Loads, elements, struct literals; every operation that yields a value. -/
import Derived.Test.YtjgohkogcdmbdaaVxC
namespace Go.Vx
section
variable {C : Cx} {s : St} {a : Act}
theorem TIok.size_one {P : Program} {t : TypeId} {i : TI} (_ : TIok P t i) {α : Type} {l : List α} {K : α → Prop} (h : oneK l K) : l.length = 1 := by
  unfold oneK at h
  split at h
  · rfl
  · exact h.elim
/-- What 'partK' yields, as cells. -/
theorem partK_spec {i : TI} {cs : List SV} {off : Nat} {K : SV → Prop} (h : partK i cs off K) :
    ∃ l : List SV, l = (cs.drop off).take i.size ∧ l.length = i.size ∧ ((i.agg = true ∧ K (.val (.agg (l.map SV.conc).toArray))) ∨ (i.agg = false ∧ ∃ x, l = [x] ∧ K x)) := by
  unfold partK at h
  split at h
  · rename_i hg
    rcases cutK_spec _ _ _ _ h with ⟨h1, h2⟩ | ⟨h1, h2⟩
    · rw [concsK_eq] at h2
      exact ⟨_, rfl, by simp; omega, .inl ⟨hg, h2⟩⟩
    · rw [concsK_eq] at h2
      exact ⟨[], by simp [h1], by simp [h1], .inl ⟨hg, h2⟩⟩
  · rename_i hg
    rcases cutK_spec _ _ _ _ h with ⟨h1, h2⟩ | ⟨h1, h2⟩
    · refine ⟨_, rfl, by simp; omega, .inr ⟨hg, ?_⟩⟩
      generalize (cs.drop off).take i.size = l at h2
      unfold oneK at h2
      split at h2
      · exact ⟨_, rfl, h2⟩
      · exact h2.elim
    · exact h2.elim
theorem partV_spec {i : TI} {cs : List Value} {off : Nat} {K : SV → Prop} (h : partV i cs off K) :
    ∃ l : List Value, l = (cs.drop off).take i.size ∧ l.length = i.size ∧ ((i.agg = true ∧ K (.val (.agg l.toArray))) ∨ (i.agg = false ∧ ∃ x, l = [x] ∧ K (.val x))) := by
  unfold partV at h
  split at h
  · rename_i hg
    rcases cutK_spec _ _ _ _ h with ⟨h1, h2⟩ | ⟨h1, h2⟩
    · exact ⟨_, rfl, by simp; omega, .inl ⟨hg, h2⟩⟩
    · exact ⟨[], by simp [h1], by simp [h1], .inl ⟨hg, h2⟩⟩
  · rename_i hg
    rcases cutK_spec _ _ _ _ h with ⟨h1, h2⟩ | ⟨h1, h2⟩
    · refine ⟨_, rfl, by simp; omega, .inr ⟨hg, ?_⟩⟩
      generalize (cs.drop off).take i.size = l at h2
      unfold oneK at h2
      split at h2
      · exact ⟨_, rfl, h2⟩
      · exact h2.elim
    · exact h2.elim
theorem drop_take_get {α : Type} {cs : List α} {off n j : Nat} {v : α} (h : ((cs.drop off).take n)[j]? = some v) : cs[off + j]? = some v := by
  rw [List.getElem?_take] at h
  split at h
  · simpa [List.getElem?_drop] using h
  · cases h
theorem fits_cell {r : Nat} {cs : List SV} {ty : TypeId} {w : World} (h : (LB.cells r cs ty).fits (fun b => w.heap[b]?)) (j : Nat) : w.cell? ⟨r, j, none⟩ = (cs.map SV.conc)[j]? := by
  simp only [LB.fits] at h
  simp [World.cell?, h]
/-- A load of cells that lie where they should. -/
theorem load_part {t : TypeId} {i : TI} (hi : TIok C.P t i) {cs : List SV} {off : Nat} {K : SV → Prop} (h : partK i cs off K) (hok : ∀ sv ∈ cs, svOk s sv) :
    ∃ sv, K sv ∧ svOk s sv ∧ ∀ w ad, (∀ j v, (cs.map SV.conc)[off + j]? = some v → w.cell? (ad.add j) = some v) → (loadVar t ad).run C.P w = .ok sv.conc w := by
  obtain ⟨l, hl, hn, h⟩ := partK_spec h
  have hc : ∀ (w : World) (ad : Addr), (∀ j v, (cs.map SV.conc)[off + j]? = some v → w.cell? (ad.add j) = some v) → ∀ j v, (l.map SV.conc)[j]? = some v → w.cell? (ad.add j) = some v := fun w ad hw j v hj => by
    rw [hl, List.map_take, List.map_drop] at hj
    exact hw j v (drop_take_get hj)
  rcases h with ⟨hg, h⟩ | ⟨hg, x, rfl, h⟩
  · refine ⟨_, h, trivial, fun w ad hw => ?_⟩
    rw [run_loadVar_cells hi w ad (l.map SV.conc) (by simpa using hn) (hc w ad hw) (by simp [hg])]
    simp [hg, SV.conc]
  · refine ⟨_, h, hok x (List.mem_of_mem_drop (List.mem_of_mem_take (hl ▸ List.mem_singleton.2 rfl))), fun w ad hw => ?_⟩
    rw [run_loadVar_cells hi w ad [x.conc] (by simpa using hn) (hc w ad hw) (by simp at hn; omega)]
    simp [hg]
theorem load_partV {t : TypeId} {i : TI} (hi : TIok C.P t i) {cs : List Value} {off : Nat} {K : SV → Prop} (h : partV i cs off K) :
    ∃ sv, K sv ∧ svOk s sv ∧ ∀ w ad, (∀ j v, cs[off + j]? = some v → w.cell? (ad.add j) = some v) → (loadVar t ad).run C.P w = .ok sv.conc w := by
  obtain ⟨l, hl, hn, h⟩ := partV_spec h
  have hc : ∀ (w : World) (ad : Addr), (∀ j v, cs[off + j]? = some v → w.cell? (ad.add j) = some v) → ∀ j v, l[j]? = some v → w.cell? (ad.add j) = some v := fun w ad hw j v hj => by
    rw [hl] at hj
    exact hw j v (drop_take_get hj)
  rcases h with ⟨hg, h⟩ | ⟨hg, x, rfl, h⟩
  · refine ⟨_, h, trivial, fun w ad hw => ?_⟩
    rw [run_loadVar_cells hi w ad l (by simpa using hn) (hc w ad hw) (by simp [hg])]
    simp [hg, SV.conc]
  · refine ⟨_, h, trivial, fun w ad hw => ?_⟩
    rw [run_loadVar_cells hi w ad [x] (by simpa using hn) (hc w ad hw) (by simp at hn; omega)]
    simp [hg, SV.conc]
theorem flatMap_get {es : Nat} : ∀ (xs : List Value) (i : Nat) (x : Value) (j : Nat) (v : Value), (∀ x ∈ xs, (vcells x).length = es) → xs[i]? = some x → (vcells x)[j]? = some v → (xs.flatMap vcells)[i * es + j]? = some v
  | [], i, x, j, v, _, h, _ => by simp at h
  | y :: xs, 0, x, j, v, hl, h, hv => by
    simp only [List.getElem?_cons_zero, Option.some.injEq] at h
    subst h
    have : j < (vcells y).length := by
      rcases Nat.lt_or_ge j (vcells y).length with h | h
      · exact h
      · rw [List.getElem?_eq_none h] at hv; cases hv
    simp only [List.flatMap_cons, Nat.zero_mul, Nat.zero_add]
    rw [List.getElem?_append_left this]
    exact hv
  | y :: xs, i + 1, x, j, v, hl, h, hv => by
    have hy := hl y (by simp)
    have ih := flatMap_get xs i x j v (fun x hx => hl x (by simp [hx])) (by simpa using h) hv
    simp only [List.flatMap_cons]
    rw [List.getElem?_append_right (by rw [hy, Nat.add_mul, Nat.one_mul]; omega), hy, show (i + 1) * es + j - es = i * es + j from by rw [Nat.add_mul, Nat.one_mul]; omega]
    exact ih
theorem fits_row_cell {base : Option Nat} {cap : Nat} {ty : TypeId} {es : Nat} {xs : List Value} {w : World} (h : (LB.row base cap ty es xs).fits (fun b => w.heap[b]?)) {i : Nat} {x : Value} (hx : xs[i]? = some x) :
    ∃ r, base = some r ∧ ∀ j v, (vcells x)[j]? = some v → w.cell? ⟨r, i * es + j, none⟩ = some v := by
  cases base with
  | none => obtain ⟨rfl, _⟩ := h; simp at hx
  | some r =>
    obtain ⟨_, _, h2, arr, h3, h4, h5⟩ := h
    refine ⟨r, rfl, fun j v hj => ?_⟩
    have hf := flatMap_get xs i x j v (fun x hx => (h2 x hx).1) hx hj
    rw [← h5, List.getElem?_take] at hf
    split at hf
    · simp only [World.cell?, h3]
      simpa using hf
    · cases hf
theorem loadK_sound (htt : TTok C.P C.tt) (hb : BlkOk s) {t : TypeId} {x : SV} (hx : svOk s x) {K : SV → Prop} (h : loadK C s t x K) :
    ∃ sv, K sv ∧ svOk s sv ∧ Runs C.P s (Instr.loadAt t x.conc) sv := by
  obtain ⟨i, h1, h2⟩ := tyK_spec h
  have hi := htt.get h1
  split at h2
  · split at h2
    · rename_i tag r off _ r' cs ty hlb
      obtain ⟨_, hx2⟩ := hx
      obtain ⟨cs', ty', e⟩ := hx2 _ hlb
      cases e
      obtain ⟨sv, hk, ho, hr⟩ := load_part hi h2 (hb _ _ _ _ hlb)
      refine ⟨sv, hk, ho, fun w hw => ?_⟩
      have hf := hw.1.2 _ _ hlb
      simp only [SV.conc, Instr.loadAt, Instr.sureAddr, Sem.run_bind, Sem.run_pure, Result.andThen_ok]
      exact hr w _ fun j v hj => by rw [Addr.add_lit', fits_cell hf]; exact hj
    · exact h2.elim
    · obtain ⟨cs, hl, hc, h3⟩ := ext_elim h2
      obtain ⟨sv, hk, ho, hr⟩ := load_partV (s := s) hi h3
      refine ⟨sv, hk, ho, fun w hw => ?_⟩
      simp only [SV.conc, Instr.loadAt, Instr.sureAddr, Sem.run_bind, Sem.run_pure, Result.andThen_ok]
      rcases hc with hc | hc
      · exact hr w _ fun j v hj => hw.1.1.cell (hc _ _ (by simpa using hj))
      · exact hr w _ fun j v hj => hw.2.cell (hc _ _ (by simpa using hj))
  · rename_i ad cs off
    obtain ⟨sv, hk, ho, hr⟩ := load_partV (s := s) hi h2
    refine ⟨sv, hk, ho, fun w hw => ?_⟩
    simp only [SV.conc, Instr.loadAt, Instr.sureAddr, Sem.run_bind, Sem.run_pure, Result.andThen_ok]
    exact hr w _ fun j v hj => by rw [Addr.add_add']; exact hw.1.1.cell (hx _ _ hj)
  · split at h2
    · rename_i tag base es j off _ base' cap ty es' xs hlb
      obtain ⟨_, hx2⟩ := hx
      obtain ⟨_, _, _, e, _⟩ := hx2 _ hlb
      cases e
      obtain ⟨v, hv, h3⟩ := get_elim h2
      obtain ⟨sv, hk, ho, hr⟩ := load_partV (s := s) hi h3
      refine ⟨sv, hk, ho, fun w hw => ?_⟩
      obtain ⟨r, rfl, hc⟩ := fits_row_cell (hw.1.2 _ _ hlb) hv
      simp only [SV.conc, Option.map_some, Instr.loadAt, Instr.sureAddr, Sem.run_bind, Sem.run_pure, Result.andThen_ok]
      exact hr w _ fun j v hj => by rw [Addr.add_lit', Nat.add_assoc]; exact hc _ _ hj
    · exact h2.elim
  · obtain ⟨cs, hl, hc, h3⟩ := ext_elim h2
    obtain ⟨sv, hk, ho, hr⟩ := load_partV (s := s) hi h3
    refine ⟨sv, hk, ho, fun w hw => ?_⟩
    simp only [SV.conc, Instr.loadAt, Instr.sureAddr, Sem.run_bind, Sem.run_pure, Result.andThen_ok]
    rcases hc with hc | hc
    · exact hr w _ fun j v hj => hw.1.1.cell (hc _ _ (by simpa using hj))
    · exact hr w _ fun j v hj => hw.2.cell (hc _ _ (by simpa using hj))
  · exact h2.elim
theorem run_indexAt {P : Program} {t e : TypeId} {te : TI} (ht : P.underlying t = some (.slice e)) (he : TIok P e te) (w : World) (a0 : Addr) (n c : Nat) (k : IntKind) (i : Int) (h0 : 0 ≤ i) (h1 : i < n) :
    (Instr.indexAt t (.slice (some a0) n c) (.int k i)).run P w = .ok (.pointer (some (a0.add (i.toNat * te.size)))) w := by
  simp [Instr.indexAt, asIntOf, run_underlying ht, h0, h1, he.run_sizeOf]
theorem idxK_sound (htt : TTok C.P C.tt) {t : TypeId} {x i : SV} (hx : svOk s x) {K : SV → Prop} (h : idxK C s t x i K) :
    ∃ sv, K sv ∧ svOk s sv ∧ Runs C.P s (Instr.indexAt t x.conc i.conc) sv := by
  unfold idxK at h
  split at h
  · rename_i k i
    obtain ⟨ti, h1, h2⟩ := tyK_spec h
    have ht := (htt.get h1).kind
    split at h2
    · rename_i e hke
      rw [hke] at ht
      obtain ⟨te, h3, h4⟩ := tyK_spec h2
      have he := htt.get h3
      split at h4
      · rcases elem_elim h4 with ⟨ad, cs, hel, h5⟩ | ⟨a0, rfl, hlo, hhi, h5⟩
        · obtain ⟨a0, rfl, rfl⟩ := hel.addr
          refine ⟨_, h5, fun j v hj => hel.cell j v hj, fun w _ => ?_⟩
          simp only [SV.conc]
          rw [run_indexAt ht he w _ _ _ _ _ hel.lo hel.hi]
          simp [Addr.add_add']
        · refine ⟨_, h5, trivial, fun w _ => ?_⟩
          simp only [SV.conc]
          rw [run_indexAt ht he w _ _ _ _ _ hlo hhi]
      · rename_i tag base n cap
        split at h4
        · rename_i b' c' ty es xs hlb
          split at h4
          · rename_i hes
            have hes := Nat.eq_of_beq_eq_true hes
            obtain ⟨j, rfl, hj, h5⟩ := rel_elim h4
            obtain ⟨hx1, hx2⟩ := hx
            obtain ⟨_, _, _, e, en⟩ := hx2 _ hlb
            cases e
            have hsv : svOk s (.rel tag base te.size j 0) := by
              refine ⟨hx1, fun lb hlb' => ?_⟩
              rw [hlb] at hlb'
              cases hlb'
              exact ⟨_, _, _, by rw [hes], by omega⟩
            refine ⟨_, h5, hsv, fun w hw => ?_⟩
            have hf := hw.1.2 _ _ hlb
            cases base with
            | none => obtain ⟨rfl, _⟩ := hf; simp at en; omega
            | some r =>
              simp only [SV.conc, Option.map_some]
              rw [run_indexAt ht he w _ _ _ _ _ (by omega) (by omega)]
              simp [Addr.add_lit']
          · exact h4.elim
        · exact h4.elim
        · rcases elem_elim h4 with ⟨ad, cs, hel, h5⟩ | ⟨a0, e0, hlo, hhi, h5⟩
          · obtain ⟨a0, e0, rfl⟩ := hel.addr
            refine ⟨_, h5, fun j v hj => hel.cell j v hj, fun w _ => ?_⟩
            simp only [SV.conc, e0]
            rw [run_indexAt ht he w _ _ _ _ _ hel.lo hel.hi]
            simp [Addr.add_add']
          · refine ⟨_, h5, trivial, fun w _ => ?_⟩
            simp only [SV.conc, e0]
            rw [run_indexAt ht he w _ _ _ _ _ hlo hhi]
      · exact h4.elim
    · exact h2.elim
  · exact h.elim
theorem bound_run {P : Program} {o : Option SV} {d : Int} {K : Int → Prop} (h : sliceK.boundK o d K) : ∃ i : Int, K i ∧ ((o = none ∧ i = d) ∨ ∃ k, o = some (.val (.int k i))) := by
  unfold sliceK.boundK at h
  split at h
  · exact ⟨_, h, .inl ⟨rfl, rfl⟩⟩
  · exact ⟨_, h, .inr ⟨_, rfl⟩⟩
  · exact h.elim
theorem run_sliceBounds {P : Program} (w : World) (isS : Bool) (n c : Nat) {lo hi : Option SV} {l h : Nat}
    (h1 : (lo = none ∧ (l : Int) = 0) ∨ ∃ k, lo = some (.val (.int k l))) (h2 : (hi = none ∧ (h : Int) = n) ∨ ∃ k, hi = some (.val (.int k h))) (e1 : l ≤ h) (e2 : h ≤ c) :
    (Instr.sliceBounds isS n c (lo.map SV.conc) (hi.map SV.conc) none).run P w = .ok (l, h, c) w := by
  have b : ∀ (k : IntKind) (x y : Nat) code, x ≤ y → (Instr.sliceBound (.int k x) y code).run P w = .ok x w := fun k x y code hxy => by
    simp [Instr.sliceBound, asIntOf, hxy]
  rcases h1 with ⟨rfl, e⟩ | ⟨k, rfl⟩ <;> rcases h2 with ⟨rfl, e'⟩ | ⟨k', rfl⟩
  · have : l = 0 := by omega
    have : h = n := by omega
    subst_vars
    simp [Instr.sliceBounds]
  · have : l = 0 := by omega
    subst this
    simp [Instr.sliceBounds, SV.conc, b _ _ _ _ e2]
  · have : h = n := by omega
    subst this
    simp [Instr.sliceBounds, SV.conc, b _ _ _ _ e1]
  · simp [Instr.sliceBounds, SV.conc, b _ _ _ _ e1, b _ _ _ _ e2]
theorem optK_spec {a : Act} (he : EnvOk s a) {x : Option Operand} {K : Option SV → Prop} (h : optK s x K) : ∃ o, K o ∧ x.map a.eval = o.map SV.conc := by
  unfold optK at h
  split at h
  · exact ⟨none, h, rfl⟩
  · obtain ⟨sv, h1, h2⟩ := evK_spec h
    exact ⟨some sv, h2, by simp [(ev_sound he h1).1]⟩
theorem sliceK_sound {t e : TypeId} {te : TI} (ht : C.P.underlying t = some (.slice e)) (he : TIok C.P e te) {base : Option Addr} {n c : Nat} {lo hi : Option SV} {K : SV → Prop} (h : sliceK te.size base n c lo hi K) :
    ∃ sv, K sv ∧ svOk s sv ∧ Runs C.P s (Instr.slice t (.slice base n c) (lo.map SV.conc) (hi.map SV.conc) none) sv := by
  unfold sliceK at h
  obtain ⟨i, h, h1⟩ := bound_run (P := C.P) h
  obtain ⟨j, h, h2⟩ := bound_run (P := C.P) h
  obtain ⟨l, k, rfl, rfl, e1, e2, h⟩ := cut_elim h
  refine ⟨_, h, trivial, fun w _ => ?_⟩
  simp only [Instr.slice, Sem.run_bind, run_underlying ht, Result.andThen_ok, run_sliceBounds w true n c h1 h2 e1 (by omega), he.run_sizeOf, Sem.run_pure, SV.conc]
theorem strCut_sound {t : TypeId} (ht : C.P.underlying t = some .string) {b : ByteArray} {lo hi : Option SV} {K : SV → Prop}
    (h : sliceK.boundK lo 0 fun l => sliceK.boundK hi b.size fun h => cutVC l h b.size fun l h => K (.val (.string (b.extract l h)))) :
    ∃ sv, K sv ∧ svOk s sv ∧ Runs C.P s (Instr.slice t (.string b) (lo.map SV.conc) (hi.map SV.conc) none) sv := by
  obtain ⟨i, h, h1⟩ := bound_run (P := C.P) h
  obtain ⟨j, h, h2⟩ := bound_run (P := C.P) h
  obtain ⟨l, k, rfl, rfl, e1, e2, h⟩ := cut_elim h
  refine ⟨_, h, trivial, fun w _ => ?_⟩
  simp [Instr.slice, run_underlying ht, run_sliceBounds w false b.size b.size h1 h2 e1 (by omega), SV.conc]
theorem maxK_sound {big : Bool} {ts : Array TypeId} {t : TypeId} {x y : SV} {K : SV → Prop} (h : maxK big x y K) :
    ∃ sv, K sv ∧ svOk s sv ∧ Runs C.P s (cond big (Builtin.max_ ts t #[x.conc, y.conc]) (Builtin.min_ ts t #[x.conc, y.conc])) sv := by
  unfold maxK at h
  split at h
  · cases big
    · exact ⟨_, h, trivial, fun w _ => by simp [Builtin.min_, Builtin.min2, SV.conc]⟩
    · exact ⟨_, h, trivial, fun w _ => by simp [Builtin.max_, Builtin.max2, SV.conc]⟩
  · exact h.elim
theorem lenK_sound (htt : TTok C.P C.tt) {t ty : TypeId} {x : SV} {K : SV → Prop} (h : lenK C t x K) :
    ∃ sv, K sv ∧ svOk s sv ∧ Runs C.P s (Builtin.len_ #[t] ty #[x.conc]) sv := by
  obtain ⟨i, h1, h2⟩ := tyK_spec h
  have hk := (htt.get h1).kind
  split at h2
  · rename_i hkk; rw [hkk] at hk
    exact ⟨_, h2, trivial, fun w _ => by simp [Builtin.len_, run_underlying hk, SV.conc, goInt]⟩
  · rename_i hkk; rw [hkk] at hk
    exact ⟨_, h2, trivial, fun w _ => by simp [Builtin.len_, run_underlying hk, SV.conc, goInt]⟩
  · rename_i hkk; rw [hkk] at hk
    exact ⟨_, h2, trivial, fun w _ => by simp [Builtin.len_, run_underlying hk, SV.conc, goInt]⟩
  · exact h2.elim
end
end Go.Vx
