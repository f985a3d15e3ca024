/- The generator's small parts say what they should; operations that only read are run as it says. -/
import Derived.Test.YtjgohkogcdmbdaaVxA
namespace Go.Vx

/-! ### Small laws -/
theorem concK_eq (sv : SV) (K : Value → Prop) : concK sv K = K sv.conc := by cases sv <;> rfl
theorem concsK_eq : ∀ (l : List SV) (K : List Value → Prop), concsK l K = K (l.map SV.conc)
  | [], _ => rfl
  | sv :: l, K => by simp only [concsK, concK_eq, concsK_eq l, List.map_cons]
theorem appK_eq {α : Type} : ∀ (l m : List α) (K : List α → Prop), appK l m K = K (l ++ m)
  | [], _, _ => rfl
  | x :: l, m, K => by simp only [appK, appK_eq l m, List.cons_append]
theorem cutK_spec {α : Type} : ∀ (l : List α) (m n : Nat) (K : List α → Prop), cutK l m n K → m + n ≤ l.length ∧ K ((l.drop m).take n) ∨ n = 0 ∧ K []
  | l, m, 0, K, h => .inr ⟨rfl, by cases l <;> exact h⟩
  | x :: l, 0, n + 1, K, h => by
    rcases cutK_spec l 0 n _ h with ⟨a, b⟩ | ⟨rfl, b⟩
    · exact .inl ⟨by simp; omega, by simpa using b⟩
    · exact .inl ⟨by simp, by simpa using b⟩
  | x :: l, m + 1, n + 1, K, h => by
    rcases cutK_spec l m (n + 1) _ h with ⟨a, b⟩ | ⟨e, _⟩
    · exact .inl ⟨by simp; omega, by simpa using b⟩
    · cases e
  | [], m, n + 1, K, h => by cases m <;> exact h.elim
theorem setK_spec {α : Type} : ∀ (l : List α) (m : Nat) (vs : List α) (K : List α → Prop), setK l m vs K → m + vs.length ≤ l.length ∧ K (l.take m ++ vs ++ l.drop (m + vs.length))
  | l, 0, [], K, h => ⟨by simp, by cases l <;> (simp only [setK] at h; simpa using h)⟩
  | x :: l, 0, v :: vs, K, h => by
    obtain ⟨a, b⟩ := setK_spec l 0 vs _ h
    refine ⟨by simp at a ⊢; omega, ?_⟩
    simpa [Nat.add_comm] using b
  | x :: l, m + 1, vs, K, h => by
    have h' : setK l m vs fun r => K (x :: r) := by cases vs <;> exact h
    obtain ⟨a, b⟩ := setK_spec l m vs _ h'
    refine ⟨by simp; omega, ?_⟩
    rw [show m + 1 + vs.length = (m + vs.length) + 1 from by omega]
    simpa using b
  | [], 0, v :: vs, K, h => h.elim
  | [], m + 1, vs, K, h => by cases vs <;> exact h.elim
theorem lenIs_spec {α : Type} : ∀ (n : Nat) (l : List α) (A : Prop), lenIs n l A → l.length = n ∧ A
  | 0, [], _, h => ⟨rfl, h⟩
  | n + 1, _ :: l, A, h => by obtain ⟨a, b⟩ := lenIs_spec n l A h; exact ⟨by simp [a], b⟩
  | 0, _ :: _, _, h => h.elim
  | _ + 1, [], _, h => h.elim
theorem oneCellsK_spec : ∀ (l : List Value) (A : Prop), oneCellsK l A → (∀ u ∈ l, u.oneCell' = true) ∧ A
  | [], _, h => ⟨by simp, h⟩
  | v :: l, A, h => by
    cases v <;> first
      | exact h.elim
      | (obtain ⟨a, b⟩ := oneCellsK_spec l A h; exact ⟨by simpa [Value.oneCell'] using a, b⟩)
theorem vals_conc : ∀ l : List Value, (vals l).map SV.conc = l
  | [] => rfl
  | v :: l => by cases v <;> simp [vals, SV.conc, vals_conc l]
theorem valsK_eq : ∀ (l : List Value) (K : List SV → Prop), valsK l K = K (vals l)
  | [], _ => rfl
  | v :: l, K => by cases v <;> simp only [valsK, valsK_eq l, vals]
theorem cellsOfK_eq (sv : SV) (K : List SV → Prop) : cellsOfK sv K = K (cellsOf sv) := by
  unfold cellsOfK cellsOf
  split <;> simp only [valsK_eq]
theorem cellsOf_conc (sv : SV) : (cellsOf sv).map SV.conc = vcells sv.conc := by
  unfold cellsOf
  split
  · simp [vals_conc, SV.conc, vcells]
  · rename_i h
    cases sv with
    | val v => cases v <;> first | rfl | exact absurd rfl (h _)
    | _ => rfl
theorem cells_vcells (v : Value) : v.cells.toList = vcells v := by cases v <;> rfl
theorem putK_eq (s : St) (dst : Option Tmp) (sv : SV) (K : St → Prop) : putK s dst sv K = K (s.put dst sv) := by
  cases s; cases dst <;> rfl
theorem setBK_eq (s : St) (t : Nat) (lb : LB) (K : St → Prop) : setBK s t lb K = K (s.setB t lb) := by cases s; rfl
theorem newBK_eq (s : St) (lb : LB) (K : Nat → St → Prop) : newBK s lb K = K s.nxt (s.newB lb) := by cases s; rfl
theorem memK_eq (s : St) (μ : Mem) (K : St → Prop) : memK s μ K = K { s with mem := μ } := by cases s; rfl
theorem killK_eq (s : St) (t : Nat) (μ : Mem) (K : St → Prop) : killK s t μ K = K { s with mem := μ, blk := (t, none) :: s.blk } := by cases s; rfl
theorem fadeSK_eq (t : Nat) (sv : SV) (K : SV → Prop) : fadeSK t sv K = K (sv.fade t) := by
  cases sv <;> simp only [fadeSK, SV.fade] <;> split <;> rfl
theorem fadeEK_eq (t : Nat) : ∀ (l : List (Nat × SV)) (K : List (Nat × SV) → Prop), fadeEK t l K = K (fadeEnv t l)
  | [], _ => rfl
  | (i, sv) :: l, K => by simp only [fadeEK, fadeSK_eq, fadeEK_eq t l, fadeEnv]
theorem fadeCK_eq (t : Nat) : ∀ (l : List SV) (K : List SV → Prop), fadeCK t l K = K (fadeCells t l)
  | [], _ => rfl
  | sv :: l, K => by simp only [fadeCK, fadeSK_eq, fadeCK_eq t l, fadeCells]
theorem fadeBK_eq (t : Nat) : ∀ (l : List (Nat × Option LB)) (K : List (Nat × Option LB) → Prop), fadeBK t l K = K (fadeBlk t l)
  | [], _ => rfl
  | (i, lb) :: l, K => by
    match lb with
    | some (.cells r cs ty) => simp only [fadeBK, fadeCK_eq, fadeBK_eq t l, fadeBlk]
    | some (.row ..) => simp only [fadeBK, fadeBK_eq t l, fadeBlk]
    | some (.map ..) => simp only [fadeBK, fadeBK_eq t l, fadeBlk]
    | none => simp only [fadeBK, fadeBK_eq t l, fadeBlk]
theorem fadeK_eq (s : St) (t : Nat) (K : St → Prop) : fadeK s t K = K (s.fade t) := by
  cases s; simp only [fadeK, fadeEK_eq, fadeBK_eq, St.fade]
theorem dropEK_eq (d : Nat) : ∀ (l : List (Nat × SV)) (K : List (Nat × SV) → Prop), dropEK d l K = K (l.filter fun p => !Nat.beq p.1 d)
  | [], _ => rfl
  | (i, sv) :: l, K => by
    simp only [dropEK]
    split <;> rename_i h <;> simp [dropEK_eq d l, List.filter_cons, h]
def St.drop (s : St) (dst : Option Tmp) : St := match dst with | some d => { s with env := s.env.filter fun p => !Nat.beq p.1 d } | none => s
theorem dropK_eq (s : St) (dst : Option Tmp) (K : St → Prop) : dropK s dst K = K (s.drop dst) := by
  cases s; cases dst <;> simp only [dropK, dropEK_eq, St.drop]
theorem argsK_spec : ∀ (l : List Value) (i : Nat) (K : List (Nat × SV) → Prop), argsK i l K → ∃ e, K e ∧ ∀ j sv, look e j = some sv → ∃ v, sv = .val v ∧ i ≤ j ∧ l[j - i]? = some v
  | [], i, K, h => ⟨[], h, by simp [look]⟩
  | v :: l, i, K, h => by
    obtain ⟨e, hk, he⟩ := argsK_spec l (i + 1) _ h
    refine ⟨_, hk, fun j sv hj => ?_⟩
    simp only [look] at hj
    split at hj
    · rename_i hb
      have := Nat.eq_of_beq_eq_true hb
      subst this
      cases hj
      exact ⟨v, rfl, Nat.le_refl _, by simp⟩
    · obtain ⟨u, h1, h2, h3⟩ := he j sv hj
      refine ⟨u, h1, by omega, ?_⟩
      rw [show j - i = (j - (i + 1)) + 1 from by omega]
      simpa using h3
theorem evK_spec {s : St} {x : Operand} {K : SV → Prop} (h : evK s x K) : ∃ sv, ev s x = some sv ∧ K sv := by
  unfold evK at h
  split at h
  · exact ⟨_, by assumption, h⟩
  · exact h.elim
theorem tyK_spec {C : Cx} {t : TypeId} {K : TI → Prop} (h : tyK C t K) : ∃ i, look C.tt t = some i ∧ K i := by
  unfold tyK at h
  split at h
  · exact ⟨_, by assumption, h⟩
  · exact h.elim
theorem dstK_spec {n : Nat} {dst : Option Tmp} {A : Prop} (h : dstK n dst A) : (∀ d, dst = some d → d < n) ∧ A := by
  unfold dstK at h
  split at h
  · exact ⟨by simp, h⟩
  · split at h
    · rename_i hb
      exact ⟨fun d hd => by cases hd; simpa [Nat.blt_eq] using hb, h⟩
    · exact h.elim
theorem TTok.get {P : Program} : ∀ {tt : List (Nat × TI)}, TTok P tt → ∀ {t i}, look tt t = some i → TIok P t i
  | [], _, _, _, h => by cases h
  | (t, i) :: r, ⟨h1, h2⟩, u, j, h => by
    simp only [look] at h
    split at h
    · rename_i hb
      have := Nat.eq_of_beq_eq_true hb
      subst this
      cases h
      exact h1
    · exact h2.get h

/-! ### Types in the program -/
section
variable {P : Program} {t : TypeId} {i : TI} (w : World)
theorem TIok.info' (h : TIok P t i) : ∃ x, P.info? t = some x ∧ x.size = i.size ∧ x.bytes = i.bytes ∧ ∃ z, x.zero = some z ∧ vcells z = i.zero := by
  have h1 := h.info
  have h2 := h.zero
  cases hx : P.info? t with
  | none => simp [hx] at h1
  | some x =>
    simp [hx] at h1 h2
    obtain ⟨z, hz, e⟩ := h2
    exact ⟨x, rfl, h1.1, h1.2, z, hz, e⟩
theorem TIok.run_sizeOf (h : TIok P t i) : (sizeOf t).run P w = .ok i.size w := by
  obtain ⟨x, hx, e, _⟩ := h.info'
  simp [sizeOf, typeInfo, hx, e]
theorem TIok.run_isAgg (h : TIok P t i) : (isAgg t).run P w = .ok i.agg w := by
  have h1 := h.agg
  cases hd : P.underlying t with
  | none => simp [hd] at h1
  | some d =>
    simp only [hd, Option.map_some, Option.some.injEq] at h1
    simp only [isAgg, Sem.run_bind, run_underlying hd, Result.andThen_ok]
    cases d <;> simp_all [isAggD]
theorem TIok.run_zero (h : TIok P t i) : ∃ z, vcells z = i.zero ∧ (zeroValue t).run P w = .ok z w := by
  obtain ⟨x, hx, _, _, z, hz, e⟩ := h.info'
  exact ⟨z, e, by simp [zeroValue, typeInfo, hx, hz]⟩
end

/-! ### Memory -/
theorem Addr.add_add' (a : Addr) (x y : Nat) : (a.add x).add y = a.add (x + y) := by
  unfold Addr.add
  by_cases hx : x = 0
  · subst hx; simp
  · by_cases hy : y = 0
    · subst hy; simp
    · rw [if_neg hx, if_neg hy, if_neg (by omega)]
      simp [Nat.add_assoc]
theorem Addr.add_lit' (r o j : Nat) : (⟨r, o, none⟩ : Addr).add j = ⟨r, o + j, none⟩ := by
  unfold Addr.add
  by_cases h : j = 0
  · simp [h]
  · simp [h]
theorem Holds.cell {μ : Mem} {w : World} (h : Holds μ w) {a : Addr} {v : Value} (hv : μ.cell a = some v) : w.cell? a = some v := by
  unfold Mem.cell at hv
  unfold World.cell?
  split at hv
  · rename_i c e f hb
    rw [h _ _ hb]
    exact hv
  · cases hv
theorem Mem.Le.cell {μ μ' : Mem} (h : μ.Le μ') {a : Addr} {v : Value} (hv : μ.cell a = some v) : μ'.cell a = some v := by
  unfold Mem.cell at *
  split at hv
  · rename_i c e f hb
    rw [h _ _ hb]
    exact hv
  · cases hv
theorem Mem.Le.refl (μ : Mem) : μ.Le μ := fun _ _ h => h
theorem Mem.Le.trans {a b c : Mem} (h : a.Le b) (k : b.Le c) : a.Le c := fun _ _ x => k _ _ (h _ _ x)
theorem run_loadVar_cells {P : Program} {t : TypeId} {i : TI} (hi : TIok P t i) (w : World) (a : Addr) (cs : List Value) (hl : cs.length = i.size) (h : ∀ j v, cs[j]? = some v → w.cell? (a.add j) = some v) (h1 : i.agg = false → i.size = 1) :
    (loadVar t a).run P w = .ok (if i.agg then .agg cs.toArray else cs.getD 0 undef) w := by
  unfold loadVar
  simp only [Sem.run_bind, hi.run_isAgg, Result.andThen_ok]
  cases hg : i.agg with
  | true =>
    have := run_loadCells_list (P := P) w a cs h
    simp [hi.run_sizeOf, ← hl, this]
  | false =>
    match cs, hl, h1 hg with
    | [v], _, _ =>
      have := h 0 v rfl
      simp only [Addr.add, if_true] at this
      simp [this]
    | [], e, e' => simp at e; omega
    | _ :: _ :: _, e, e' => simp at e; omega
end Go.Vx
