/- Operations that only read run as the generator says. -/
import Derived.Test.YtjgohkogcdmbdaaVxB
import Derived.Laws.Cover3
namespace Go.Vx

/-- What a value of the generator's leans on. -/
def svOk (s : St) : SV → Prop
  | .loc t r _ => t < s.nxt ∧ ∀ lb, s.lb t = some lb → ∃ cs ty, lb = .cells r cs ty
  | .row t base n cap => t < s.nxt ∧ ∀ lb, s.lb t = some lb → ∃ ty es xs, lb = .row base cap ty es xs ∧ n = xs.length
  | .elem a cs _ => ∀ j v, cs[j]? = some v → s.mem.cell (a.add j) = some v
  | .rel t base es i _ => t < s.nxt ∧ ∀ lb, s.lb t = some lb → ∃ cap ty xs, lb = .row base cap ty es xs ∧ i < xs.length
  | _ => True
def EnvOk (s : St) (a : Act) : Prop := ∀ i sv, look s.env i = some sv → a.tmps[i]? = some sv.conc ∧ svOk s sv
def BlkOk (s : St) : Prop := ∀ t r cs ty, s.lb t = some (.cells r cs ty) → ∀ sv ∈ cs, svOk s sv
def Sees (s : St) (w : World) : Prop := Holds s.mem w ∧ ∀ t lb, s.lb t = some lb → lb.fits (fun b => w.heap[b]?)
/-- The world is as the state says, its owned memory too. -/
def SeesO (s : St) (w : World) : Prop := Sees s w ∧ Holds s.own w
/-- x runs to what sv stands for, in every world that s sees. -/
def Runs (P : Program) (s : St) (x : Sem Value) (sv : SV) : Prop := ∀ w, SeesO s w → x.run P w = .ok sv.conc w

section
variable {C : Cx} {s : St} {a : Act}
theorem getD_of {xs : Array Value} {i : Nat} {v : Value} (h : xs[i]? = some v) (d : Value) : xs.getD i d = v := by
  simp [Array.getD_eq_getD_getElem?, h]
theorem ev_sound (he : EnvOk s a) {x : Operand} {sv : SV} (h : ev s x = some sv) : a.eval x = sv.conc ∧ svOk s sv := by
  cases x with
  | tmp t => obtain ⟨h1, h2⟩ := he _ _ h; exact ⟨getD_of h1 _, h2⟩
  | const v =>
    simp only [ev] at h
    split at h <;> (cases h; exact ⟨rfl, trivial⟩)
  | global g => cases h; exact ⟨rfl, trivial⟩
  | func f => cases h; exact ⟨rfl, trivial⟩
theorem evsK_sound (he : EnvOk s a) : ∀ (l : List Operand) (K : List Value → Prop), evsK s l K → K (l.map a.eval)
  | [], _, h => h
  | x :: l, K, h => by
    obtain ⟨sv, h1, h2⟩ := evK_spec h
    rw [concK_eq] at h2
    have := evsK_sound he l _ h2
    rw [(ev_sound he h1).1.symm] at this
    exact this
theorem pickK_sound (he : EnvOk s a) {c x y : Operand} {K : SV → Prop} (h : pickK s c x y K) :
    ∃ sv, K sv ∧ svOk s sv ∧ ∃ b, a.eval c = .bool b ∧ (if b then a.eval x else a.eval y) = sv.conc := by
  obtain ⟨svc, h1, h2⟩ := evK_spec h
  obtain ⟨e1, -⟩ := ev_sound he h1
  split at h2
  · obtain ⟨sx, h3, h4⟩ := evK_spec h2
    obtain ⟨e2, o2⟩ := ev_sound he h3
    exact ⟨sx, h4, o2, true, e1, by simpa using e2⟩
  · obtain ⟨sx, h3, h4⟩ := evK_spec h2
    obtain ⟨e2, o2⟩ := ev_sound he h3
    exact ⟨sx, h4, o2, false, e1, by simpa using e2⟩
  · rename_i c
    obtain ⟨sx, h3, h4⟩ := evK_spec h2
    obtain ⟨e2, -⟩ := ev_sound he h3
    obtain ⟨sy, h5, h6⟩ := evK_spec h4
    obtain ⟨e3, -⟩ := ev_sound he h5
    split at h6 <;> first
      | exact h6.elim
      | (refine ⟨_, h6, trivial, c, e1, ?_⟩; rw [e2, e3]; cases c <;> rfl)
  · exact h2.elim
theorem unK_sound {op : UnOp} {x : SV} {K : SV → Prop} (h : unK op x K) : ∃ sv, K sv ∧ svOk s sv ∧ Runs C.P s (Op.unary op x.conc) sv := by
  unfold unK at h
  split at h
  · exact ⟨_, h, trivial, fun w _ => rfl⟩
  · exact ⟨_, h, trivial, fun w _ => rfl⟩
  · exact ⟨_, num_elim h, trivial, fun w _ => rfl⟩
  · exact h.elim
theorem intK_sound {op : BinOp} {t : TypeId} {k : IntKind} {x y : Int} {K : SV → Prop} (h : intK op k x y K) : ∃ sv, K sv ∧ svOk s sv ∧ Runs C.P s (binOp op t (.int k x) (.int k y)) sv := by
  unfold intK at h
  split at h
  · exact ⟨_, num_elim h, trivial, fun w _ => by simp [binOp, Op.intArith, SV.conc]⟩
  · exact ⟨_, num_elim h, trivial, fun w _ => by simp [binOp, Op.intArith, SV.conc]⟩
  · exact ⟨_, num_elim h, trivial, fun w _ => by simp [binOp, Op.intArith, SV.conc]⟩
  · obtain ⟨h1, h2⟩ := need_elim h
    exact ⟨_, num_elim h2, trivial, fun w _ => by simp [binOp, Op.intDiv, SV.conc, h1]⟩
  · obtain ⟨h1, h2⟩ := need_elim h
    exact ⟨_, num_elim h2, trivial, fun w _ => by simp [binOp, Op.intDiv, SV.conc, h1]⟩
  · exact ⟨_, h, trivial, fun w _ => by simp [binOp, Op.intCmp, SV.conc]; rfl⟩
  · exact ⟨_, h, trivial, fun w _ => by simp [binOp, Op.intCmp, SV.conc]; rfl⟩
  · exact ⟨_, h, trivial, fun w _ => by simp [binOp, Op.intCmp, SV.conc]⟩
  · exact ⟨_, h, trivial, fun w _ => by simp [binOp, Op.intCmp, SV.conc]⟩
  · exact ⟨_, h, trivial, fun w _ => by simp [binOp, Op.intCmp, SV.conc]⟩
  · exact ⟨_, h, trivial, fun w _ => by simp [binOp, Op.intCmp, SV.conc]⟩
  · exact ⟨_, num_elim h, trivial, fun w _ => by simp [binOp, intBits_and, SV.conc]⟩
  · exact ⟨_, num_elim h, trivial, fun w _ => by simp [binOp, intBits_or, SV.conc]⟩
  · exact ⟨_, num_elim h, trivial, fun w _ => by simp [binOp, intBits_xor, SV.conc]⟩
  · exact h.elim
theorem shiftK_sound {op : BinOp} {t : TypeId} {k k' : IntKind} {x y : Int} {K : SV → Prop} (h : shiftK op k x y K) : ∃ sv, K sv ∧ svOk s sv ∧ Runs C.P s (binOp op t (.int k x) (.int k' y)) sv := by
  unfold shiftK at h
  split at h
  · obtain ⟨h1, h2⟩ := need_elim h
    exact ⟨_, num_elim h2, trivial, fun w _ => by simp [binOp, Op.shift, SV.conc, Int.not_lt.2 h1]⟩
  · obtain ⟨h1, h2⟩ := need_elim h
    exact ⟨_, num_elim h2, trivial, fun w _ => by simp [binOp, Op.shift, SV.conc, Int.not_lt.2 h1]⟩
  · exact h.elim
theorem bytes_beq (x y : ByteArray) : (x.toList == y.toList) = decide (x = y) := by
  rw [Bool.eq_iff_iff]
  simp only [beq_iff_eq, decide_eq_true_eq, ByteArray.toList_eq]
  constructor
  · intro h
    cases x; cases y
    simp only [ByteArray.mk.injEq]
    exact Array.ext' h
  · rintro rfl; rfl
theorem bytesLess_total : ∀ x y : List UInt8, (!(Op.bytesLess x y || x == y)) = Op.bytesLess y x
  | [], [] => rfl
  | [], _ :: _ => rfl
  | _ :: _, [] => rfl
  | a :: x, b :: y => by
    have ih := bytesLess_total x y
    simp only [Op.bytesLess]
    by_cases h1 : a < b
    · have h2 : ¬ b < a := fun h => absurd (UInt8.lt_trans h1 h) (UInt8.lt_irrefl a)
      have h3 : ¬ b = a := fun h => by subst h; exact absurd h1 (UInt8.lt_irrefl _)
      simp [h1, h2, h3]
    · by_cases h2 : b < a
      · have h3 : ¬ a = b := fun h => by subst h; exact h1 h2
        simp [h1, h2, h3]
      · have h3 : a = b := by
          have e1 := UInt8.not_lt.1 h1
          have e2 := UInt8.not_lt.1 h2
          exact UInt8.le_antisymm e2 e1
        subst h3
        simp [h1] at ih ⊢
        exact ih
theorem strK_sound {op : BinOp} {t : TypeId} {x y : ByteArray} {K : SV → Prop} (h : strK op x y K) : ∃ sv, K sv ∧ svOk s sv ∧ Runs C.P s (binOp op t (.string x) (.string y)) sv := by
  unfold strK at h
  split at h
  · exact ⟨_, h, trivial, fun w _ => by simp [binOp, Op.stringOp, SV.conc, bytes_beq]⟩
  · exact ⟨_, h, trivial, fun w _ => by simp [binOp, Op.stringOp, SV.conc, bytes_beq]⟩
  · exact ⟨_, h, trivial, fun w _ => by simp [binOp, Op.stringOp, SV.conc, ByteArray.toList_eq]⟩
  · exact ⟨_, h, trivial, fun w _ => by
      have := bytesLess_total x.data.toList y.data.toList
      simp only [binOp, Op.stringOp, SV.conc, ByteArray.toList_eq, Sem.run_pure, this]⟩
  · obtain ⟨h1, h2⟩ := need_elim h
    exact ⟨_, h2, trivial, fun w _ => by simp only [binOp]; exact run_string_add_sum _ _ _ h1⟩
  · exact h.elim
theorem eqbK_sound {op : BinOp} {t : TypeId} {x y : Bool} {K : SV → Prop} (ht : C.P.underlying t = some .bool) (h : eqbK op x y K) : ∃ sv, K sv ∧ svOk s sv ∧ Runs C.P s (binOp op t (.bool x) (.bool y)) sv := by
  unfold eqbK at h
  split at h
  · exact ⟨_, h, trivial, fun w _ => run_eql_bool w t x y ht⟩
  · exact ⟨_, h, trivial, fun w _ => run_neq_bool w t x y ht⟩
  · exact h.elim
theorem nilK_sound {op : BinOp} {t e : TypeId} {b : Option Addr} {n c : Nat} {K : SV → Prop} (ht : C.P.underlying t = some (.slice e)) (h : nilK op b.isNone K) : ∃ sv, K sv ∧ svOk s sv ∧ Runs C.P s (binOp op t (.slice b n c) (.slice none 0 0)) sv := by
  unfold nilK at h
  split at h
  · exact ⟨_, h, trivial, fun w _ => by simp [binOp, run_equal_slice_nil w t e b n c ht, SV.conc]⟩
  · exact ⟨_, h, trivial, fun w _ => run_neq_slice_nil w t e b n c ht⟩
  · exact h.elim
theorem binK_sound (htt : TTok C.P C.tt) {op : BinOp} {t : TypeId} {x y : SV} {K : SV → Prop} (h : binK C op t x y K) : ∃ sv, K sv ∧ svOk s sv ∧ Runs C.P s (binOp op t x.conc y.conc) sv := by
  unfold binK at h
  split at h
  · split at h
    · split at h
      · exact shiftK_sound h
      · split at h
        · rename_i k k' b _ _ e _; subst e; exact intK_sound h
        · exact h.elim
    · exact h.elim
  · split at h
    · exact strK_sound h
    · exact h.elim
  · obtain ⟨i, h1, h2⟩ := tyK_spec h
    have hk := (htt.get h1).kind
    split at h2 <;> first
      | exact h2.elim
      | (rename_i hkk; rw [hkk] at hk; exact eqbK_sound hk h2)
  · obtain ⟨i, h1, h2⟩ := tyK_spec h
    have hk := (htt.get h1).kind
    split at h2 <;> first
      | exact h2.elim
      | (rename_i hkk; rw [hkk] at hk; exact eqbK_sound hk h2)
  · obtain ⟨i, h1, h2⟩ := tyK_spec h
    have hk := (htt.get h1).kind
    split at h2
    · rename_i hkk; rw [hkk] at hk; exact nilK_sound hk h2
    · exact h2.elim
  · exact h.elim
theorem eqGuard_quiet {C : Cx} {op : BinOp} {t : TypeId} {x y : SV} {K : SV → Prop} (h : binK C op t x y K) (ox oy : Operand) (w : World) :
    (eqGuard op t ox oy x.conc y.conc).run C.P w = .ok () w := by
  have key : (∃ v, x = .val v ∧ v ≠ .nilIface ∧ ∀ c, v ≠ .agg c) ∨ (∃ b, x = .kn b) := by
    unfold binK at h
    split at h <;> first
      | exact .inl ⟨_, rfl, by simp, by simp⟩
      | exact .inr ⟨_, rfl⟩
      | exact h.elim
  unfold eqGuard
  rcases key with ⟨v, rfl, h1, h2⟩ | ⟨b, rfl⟩
  · simp only [SV.conc]
    cases v <;> first
      | exact absurd rfl h1
      | exact absurd rfl (h2 _)
      | (cases op <;> rfl)
  · cases op <;> rfl
end
end Go.Vx
