/- Contracts: names. -/
import Derived.Test.YtjgohkogcdmbdaaVxW
import Derived.Test.YtjgohkogcdmbdaaTT
namespace Go.Vx
open Go.Proofs Classical
theorem SpecH.mk (os : List Nat) {f : FuncId} {fn : Func} {args : List Value} {μ h0 : Mem} {R : Value → Mem → Mem → Prop} (hf : Try.prog.funcs[f]? = some fn) (hname : (fn.name == "runtime.NumGoroutine") = false) (h : vcFun Try.prog tt os fn args μ h0 R) : SpecH Try.prog f args μ h0 R :=
  SpecH.of (T := Try.checked) os ttok hf hname h
theorem Spec.mk {f : FuncId} {fn : Func} {args : List Value} {μ : Mem} {R : Value → Mem → Prop} (hf : Try.prog.funcs[f]? = some fn) (hname : (fn.name == "runtime.NumGoroutine") = false) (h : vcFun Try.prog tt [] fn args μ Mem.nil fun v μ' _ => R v μ') : Spec Try.prog f args μ R :=
  SpecH.of (T := Try.checked) [] ttok hf hname h
theorem Spec.mkO (os : List Nat) {f : FuncId} {fn : Func} {args : List Value} {μ : Mem} {R : Value → Mem → Prop} (hf : Try.prog.funcs[f]? = some fn) (hname : (fn.name == "runtime.NumGoroutine") = false) (h : vcFun Try.prog tt os fn args μ Mem.nil fun v μ' _ => R v μ') : Spec Try.prog f args μ R :=
  SpecH.of (T := Try.checked) os ttok hf hname h
theorem wrap64 {n : Int} (h1 : -9223372036854775808 ≤ n) (h2 : n < 9223372036854775808) : IntKind.i64.wrap n = n := by
  have e : IntKind.i64.bits = 64 := rfl
  have e2 : IntKind.i64.signed = true := rfl
  simp only [IntKind.wrap, e, e2, Bool.true_and]
  simp only [show (2 : Int) ^ 64 = 18446744073709551616 from rfl, show (2 : Int) ^ (64 - 1) = 9223372036854775808 from rfl]
  split <;> rename_i h <;> simp at h <;> omega
theorem num64 {n : Int} {K : Int → Prop} (h1 : -9223372036854775808 ≤ n) (h2 : n < 9223372036854775808) (k : K n) : numVC (IntKind.i64.wrap n) K := num_eq (wrap64 h1 h2) k
/-! ### Tests, as they come -/
theorem ifd {p : Prop} [d : Decidable p] {A B : Prop} (h : p → A) (k : ¬ p → B) : ifVC (decide p) A B := if_intro (fun e => h (of_decide_eq_true e)) (fun e => k (of_decide_eq_false e))
theorem ifnd {p : Prop} [d : Decidable p] {A B : Prop} (h : ¬ p → A) (k : p → B) : ifVC (!decide p) A B := if_intro (fun e => h (by simpa using e)) (fun e => k (by simpa using e))
/-- The contract of a function that hands back x and has made no data. -/
abbrev Gives (P : Program) (f : FuncId) (args : List Value) (μ : Mem) (x : Value) : Prop := Spec P f args μ fun v μ' => v = x ∧ μ' = μ
theorem call_gives {dr : Bool} {P : Program} {f : FuncId} {args : List Value} {s : St} {K : Value → St → Prop} {x : Value} (h : Gives P f args s.mem x) (k : K x s) : callVC dr P f args s K :=
  call_plain h fun v μ' _ hR => by
    obtain ⟨rfl, rfl⟩ := hR
    cases s
    exact k
theorem ret_gives {s : St} {v x : Value} {μ : Mem} (h : v = x) (hm : s.mem = μ) : retVC s v fun v μ' _ => v = x ∧ μ' = μ := ret_plain ⟨h, hm⟩
/-! ### Names -/
theorem l01In_spec (n lo hi : Int) (μ : Mem) : Gives Try.prog 39 [.int .i64 n, .int .i64 lo, .int .i64 hi] μ (.bool (decide (lo ≤ n ∧ n ≤ hi))) := by
  refine Spec.mk Try.func39 (by kernel_rfl) ?_
  repeat' (first
    | refine ifd (fun h => ?_) (fun h => ?_)
    | refine ifnd (fun h => ?_) (fun h => ?_)
    | refine if_intro (fun h => ?_) (fun h => ?_)
    | refine num64 ?_ ?_ ?_
    | refine byte_intro _ _ rfl (by assumption) ?_)
  all_goals refine ret_gives ?_ rfl
  · simp_all
  · simp; omega
def NmCh (first : Bool) (b : UInt8) : Prop := (97 ≤ b.toNat ∧ b.toNat ≤ 122) ∨ (first = false ∧ ((48 ≤ b.toNat ∧ b.toNat ≤ 57) ∨ b.toNat = 45))
def IsNm (s : ByteArray) : Prop := 1 ≤ s.size ∧ s.size ≤ 12 ∧ ∀ (i : Nat) b, s.data.toList[i]? = some b → NmCh (i == 0) b
theorem byte_some {s : ByteArray} {i : Nat} (h : i < s.size) : ∃ b, s.data.toList[i]? = some b := ⟨_, List.getElem?_eq_getElem (by simpa using h)⟩
theorem byte_lt {s : ByteArray} {i : Nat} {b : UInt8} (h : s.data.toList[i]? = some b) : i < s.size := by
  have := (List.getElem?_eq_some_iff.1 h).1
  simpa using this
theorem impl_IsName_spec (s : ByteArray) (μ : Mem) : Gives Try.prog 74 [.string s] μ (.bool (decide (IsNm s))) := by
  refine Spec.mk Try.func74 (by kernel_rfl) ?_
  refine ifd (fun h1 => ret_gives ?_ rfl) (fun h1 => ?_)
  · have : ¬ IsNm s := fun h => by have := h.1; omega
    simp [this]
  refine ifd (fun h2 => ret_gives ?_ rfl) (fun h2 => ?_)
  · have : ¬ IsNm s := fun h => by have := h.2.1; omega
    simp [this]
  obtain ⟨b0, hb0⟩ := byte_some (s := s) (i := 0) (by omega)
  have bad : ∀ {i : Nat} {b}, s.data.toList[i]? = some b → ¬ NmCh (i == 0) b → Value.bool false = .bool (decide (IsNm s)) := fun {i b} h k => by
    have : ¬ IsNm s := fun g => k (g.2.2 i b h)
    simp [this]
  refine byte_intro 0 b0 rfl hb0 ?_
  refine ifd (fun h3 => ret_gives (bad hb0 (by simp [NmCh]; omega)) rfl) (fun h3 => ?_)
  refine byte_intro 0 b0 rfl hb0 ?_
  refine ifd (fun h4 => ret_gives (bad hb0 (by simp [NmCh]; omega)) rfl) (fun h4 => ?_)
  refine loop_intro (fun i : Nat => 1 ≤ i ∧ i ≤ s.size ∧ ∀ k b, k < i → s.data.toList[k]? = some b → NmCh (k == 0) b) (fun i => ⟨[(0, .val (.string s)), (3, .val (.int .i64 i))], [], 0, μ, Mem.nil⟩) (fun i => s.size - i)
    1 ⟨by omega, by omega, fun k b hk hb => ?_⟩ (fun i => ⟨rfl, rfl⟩) ⟨⟨rfl, rfl, trivial⟩, trivial, rfl, rfl⟩ ?_
  · have : k = 0 := by omega
    subst this
    rw [hb0] at hb
    cases hb
    exact .inl ⟨by omega, by omega⟩
  rintro i ⟨hi1, hi2, hall⟩
  refine ifd (fun h5 => ?_) (fun h5 => ret_gives ?_ rfl)
  · obtain ⟨b, hb⟩ := byte_some (s := s) (i := i) (by omega)
    have hi0 : (i == 0) = false := by simp; omega
    have next : ((97 ≤ b.toNat ∧ b.toNat ≤ 122) ∨ (48 ≤ b.toNat ∧ b.toNat ≤ 57) ∨ b.toNat = 45) → ∀ k b', k < i + 1 → s.data.toList[k]? = some b' → NmCh (k == 0) b' := fun g k b' hk hb' => by
      by_cases e : k = i
      · subst e; rw [hb] at hb'; cases hb'; rw [hi0]; exact g.imp id fun g => ⟨rfl, g⟩
      · exact hall k b' (by omega) hb'
    have badb : ¬ ((97 ≤ b.toNat ∧ b.toNat ≤ 122) ∨ (48 ≤ b.toNat ∧ b.toNat ≤ 57) ∨ b.toNat = 45) → Value.bool false = .bool (decide (IsNm s)) := fun g => bad hb fun k => by
      rw [hi0] at k
      exact g (k.imp id fun k => k.2)
    repeat' (first
      | refine ifd (fun h => ?_) (fun h => ?_)
      | refine ifnd (fun h => ?_) (fun h => ?_)
      | refine if_intro (fun h => ?_) (fun h => ?_)
      | refine num64 ?_ ?_ ?_
      | refine byte_intro _ _ rfl (by assumption) ?_)
    all_goals first
      | (refine ret_gives (badb ?_) rfl; omega)
      | exact ⟨i + 1, ⟨by omega, by omega, next (by omega)⟩, by omega, ⟨⟨rfl, rfl, trivial⟩, trivial, rfl, rfl⟩⟩
      | omega
  · have : IsNm s := ⟨by omega, by omega, fun k b hb => hall k b (by have := byte_lt hb; omega) hb⟩
    simp [this]
theorem spec_IsName_spec (s : ByteArray) (hs : s.size ≤ maxLen) (μ : Mem) : Gives Try.prog 72 [.string s] μ (.bool (decide (IsNm s))) := by
  have hs : s.size ≤ 9223372036854775807 := Nat.le_trans hs (by decide)
  refine Spec.mk Try.func72 (by kernel_rfl) ?_
  refine loop_intro (fun i : Nat => i ≤ s.size ∧ ∀ k b, k < i → s.data.toList[k]? = some b → NmCh (k == 0) b) (fun i => ⟨[(0, .val (.string s)), (3, .val (.int .i64 i))], [], 0, μ, Mem.nil⟩) (fun i => s.size - i)
    0 ⟨by omega, fun k b hk hb => by omega⟩ (fun i => ⟨rfl, rfl⟩) ⟨⟨rfl, rfl, trivial⟩, trivial, rfl, rfl⟩ ?_
  rintro i ⟨hi2, hall⟩
  refine ifd (fun h5 => ?_) (fun h5 => call_gives (l01In_spec _ _ _ _) (ret_gives ?_ rfl))
  · obtain ⟨b, hb⟩ := byte_some (s := s) (i := i) (by omega)
    have hb8 := b.toNat_lt
    have next : ((97 ≤ b.toNat ∧ b.toNat ≤ 122) ∨ (i ≠ 0 ∧ ((48 ≤ b.toNat ∧ b.toNat ≤ 57) ∨ b.toNat = 45))) → ∀ k b', k < i + 1 → s.data.toList[k]? = some b' → NmCh (k == 0) b' := fun g k b' hk hb' => by
      by_cases e : k = i
      · subst e; rw [hb] at hb'; cases hb'; exact g.imp id fun g => ⟨by simp; exact g.1, g.2⟩
      · exact hall k b' (by omega) hb'
    have badb : ¬ ((97 ≤ b.toNat ∧ b.toNat ≤ 122) ∨ (i ≠ 0 ∧ ((48 ≤ b.toNat ∧ b.toNat ≤ 57) ∨ b.toNat = 45))) → Value.bool false = .bool (decide (IsNm s)) := fun g => by
      have : ¬ IsNm s := fun h => g ((h.2.2 i b hb).imp id fun k => ⟨by have := k.1; simpa using this, k.2⟩)
      simp [this]
    repeat' (first
      | refine call_gives (l01In_spec _ _ _ _) ?_
      | refine ifd (fun h => ?_) (fun h => ?_)
      | refine ifnd (fun h => ?_) (fun h => ?_)
      | refine if_intro (fun h => ?_) (fun h => ?_)
      | refine num64 ?_ ?_ ?_
      | refine byte_intro i b rfl hb ?_)
    all_goals first
      | (refine ret_gives (badb ?_) rfl; omega)
      | exact ⟨i + 1, ⟨by omega, next (by omega)⟩, by omega, ⟨⟨rfl, rfl, trivial⟩, trivial, rfl, rfl⟩⟩
      | omega
  · congr 1
    simp only [decide_eq_decide]
    exact ⟨fun h => ⟨by omega, by omega, fun k b hb => hall k b (by have := byte_lt hb; omega) hb⟩, fun h => by have := h.1; have := h.2.1; omega⟩
end Go.Vx
