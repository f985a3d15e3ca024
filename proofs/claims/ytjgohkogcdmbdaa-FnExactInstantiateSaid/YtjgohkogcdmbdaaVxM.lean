/- Whole functions. -/
import Derived.Test.YtjgohkogcdmbdaaVxK
namespace Go.Vx
section
variable {C : Cx} {E : Ent} {s : St} {a : Act} {w : World}
def resOne (tmps : Array Value) : ResultVar → Sem Value
  | .tmp t => pure (tmps.getD t undef)
  | .cell a t => do loadVar t (← asAddr (tmps.getD a undef))
theorem resK_sound (htt : TTok C.P C.tt) (hR : Rel E a w s) : ∀ (l : List ResultVar) (K : List Value → Prop), resK C s l K →
    ∃ vs, K vs ∧ vs.length = l.length ∧ (l.mapM (resOne a.tmps)).run C.P w = .ok vs w
  | [], K, h => ⟨[], h, rfl, rfl⟩
  | .tmp t :: r, K, h => by
    have h : evK s (.tmp t) fun sv => concK sv fun v => resK C s r fun vs => K (v :: vs) := h
    obtain ⟨sv, h1, h2⟩ := evK_spec h
    obtain ⟨e1, -⟩ := ev_sound hR.env h1
    rw [concK_eq] at h2
    obtain ⟨vs, h3, h4, h5⟩ := resK_sound htt hR r _ h2
    refine ⟨sv.conc :: vs, h3, by simp [h4], ?_⟩
    have e1 : a.tmps.getD t undef = sv.conc := e1
    simp only [List.mapM_cons, resOne, Sem.run_bind, Sem.run_pure, Result.andThen_ok, h5, e1]
  | .cell x t :: r, K, h => by
    obtain ⟨sv, h1, h2⟩ := evK_spec h
    obtain ⟨e1, o1⟩ := ev_sound hR.env h1
    have fin : ∀ (sx : SV) (ad : Addr), svOk s sx → sx.conc = .pointer (some ad) → a.tmps.getD x undef = sx.conc → loadK C s t sx (fun sv => concK sv fun v => resK C s r fun vs => K (v :: vs)) →
        ∃ vs, K vs ∧ vs.length = (ResultVar.cell x t :: r).length ∧ ((ResultVar.cell x t :: r).mapM (resOne a.tmps)).run C.P w = .ok vs w := by
      intro sx ad o1 hc e1 h2
      obtain ⟨sv2, h3, h4, h5⟩ := loadK_sound htt hR.cells o1 h2
      rw [concK_eq] at h3
      obtain ⟨vs, h6, h7, h8⟩ := resK_sound htt hR r _ h3
      refine ⟨sv2.conc :: vs, h6, by simp [h7], ?_⟩
      have h9 := h5 w ⟨hR.sees, hR.own.1⟩
      have h9 : (loadVar t ad).run C.P w = .ok sv2.conc w := by
        rw [← h9, hc]
        simp [Instr.loadAt, Instr.sureAddr]
      simp only [List.mapM_cons, resOne, Sem.run_bind, Sem.run_pure, Result.andThen_ok, h8, e1, hc, asAddr, h9]
    split at h2
    · exact fin _ _ o1 rfl e1 h2
    · exact fin _ _ o1 rfl e1 h2
    · exact h2.elim
def DrawsOk (C : Cx) : Prop := ∀ {E : Ent} (_ : C.n = E.n) {ops : Array Oper} {id : Nat} {s : St} {a : Act} {w : World} {K : St → Prop} {Q : Exit → Act → World → Prop}, Rel E a w s → vcDraw C ops.toList s K → (∀ a' w' s', K s' → Rel E a' w' s' → Q .normal a' w') → (Code.region id ops true).wp C.P Q a w
theorem Mem.join_get (μ g : Mem) (b : Nat) : μ.join g b = match μ b with | some o => some o | none => g b := rfl
theorem retVC_sound (hR : Rel E a w s) {v : Value} {R : Value → Mem → Mem → Prop} (h : retVC s v R) : ∃ μ' h', R v μ' h' ∧ Step E.μ0 E.h0 E.w0 μ' h' w := by
  obtain ⟨fz, h1⟩ := ret_elim h
  obtain ⟨s', h2, hR', _⟩ := frz_sound fz s _ hR h1
  rcases h2 with h2 | ⟨g, k, hp, h2⟩
  · exact ⟨s'.mem, s'.own, h2, ⟨hR'.mono, hR'.sees.1, hR'.own.1, fun b hb => hR'.own_none hb, hR'.fresh, fun b hb => (hR'.own.2 b hb).2, hR'.grow, hR'.keep, hR'.os, hR'.tape, hR'.output⟩⟩
  · have hg : ∀ b, g b ≠ none → s'.own b = g b := fun b hb => by
      rcases hp b with ⟨h, _⟩ | ⟨_, h⟩
      · exact h
      · exact absurd h hb
    have hk : ∀ b, k b ≠ none → s'.own b = k b := fun b hb => by
      rcases hp b with ⟨_, h⟩ | ⟨h, _⟩
      · exact absurd h hb
      · exact h
    have hj : ∀ b, (s'.mem.join g) b ≠ none → s'.mem b ≠ none ∨ g b ≠ none := fun b hb => by
      rw [Mem.join_get] at hb
      cases hm : s'.mem b with
      | none => rw [hm] at hb; exact .inr hb
      | some o => exact .inl (by simp)
    refine ⟨_, _, h2, ⟨fun b o hb => ?_, fun b o hb => ?_, fun b o hb => hR'.own.1 b o (by rw [hk b (by simp [hb])]; exact hb), fun b hb => ?_, fun b h0 hb => ?_, fun b hb => (hR'.own.2 b (by rw [hk b hb]; exact hb)).2, hR'.grow, hR'.keep, hR'.os, hR'.tape, hR'.output⟩⟩
    · rw [Mem.join_get, hR'.mono b o hb]
    · rw [Mem.join_get] at hb
      split at hb
      · rename_i x hx; cases hb; exact hR'.sees.1 b _ hx
      · exact hR'.own.1 b o (by rw [hg b (by simp [hb])]; exact hb)
    · rcases hj b hb with h | h
      · cases hkb : k b with
        | none => rfl
        | some o =>
          have h1 := hk b (by simp [hkb])
          rw [hkb, hR'.own_none h] at h1
          cases h1
      · rcases hp b with ⟨_, h'⟩ | ⟨_, h'⟩
        · exact h'
        · exact absurd h' h
    · rcases hj b hb with h | h
      · exact hR'.fresh b h0 h
      · exact (hR'.own.2 b (by rw [hg b h]; exact h)).2
/-- **A FUNCTION MEETS ITS CONTRACT IF THE GENERATOR SAYS SO.** -/
theorem SpecH.of_vc {P : Program} {tt : List (Nat × TI)} {os : List Nat} {f : FuncId} {fn : Func} {args : List Value} {μ h0 : Mem} {R : Value → Mem → Mem → Prop} (htt : TTok P tt) (hdr : ∀ n, DrawsOk ⟨P, tt, n, os, false⟩)
    (hf : P.funcs[f]? = some fn) (hname : (fn.name == "runtime.NumGoroutine") = false) (h : vcFun P tt os fn args μ h0 R) : SpecH P f args μ h0 R := by
  unfold vcFun at h
  split at h
  case h_1 => exact h.elim
  rename_i c hc
  obtain ⟨hle, h⟩ := leK_spec h
  obtain ⟨hlen, h⟩ := lenIs_spec _ _ _ h
  obtain ⟨e, h, he⟩ := argsK_spec _ _ _ h
  refine ⟨⟨fn, hf, by simp [hc], hname⟩, fun w hm hh hap => calls_of_wp hf hc ?_⟩
  let E : Ent := ⟨w, μ, h0, fn.ntmps⟩
  have hap' : ∀ b, h0 b ≠ none → μ b = none := fun b hb => by
    cases hm : μ b with
    | none => rfl
    | some o => exact absurd (hap b (by simp [hm])) hb
  have hR : Rel E { tmps := args.toArray ++ Array.replicate (fn.ntmps - args.toArray.size) undef, defers := [] } w ⟨e, [], 0, μ, h0⟩ := by
    refine ⟨rfl, by simp [E]; omega, fun i sv hi => ?_, fun t r cs ty h => by simp [St.lb, look] at h, ⟨hm, fun t lb h => by simp [St.lb, look] at h⟩, fun t lb h => by simp [St.lb, look] at h, fun t lb r h => by simp [St.lb, look] at h, fun t t' lb lb' r h => by simp [St.lb, look] at h, ⟨hh, fun b hb => ⟨hap' b hb, .inr hb⟩⟩, Mem.Le.refl _, fun b h h' => absurd h h', Nat.le_refl _, fun b _ _ => rfl, rfl, rfl, rfl⟩
    obtain ⟨v, rfl, _, hv⟩ := he i sv hi
    refine ⟨?_, trivial⟩
    simp only [Nat.sub_zero] at hv
    have hi : i < args.length := by
      rcases Nat.lt_or_ge i args.length with h | h
      · exact h
      · rw [List.getElem?_eq_none h] at hv; cases hv
    simp only [SV.conc]
    rw [Array.getElem?_append_left (by simpa using hi)]
    simpa using hv
  have fin : ∀ (s' : St) (a' : Act) (w' : World), Rel E a' w' s' → (resK ⟨P, tt, fn.ntmps, os, false⟩ s' fn.results.toList fun vs => (match vs with | [v] => retVC s' v R | vs => retVC s' (.tuple vs.toArray) R)) →
      a'.defers = [] ∧ ∃ v, (results fn a'.tmps).run P w' = .ok v w' ∧ ∃ v' μ' h', Ending.returned v = .returned v' ∧ R v' μ' h' ∧ Step μ h0 w μ' h' w' := by
    intro s' a' w' hR' hk
    refine ⟨hR'.defers, ?_⟩
    obtain ⟨vs, h1, h2, h3⟩ := resK_sound (C := ⟨P, tt, fn.ntmps, os, false⟩) htt hR' fn.results.toList _ hk
    have hres : (results fn a'.tmps).run P w' = .ok (if h : vs.toArray.size = 1 then vs.toArray[0] else .tuple vs.toArray) w' := by
      have e : results fn a'.tmps = (do let vs ← fn.results.mapM (resOne a'.tmps); pure (if h : vs.size = 1 then vs[0] else .tuple vs)) := by
        unfold results
        congr 1
      rw [e, Array.mapM_eq_mapM_toList]
      simp [h3]
    split at h1
    · obtain ⟨μ', h', g1, g2⟩ := retVC_sound hR' h1
      exact ⟨_, hres, _, μ', h', rfl, by simpa using g1, g2⟩
    · rename_i hne
      obtain ⟨μ', h', g1, g2⟩ := retVC_sound hR' h1
      refine ⟨_, hres, _, μ', h', rfl, ?_, g2⟩
      have : ¬ vs.toArray.size = 1 := fun h => by
        match vs, h with
        | [v], _ => exact hne v rfl
        | [], h => simp at h
        | _ :: _ :: _, h => simp at h
      rw [dif_neg this]
      exact g1
  refine vcCode_sound (C := ⟨P, tt, fn.ntmps, os, false⟩) htt rfl (fun h => nomatch h) (hdr fn.ntmps rfl) c hR h fun e s' a' w' hk hR' => ?_
  cases e with
  | normal => exact fin s' a' w' hR' hk
  | ret => exact fin s' a' w' hR' hk
  | exit id => exact hk.elim
end
end Go.Vx
