/- **DRAWN REGIONS ARE SOUND**: the whole. -/
import Derived.Test.YtjgohkogcdmbdaaVxR
namespace Go.Vx
section
variable {C : Cx} {E : Ent} {ops : Array Oper} {s : St} {a : Act} {w : World}
theorem Rel.forget (hR : Rel E a w s) (d : Nat) : Rel E a w (s.drop (some d)) := by
  have hs : ∀ x, svOk s x → svOk (s.drop (some d)) x := fun x hx => svOk_ext (s := s) (Nat.le_refl _) (Mem.Le.refl _) (fun t lb' _ h => ⟨lb', h, lb'.alike_refl⟩) hx
  refine ⟨hR.defers, hR.size, fun i x hx => ?_, fun t r cs ty h x hx => hs x (hR.cells t r cs ty h x hx), hR.sees, hR.nxt, hR.place, hR.sep, hR.own, hR.mono, hR.fresh, hR.grow, hR.keep, hR.os, hR.tape, hR.output⟩
  simp only [St.drop, look_filter] at hx
  split at hx
  · cases hx
  · exact ⟨(hR.env i x hx).1, hs _ (hR.env i x hx).2⟩
theorem dropAllK_spec {ops : List Oper} : ∀ (js : List Nat) {s : St} {K : St → Prop}, Rel E a w s → dropAllK C ops js s K →
    ∃ s', K s' ∧ Rel E a w s' ∧ (∀ d, look s.env d = none → look s'.env d = none) ∧
      ∀ j ∈ js, ∀ o, ops[j]? = some o → (∀ t, o.op = .alloc t → ∃ ti, look C.tt t = some ti) ∧ ∀ d, o.dst = some d → d < C.n ∧ soleDst d j 0 ops = true ∧ look s'.env d = none
  | [], s, K, hR, h => ⟨s, h, hR, fun _ h => h, fun j hj => nomatch hj⟩
  | j :: js, s, K, hR, h => by
    simp only [dropAllK] at h
    split at h
    case h_2 => exact h.elim
    rename_i o ho
    split at h
    case h_2 => exact h.elim
    rename_i d hd
    split at h
    case h_2 => exact h.elim
    rename_i t hop
    obtain ⟨ti, h1, h⟩ := tyK_spec h
    obtain ⟨h2, h⟩ := dstK_spec h
    obtain ⟨h3, h⟩ := okK_spec h
    rw [dropK_eq] at h
    obtain ⟨s', g1, g2, g3, g4⟩ := dropAllK_spec js (hR.forget d) h
    have hnone : look (s.drop (some d)).env d = none := by simp only [St.drop, look_filter]; simp
    refine ⟨s', g1, g2, fun d' hd' => g3 d' ?_, fun k hk o' ho' => ?_⟩
    · simp only [St.drop, look_filter]; split
      · rfl
      · exact hd'
    · rcases List.mem_cons.1 hk with rfl | hk
      · rw [ho] at ho'
        cases ho'
        refine ⟨fun t' ht' => ?_, fun d' hd' => ?_⟩
        · rw [hop] at ht'; cases ht'; exact ⟨ti, h1⟩
        · rw [hd] at hd'
          cases hd'
          exact ⟨by simpa using h2, h3, g3 _ hnone⟩
      · exact g4 k hk o' ho'
theorem noSel_spec : ∀ {l : List Oper}, noSel l = true → ∀ (j : Nat) (o : Oper) cs b, l[j]? = some o → o.op ≠ .select cs b
  | [], _, j, o, cs, b, h, _ => by simp at h
  | x :: r, h, j, o, cs, b, ho, e => by
    simp only [noSel] at h
    split at h
    · cases h
    · rename_i hx
      match j with
      | 0 =>
        simp only [List.getElem?_cons_zero, Option.some.injEq] at ho
        subst ho
        exact hx _ _ e
      | j + 1 => exact noSel_spec h j o cs b (by simpa using ho) e
theorem svOk_V0 {sv : SV} (h : svOk s sv) : V0 s sv := by
  cases sv with
  | loc t r off =>
    intro r' cs ty hl
    obtain ⟨_, _, e⟩ := h.2 _ hl
    cases e; rfl
  | row t b n c =>
    intro r' cs ty hl
    obtain ⟨_, _, _, e, _⟩ := h.2 _ hl
    cases e
  | rel t b e j o =>
    intro r' cs ty hl
    obtain ⟨_, _, _, e, _⟩ := h.2 _ hl
    cases e
  | elem ad cs o => exact h
  | val v => trivial
  | kn b => trivial
theorem rem_all (n : Nat) : rem n (Array.replicate n false) = n := by
  unfold rem
  rw [List.filter_eq_self.2]
  · simp
  · intro i hi
    have : i < n := by simpa using hi
    simp [this]
theorem vcDraw_sound (htt : TTok C.P C.tt) (hm : C.P.follows .mixedOrders = true) : DrawsOk C := by
  intro E hn ops id s a w K Q hR hv hK
  obtain ⟨hsel, hv⟩ := okK_spec hv
  split at hv
  case h_2 => exact hv.elim
  rename_i ml hml
  have hR' : Rel E a { w with drawn := w.drawn + 1 } s := { hR with sees := hR.sees, own := hR.own, grow := hR.grow, keep := hR.keep, os := hR.os, tape := hR.tape, output := hR.output }
  obtain ⟨s0, k1, hR0, -, hal0⟩ := dropAllK_spec _ hR' hv
  have hal : AlOk ⟨C.P, C.tt, C.n, [], true⟩ ops (allocIdx 0 ops.toList) := by
    refine ⟨fun j => ?_, fun j hj o t ho hop => (hal0 j hj o (by simpa using ho)).1 t hop, fun j hj o d ho hd => ((hal0 j hj o (by simpa using ho)).2 d hd).1, fun j hj o d ho hd k ok hok hkj => ?_⟩
    · rw [allocIdx_spec]
      simp
    · exact soleDst_spec ((hal0 j hj o (by simpa using ho)).2 d hd).2.1 k ok (Nat.zero_le _) (by simpa using hok) hkj
  refine wp_region_noPanic (wp_region_any hm (any_of_G (S := SS s0 ml (ownIdx ops.toList s0 0 ops.toList)) _ _ _ _ ?_))
  refine vcD_sound (C := ⟨C.P, C.tt, C.n, [], true⟩) (s0 := s0) htt hn (fun _ => rfl) rfl (fun x hx => (ownIdx_spec hx).imp fun o g => ⟨by simpa using g.2.1, g.2.2⟩) (fun j o cs b ho => noSel_spec hsel j o cs b (by simpa using ho)) hml hal allocIdx_nodup hR0.nxt hR0.cells (fun c a a' w h => h.elim) (fun a' w' s' h1 h2 => NoPanic.normal (hK a' w' s' h1 h2)) ops.size _ [] [] (fun _ => False) (fun _ => 0) s0 _ a _ (fun _ h => nomatch h) (rem_all _) ?_ k1
  have hget : ∀ i, i < ops.size → (Array.replicate ops.size false).getD i true = false := fun i hi => by simp [hi]
  refine ⟨hR0, by simp, fun i hi => ?_, fun x o ho hl => ?_, fun _ h => h.elim, fun _ h => h.elim, fun _ _ h => h.elim, fun j hj _ o d ho hd => ((hal0 j hj o (by simpa using ho)).2 d hd).2.2, ⟨hR0.sees.1, fun t r cs ty h _ => hR0.sees.2 t _ h, fun _ => hR0.own.1⟩, Mem.Le.refl _, fun i sv h => svOk_V0 (hR0.env i sv h).2, Nat.le_refl _, fun t r cs ty h => .inl ⟨cs, ty, h⟩, fun t lb _ h => ⟨lb, h, .inl lb.alike_refl⟩, fun _ => rfl⟩
  · rw [hget i hi]; simp
  · rw [hget x (Array.getElem?_eq_some_iff.1 ho).1] at hl
    cases hl
/-- **A FUNCTION MEETS ITS CONTRACT IF THE GENERATOR SAYS SO**: at a checked program. -/
theorem SpecH.of {T : Checked} {tt : List (Nat × TI)} (os : List Nat) {f : FuncId} {fn : Func} {args : List Value} {μ h0 : Mem} {R : Value → Mem → Mem → Prop} (htt : TTok T.prog tt) 
    (hf : T.prog.funcs[f]? = some fn) (hname : (fn.name == "runtime.NumGoroutine") = false) (h : vcFun T.prog tt os fn args μ h0 R) : SpecH T.prog f args μ h0 R :=
  SpecH.of_vc htt (fun n => vcDraw_sound (C := ⟨T.prog, tt, n, os, false⟩) htt (Checked.mixed T)) hf hname h
theorem Spec.of {T : Checked} {tt : List (Nat × TI)} (os : List Nat) {f : FuncId} {fn : Func} {args : List Value} {μ : Mem} {R : Value → Mem → Prop} (htt : TTok T.prog tt) 
    (hf : T.prog.funcs[f]? = some fn) (hname : (fn.name == "runtime.NumGoroutine") = false) (h : vcFun T.prog tt os fn args μ Mem.nil fun v μ' _ => R v μ') : Spec T.prog f args μ R :=
  SpecH.of os htt hf hname h
end
end Go.Vx
