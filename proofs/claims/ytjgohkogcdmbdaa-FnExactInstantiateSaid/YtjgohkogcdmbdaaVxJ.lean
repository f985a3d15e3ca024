/- **THE GENERATOR IS SOUND.** -/
import Derived.Test.YtjgohkogcdmbdaaVxI
namespace Go.Vx
section
variable {C : Cx} {E : Ent} {s : St} {a : Act} {w : World}

/-- A call that is lent all owned memory. -/
theorem Rel.stepO {μ' h' : Mem} {w' : World} (hR : Rel E a w s) (hS : Step s.mem s.own w μ' h' w') : Rel E a w' { s with mem := μ', own := h' } := by
  have hext : ∀ sv, svOk s sv → svOk { s with mem := μ', own := h' } sv := fun sv h => svOk_ext (s := s) (Nat.le_refl _) hS.le (fun t lb' _ hl => ⟨lb', hl, lb'.alike_refl⟩) h
  have hnone : ∀ r, r < w.heap.size → s.mem r = none → s.own r = none → μ' r = none ∧ h' r = none := fun r hr h h0 => by
    constructor
    · cases hm : μ' r with
      | none => rfl
      | some o =>
        rcases hS.fresh r h (by simp [hm]) with h | h
        · omega
        · exact absurd h0 h
    · cases hm : h' r with
      | none => rfl
      | some o =>
        rcases hS.freshH r (by simp [hm]) with h | h
        · omega
        · exact absurd h0 h
  refine ⟨hR.defers, hR.size, fun i sv h => ⟨(hR.env i sv h).1, hext _ (hR.env i sv h).2⟩, fun t r cs ty h sv hsv => hext _ (hR.cells t r cs ty h sv hsv), ⟨hS.mem, fun t lb h => ?_⟩, hR.nxt, fun t lb r h hr => ?_, hR.sep, ⟨hS.own, fun b hb => ?_⟩, hR.mono.trans hS.le, fun b hb0 hb => ?_, Nat.le_trans hR.grow hS.size, fun b hb h0 => ?_, hS.os.trans hR.os, hS.tape.trans hR.tape, hS.output.trans hR.output⟩
  · refine LB.fits_congr (fun r hr => ?_) (hR.sees.2 t lb h)
    exact hS.keep r (LB.fits_lt (hR.sees.2 t lb h) hr) (hR.place t lb r h hr).2.1
  · obtain ⟨h1, h2, h3⟩ := hR.place t lb r h hr
    obtain ⟨g1, g2⟩ := hnone r (LB.fits_lt (hR.sees.2 t lb h) hr) h1 h2
    exact ⟨g1, g2, h3⟩
  · refine ⟨?_, ?_⟩
    · cases hm : μ' b with
      | none => exact hm
      | some o => exact absurd (hS.apart b (by simp [hm])) hb
    · rcases hS.freshH b hb with h | h
      · exact .inl (Nat.le_trans hR.grow h)
      · exact (hR.own.2 b h).2
  · by_cases hm : s.mem b = none
    · rcases hS.fresh b hm hb with h | h
      · exact .inl (Nat.le_trans hR.grow h)
      · exact (hR.own.2 b h).2
    · exact hR.fresh b hb0 hm
  · rw [hS.keep b (Nat.lt_of_lt_of_le hb hR.grow) ?_]
    · exact hR.keep b hb h0
    · cases ho : s.own b with
      | none => rfl
      | some o =>
        rcases (hR.own.2 b (by simp [ho])).2 with h | h
        · omega
        · exact absurd h0 h
theorem Rel.step {μ' h' : Mem} {w' : World} (hR : Rel E a w s) (hS : Step s.mem Mem.nil w μ' h' w') : Rel E a w' { s with mem := μ' } := by
  have hnone : ∀ r, r < w.heap.size → s.mem r = none → μ' r = none := fun r hr h => by
    cases hm : μ' r with
    | none => rfl
    | some o =>
      rcases hS.fresh r h (by simp [hm]) with h | h
      · omega
      · exact absurd rfl h
  refine hR.stepO (h' := s.own) ⟨hS.le, hS.mem, fun b o hb => ?_, fun b hb => ?_, fun b hb hb' => ?_, fun b hb => .inr hb, hS.size, fun b hb _ => hS.keep b hb rfl, hS.os, hS.tape, hS.output⟩
  · rw [hS.keep b (hR.own.1.lt (b := b) (by simp [hb])) rfl]
    exact hR.own.1 b o hb
  · cases ho : s.own b with
    | none => rfl
    | some o =>
      have h1 := hR.own.1.lt (b := b) (by simp [ho])
      have h2 := (hR.own.2 b (by simp [ho])).1
      exact absurd (hnone b h1 h2) hb
  · rcases hS.fresh b hb hb' with h | h
    · exact .inl h
    · exact absurd rfl h
theorem apart_nil (μ : Mem) : Apart μ Mem.nil := fun _ _ => rfl
theorem holds_nil (w : World) : Holds Mem.nil w := fun _ _ h => by cases h
theorem callVC_sound {dr : Bool} (hR : Rel E a w s) {f : FuncId} {args : List Value} {K : Value → St → Prop} (h : callVC dr C.P f args s K) :
    Enter C.P f ∧ Calls C.P f args.toArray w fun e w' => ∃ v s', e = .returned v ∧ K v s' ∧ Rel E a w' s' ∧ (dr = true → Evo w s w' s' [] true) := by
  obtain ⟨fz, gv, hgv, h1⟩ := call_elim h
  obtain ⟨s1, h2, hR1, hE1⟩ := frz_sound fz s _ hR h1
  obtain ⟨s2, h3, hR2, hE2⟩ : ∃ s2, ((∃ R, Spec C.P f args s2.mem R ∧ ∀ v μ', s2.mem.Le μ' → R v μ' → memK s2 μ' fun s => K v s) ∨
      ∃ R, SpecH C.P f args s2.mem s2.own R ∧ ∀ v μ' h', s2.mem.Le μ' → Apart μ' h' → R v μ' h' → memOwnK s2 μ' h' fun s => K v s) ∧ Rel E a w s2 ∧ (dr = true → Evo w s w s2 [] false) := by
    cases dr with
    | true =>
      have := hgv rfl
      subst this
      exact ⟨s1, h2, hR1, fun _ => hE1⟩
    | false =>
      obtain ⟨s2, h3, hR2⟩ := give_sound gv s1 _ hR1 h2
      exact ⟨s2, h3, hR2, fun h => nomatch h⟩
  rcases h3 with ⟨R, ⟨hent, hspec⟩, hk⟩ | ⟨R, ⟨hent, hspec⟩, hk⟩
  · refine ⟨hent, (hspec w hR2.sees.1 (holds_nil w) (apart_nil _)).mono ?_⟩
    rintro e w' ⟨v, μ', h', rfl, hr, hS⟩
    have h4 := hk v μ' hS.le hr
    rw [memK_eq] at h4
    refine ⟨v, _, rfl, h4, hR2.step hS, fun hd => ?_⟩
    have hE := hE2 hd
    refine ⟨fun b hb _ _ => hS.keep b hb rfl, hS.size, hE.le.trans hS.le, fun r hr g1 g0 g2 => ?_, fun h => (nomatch h), hE.nxt, hE.stay, hE.envs, fun t r cs ty h => (hE.alive t r cs ty h).imp id fun g => ?_⟩
    rotate_left
    · cases hm : s2.mem r with
      | none => exact absurd hm g
      | some o => simp only; rw [hS.le _ _ hm]; simp
    obtain ⟨g3, g4, g5⟩ := hE.out r hr g1 g0 g2
    refine ⟨?_, g4, g5⟩
    cases hm : μ' r with
    | none => simpa using hm
    | some o =>
      rcases hS.fresh r g3 (by simp [hm]) with h | h
      · omega
      · exact absurd rfl h
  · refine ⟨hent, (hspec w hR2.sees.1 hR2.own.1 (fun b hb => hR2.own_none hb)).mono ?_⟩
    rintro e w' ⟨v, μ', h', rfl, hr, hS⟩
    have h4 := hk v μ' h' hS.le hS.apart hr
    have h5 : K v { s2 with mem := μ', own := h' } := by cases s2; exact h4
    refine ⟨v, _, rfl, h5, hR2.stepO hS, fun hd => ?_⟩
    have hE := hE2 hd
    refine ⟨fun b hb _ h => hS.keep b hb (by rw [hE.own rfl]; exact h rfl), hS.size, hE.le.trans hS.le, fun r hr g1 g0 g2 => ?_, fun h => (nomatch h), hE.nxt, hE.stay, hE.envs, fun t r cs ty h => (hE.alive t r cs ty h).imp id fun g => ?_⟩
    rotate_left
    · cases hm : s2.mem r with
      | none => exact absurd hm g
      | some o => simp only; rw [hS.le _ _ hm]; simp
    obtain ⟨g3, g4, g5⟩ := hE.out r hr g1 g0 g2
    refine ⟨?_, ?_, g5⟩
    · cases hm : μ' r with
      | none => simpa using hm
      | some o =>
        rcases hS.fresh r g3 (by simp [hm]) with h | h
        · omega
        · exact absurd g4 h
    · cases hm : h' r with
      | none => simpa using hm
      | some o =>
        rcases hS.freshH r (by simp [hm]) with h | h
        · omega
        · exact absurd g4 h
theorem leK_spec {m n : Nat} {A : Prop} (h : leK m n A) : m ≤ n ∧ A := by
  unfold leK at h
  split at h
  · rename_i hb; exact ⟨Nat.le_of_ble_eq_true hb, h⟩
  · exact h.elim
theorem elemsK_sound (he : EnvOk s a) {es : Nat} : ∀ (n i : Nat) (ps : List (Nat × Operand)) (K : List Value → Prop), elemsK s es n i ps K →
    K (ps.map fun p => a.eval p.2) ∧ ps.length = n ∧ (∀ x ∈ ps.map fun p => a.eval p.2, (vcells x).length = es ∧ ∀ u ∈ vcells x, u.oneCell' = true) ∧
      ∀ cells : Array Value, cells.size = (i + n) * es → Instr.fill (fun i => some (i * es, es)) cells (ps.map fun p => (p.1, a.eval p.2)) = some (cells.toList.take (i * es) ++ (ps.map fun p => a.eval p.2).flatMap vcells).toArray
  | 0, i, [], K, h => ⟨h, rfl, by simp, fun cells hs => by simp only [List.map_nil, Instr.fill, List.flatMap_nil, List.append_nil]; rw [List.take_of_length_le (by simp [hs])]⟩
  | n + 1, i, (j, x) :: r, K, h => by
    simp only [elemsK] at h
    split at h
    · rename_i hb
      have hb := Nat.eq_of_beq_eq_true hb
      subst hb
      obtain ⟨sv, h1, h2⟩ := evK_spec h
      obtain ⟨e1, _⟩ := ev_sound he h1
      rw [concK_eq] at h2
      obtain ⟨hl, h3⟩ := lenIs_spec _ _ _ h2
      obtain ⟨ho, h4⟩ := oneCellsK_spec _ _ h3
      obtain ⟨h5, h6, h7, h8⟩ := elemsK_sound he n (i + 1) r _ h4
      rw [← e1] at h5 hl ho
      refine ⟨h5, by simp [h6], fun y hy => ?_, fun cells hs => ?_⟩
      · rcases List.mem_cons.1 hy with rfl | hy
        · exact ⟨hl, ho⟩
        · exact h7 y hy
      · have hlt : i * es + es ≤ cells.size := by
          rw [hs, ← Nat.succ_mul]
          exact Nat.mul_le_mul_right _ (by omega)
        simp only [List.map_cons]
        rw [fill_one rfl hl (by omega), h8 _ (by
          simp only [List.size_toArray, List.length_append, List.length_take, List.length_drop, Array.length_toList]
          rw [show (i + 1 + n) * es = cells.size from by rw [hs]; congr 1; omega]
          omega)]
        congr 2
        simp only [List.flatMap_cons]
        rw [← List.append_assoc]
        congr 1
        have hlen : (cells.toList.take (i * es) ++ vcells (a.eval x)).length = (i + 1) * es := by
          simp only [List.length_append, List.length_take, Array.length_toList, hl, Nat.succ_mul]
          omega
        rw [← hlen]
        exact List.take_left
    · exact h.elim
  | 0, _, _ :: _, _, h => by simp [elemsK] at h
  | _ + 1, _, [], _, h => by simp [elemsK] at h
/-- A new block of cells, and its address. -/
theorem Rel.newCells (hR : Rel E a w s) {z : List SV} (hz : ∀ sv ∈ z, svOk s sv) {cells : Array Value} (ty : TypeId) (hc : cells = (z.map SV.conc).toArray) :
    Rel E a (w.alloc (.cells cells ty)) (s.newB (.cells w.heap.size z ty)) ∧ svOk (s.newB (.cells w.heap.size z ty)) (.loc s.nxt w.heap.size 0) := by
  subst hc
  refine ⟨hR.newB (b := .cells w.heap.size z ty) rfl (alloc_heap_new w _) (fun r hr => ?_) (fun r cs ty e sv hsv => ?_), Nat.lt_succ_self _, fun lb hl => ?_⟩
  · simp only [LB.blk?, Option.some.injEq] at hr; exact hr.symm
  · cases e; exact hz sv hsv
  · rw [lb_newB, if_pos rfl] at hl; cases hl; exact ⟨_, _, rfl⟩
theorem Rel.newRow (hR : Rel E a w s) {xs : List Value} {es : Nat} (hxs : ∀ x ∈ xs, (vcells x).length = es ∧ ∀ u ∈ vcells x, u.oneCell' = true) (hmax : xs.length ≤ maxLen) {cells : Array Value} (ty : TypeId) (hc : cells = (xs.flatMap vcells).toArray) :
    Rel E a (w.alloc (.cells cells ty)) (s.newB (.row (some w.heap.size) xs.length ty es xs)) ∧ svOk (s.newB (.row (some w.heap.size) xs.length ty es xs)) (.row s.nxt (some w.heap.size) xs.length xs.length) := by
  subst hc
  have fl := flat_len xs fun y hy => (hxs y hy).1
  refine ⟨hR.newB (b := .row (some w.heap.size) xs.length ty es xs) rfl ⟨Nat.le_refl _, hmax, hxs, _, alloc_heap_new w _, by simpa using fl, ?_⟩ (fun r hr => ?_) (fun r cs ty e => by cases e), Nat.lt_succ_self _, fun lb hl => ?_⟩
  · rw [List.take_of_length_le (by simp only; rw [fl]; exact Nat.le_refl _)]
  · simp only [LB.blk?, Option.some.injEq] at hr; exact hr.symm
  · rw [lb_newB, if_pos rfl] at hl; cases hl; exact ⟨_, _, _, rfl, rfl⟩
theorem flat_replicate (n : Nat) (z : Value) (hs : vcells z ≠ []) : ((List.replicate n z).flatMap vcells) = (madeCells z.cells (n * (vcells z).length)).toList := by
  have hsz : z.cells.size = (vcells z).length := by rw [← cells_vcells]; simp
  have hpos : 0 < (vcells z).length := List.length_pos_iff.2 hs
  simp only [madeCells, Array.toList_map, Array.toList_range, hsz]
  induction n with
  | zero => simp
  | succ n ih =>
    rw [List.replicate_succ, List.flatMap_cons, ih, Nat.succ_mul, Nat.add_comm, List.range_add, List.map_append, List.map_map]
    congr 1
    · apply List.ext_getElem?
      intro i
      simp only [List.getElem?_map, List.getElem?_range']
      by_cases hi : i < (vcells z).length
      · rw [List.getElem?_range hi]
        simp only [Option.map_some, Nat.mod_eq_of_lt hi]
        rw [getElem!_pos z.cells i (by omega)]
        have : (vcells z)[i]? = z.cells[i]? := by rw [← cells_vcells]; simp
        rw [this, Array.getElem?_eq_getElem (by omega)]
      · rw [List.getElem?_eq_none (by omega), List.getElem?_eq_none (by simp; omega)]
        rfl
    · apply List.map_congr_left
      intro i _
      simp
theorem vcells1_spec {P : Program} {e : TypeId} {te : TI} (_ : TIok P e te) {A : Prop} (h : vcells1 te A) : (vcells (zeroV te) = te.zero ∧ ∀ u ∈ te.zero, u.oneCell' = true) ∧ A := by
  unfold vcells1 at h
  unfold zeroV
  split at h
  · rename_i hg
    obtain ⟨h1, h2⟩ := oneCellsK_spec _ _ h
    exact ⟨⟨by simp [hg, vcells], h1⟩, h2⟩
  · rename_i v hg hz
    obtain ⟨h1, h2⟩ := oneCellsK_spec _ _ h
    refine ⟨⟨?_, by rw [hz]; exact h1⟩, h2⟩
    simp only [hg, hz]
    have := h1 v (by simp)
    cases v <;> first | rfl | (simp [Value.oneCell'] at this; done)
  · exact h.elim
/-- A new block among the owned ones. -/
theorem Rel.newOwn (hR : Rel E a w s) (cells : Array Value) (t : TypeId) : Rel E a (w.alloc (.cells cells t)) { s with own := s.own.set w.heap.size (.cells cells t (0, 0)) } := by
  refine hR.chown (fun b o hb => ?_) (fun b hb => ?_) (fun b hb _ => Go.RowKit.Below.heap_alloc w _ b hb) (by simp) rfl rfl rfl
  · rw [Mem.set_get] at hb
    split at hb
    · rename_i e; subst e; cases hb; exact alloc_heap_new w _
    · rw [Go.RowKit.Below.heap_alloc w _ b (hR.own.1.lt (by simp [hb]))]
      exact hR.own.1 b o hb
  · rw [Mem.set_get] at hb
    split at hb
    · rename_i e; subst e; exact .inr (Nat.le_refl _)
    · exact .inl hb
/-- **EVERY OPERATION.** -/
theorem vcOp_sound (htt : TTok C.P C.tt) (hn : C.n = E.n) (hos : C.dr = true → C.os = []) (hR : Rel E a w s) {o : Oper} {K : St → Prop} (h : vcOp C o s K) {next : Act → World → Prop} {Q : Exit → Act → World → Prop}
    (hK : ∀ v w' s1, K (s1.put o.dst v) → Rel E (a.put o.dst v.conc) w' (s1.put o.dst v) → (C.dr = true → Evo w s w' s1 (modsOf s o.op) (owOf s o.op)) → next (a.put o.dst v.conc) w') : o.wp C.P a w next Q := by
  obtain ⟨hd, h⟩ := dstK_spec h
  rw [hn] at hd
  have value : ∀ {op : Op} (_ : o.op = op), (vcVal C s op fun sv => putK s o.dst sv K) → o.wp C.P a w next Q := by
    intro op hop h
    rw [← hop] at h
    obtain ⟨sv, h1, h2, h3⟩ := vcVal_sound htt hR.env hR.cells h
    rw [putK_eq] at h1
    unfold Oper.wp
    rw [h3 w ⟨hR.sees, hR.own.1⟩]
    exact hK _ _ _ h1 (hR.put hd h2) fun _ => Evo.refl _ _ _ _
  split at h
  · -- alloc
    rename_i t hop
    obtain ⟨ti, h1, h2⟩ := tyK_spec h
    have hi := htt.get h1
    obtain ⟨z, hz, hrun⟩ := hi.run_zero w
    unfold Oper.wp
    have he : (execOp a.eval o).run C.P w = .ok (.value (.pointer (some ⟨w.heap.size, 0, none⟩))) (w.alloc (.cells z.cells t)) := by
      simp only [execOp, hop, Instr.alloc, Sem.run_bind, hrun, Result.andThen_ok]
      rfl
    rw [he]
    split at h2
    · rename_i hmo
      have hmn := hR.mem_none (Nat.le_refl _)
      have h3 := h2 w.heap.size hmn.1 hmn.2
      have hzc : ti.zero.toArray = z.cells := by apply Array.ext'; rw [cells_vcells, hz]
      rw [hzc] at h3
      have h4 := (hR.newOwn (z.cells) t)
      have h5 : K (St.put { s with own := s.own.set w.heap.size (.cells z.cells t (0, 0)) } o.dst (.val (.pointer (some ⟨w.heap.size, 0, none⟩)))) := by
        refine (putK_eq _ _ _ K).mp ?_; cases s; exact h3
      exact hK _ _ _ h5 (h4.put (sv := .val (.pointer (some ⟨w.heap.size, 0, none⟩))) hd trivial) fun hdr => by rw [hos hdr] at hmo; cases hod : o.dst <;> (rw [hod] at hmo; cases hmo)
    rw [valsK_eq] at h2
    have h3 := h2 w.heap.size
    rw [newBK_eq, putK_eq] at h3
    have hn := hR.newCells (z := vals ti.zero) (fun sv hsv => vals_ok s _ sv hsv) (cells := z.cells) t (by rw [vals_conc, ← hz, ← cells_vcells])
    exact hK _ _ _ h3 (hn.1.put hd hn.2) fun _ => (Evo.newB _ _ _ _ hR.nxt fun r hr => by simp only [LB.blk?, Option.some.injEq] at hr; omega)
  · -- box
    rename_i t x hop
    obtain ⟨sv, h1, h2⟩ := evK_spec h
    obtain ⟨e1, o1⟩ := ev_sound hR.env h1
    rw [cellsOfK_eq] at h2
    unfold Oper.wp
    have he : (execOp a.eval o).run C.P w = .ok (.value (.pointer (some ⟨w.heap.size, 0, none⟩))) (w.alloc (.cells sv.conc.cells t)) := by
      simp only [execOp, hop, e1, Instr.box]
      rfl
    rw [he]
    split at h2
    · rename_i hmo
      rw [concsK_eq] at h2
      have hmn := hR.mem_none (Nat.le_refl _)
      have h3 := h2 w.heap.size hmn.1 hmn.2
      have hzc : ((cellsOf sv).map SV.conc).toArray = sv.conc.cells := by apply Array.ext'; rw [cells_vcells, cellsOf_conc]
      rw [hzc] at h3
      have h4 := (hR.newOwn (sv.conc.cells) t)
      have h5 : K (St.put { s with own := s.own.set w.heap.size (.cells sv.conc.cells t (0, 0)) } o.dst (.val (.pointer (some ⟨w.heap.size, 0, none⟩)))) := by
        refine (putK_eq _ _ _ K).mp ?_; cases s; exact h3
      exact hK _ _ _ h5 (h4.put (sv := .val (.pointer (some ⟨w.heap.size, 0, none⟩))) hd trivial) fun hdr => by rw [hos hdr] at hmo; cases hod : o.dst <;> (rw [hod] at hmo; cases hmo)
    have h3 := h2 w.heap.size
    rw [newBK_eq, putK_eq] at h3
    have hn := hR.newCells (z := cellsOf sv) (cellsOf_ok o1) (cells := sv.conc.cells) t (by rw [cellsOf_conc, ← cells_vcells])
    exact hK _ _ _ h3 (hn.1.put hd hn.2) fun _ => (Evo.newB _ _ _ _ hR.nxt fun r hr => by simp only [LB.blk?, Option.some.injEq] at hr; omega)
  · -- store
    rename_i t x y hop
    split at h
    · rename_i hdst
      obtain ⟨sx, h1, h2⟩ := evK_spec h
      obtain ⟨e1, o1⟩ := ev_sound hR.env h1
      obtain ⟨sy, h3, h4⟩ := evK_spec h2
      obtain ⟨e2, o2⟩ := ev_sound hR.env h3
      obtain ⟨s', w', h5, h6, h7, h8⟩ := storeK_sound htt hR o1 o2 h4
      unfold Oper.wp
      have he : (execOp a.eval o).run C.P w = .ok .skip w' := by
        simp [execOp, hop, e1, e2, h7]
      rw [he]
      have this : ∀ (b : Act) v, b.put o.dst v = b := fun b v => by rw [hdst]; rfl
      have that : ∀ (b : St) v, b.put o.dst v = b := fun b v => by rw [hdst]; rfl
      simp only [Oper.upon, this]
      have := hK (.val undef) w' s' (by rw [that]; exact h5) (by rw [this, that]; exact h6) (fun _ => by
        rw [hop]
        simp only [modsOf, owOf, h1]
        cases sx <;> exact h8)
      rw [‹∀ (b : Act) v, b.put o.dst v = b›] at this
      exact this
    · exact h.elim
  · -- buildSlice
    rename_i t n ps hop
    obtain ⟨ti, h1, h2⟩ := tyK_spec h
    have hk := (htt.get h1).kind
    split at h2
    case h_2 => exact h2.elim
    rename_i e hkk
    rw [hkk] at hk
    obtain ⟨te, h3, h4⟩ := tyK_spec h2
    have he := htt.get h3
    obtain ⟨hpos, h4⟩ := posK_spec h4
    obtain ⟨hsmall, h5⟩ := leK_spec h4
    obtain ⟨z, hz, hzrun⟩ := he.run_zero w
    obtain ⟨h6, h7, h8, h9⟩ := elemsK_sound hR.env n 0 ps.toList _ h5
    have h10 := h6 w.heap.size
    rw [newBK_eq, putK_eq] at h10
    simp only [Nat.zero_mul, List.take_zero, List.nil_append, Nat.zero_add] at h9
    unfold Oper.wp
    have hx : (execOp a.eval o).run C.P w = .ok (.value (.slice (some ⟨w.heap.size, 0, none⟩) n n)) (w.alloc (.cells ((ps.toList.map fun p => a.eval p.2).flatMap vcells).toArray e)) := by
      have hsm : ¬ (2 ^ 24 < n * te.size) := by omega
      have hl : (ps.map fun p => (p.1, a.eval p.2)).toList = ps.toList.map fun p => (p.1, a.eval p.2) := by simp
      by_cases h0 : n * te.size = 0
      · have hf := h9 ((Array.range 0).map fun i => (#[] : Array Value)[i % (#[] : Array Value).size]!) (by simp [h0])
        simp only [execOp, hop, Instr.buildSlice, Sem.run_bind, run_underlying hk, Result.andThen_ok, he.run_sizeOf, hl]
        simp only [h0] at *
        simp only [gt_iff_lt, Nat.not_lt_zero, if_false, if_true, Sem.run_pure, Result.andThen_ok, pure_bind, Sem.run_bind] at *
        rw [hf]
        simp [newRow]
      · have hf := h9 ((Array.range (n * te.size)).map fun i => z.cells[i % z.cells.size]!) (by simp)
        simp only [execOp, hop, Instr.buildSlice, Sem.run_bind, run_underlying hk, Result.andThen_ok, he.run_sizeOf, hl, gt_iff_lt, if_neg hsm, if_neg h0, hzrun, Sem.run_pure]
        rw [hf]
        simp [newRow]
    rw [hx]
    have hlen : (ps.toList.map fun p => a.eval p.2).length = n := by simpa using h7
    have hmx : n ≤ maxLen := by
      have : n * 1 ≤ n * te.size := Nat.mul_le_mul_left _ (by omega)
      simp only [maxLen]; omega
    have hn := hR.newRow h8 (by rw [hlen]; exact hmx) e rfl
    rw [hlen] at hn
    exact hK _ _ _ h10 (hn.1.put hd hn.2) fun _ => (Evo.newB _ _ _ _ hR.nxt fun r hr => by simp only [LB.blk?, Option.some.injEq] at hr; omega)
  · -- makeSlice
    rename_i t l c hop
    obtain ⟨ti, h1, h2⟩ := tyK_spec h
    have hk := (htt.get h1).kind
    split at h2
    case h_2 => exact h2.elim
    rename_i e hkk
    rw [hkk] at hk
    obtain ⟨te, h3, h4⟩ := tyK_spec h2
    have he := htt.get h3
    obtain ⟨hpos, h4⟩ := posK_spec h4
    obtain ⟨⟨hz1, hz2⟩, h4⟩ := vcells1_spec he h4
    obtain ⟨sl, h5, h6⟩ := evK_spec h4
    obtain ⟨e1, -⟩ := ev_sound hR.env h5
    obtain ⟨sc, h7, h8⟩ := evK_spec h6
    obtain ⟨e2, -⟩ := ev_sound hR.env h7
    split at h8
    case h_2 => exact h8.elim
    rename_i kl l' kc c'
    obtain ⟨rfl, n, rfl, hby, hmx, h9⟩ := make_elim h8
    have h10 := h9 w.heap.size
    rw [newBK_eq, putK_eq] at h10
    obtain ⟨inf, hin, hsz, hbt, z, hz, hzc⟩ := he.info'
    have hr := run_make (P := C.P) w t e inf z hk hin hz kl kc n n (by omega) (Int.le_refl _) (by rw [hbt, Int.mul_comm]; omega) (by simp only [maxLen] at hmx; omega)
    simp only [Int.toNat_natCast] at hr
    unfold Oper.wp
    have hx : (execOp a.eval o).run C.P w = .ok (.value (.slice (some ⟨w.heap.size, 0, none⟩) n n)) (w.alloc (.cells (madeCells z.cells (n * inf.size)) e)) := by
      simp [execOp, hop, e1, e2, SV.conc, hr]
    rw [hx]
    have hzv : vcells (zeroV te) = vcells z := by rw [hzc]; exact hz1
    have hn := hR.newRow (xs := List.replicate n (zeroV te)) (es := te.size) (fun x hx => by
      obtain ⟨_, rfl⟩ := List.mem_replicate.1 hx
      rw [hz1]
      exact ⟨he.zlen, hz2⟩) (by simpa using hmx) (cells := madeCells z.cells (n * inf.size)) e (by
      rw [flat_replicate n (zeroV te) (by rw [hz1]; intro h; have := he.zlen; rw [h] at this; simp at this; omega)]
      rw [hz1, he.zlen, hsz]
      have : (zeroV te).cells = z.cells := by apply Array.ext'; rw [cells_vcells, cells_vcells, hzv]
      rw [this])
    simp only [List.length_replicate] at hn
    exact hK _ _ _ h10 (hn.1.put hd hn.2) fun _ => (Evo.newB _ _ _ _ hR.nxt fun r hr => by simp only [LB.blk?, Option.some.injEq] at hr; omega)
  · -- call
    rename_i c hop
    split at h
    · rename_i f hc
      obtain ⟨sv, h1, h2⟩ := evK_spec h
      obtain ⟨e1, -⟩ := ev_sound hR.env h1
      split at h2
      case h_2 => exact h2.elim
      rename_i k first caps
      have h3 := evsK_sound hR.env _ _ h2
      rw [appK_eq, appK_eq] at h3
      obtain ⟨⟨fn, hfn, hbody, hname⟩, hcalls⟩ := callVC_sound hR h3
      unfold Oper.wp
      have harr : (first.toList ++ c.args.toList.map a.eval ++ caps.toList).toArray = first ++ c.args.map a.eval ++ caps := by
        apply Array.ext'; simp
      rw [harr] at hcalls
      have hx : (execOp a.eval o).run C.P w = .ok (.enter k (first ++ c.args.map a.eval ++ caps)) w := by
        have hb : fn.body ≠ none := by cases hb : fn.body <;> simp_all
        have hname : fn.name ≠ "runtime.NumGoroutine" := by simpa using hname
        simp [execOp, hop, resolve, hc, e1, SV.conc, Deferred.ofValue, invoke, callFunc, hfn, hname, hb]
      rw [hx]
      refine hcalls.mono ?_
      rintro e w' ⟨v, s', rfl, hk, hR', hE⟩
      rw [putK_eq] at hk
      refine hK (.val v) _ _ hk (hR'.put (sv := .val v) hd trivial) fun hdr => ?_
      have hE := hE hdr
      have how : owOf s o.op = true := by rw [hop]; simp only [owOf, hc]
      rw [how]
      exact ⟨fun b hb _ => hE.keep b hb (by simp), hE.size, hE.le, hE.out, hE.own, hE.nxt, fun t lb' ht h => (hE.stay t lb' ht h).imp fun lb g => ⟨g.1, g.2.imp id fun g => absurd g.1 (by simp)⟩, hE.envs, hE.alive⟩
    · rename_i hc
      split at h
      · rename_i x y t u hca hct
        split at h
        case h_2 => exact h.elim
        rename_i htu
        have htu := Nat.eq_of_beq_eq_true htu
        subst htu
        obtain ⟨sx, h1, h2⟩ := evK_spec h
        obtain ⟨e1, o1⟩ := ev_sound hR.env h1
        obtain ⟨sy, h3, h4⟩ := evK_spec h2
        obtain ⟨e2, o2⟩ := ev_sound hR.env h3
        obtain ⟨sv, s', w', h5, h6, h7, h8, h9⟩ := appendK_sound (ty := o.type) htt hR o1 o2 h4
        rw [putK_eq] at h5
        unfold Oper.wp
        have ea : c.args.map a.eval = #[sx.conc, sy.conc] := by apply Array.ext'; simp [hca, e1, e2]
        have et : c.argTypes = #[t, t] := by apply Array.ext'; simp [hct]
        have hx : (execOp a.eval o).run C.P w = .ok (.value sv.conc) w' := by
          simp [execOp, hop, resolve, hc, invoke, builtin, ea, et, h8]
        rw [hx]
        exact hK _ _ _ h5 (h7.put hd h6) (fun _ => by rw [hop]; simp only [modsOf, owOf, hc, hca, h1]; cases sx <;> exact h9)
      · exact h.elim
    · exact value rfl h
  · exact value rfl h

/-! ### Guards, lists -/
theorem Rel.know (hR : Rel E a w s) {d : Nat} {b : Bool} (h : look s.env d = some (.val (.bool b))) : Rel E a w (s.put (some d) (.kn b)) := by
  have hs : ∀ x, svOk s x → svOk (s.put (some d) (.kn b)) x := fun x hx => svOk_ext (s := s) (Nat.le_refl _) (Mem.Le.refl _) (fun t lb' _ h => ⟨lb', h, lb'.alike_refl⟩) hx
  refine ⟨hR.defers, hR.size, fun i x hx => ?_, fun t r cs ty h x hx => hs x (hR.cells t r cs ty h x hx), hR.sees, hR.nxt, hR.place, hR.sep, hR.own, hR.mono, hR.fresh, hR.grow, hR.keep, hR.os, hR.tape, hR.output⟩
  simp only [St.put, look_cons] at hx
  split at hx
  · rename_i e
    cases hx
    subst e
    exact ⟨(hR.env _ _ h).1, trivial⟩
  · obtain ⟨h1, h2⟩ := hR.env i x hx
    exact ⟨h1, hs _ h2⟩
theorem look_filter (d : Nat) : ∀ (l : List (Nat × SV)) (i : Nat), look (l.filter fun p => !Nat.beq p.1 d) i = if i = d then none else look l i
  | [], i => by simp [look]
  | (j, sv) :: l, i => by
    have ih := look_filter d l i
    rw [List.filter_cons]
    by_cases hj : Nat.beq j d = true
    · have := Nat.eq_of_beq_eq_true hj
      subst this
      simp only [hj, Bool.not_true, Bool.false_eq_true, if_false, ih, look_cons]
      split <;> rfl
    · have hj' : Nat.beq j d = false := by cases h : Nat.beq j d <;> simp_all
      have hne : j ≠ d := fun e => by subst e; simp at hj'
      simp only [hj', Bool.not_false, if_true, look_cons, ih]
      split
      · rename_i e; subst e; simp [hne]
      · rfl
theorem Rel.drop (hR : Rel E a w s) (dst : Option Tmp) (u : Value) : Rel E (a.put dst u) w (s.drop dst) := by
  cases dst with
  | none => exact hR
  | some d =>
    have hs : ∀ x, svOk s x → svOk (s.drop (some d)) x := fun x hx => svOk_ext (s := s) (Nat.le_refl _) (Mem.Le.refl _) (fun t lb' _ h => ⟨lb', h, lb'.alike_refl⟩) hx
    refine ⟨hR.defers, by simp [Act.put, hR.size], fun i x hx => ?_, fun t r cs ty h x hx => hs x (hR.cells t r cs ty h x hx), hR.sees, hR.nxt, hR.place, hR.sep, hR.own, hR.mono, hR.fresh, hR.grow, hR.keep, hR.os, hR.tape, hR.output⟩
    simp only [St.drop, look_filter] at hx
    split at hx
    · cases hx
    · rename_i e
      obtain ⟨h1, h2⟩ := hR.env i x hx
      refine ⟨?_, hs _ h2⟩
      simp only [Act.put, Array.getElem?_setIfInBounds]
      rw [if_neg (fun h => e h.symm)]
      exact h1
/-- The one state knows a bool that the other one holds. -/
def Knows (s s' : St) : Prop := s' = s ∨ ∃ d b, look s.env d = some (.val (.bool b)) ∧ s' = s.put (some d) (.kn b)
theorem guardK_sound {ops : Array Oper} (hR : Rel E a w s) {o : Oper} {yes no : St → Prop} (h : guardK ops.toList o s yes no) :
    (Region.wanted o (yielded ops a.tmps) = true ∧ ∃ s', yes s' ∧ Rel E a w s' ∧ Knows s s') ∨ (Region.wanted o (yielded ops a.tmps) = false ∧ ∃ s', no s' ∧ Rel E a w s' ∧ Knows s s') := by
  unfold guardK at h
  unfold Region.wanted
  split at h
  · rename_i hg
    simp only [hg]
    exact .inl ⟨trivial, s, h, hR, .inl rfl⟩
  · rename_i j want hg
    simp only [hg]
    split at h
    case h_2 => exact h.elim
    rename_i oj hoj
    split at h
    case h_2 => exact h.elim
    rename_i d hd
    simp only [Array.getElem?_toList] at hoj
    have hy : ∀ b, a.tmps[d]? = some (.bool b) → yielded ops a.tmps j = some b := fun b hb => by simp [yielded, hoj, hd, hb]
    split at h
    · rename_i b hb
      have h1 := hy b (hR.env _ _ hb).1
      rw [h1]
      cases b <;> cases want
      · exact .inl ⟨rfl, s, h, hR, .inl rfl⟩
      · exact .inr ⟨rfl, s, h, hR, .inl rfl⟩
      · exact .inr ⟨rfl, s, h, hR, .inl rfl⟩
      · exact .inl ⟨rfl, s, h, hR, .inl rfl⟩
    · rename_i vs hb
      have h1 : yielded ops a.tmps j = none := by simp [yielded, hoj, hd, (hR.env _ _ hb).1, SV.conc]
      rw [h1]
      exact .inr ⟨rfl, s, h, hR, .inl rfl⟩
    · rename_i b hb
      have h1 := hy b (hR.env _ _ hb).1
      rw [h1]
      cases want
      · obtain ⟨h2, h3⟩ := if_elim h
        rw [putK_eq] at h2 h3
        cases b
        · exact .inl ⟨rfl, _, h3 rfl, hR.know hb, .inr ⟨_, _, hb, rfl⟩⟩
        · exact .inr ⟨rfl, _, h2 rfl, hR.know hb, .inr ⟨_, _, hb, rfl⟩⟩
      · obtain ⟨h2, h3⟩ := if_elim h
        rw [putK_eq] at h2 h3
        cases b
        · exact .inr ⟨rfl, _, h3 rfl, hR.know hb, .inr ⟨_, _, hb, rfl⟩⟩
        · exact .inl ⟨rfl, _, h2 rfl, hR.know hb, .inr ⟨_, _, hb, rfl⟩⟩
    · exact h.elim
theorem vcList_sound (htt : TTok C.P C.tt) (hn : C.n = E.n) (hos : C.dr = true → C.os = []) {ops : Array Oper} {Q : Exit → Act → World → Prop} : ∀ (l : List Oper) {s : St} {a : Act} {w : World} {K : St → Prop}, Rel E a w s → vcList C ops.toList l s K →
    (∀ a' w' s', K s' → Rel E a' w' s' → Q .normal a' w') → wpList C.P ops Q l a w
  | [], s, a, w, K, hR, h, hK => hK _ _ _ h hR
  | o :: r, s, a, w, K, hR, h, hK => by
    have h : guardK ops.toList o s (fun s => vcOp C o s fun s' => vcList C ops.toList r s' K) (fun s => dstK C.n o.dst (putK s o.dst (.val undef) fun s => vcList C ops.toList r s K)) := h
    unfold wpList
    rcases guardK_sound hR h with ⟨hw, s', h1, hR', -⟩ | ⟨hw, s', h1, hR', -⟩
    · rw [if_pos hw]
      exact .inl (vcOp_sound htt hn hos hR' h1 fun v w' s'' hk hR'' _ => vcList_sound htt hn hos r hR'' hk hK)
    · rw [hw, if_neg (by simp)]
      obtain ⟨hd, h2⟩ := dstK_spec h1
      rw [putK_eq] at h2
      rw [hn] at hd
      exact vcList_sound htt hn hos r (hR'.put (sv := .val undef) hd trivial) h2 hK
end
end Go.Vx
