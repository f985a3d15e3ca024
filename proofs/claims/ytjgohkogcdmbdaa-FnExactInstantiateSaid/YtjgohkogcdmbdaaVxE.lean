/- Struct literals; every operation that yields a value. -/
import Derived.Test.YtjgohkogcdmbdaaVxD
import Derived.Laws.IdiomStrings
import Derived.Laws.BytesString
namespace Go.Vx
section
variable {C : Cx} {s : St} {a : Act}
theorem fold_set (off : Nat) : ∀ (vs : List Value) (k : Nat) (cells : Array Value), off + k + vs.length ≤ cells.size →
    (vs.zipIdx k).foldl (fun cs (p : Value × Nat) => cs.setIfInBounds (off + p.2) p.1) cells = (cells.toList.take (off + k) ++ vs ++ cells.toList.drop (off + k + vs.length)).toArray
  | [], k, cells, h => by simp
  | v :: vs, k, cells, h => by
    simp only [List.length_cons] at h
    simp only [List.zipIdx_cons, List.foldl_cons]
    rw [show k + 1 = k + 1 from rfl, fold_set off vs (k + 1) _ (by simp; omega)]
    congr 1
    have hlt : off + k < cells.toList.length := by simp; omega
    simp only [Array.toList_setIfInBounds, List.length_cons]
    rw [show off + (k + 1) = off + k + 1 from by omega, List.take_succ_eq_append_getElem (by simp; omega), List.drop_set_of_lt (by omega)]
    simp only [List.getElem_set_self]
    rw [List.take_set_of_le (by omega), show off + k + 1 + vs.length = off + k + (vs.length + 1) from by omega]
    simp
theorem fill_one {place : Nat → Option (Nat × Nat)} {cells : Array Value} {f off size : Nat} {v : Value} {rest : List (Nat × Value)} (hp : place f = some (off, size)) (hs : (vcells v).length = size) (hb : off + (vcells v).length ≤ cells.size) :
    Instr.fill place cells ((f, v) :: rest) = Instr.fill place ((cells.toList.take off ++ vcells v ++ cells.toList.drop (off + (vcells v).length)).toArray) rest := by
  have hsz : v.cells.size = (vcells v).length := by rw [← cells_vcells]; simp
  simp only [Instr.fill, hp]
  rw [if_neg (by simp [hsz, hs]; omega)]
  congr 1
  have := fold_set off (vcells v) 0 cells (by simpa using hb)
  rw [← Array.foldl_toList, Array.toList_zipIdx, cells_vcells]
  simpa using this
theorem needLen_spec : ∀ (n : Nat) (l : List Value) (A : Prop), fillK.needLen n l A → l.length = n ∧ A
  | 0, [], _, h => ⟨rfl, h⟩
  | n + 1, _ :: l, A, h => by obtain ⟨a, b⟩ := needLen_spec n l A h; exact ⟨by simp [a], b⟩
  | 0, _ :: _, _, h => h.elim
  | _ + 1, [], _, h => h.elim
theorem needOne_spec (sv : SV) (n : Nat) (A : Prop) (h : fillK.needOne sv n A) : n = 1 ∧ [sv].map SV.conc = vcells sv.conc ∧ A := by
  unfold fillK.needOne at h
  split at h
  · exact h.elim
  · rename_i hne
    refine ⟨rfl, ?_, h⟩
    cases sv with
    | val v => cases v <;> first | rfl | exact absurd rfl (hne _)
    | _ => rfl
  · exact h.elim
theorem fillK_sound (htt : TTok C.P C.tt) (he : EnvOk s a) {fs : List (Nat × TypeId)} {places : List (Nat × Nat)} (hpl : (fs.mapM fun f => (C.P.info? f.2).map fun i => (f.1, i.size)) = some places) :
    ∀ (ps : List (Nat × Operand)) (cs : List SV) (K : List SV → Prop), (∀ sv ∈ cs, svOk s sv) → fillK C s fs ps cs K →
      ∃ cs', K cs' ∧ (∀ sv ∈ cs', svOk s sv) ∧ Instr.fill (places.toArray[·]?) (cs.map SV.conc).toArray (ps.map fun p => (p.1, a.eval p.2)) = some (cs'.map SV.conc).toArray
  | [], cs, K, ho, h => ⟨cs, h, ho, rfl⟩
  | (f, x) :: r, cs, K, ho, h => by
    simp only [fillK] at h
    split at h
    · rename_i off ft hf
      obtain ⟨ti, h1, h2⟩ := tyK_spec h
      obtain ⟨sv, h3, h4⟩ := evK_spec h2
      obtain ⟨e1, o1⟩ := ev_sound he h3
      have hti := htt.get h1
      obtain ⟨inf, hin, hsz, _⟩ := hti.info'
      have hp : places.toArray[f]? = some (off, ti.size) := by
        have hl := mapM_get fs places hpl f (off, ft) hf
        simpa [hin, hsz] using hl
      have step : ∀ (l : List SV) (K' : List SV → Prop), (∀ sv ∈ l, svOk s sv) → l.map SV.conc = vcells sv.conc → l.length = ti.size → setK cs off l K' → (∀ cs', K' cs' → fillK C s fs r cs' K) →
          ∃ cs', K cs' ∧ (∀ sv ∈ cs', svOk s sv) ∧ Instr.fill (places.toArray[·]?) (cs.map SV.conc).toArray (((f, x) :: r).map fun p => (p.1, a.eval p.2)) = some (cs'.map SV.conc).toArray := by
        intro l K' hol hlc hln hset hK
        obtain ⟨hlen, hk⟩ := setK_spec _ _ _ _ hset
        obtain ⟨cs', hk', ho', hfill⟩ := fillK_sound htt he hpl r _ K (fun sv hsv => by
          simp only [List.mem_append] at hsv
          rcases hsv with (hsv | hsv) | hsv
          · exact ho _ (List.mem_of_mem_take hsv)
          · exact hol _ hsv
          · exact ho _ (List.mem_of_mem_drop hsv)) (hK _ hk)
        refine ⟨cs', hk', ho', ?_⟩
        simp only [List.map_cons]
        have hll : (vcells (a.eval x)).length = l.length := by rw [e1, ← hlc]; simp
        rw [fill_one hp (by omega) (by simp; omega), ← hfill]
        congr 2
        simp only [List.map_append, List.map_take, List.map_drop, hlc, e1]
        rw [show (vcells sv.conc).length = l.length from by rw [← hlc]; simp]
      split at h4
      · split at h4
        · rename_i vs
          obtain ⟨hn, h5⟩ := needLen_spec _ _ _ h4
          exact step (vals vs.toList) _ (fun sv hsv => vals_ok vs.toList sv hsv) (by rw [vals_conc]; rfl) (by rw [← hn, ← vals_length]) h5 (fun _ h => h)
        · exact h4.elim
      · obtain ⟨hs1, hc1, h5⟩ := needOne_spec _ _ _ h4
        exact step [sv] _ (by simpa using o1) hc1 (by simp [hs1]) h5 (fun _ h => h)
    · exact h.elim
where
  mapM_get : ∀ (fs : List (Nat × TypeId)) (places : List (Nat × Nat)), (fs.mapM fun f => (C.P.info? f.2).map fun i => (f.1, i.size)) = some places → ∀ (i : Nat) (p : Nat × TypeId), fs[i]? = some p → places[i]? = (C.P.info? p.2).map (fun (i : TypeInfo) => (p.1, i.size))
    | [], places, h, i, p, hp => by simp at hp
    | q :: fs, places, h, i, p, hp => by
      simp only [List.mapM_cons, Option.bind_eq_bind, Option.pure_def] at h
      cases hq : (C.P.info? q.2).map fun i => (q.1, i.size) with
      | none => simp [hq] at h
      | some y =>
        cases hr : fs.mapM fun f => (C.P.info? f.2).map fun i => (f.1, i.size) with
        | none => simp [hr] at h
        | some rest =>
          simp [hq, hr] at h
          subst h
          cases i with
          | zero => simp at hp; subst hp; simpa using hq.symm
          | succ i => simpa using mapM_get fs rest hr i p (by simpa using hp)
  vals_ok : ∀ (l : List Value) (sv : SV), sv ∈ vals l → svOk s sv
    | [], _, h => by simp [vals] at h
    | v :: l, sv, h => by
      cases v <;> (simp only [vals, List.mem_cons] at h; rcases h with rfl | h <;> first | exact trivial | exact vals_ok l sv h)
  vals_length : ∀ (l : List Value), l.length = (vals l).length
    | [] => rfl
    | v :: l => by cases v <;> simp [vals, vals_length l]
theorem fldK_spec {t f : Nat} {K : Nat → TI → Prop} (htt : TTok C.P C.tt) (h : fldK C t f K) :
    ∃ (F : Array Field) (fd : Field) (ti : TI), C.P.underlying t = some (.struct F) ∧ F[f]? = some fd ∧ TIok C.P fd.type ti ∧ K fd.offset ti := by
  obtain ⟨i, h1, h2⟩ := tyK_spec h
  have hk := (htt.get h1).kind
  split at h2
  · rename_i fs hkk
    rw [hkk] at hk
    obtain ⟨hk, _⟩ := hk
    split at h2
    · rename_i off ft hf
      obtain ⟨ti, h3, h4⟩ := tyK_spec h2
      cases hu : C.P.underlying t with
      | none => simp [hu] at hk
      | some d =>
        simp only [hu, Option.bind_some] at hk
        cases d <;> simp only [fieldsD] at hk <;> try (cases hk; done)
        rename_i F
        simp only [Option.some.injEq] at hk
        subst hk
        simp only [List.getElem?_map, Option.map_eq_some_iff, Prod.mk.injEq] at hf
        obtain ⟨fd, hfd, rfl, rfl⟩ := hf
        exact ⟨F, fd, ti, rfl, by simpa using hfd, htt.get h3, h4⟩
    · exact h2.elim
  · exact h2.elim
theorem posK_spec {i : TI} {A : Prop} (h : posK i A) : i.size ≠ 0 ∧ A := by
  unfold posK at h
  split at h
  · exact h.elim
  · rename_i n hn; exact ⟨by omega, h⟩
theorem run_fieldAt {P : Program} {t f : Nat} {F : Array Field} {fd : Field} {ti : TI} (hu : P.underlying t = some (.struct F)) (hf : F[f]? = some fd) (hti : TIok P fd.type ti) (hs : ti.size ≠ 0) (a : Addr) (w : World) :
    (Instr.fieldAt t (.pointer (some a)) f).run P w = .ok (.pointer (some (a.add fd.offset))) w := by
  simp [Instr.fieldAt, run_underlying hu, hf, Instr.sureAddr, fieldPlace, hti.run_sizeOf, hs]
theorem run_part {P : Program} {t : TypeId} {ti : TI} (hti : TIok P t ti) {cs : Array Value} {off : Nat} {K : SV → Prop} (h : partV ti cs.toList off K) :
    ∃ sv, K sv ∧ svOk s sv ∧ ∀ w, (part t cs off).run P w = .ok sv.conc w := by
  obtain ⟨l, hl, hn, h⟩ := partV_spec h
  rcases h with ⟨hg, h⟩ | ⟨hg, x, rfl, h⟩
  · refine ⟨_, h, trivial, fun w => ?_⟩
    simp only [part, Sem.run_bind, hti.run_isAgg, hg, Result.andThen_ok, if_true, hti.run_sizeOf, Sem.run_pure, SV.conc, hl]
    congr 2
    apply Array.ext'
    simp only [Array.toList_extract]
    rw [List.extract_eq_take_drop]
    simp
  · refine ⟨_, h, trivial, fun w => ?_⟩
    have : cs[off]? = some x := by
      have := drop_take_get (cs := cs.toList) (off := off) (n := ti.size) (j := 0) (v := x) (by rw [← hl]; rfl)
      simpa using this
    simp [part, hti.run_isAgg, hg, this, SV.conc]
theorem value_of {o : Oper} {x : Sem Value} {sv : SV} (he : execOp a.eval o = (do pure (.value (← x)))) (h : Runs C.P s x sv) : ∀ w, SeesO s w → (execOp a.eval o).run C.P w = .ok (.value sv.conc) w := fun w hw => by
  rw [he]
  simp [h w hw]
/-- **EVERY OPERATION THAT YIELDS A VALUE YIELDS WHAT THE GENERATOR SAYS**, in every world that the state sees. -/
theorem vcVal_sound (htt : TTok C.P C.tt) (he : EnvOk s a) (hb : BlkOk s) {o : Oper} {K : SV → Prop} (h : vcVal C s o.op K) :
    ∃ sv, K sv ∧ svOk s sv ∧ ∀ w, SeesO s w → (execOp a.eval o).run C.P w = .ok (.value sv.conc) w := by
  obtain ⟨dst, op, type, pos, after, guard⟩ := o
  simp only at h
  unfold vcVal at h
  split at h
  · rename_i src dst' x
    obtain ⟨sx, h1, h2⟩ := evK_spec h
    obtain ⟨e, o1⟩ := ev_sound he h1
    unfold convK at h2
    obtain ⟨ts, h3, h4⟩ := tyK_spec h2
    obtain ⟨td, h5, h6⟩ := tyK_spec h4
    have k1 := (htt.get h3).kind
    have k2 := (htt.get h5).kind
    split at h6
    · rename_i e0 tag base n cap hs hd
      rw [hs] at k1
      rw [hd] at k2
      obtain ⟨te, h7, h8⟩ := tyK_spec h6
      have k3 := (htt.get h7).kind
      split at h8
      · rename_i b' c' ty es xs hk hlb
        rw [hk] at k3
        obtain ⟨bs, rfl, h9⟩ := bytes_elim h8
        obtain ⟨_, hx2⟩ := o1
        obtain ⟨_, _, _, e1, e2⟩ := hx2 _ hlb
        cases e1
        simp only [List.length_map] at e2
        subst e2
        refine ⟨_, h9, trivial, fun w hw => ?_⟩
        have hf := hw.1.2 _ _ hlb
        have hrun : (convert src dst' (SV.row tag base bs.length cap).conc).run C.P w = .ok (.string ⟨bs.toArray⟩) w := by
          cases base with
          | none =>
            obtain ⟨e3, _⟩ := hf
            have : bs = [] := by simpa using e3
            subst this
            simp only [SV.conc, Option.map_none]
            rw [run_convert_bytes_string w src dst' e0 none _ _ k1 k3 k2]
            rfl
          | some r =>
            simp only [SV.conc, Option.map_some]
            refine run_convert_bytes_back w src dst' e0 ⟨r, 0, none⟩ cap bs k1 k3 k2 fun j hj => ?_
            obtain ⟨r', hr, hc⟩ := fits_row_cell hf (i := j) (x := .int .u8 (bs[j].toNat : Int)) (by simp [List.getElem?_eq_getElem hj])
            cases hr
            have hes : es = 1 := by
              have := (hf.2.2.1 (.int .u8 (bs[j].toNat : Int)) (List.mem_map.2 ⟨bs[j], List.getElem_mem hj, rfl⟩)).1
              simpa [vcells] using this.symm
            have := hc 0 _ rfl
            rw [hes] at this
            rw [Addr.add_lit']
            simpa using this
        simp only [execOp, e, Sem.run_bind, hrun, Result.andThen_ok, Sem.run_pure]
        rfl
      · exact h8.elim
    · rename_i hs hd
      rw [hs] at k1
      rw [hd] at k2
      refine ⟨_, num_elim h6, trivial, fun w _ => ?_⟩
      simp [execOp, e, SV.conc, convert, run_underlying k1, run_underlying k2, Conv.intToInt]
    · rename_i hs hd
      rw [hs] at k1
      rw [hd] at k2
      refine ⟨_, h6, trivial, fun w _ => ?_⟩
      simp [execOp, e, SV.conc, convert, run_underlying k1, run_underlying k2]
    · exact h6.elim
  · obtain ⟨sv, h1, h2⟩ := evK_spec h
    obtain ⟨e, o⟩ := ev_sound he h1
    exact ⟨sv, h2, o, fun w _ => by simp [execOp, e]⟩
  · obtain ⟨sv, h1, h2⟩ := evK_spec h
    obtain ⟨e, o⟩ := ev_sound he h1
    exact ⟨sv, h2, o, fun w _ => by simp [execOp, e]⟩
  · obtain ⟨sv, h1, h2, b, h3, h4⟩ := pickK_sound he h
    refine ⟨sv, h1, h2, fun w _ => ?_⟩
    simp only [execOp, h3, asBool, Sem.run_bind, Sem.run_pure, Result.andThen_ok]
    exact congrArg (fun v => Result.ok (Next.value v) w) h4
  · obtain ⟨x, h1, h2⟩ := evK_spec h
    obtain ⟨e, _⟩ := ev_sound he h1
    obtain ⟨sv, h3, h4, h5⟩ := unK_sound (C := C) (s := s) h2
    exact ⟨sv, h3, h4, value_of (by simp only [execOp, e]) h5⟩
  · obtain ⟨x, h1, h2⟩ := evK_spec h
    obtain ⟨e1, _⟩ := ev_sound he h1
    obtain ⟨y, h3, h4⟩ := evK_spec h2
    obtain ⟨e2, _⟩ := ev_sound he h3
    obtain ⟨sv, h5, h6, h7⟩ := binK_sound (s := s) htt h4
    refine ⟨sv, h5, h6, fun w hw => ?_⟩
    simp [execOp, e1, e2, eqGuard_quiet h4, h7 w hw]
  · obtain ⟨F, fd, ti, hu, hf, hti, h1⟩ := fldK_spec htt h
    obtain ⟨x, h2, h3⟩ := evK_spec h1
    obtain ⟨e1, _⟩ := ev_sound he h2
    split at h3
    · obtain ⟨sv, h5, h6, h7⟩ := run_part (s := s) hti h3
      refine ⟨sv, h5, h6, fun w hw => ?_⟩
      simp [execOp, e1, SV.conc, Instr.field, run_underlying hu, hf, asAgg, h7 w]
    · exact h3.elim
  · obtain ⟨F, fd, ti, hu, hf, hti, h1⟩ := fldK_spec htt h
    obtain ⟨hsz, h1⟩ := posK_spec h1
    obtain ⟨x, h2, h3⟩ := evK_spec h1
    obtain ⟨e1, o1⟩ := ev_sound he h2
    split at h3
    · refine ⟨_, h3, o1, fun w _ => ?_⟩
      simp [execOp, e1, SV.conc, run_fieldAt hu hf hti hsz, Addr.add_lit']
    · refine ⟨_, h3, o1, fun w _ => ?_⟩
      simp [execOp, e1, SV.conc, run_fieldAt hu hf hti hsz, Addr.add_add']
    · rename_i tag base es i off
      split at h3
      case h_2 => exact h3.elim
      rename_i lb hlb
      obtain ⟨cap, ty, xs, rfl, hlt⟩ := o1.2 _ hlb
      refine ⟨_, h3, o1, fun w hw => ?_⟩
      have hfit := hw.1.2 _ _ hlb
      cases base with
      | none => obtain ⟨rfl, _⟩ := hfit; simp at hlt
      | some r => simp [execOp, e1, SV.conc, run_fieldAt hu hf hti hsz, Addr.add_lit', Nat.add_assoc]
    · refine ⟨_, h3, trivial, fun w _ => ?_⟩
      simp [execOp, e1, SV.conc, run_fieldAt hu hf hti hsz]
    · exact h3.elim
  · obtain ⟨x, h1, h2⟩ := evK_spec h
    obtain ⟨e1, o1⟩ := ev_sound he h1
    obtain ⟨y, h3, h4⟩ := evK_spec h2
    obtain ⟨e2, _⟩ := ev_sound he h3
    obtain ⟨sv, h5, h6, h7⟩ := idxK_sound htt o1 h4
    exact ⟨sv, h5, h6, value_of (by simp only [execOp, e1, e2]) h7⟩
  · obtain ⟨ti, h1, h2⟩ := tyK_spec h
    have hk := (htt.get h1).kind
    obtain ⟨x, h3, h4⟩ := evK_spec h2
    obtain ⟨e1, _⟩ := ev_sound he h3
    obtain ⟨lo, h5, e2⟩ := optK_spec he h4
    obtain ⟨hi, h6, e3⟩ := optK_spec he h5
    split at h6
    · rename_i hkk _
      rw [hkk] at hk
      obtain ⟨te, h7, h8⟩ := tyK_spec h6
      obtain ⟨sv, h9, h10, h11⟩ := sliceK_sound (s := s) hk (htt.get h7) h8
      refine ⟨sv, h9, h10, fun w hw => ?_⟩
      have h11 := h11 w hw
      simp only [SV.conc] at h11
      simp [execOp, e1, e2, e3, SV.conc, Instr.sliceAt, run_underlying hk, h11]
    · rename_i hkk _
      rw [hkk] at hk
      obtain ⟨te, h7, h8⟩ := tyK_spec h6
      obtain ⟨sv, h9, h10, h11⟩ := sliceK_sound (s := s) hk (htt.get h7) h8
      refine ⟨sv, h9, h10, fun w hw => ?_⟩
      have h11 := h11 w hw
      simp only [SV.conc] at h11
      simp [execOp, e1, e2, e3, SV.conc, Instr.sliceAt, run_underlying hk, h11]
    · rename_i hkk _
      rw [hkk] at hk
      obtain ⟨sv, h9, h10, h11⟩ := strCut_sound (s := s) hk h6
      refine ⟨sv, h9, h10, fun w hw => ?_⟩
      have h11 := h11 w hw
      simp only [SV.conc] at h11
      simp [execOp, e1, e2, e3, SV.conc, Instr.sliceAt, run_underlying hk, h11]
    · exact h6.elim
  · obtain ⟨ti, h1, h2⟩ := tyK_spec h
    have hk := (htt.get h1).kind
    obtain ⟨x, h3, h4⟩ := evK_spec h2
    obtain ⟨e1, _⟩ := ev_sound he h3
    obtain ⟨y, h5, h6⟩ := evK_spec h4
    obtain ⟨e2, _⟩ := ev_sound he h5
    split at h6
    · rename_i b k i hkk _ _
      rw [hkk] at hk
      obtain ⟨j, c, rfl, hc, h7⟩ := byte_elim h6
      refine ⟨_, h7, trivial, fun w _ => ?_⟩
      have hlt : j < b.size := by
        rcases Nat.lt_or_ge j b.size with h | h
        · exact h
        · rw [List.getElem?_eq_none (by rw [ByteArray.size] at h; simpa using h)] at hc; cases hc
      have hg : b[j]? = some c := by
        rw [ByteArray.getElem?_lt' b j hlt]
        have : b.data.toList[j]? = some (b.data[j]'hlt) := by simp [Array.getElem?_eq_getElem (show j < b.data.size from hlt)]
        rw [this] at hc
        exact hc
      simp [execOp, e1, e2, SV.conc, Instr.index, asIntOf, run_underlying hk, hg]
    · exact h6.elim
  · obtain ⟨x, h1, h2⟩ := evK_spec h
    obtain ⟨e1, o1⟩ := ev_sound he h1
    obtain ⟨sv, h5, h6, h7⟩ := loadK_sound htt hb o1 h2
    exact ⟨sv, h5, h6, value_of (by simp only [execOp, e1]) h7⟩
  · obtain ⟨x, h1, h2⟩ := evK_spec h
    obtain ⟨e1, o1⟩ := ev_sound he h1
    split at h2
    · split at h2
      · rename_i v hv
        refine ⟨_, h2, trivial, fun w _ => ?_⟩
        simp only [Array.getElem?_toList] at hv
        simp [execOp, e1, SV.conc, Instr.extract, hv]
      · exact h2.elim
    · exact h2.elim
  · obtain ⟨ti, h1, h2⟩ := tyK_spec h
    have hti := htt.get h1
    have hk := hti.kind
    split at h2
    · rename_i t ps _ fs hkk
      rw [hkk] at hk
      obtain ⟨hk1, hk2⟩ := hk
      obtain ⟨places, hpl⟩ := Option.isSome_iff_exists.1 hk2
      obtain ⟨cs', h3, h4, h5⟩ := fillK_sound htt he hpl ps.toList (vals ti.zero) _ (fun sv hsv => fillK_sound.vals_ok ti.zero sv hsv) h2
      rw [concsK_eq] at h3
      refine ⟨_, h3, trivial, fun w _ => ?_⟩
      simp only [execOp]
      have hb : C.P.built t (ps.map fun p => (p.1, a.eval p.2)).toList = some (cs'.map SV.conc).toArray := by
        obtain ⟨inf, hin, _, _, z, hz, hzc⟩ := hti.info'
        cases hu : C.P.underlying t with
        | none => simp [hu] at hk1
        | some d =>
          simp only [hu, Option.bind_some] at hk1
          cases d <;> simp only [fieldsD] at hk1 <;> try (cases hk1; done)
          rename_i F
          simp only [Option.some.injEq] at hk1
          have hm : (F.toList.mapM fun f => (C.P.info? f.type).map fun i => (f.offset, i.size)) = some places := by
            rw [← hpl, ← hk1, List.mapM_map]
            rfl
          simp only [Program.built, hin, hu, hz, hm]
          rw [← h5, vals_conc, ← hzc, ← cells_vcells]
          simp
      have := run_build w t (ps.map fun p => (p.1, a.eval p.2)) _ hb
      simp [this, SV.conc]
    · exact h2.elim
  · rename_i fn first caps
    have h1 := evsK_sound he _ _ (evsK_sound he _ _ h)
    refine ⟨_, h1, trivial, fun w _ => ?_⟩
    simp only [execOp, Instr.makeFunc, SV.conc, pure_bind, Sem.run_pure]
    congr 3 <;> (apply Array.ext'; simp)
  · rename_i c
    split at h
    · split at h
      · rename_i hc _ _ x t hca hct
        obtain ⟨y, h1, h2⟩ := evK_spec h
        obtain ⟨e1, o1⟩ := ev_sound he h1
        obtain ⟨sv, h3, h4, h5⟩ := lenK_sound (ty := type) htt h2
        refine ⟨sv, h3, h4, fun w hw => ?_⟩
        have h5 := h5 w hw
        have ea : c.args.map a.eval = #[y.conc] := by
          apply Array.ext'
          simp [hca, e1]
        have et : c.argTypes = #[t] := by
          apply Array.ext'
          simp [hct]
        simp [execOp, resolve, hc, invoke, builtin, ea, et, h5]
      · exact h.elim
    · split at h
      · rename_i hc _ x y hca
        obtain ⟨sx, h1, h2⟩ := evK_spec h
        obtain ⟨e1, -⟩ := ev_sound he h1
        obtain ⟨sy, h3, h4⟩ := evK_spec h2
        obtain ⟨e2, -⟩ := ev_sound he h3
        obtain ⟨sv, h5, h6, h7⟩ := maxK_sound (C := C) (s := s) (ts := c.argTypes) (t := type) h4
        refine ⟨sv, h5, h6, fun w hw => ?_⟩
        have h7 := h7 w hw
        have ea : c.args.map a.eval = #[sx.conc, sy.conc] := by apply Array.ext'; simp [hca, e1, e2]
        simp only [cond_true, cond_false] at h7
        simp [execOp, resolve, hc, invoke, builtin, ea, h7]
      · exact h.elim
    · split at h
      · rename_i hc _ x y hca
        obtain ⟨sx, h1, h2⟩ := evK_spec h
        obtain ⟨e1, -⟩ := ev_sound he h1
        obtain ⟨sy, h3, h4⟩ := evK_spec h2
        obtain ⟨e2, -⟩ := ev_sound he h3
        obtain ⟨sv, h5, h6, h7⟩ := maxK_sound (C := C) (s := s) (ts := c.argTypes) (t := type) h4
        refine ⟨sv, h5, h6, fun w hw => ?_⟩
        have h7 := h7 w hw
        have ea : c.args.map a.eval = #[sx.conc, sy.conc] := by apply Array.ext'; simp [hca, e1, e2]
        simp only [cond_true, cond_false] at h7
        simp [execOp, resolve, hc, invoke, builtin, ea, h7]
      · exact h.elim
    · exact h.elim
  · exact h.elim
end
end Go.Vx
