/- Stores, slice literals, freezing, calls: every operation, as the generator says. -/
import Derived.Test.YtjgohkogcdmbdaaVxG
namespace Go.Vx

theorem flat_len {es : Nat} : ∀ l : List Value, (∀ y ∈ l, (vcells y).length = es) → (l.flatMap vcells).length = l.length * es
  | [], _ => by simp
  | y :: l, hl => by
    simp only [List.flatMap_cons, List.length_append, List.length_cons, flat_len l (fun y hy => hl y (by simp [hy])), hl y (by simp), Nat.add_mul]
    omega
theorem flat_set {es off : Nat} {nv : Value} {vs : List Value} : ∀ (xs : List Value) (j : Nat) (v : Value), (∀ y ∈ xs, (vcells y).length = es) → xs[j]? = some v → off + vs.length ≤ es →
    vcells nv = (vcells v).take off ++ vs ++ (vcells v).drop (off + vs.length) →
    (xs.set j nv).flatMap vcells = (xs.flatMap vcells).take (j * es + off) ++ vs ++ (xs.flatMap vcells).drop (j * es + off + vs.length)
  | [], j, v, _, h, _, _ => by simp at h
  | x :: xs, 0, v, hl, h, hb, hn => by
    simp only [List.getElem?_cons_zero, Option.some.injEq] at h
    subst h
    have hx := hl x (by simp)
    simp only [List.set_cons_zero, List.flatMap_cons, Nat.zero_mul, Nat.zero_add, hn]
    rw [List.take_append_of_le_length (by omega), List.drop_append_of_le_length (by omega)]
    simp [List.append_assoc]
  | x :: xs, j + 1, v, hl, h, hb, hn => by
    have hx := hl x (by simp)
    have ih := flat_set xs j v (fun y hy => hl y (by simp [hy])) (by simpa using h) hb hn
    simp only [List.set_cons_succ, List.flatMap_cons, ih]
    rw [show (j + 1) * es + off = (vcells x).length + (j * es + off) from by rw [hx, Nat.add_mul, Nat.one_mul]; omega, List.take_length_add_append,
      show (vcells x).length + (j * es + off) + vs.length = (vcells x).length + (j * es + off + vs.length) from by omega, List.drop_length_add_append]
    simp [List.append_assoc]
theorem arr_set {arr flat vs : List Value} {A n : Nat} (ht : arr.take n = flat) (hf : flat.length = n) (hA : A + vs.length ≤ n) :
    (arr.take A ++ vs ++ arr.drop (A + vs.length)).take n = flat.take A ++ vs ++ flat.drop (A + vs.length) := by
  have e : arr = flat ++ arr.drop n := by rw [← ht]; simp
  generalize arr.drop n = rest at e
  subst e
  have e1 : (flat ++ rest).take A = flat.take A := List.take_append_of_le_length (by omega)
  have e2 : (flat ++ rest).drop (A + vs.length) = flat.drop (A + vs.length) ++ rest := List.drop_append_of_le_length (by omega)
  rw [e1, e2, ← List.append_assoc]
  have hl : (flat.take A ++ vs ++ flat.drop (A + vs.length)).length = n := by simp; omega
  rw [← hl]
  exact List.take_left

section
variable {C : Cx} {E : Ent} {s : St} {a : Act} {w : World}
theorem vals_ok (s : St) : ∀ (l : List Value) (sv : SV), sv ∈ vals l → svOk s sv
  | [], _, h => by simp [vals] at h
  | v :: l, sv, h => by
    cases v <;> (simp only [vals, List.mem_cons] at h; rcases h with rfl | h <;> first | exact trivial | exact vals_ok s l sv h)
theorem cellsOf_ok {x : SV} (hx : svOk s x) : ∀ sv ∈ cellsOf x, svOk s sv := by
  unfold cellsOf
  split
  · exact vals_ok s _
  · simpa using hx
theorem svOk_setB {t : Nat} {lb lb' : LB} {sv : SV} (hlb : s.lb t = some lb) (hal : lb.alike lb') (h : svOk s sv) : svOk (s.setB t lb') sv := by
  refine svOk_ext (s := s) (Nat.le_refl _) (Mem.Le.refl _) (fun u lb2 _ hl => ?_) h
  rw [lb_setB] at hl
  split at hl
  · rename_i hu; subst hu; cases hl; exact ⟨lb, hlb, hal⟩
  · exact ⟨lb2, hl, lb2.alike_refl⟩
theorem Rel.setAlike {w' : World} (hR : Rel E a w s) {t : Nat} {lb lb' : LB} (hlb : s.lb t = some lb) (hal : lb.alike lb') (hblk : lb'.blk? = lb.blk?)
    (hcs : ∀ r cs ty, lb' = .cells r cs ty → ∀ sv ∈ cs, svOk s sv) (hfit : lb'.fits (fun b => w'.heap[b]?)) (hkeep : ∀ b, lb.blk? ≠ some b → w'.heap[b]? = w.heap[b]?)
    (hsize : w.heap.size ≤ w'.heap.size) (os : w'.os = w.os) (tape : w'.tape = w.tape) (output : w'.output = w.output) : Rel E a w' (s.setB t lb') := by
  refine hR.change t lb' (fun k => lb_setB s t lb' k) rfl rfl (Nat.le_refl _) (hR.nxt _ _ hlb) (fun i sv h => ?_) (fun u r cs ty h sv hsv => ?_) hfit (fun r hr => .inl ⟨lb, hlb, by rw [← hblk]; exact hr⟩) (fun b _ hb => hkeep b (hb lb hlb)) hsize os tape output
  · obtain ⟨h1, h2⟩ := hR.env i sv h
    exact ⟨h1, svOk_setB hlb hal h2⟩
  · rw [lb_setB] at h
    split at h
    · exact svOk_setB hlb hal (hcs r cs ty (by simpa using h) sv hsv)
    · exact svOk_setB hlb hal (hR.cells u r cs ty h sv hsv)
theorem oneK_spec {α : Type} {l : List α} {K : α → Prop} (h : oneK l K) : ∃ x, l = [x] ∧ K x := by
  unfold oneK at h
  split at h
  · exact ⟨_, rfl, h⟩
  · exact h.elim
/-- Which local a store turns. -/
def SV.tag? : SV → Option Nat
  | .loc t _ _ => some t
  | .rel t _ _ _ _ => some t
  | _ => none
/-- What one operation has done to the rest. -/
structure Evo (w : World) (s : St) (w' : World) (s' : St) (mods : List Nat) (ow : Bool) : Prop where
  keep : ∀ b, b < w.heap.size → (∀ t, t ∈ mods → ∀ lb, s.lb t = some lb → lb.blk? ≠ some b) → (ow = true → s.own b = none) → w'.heap[b]? = w.heap[b]?
  size : w.heap.size ≤ w'.heap.size
  le : s.mem.Le s'.mem
  out : ∀ r, r < w.heap.size → s.mem r = none → s.own r = none → (∀ t lb, s.lb t = some lb → lb.blk? ≠ some r) → s'.mem r = none ∧ s'.own r = none ∧ ∀ t lb, s'.lb t = some lb → lb.blk? ≠ some r
  own : ow = false → s'.own = s.own
  nxt : s.nxt ≤ s'.nxt
  stay : ∀ t lb', t < s.nxt → s'.lb t = some lb' → ∃ lb, s.lb t = some lb ∧ (lb.alike lb' ∨ (t ∈ mods ∧ (∃ b c y e x, lb = .row b c y e x) ∧ ∃ b c y e x, lb' = .row b c y e x))
  envs : ∀ d sv, look s'.env d = some sv → look s.env d = some sv ∨ ((∃ v, sv = .val v) ∧ look s.env d ≠ none)
  alive : ∀ t r cs ty, s.lb t = some (.cells r cs ty) → (∃ cs' ty', s'.lb t = some (.cells r cs' ty')) ∨ s'.mem r ≠ none
theorem Evo.refl (w : World) (s : St) (m : List Nat) (ow : Bool) : Evo w s w s m ow := ⟨fun _ _ _ _ => rfl, Nat.le_refl _, Mem.Le.refl _, fun _ _ h1 h2 h3 => ⟨h1, h2, h3⟩, fun _ => rfl, Nat.le_refl _, fun _ lb _ h => ⟨lb, h, .inl lb.alike_refl⟩, fun _ _ h => .inl h, fun _ _ _ _ h => .inl ⟨_, _, h⟩⟩
theorem Evo.newB (w : World) (s : St) (m : List Nat) (ow : Bool) {o : Obj} {lb : LB} (hn : ∀ t lb, s.lb t = some lb → t < s.nxt) (hb : ∀ r, lb.blk? = some r → w.heap.size ≤ r) : Evo w s (w.alloc o) (s.newB lb) m ow :=
  ⟨fun b hb _ _ => Go.RowKit.Below.heap_alloc w o b hb, by simp, Mem.Le.refl _, fun r hr h1 h0 h2 => ⟨h1, h0, fun t lb' h hr' => by
    rw [lb_newB] at h
    split at h
    · cases h; have := hb r hr'; omega
    · exact h2 t lb' h hr'⟩, fun _ => rfl, Nat.le_succ _, fun t lb' ht h => ⟨lb', by rw [lb_newB, if_neg (by omega)] at h; exact h, .inl lb'.alike_refl⟩, fun _ _ h => .inl h, fun t r cs ty h => .inl ⟨cs, ty, by rw [lb_newB, if_neg (by have := hn _ _ h; omega)]; exact h⟩⟩
theorem Evo.setB {w w' : World} {s : St} {ow : Bool} {t : Nat} {lb lb' : LB} (hlb : s.lb t = some lb) (hal : lb.alike lb') (hblk : lb'.blk? = lb.blk?) (hkeep : ∀ b, lb.blk? ≠ some b → w'.heap[b]? = w.heap[b]?) (hsize : w.heap.size ≤ w'.heap.size) : Evo w s w' (s.setB t lb') [t] ow :=
  ⟨fun b _ h _ => hkeep b (h t (by simp) lb hlb), hsize, Mem.Le.refl _, fun r hr h1 h0 h2 => ⟨h1, h0, fun u lb2 h hr' => by
    rw [lb_setB] at h
    split at h
    · cases h; rw [hblk] at hr'; exact h2 t lb hlb hr'
    · exact h2 u lb2 h hr'⟩, fun _ => rfl, Nat.le_refl _, fun u lb2 _ h => by
      rw [lb_setB] at h
      split at h
      · rename_i e; subst e; cases h; exact ⟨lb, hlb, .inl hal⟩
      · exact ⟨lb2, h, .inl lb2.alike_refl⟩, fun _ _ h => .inl h, fun u r cs ty h => .inl (by
      rw [lb_setB]
      split
      · rename_i e
        subst e
        rw [hlb] at h
        cases h
        cases lb' <;> simp only [LB.alike] at hal
        subst hal
        exact ⟨_, _, rfl⟩
      · exact ⟨cs, ty, h⟩)⟩
/-- Owned memory is turned. -/
theorem Evo.chown {w w' : World} {s : St} {h' : Mem} (m : List Nat) (hR : Rel E a w s) (hnew : ∀ b, h' b ≠ none → s.own b ≠ none ∨ w.heap.size ≤ b) (hkeep : ∀ b, b < w.heap.size → s.own b = none → w'.heap[b]? = w.heap[b]?) (hsize : w.heap.size ≤ w'.heap.size) : Evo w s w' { s with own := h' } m true := by
  have hno : ∀ r, r < w.heap.size → s.own r = none → h' r = none := fun r hr h0 => by
    cases ho : h' r with
    | none => rfl
    | some o =>
      rcases hnew r (by simp [ho]) with h | h
      · exact absurd h0 h
      · omega
  exact ⟨fun b hb _ h => hkeep b hb (h rfl), hsize, Mem.Le.refl _, fun r hr h1 h0 h2 => ⟨h1, hno r hr h0, h2⟩, fun h => (nomatch h), Nat.le_refl _, fun t lb' _ h => ⟨lb', h, .inl lb'.alike_refl⟩, fun _ _ h => .inl h, fun t r cs ty h => .inl ⟨cs, ty, h⟩⟩
def svOw (s : St) : SV → Bool
  | .loc t _ _ => (s.lb t).isNone
  | .rel t _ _ _ _ => (s.lb t).isNone
  | _ => true
theorem Mem.set_get (h : Mem) (r : Nat) (o : Obj) (b : Nat) : h.set r o b = if b = r then some o else h b := rfl
/-- A store into owned memory. -/
theorem stoVC_sound (hR : Rel E a w s) {t : TypeId} {ti : TI} (hi : TIok C.P t ti) {ad : Addr} {x : Value} (hlen : (vcells x).length = ti.size) (hone : ∀ u ∈ vcells x, u.oneCell' = true) {K : St → Prop}
    (h : stoVC s.own ad (vcells x) fun h => ownK s h K) (m : List Nat) :
    ∃ s' w', K s' ∧ Rel E a w' s' ∧ (Instr.storeAt t (.pointer (some ad)) x).run C.P w = .ok () w' ∧ Evo w s w' s' m true := by
  obtain ⟨cs, ty, h1, h2, h3, h4⟩ := sto_elim h
  obtain ⟨r, off, spot⟩ := ad
  simp only at h1 h2 h3 h4
  subst h2
  have hg := hR.own.1 r _ h1
  have hrun := run_storeVar hi w r off _ ty hg x hlen (by rw [← hlen]; simpa using h3) hone
  have e0 : (Instr.storeAt t (.pointer (some ⟨r, off, none⟩)) x).run C.P w = (storeVar t ⟨r, off, none⟩ x).run C.P w := by simp [Instr.storeAt, Instr.sureAddr]
  have h5 : K { s with own := s.own.set r (.cells (List.toArray (cs.take off ++ vcells x ++ cs.drop (off + (vcells x).length))) ty (0, 0)) } := by
    cases s; exact h4
  have hnew : ∀ b, (s.own.set r (.cells (List.toArray (cs.take off ++ vcells x ++ cs.drop (off + (vcells x).length))) ty (0, 0))) b ≠ none → s.own b ≠ none ∨ w.heap.size ≤ b := fun b hb => by
    rw [Mem.set_get] at hb
    split at hb
    · rename_i e; subst e; exact .inl (by rw [h1]; simp)
    · exact .inl hb
  have hkeep : ∀ b, b < w.heap.size → s.own b = none → ∀ z, (w.setRow r z).heap[b]? = w.heap[b]? := fun b _ hb z => setRow_other w r b z (fun e => by subst e; rw [h1] at hb; cases hb)
  refine ⟨_, _, h5, hR.chown (fun b o hb => ?_) hnew (fun b h h' => hkeep b h h' _) (by simp [World.setRow]) rfl rfl rfl, e0.trans hrun, Evo.chown m hR hnew (fun b h h' => hkeep b h h' _) (by simp [World.setRow])⟩
  rw [Mem.set_get] at hb
  split at hb
  · rename_i e
    subst e
    cases hb
    rw [setRow_heap w b _ _ ty (0, 0) hg]
  · rename_i e
    rw [setRow_other w r b _ e]
    exact hR.own.1 b o hb
theorem storeK_sound (htt : TTok C.P C.tt) (hR : Rel E a w s) {t : TypeId} {ad x : SV} (ha : svOk s ad) (hx : svOk s x) {K : St → Prop} (h : storeK C s t ad x K) :
    ∃ s' w', K s' ∧ Rel E a w' s' ∧ (Instr.storeAt t ad.conc x.conc).run C.P w = .ok () w' ∧ Evo w s w' s' ad.tag?.toList (svOw s ad) := by
  obtain ⟨ti, h1, h2⟩ := tyK_spec h
  have hi := htt.get h1
  rw [cellsOfK_eq] at h2
  obtain ⟨hlen, h3⟩ := lenIs_spec _ _ _ h2
  rw [concsK_eq, cellsOf_conc] at h3
  obtain ⟨hone, h4⟩ := oneCellsK_spec _ _ h3
  have hlen' : (vcells x.conc).length = ti.size := by rw [← cellsOf_conc]; simpa using hlen
  have e0 : ∀ ad v, (Instr.storeAt t (.pointer (some ad)) v).run C.P w = (storeVar t ad v).run C.P w := fun _ _ => by simp [Instr.storeAt, Instr.sureAddr]
  split at h4
  · split at h4
    · rename_i tag r off _ r' cs ty hlb
      obtain ⟨_, _, e⟩ := ha.2 _ hlb
      obtain rfl : r' = r := by cases e; rfl
      clear e
      obtain ⟨hb, hk⟩ := setK_spec _ _ _ _ h4
      rw [setBK_eq] at hk
      have hf : w.heap[r']? = some (.cells (cs.map SV.conc).toArray ty (0, 0)) := hR.sees.2 _ _ hlb
      have hrun := run_storeVar hi w r' off _ ty hf x.conc hlen' (by simp; omega) hone
      refine ⟨_, _, hk, hR.setAlike hlb rfl rfl (fun r2 cs2 ty2 e sv hsv => ?_) ?_ (fun b hb => setRow_other w r' b _ (fun e => hb (by simp [LB.blk?, e]))) (by simp [World.setRow]) rfl rfl rfl, (e0 _ _).trans hrun, Evo.setB hlb rfl rfl (fun b hb => setRow_other w r' b _ (fun e => hb (by simp [LB.blk?, e]))) (by simp [World.setRow])⟩
      · cases e
        simp only [List.mem_append] at hsv
        rcases hsv with (hsv | hsv) | hsv
        · exact hR.cells _ _ _ _ hlb _ (List.mem_of_mem_take hsv)
        · exact cellsOf_ok hx _ hsv
        · exact hR.cells _ _ _ _ hlb _ (List.mem_of_mem_drop hsv)
      · simp only [LB.fits]
        rw [setRow_heap w r' _ _ ty (0, 0) hf]
        simp only [List.map_append, List.map_take, List.map_drop, cellsOf_conc]
        rw [show (cellsOf x).length = (vcells x.conc).length from by rw [← cellsOf_conc]; simp]
    · exact h4.elim
    · rename_i tag r off _ hlb
      have : svOw s (.loc tag r off) = true := by simp [svOw, hlb]
      rw [this]
      exact stoVC_sound hR hi hlen' hone h4 _
  · exact stoVC_sound hR hi hlen' hone h4 _
  · split at h4
    · rename_i tag base es0 j off _ base' cap ty es xs hlb
      obtain ⟨hax1, hax⟩ := ha
      obtain ⟨_, _, xs2, e, hjlt⟩ := hax _ hlb
      obtain rfl : base' = base := by cases e; rfl
      obtain rfl : es = es0 := by cases e; rfl
      obtain rfl : xs = xs2 := by cases e; rfl
      clear e
      obtain ⟨v, hv, h5⟩ := get_elim h4
      obtain ⟨hb, hk⟩ := setK_spec _ _ _ _ h5
      have hfit := hR.sees.2 _ _ hlb
      cases base' with
      | none => obtain ⟨rfl, _⟩ := hfit; simp at hjlt
      | some r =>
        obtain ⟨hc1, hc2, hxs, arr, hg, hsz, htk⟩ := hfit
        have hvl := (hxs v (List.mem_of_getElem? hv)).1
        have hv1 := (hxs v (List.mem_of_getElem? hv)).2
        have fl := flat_len xs fun y hy => (hxs y hy).1
        have hjes : j * es + es ≤ xs.length * es := by
          have : (j + 1) * es ≤ xs.length * es := Nat.mul_le_mul_right _ (by omega)
          rw [Nat.add_mul, Nat.one_mul] at this
          exact this
        have hcap : xs.length * es ≤ arr.size := by rw [hsz]; exact Nat.mul_le_mul_right _ hc1
        have hrun := run_storeVar hi w r (j * es + off) arr ty hg x.conc hlen' (by omega) hone
        have fin : ∀ nv : Value, vcells nv = (vcells v).take off ++ vcells x.conc ++ (vcells v).drop (off + (vcells x.conc).length) → K (s.setB tag (.row (some r) cap ty es (xs.set j nv))) →
            ∃ s' w', K s' ∧ Rel E a w' s' ∧ (Instr.storeAt t (SV.rel tag (some r) es j off).conc x.conc).run C.P w = .ok () w' ∧ Evo w s w' s' (SV.rel tag (some r) es j off).tag?.toList (svOw s (SV.rel tag (some r) es j off)) := by
          intro nv hnv hK
          refine ⟨_, _, hK, hR.setAlike hlb ⟨rfl, rfl, rfl, by simp⟩ rfl (fun _ _ _ e => by cases e) ?_ (fun b hb => setRow_other w r b _ (fun e => hb (by simp [LB.blk?, e]))) (by simp [World.setRow]) rfl rfl rfl, (e0 _ _).trans hrun, Evo.setB hlb ⟨rfl, rfl, rfl, by simp⟩ rfl (fun b hb => setRow_other w r b _ (fun e => hb (by simp [LB.blk?, e]))) (by simp [World.setRow])⟩
          refine ⟨by simpa using hc1, hc2, fun y hy => ?_, _, setRow_heap w r arr _ ty (0, 0) hg, ?_, ?_⟩
          · rcases List.mem_or_eq_of_mem_set hy with h | rfl
            · exact hxs y h
            · rw [hnv]
              refine ⟨by simp; omega, fun u hu => ?_⟩
              simp only [List.mem_append] at hu
              rcases hu with (hu | hu) | hu
              · exact hv1 u (List.mem_of_mem_take hu)
              · exact hone u hu
              · exact hv1 u (List.mem_of_mem_drop hu)
          · simp; omega
          · rw [flat_set xs j v (fun y hy => (hxs y hy).1) hv (by omega) hnv, List.length_set]
            exact arr_set htk fl (by omega)
        split at hk
        · rename_i cs
          rw [setBK_eq] at hk
          exact fin _ (by simp [vcells]) hk
        · rename_i hne
          obtain ⟨c, hc, hk⟩ := oneK_spec hk
          rw [setBK_eq] at hk
          have h1 : es = 1 := by
            have : vcells v = [v] := by cases v <;> first | rfl | exact absurd rfl (hne _)
            rw [this] at hvl; simpa using hvl.symm
          refine fin c ?_ hk
          have hvv : vcells v = [v] := by cases v <;> first | rfl | exact absurd rfl (hne _)
          rw [hc]
          have hcm : c ∈ vcells x.conc ∨ c = v := by
            have : c ∈ (vcells v).take off ++ vcells x.conc ++ (vcells v).drop (off + (vcells x.conc).length) := by rw [hc]; simp
            simp only [List.mem_append, hvv] at this
            rcases this with (h | h) | h
            · exact .inr (by simpa using List.mem_of_mem_take h)
            · exact .inl h
            · exact .inr (by simpa using List.mem_of_mem_drop h)
          have hc1 : c.oneCell' = true := by
            rcases hcm with h | rfl
            · exact hone c h
            · exact hv1 _ (by rw [hvv]; simp)
          cases c <;> first | rfl | (simp [Value.oneCell'] at hc1; done)
    · exact h4.elim
  · exact h4.elim
end
end Go.Vx
