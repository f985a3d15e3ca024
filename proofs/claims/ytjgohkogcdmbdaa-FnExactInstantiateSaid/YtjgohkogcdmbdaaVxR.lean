/- **WHATEVER ORDER IS DRAWN.** -/
import Derived.Test.YtjgohkogcdmbdaaVxQ
import Derived.Test.YtjgohkogcdmbdaaVxM
namespace Go.Vx
section
variable {C : Cx} {E : Ent} {ops : Array Oper} {ml : List (Nat × Nat)} {ol : List Nat} {al : List Nat} {s0 : St}

/-- How many are still to come. -/
def rem (n : Nat) (L : Array Bool) : Nat := ((List.range n).filter fun i => L.getD i true == false).length
theorem rem_set {n i : Nat} {L : Array Bool} (hs : L.size = n) (hi : i < n) (hL : L.getD i true = false) : rem n (L.setIfInBounds i true) + 1 = rem n L := by
  unfold rem
  have e : ((List.range n).filter fun k => L.getD k true == false) = ((List.range n).filter fun k => k == i || ((L.setIfInBounds i true).getD k true == false)) := by
    apply List.filter_congr
    intro k hk
    by_cases hki : k = i
    · subst hki; simp [hL]
    · rw [getD_set_ne true (fun e => hki e.symm)]
      simp [hki]
  rw [e]
  have key : ∀ l : List Nat, l.Nodup → i ∈ l → (l.filter fun k => k == i || ((L.setIfInBounds i true).getD k true == false)).length = (l.filter fun k => (L.setIfInBounds i true).getD k true == false).length + 1 := by
    have hii : (L.setIfInBounds i true).getD i true = true := getD_set_self (by omega)
    intro l
    induction l with
    | nil => intro _ h; cases h
    | cons x l ih =>
      intro hn hm
      obtain ⟨h1, h2⟩ := List.nodup_cons.1 hn
      by_cases hx : x = i
      · subst hx
        rw [List.filter_cons_of_pos (by simp), List.filter_cons_of_neg (by simp [hii])]
        simp only [List.length_cons]
        congr 2
        apply List.filter_congr
        intro k hk
        have : k ≠ x := fun e => h1 (e ▸ hk)
        simp [this]
      · have hm' : i ∈ l := by
          rcases List.mem_cons.1 hm with e | h
          · exact absurd e.symm hx
          · exact h
        have ih := ih h2 hm'
        by_cases hg : (L.setIfInBounds i true).getD x true = false
        · rw [List.filter_cons_of_pos (by simp [hg]), List.filter_cons_of_pos (by simp [hg])]
          simp only [List.length_cons, ih]
        · rw [List.filter_cons_of_neg (by simp [hx]; simpa using hg), List.filter_cons_of_neg (by simpa using hg)]
          exact ih
  exact (key _ List.nodup_range (by simpa using hi)).symm
theorem rem_zero {n : Nat} {L : Array Bool} (h : rem n L = 0) (i : Nat) (hi : i < n) : L.getD i true = true := by
  unfold rem at h
  have := List.eq_nil_of_length_eq_zero h
  rw [List.filter_eq_nil_iff] at this
  have := this i (by simpa using hi)
  simpa using this
theorem needOf_spec {done : List Nat} {es : List Edge} : ∀ {l : List Nat} {j : Nat}, j ∈ needOf done es l ↔ j ∈ l ∧ j ∉ done ∧ onEdge j es = true
  | [], j => by simp [needOf]
  | x :: r, j => by
    have ih := needOf_spec (done := done) (es := es) (l := r) (j := j)
    simp only [needOf]
    split
    · rename_i h1 h2
      rw [memN_false] at h1
      rw [List.mem_cons, ih, List.mem_cons]
      constructor
      · rintro (rfl | ⟨a, b⟩)
        · exact ⟨.inl rfl, h1, h2⟩
        · exact ⟨.inr a, b⟩
      · rintro ⟨rfl | a, b⟩
        · exact .inl rfl
        · exact .inr ⟨a, b⟩
    · rename_i h
      rw [ih, List.mem_cons]
      constructor
      · rintro ⟨a, b⟩; exact ⟨.inr a, b⟩
      · rintro ⟨rfl | a, b1, b2⟩
        · exact (h (memN_false.2 b1) b2).elim
        · exact ⟨a, b1, b2⟩
theorem needOf_nodup {done : List Nat} {es : List Edge} : ∀ {l : List Nat}, l.Nodup → (needOf done es l).Nodup
  | [], _ => by simp [needOf]
  | x :: r, h => by
    obtain ⟨h1, h2⟩ := List.nodup_cons.1 h
    simp only [needOf]
    split
    · exact List.nodup_cons.2 ⟨fun e => h1 (needOf_spec.1 e).1, needOf_nodup h2⟩
    · exact needOf_nodup h2
theorem undone_spec {done : List Nat} : ∀ {l : List Nat} {j : Nat}, j ∈ undone done l ↔ j ∈ l ∧ j ∉ done
  | [], j => by simp [undone]
  | x :: r, j => by
    have ih := undone_spec (done := done) (l := r) (j := j)
    simp only [undone]
    split
    · rename_i h
      rw [memN_iff] at h
      rw [ih, List.mem_cons]
      constructor
      · rintro ⟨a, b⟩; exact ⟨.inr a, b⟩
      · rintro ⟨rfl | a, b⟩
        · exact absurd h b
        · exact ⟨a, b⟩
    · rename_i h
      rw [memN_false] at h
      rw [List.mem_cons, ih, List.mem_cons]
      constructor
      · rintro (rfl | ⟨a, b⟩)
        · exact ⟨.inl rfl, h⟩
        · exact ⟨.inr a, b⟩
      · rintro ⟨rfl | a, b⟩
        · exact .inl rfl
        · exact .inr ⟨a, b⟩
theorem undone_nodup {done : List Nat} : ∀ {l : List Nat}, l.Nodup → (undone done l).Nodup
  | [], _ => by simp [undone]
  | x :: r, h => by
    obtain ⟨h1, h2⟩ := List.nodup_cons.1 h
    simp only [undone]
    split
    · exact undone_nodup h2
    · exact List.nodup_cons.2 ⟨fun e => h1 (undone_spec.1 e).1, undone_nodup h2⟩
theorem allocIdx_nodup : ∀ {l : List Oper} {k : Nat}, (allocIdx k l).Nodup
  | [], _ => by simp [allocIdx]
  | o :: r, k => by
    simp only [allocIdx]
    split
    · refine List.nodup_cons.2 ⟨fun e => ?_, allocIdx_nodup⟩
      obtain ⟨_, h, _⟩ := allocIdx_spec.1 e
      omega
    · exact allocIdx_nodup

theorem modsOk_spec {s0 : St} {ml : List (Nat × Nat)} {i : Nat} : ∀ {l : List Nat}, modsOk s0 ml i l = true → ∀ t ∈ l, ∀ r cs ty, s0.lb t = some (.cells r cs ty) → (i, t) ∈ ml
  | [], _, t, h => by cases h
  | u :: l, h, t, ht => by
    intro r cs ty hl
    rcases List.mem_cons.1 ht with rfl | ht
    · simp only [modsOk, hl] at h
      split at h
      · rename_i hm; exact memP_spec hm
      · cases h
    · refine modsOk_spec (l := l) ?_ t ht r cs ty hl
      simp only [modsOk] at h
      split at h
      · split at h
        · exact h
        · cases h
      · exact h
theorem noElem_spec {s0 s : St} {d : Nat} {sv : SV} (h : noElem s0 (s.put (some d) sv) (some d) = true) : V0 s0 sv := by
  simp only [noElem, St.put, look_cons, if_true] at h
  cases sv with
  | val v => trivial
  | kn b => trivial
  | elem a cs o => cases h
  | loc t r off =>
    intro r' cs ty hl
    simp only [hl] at h
    cases h
  | row t b n c =>
    intro r cs ty hl
    simp only [hl] at h
    cases h
  | rel t b e j o =>
    intro r cs ty hl
    simp only [hl] at h
    cases h

variable {dirty : List Nat} {A : Nat → Prop} {ρ : Nat → Nat} {s : St} {L : Array Bool} {a : Act} {w : World}
theorem vcD_succ {n : Nat} {dirty done : List Nat} {s : St} {K : St → Prop} {ops : List Oper} : vcD C ops ml ol al s0 (n + 1) dirty done s K = (match firstQ done 0 ops with
    | some i => (match ops[i]? with
      | some o => okK (freeQ ops.toArray done i o 0 ops) <| dstK C.n o.dst <| guardK ops o s
          (fun s => vcVal C (viewS ops ml ol s0 s i) o.op fun sv => okK (cleanSV dirty sv) <| putK s o.dst sv fun s => vcD C ops ml ol al s0 n dirty (i :: done) s K)
          (fun s => putK s o.dst (.val undef) fun s => vcD C ops ml ol al s0 n dirty (i :: done) s K)
      | none => False)
    | none => (match candsOf done al 0 ops with
      | [] => bornK C ops (undone done al) s K
      | [i] => (match ops[i]? with
        | some o => dstK C.n o.dst <| bornK C ops (needOf done o.after.toList al) s fun s => guardK ops o s
            (fun s => okK (modsOk s0 ml i (modsOf s o.op)) <| okK (owOk ol i (owOf s o.op)) <| vcOp C o s fun s' => okK (noElem s0 s' o.dst) <| vcD C ops ml ol al s0 n (modsOf s o.op ++ dirty) (i :: (needOf done o.after.toList al ++ done)) s' K)
            (fun s => putK s o.dst (.val undef) fun s => vcD C ops ml ol al s0 n dirty (i :: (needOf done o.after.toList al ++ done)) s K)
        | none => False)
      | _ => False)) := rfl
theorem vcD_sound (htt : TTok C.P C.tt) (hn : C.n = E.n) (hos : C.dr = true → C.os = []) (hdr : C.dr = true) (hol : ∀ x ∈ ol, ∃ o, ops[x]? = some o ∧ quietOp o.op = false ∧ allocOp o = false) (hsel : ∀ (j : Nat) (o : Oper) cs b, ops[j]? = some o → o.op ≠ .select cs b) {sm : St} (hml : modIdx ops.toList sm 0 ops.toList = some ml) (hal : AlOk C ops al) (haln : al.Nodup)
    (hs0 : ∀ t lb, s0.lb t = some lb → t < s0.nxt) (hb0 : BlkOk s0) {Q : Exit → Act → World → Prop} (hQ : ∀ c a a' w, Q (.panic c) a w → Q (.panic c) a' w) {K : St → Prop} (hK : ∀ a' w' s', K s' → Rel E a' w' s' → Q .normal a' w') :
    ∀ (m n : Nat) (dirty done : List Nat) (A : Nat → Prop) (ρ : Nat → Nat) (s : St) (L : Array Bool) (a : Act) (w : World), (∀ j ∈ done, j < ops.size) → rem ops.size L = m → DInv C E ops ml ol al s0 dirty (· ∈ done) A ρ s L a w → vcD C ops.toList ml ol al s0 n dirty done s K →
      anyG C.P ops Q (SS s0 ml ol) m L a w := by
  have hstore : ∀ x t, (x, t) ∈ ml → ∃ o ty p q, ops[x]? = some o ∧ o.op = .store ty p q := fun x t h => by
    obtain ⟨o, ty, p, q, _, h2, h3⟩ := modIdx_spec hml x t h
    exact ⟨o, ty, p, q, by simpa using h2, h3⟩
  have halml : ∀ j ∈ al, ∀ t, (j, t) ∉ ml := fun j hj t h => by
    obtain ⟨o, ty, p, q, h1, h2⟩ := hstore j t h
    obtain ⟨o', g1, g2⟩ := (hal.spec j).1 hj
    rw [h1] at g1
    cases g1
    obtain ⟨_, _, g3, _⟩ := allocOp_spec g2
    rw [h2] at g3
    cases g3
  intro m
  induction m with
  | zero =>
    intro n dirty done A ρ s L a w hdn hrem hI hv
    have hall := rem_zero hrem
    refine ⟨?_, ?_⟩
    · rw [List.eq_nil_iff_forall_not_mem]
      intro j hj
      obtain ⟨h0, o, ho, _⟩ := mem_ready.1 hj
      rw [hall j (Array.getElem?_eq_some_iff.1 ho).1] at h0
      cases h0
    · match n with
      | 0 => exact hv.elim
      | n + 1 =>
        have hda : ∀ j, j < ops.size → j ∉ al → j ∈ done := fun j hj h => by
          rcases (hI.lst j hj).1 (hall j hj) with h | h
          · exact h
          · exact absurd (hI.sub j h).1 (by assumption)
        rw [vcD_succ] at hv
        split at hv
        · rename_i i hq
          obtain ⟨o, _, h2, h3, h4, _⟩ := firstQ_spec hq
          have h2 : ops[i]? = some o := by simpa using h2
          exfalso
          refine h4 (hda i (Array.getElem?_eq_some_iff.1 h2).1 fun e => ?_)
          obtain ⟨o', g1, g2⟩ := (hal.spec i).1 e
          rw [h2] at g1
          cases g1
          obtain ⟨_, _, g3, _⟩ := allocOp_spec g2
          rw [g3] at h3
          cases h3
        · have hc : candsOf done al 0 ops.toList = [] := by
            rw [List.eq_nil_iff_forall_not_mem]
            intro j hj
            obtain ⟨o, _, h2, h3, h4, _⟩ := candsOf_spec.1 hj
            exact h3 (hda j (Array.getElem?_eq_some_iff.1 (show ops[j]? = some o by simpa using h2)).1 h4)
          rw [hc] at hv
          simp only at hv
          obtain ⟨s', k1, h1⟩ := hI.adoptAll hal hs0 (hos hdr) (undone done al) (fun j hj => by
            obtain ⟨g1, g2⟩ := undone_spec.1 hj
            obtain ⟨o', g3, _⟩ := (hal.spec j).1 g1
            have hj : j < ops.size := (Array.getElem?_eq_some_iff.1 g3).1
            exact ((hI.lst j hj).1 (hall j hj)).resolve_left g2) (undone_nodup haln) hv
          exact hK _ _ _ k1 h1.rel
  | succ m ih =>
    intro n dirty done A ρ s L a w hdn hrem hI hv
    match n with
    | 0 => exact hv.elim
    | n + 1 =>
      have hv0 := hv
      rw [vcD_succ] at hv
      split at hv
      · -- an operation that only reads is taken first
        rename_i i hq
        obtain ⟨o, _, h2, h3, h4, h5⟩ := firstQ_spec hq
        have h2 : ops[i]? = some o := by simpa using h2
        have hio : ops.toList[i]? = some o := by simpa using h2
        simp only [hio] at hv
        obtain ⟨hfree, hv⟩ := okK_spec hv
        obtain ⟨hd, hv⟩ := dstK_spec hv
        rw [hn] at hd
        have hlt : i < ops.size := (Array.getElem?_eq_some_iff.1 h2).1
        have hna : i ∉ al := fun e => by
          obtain ⟨o', g1, g2⟩ := (hal.spec i).1 e
          rw [h2] at g1
          cases g1
          obtain ⟨_, _, g3, _⟩ := allocOp_spec g2
          rw [g3] at h3
          cases h3
        have hun : L.getD i true = false := by
          cases hL : L.getD i true with
          | false => rfl
          | true =>
            rcases (hI.lst i hlt).1 hL with h | h
            · exact absurd h h4
            · exact absurd (hI.sub i h).1 hna
        have hready : i ∈ Region.ready .any ops L := mem_ready.2 ⟨hun, o, h2, fun e he hb => by
          have hm := depsIn_iff.1 h5 e (by simpa using he) hb
          by_cases hes : e.on < ops.size
          · have := (hI.lst e.on hes).2 (.inl hm)
            have hsz : e.on < L.size := by rw [hI.size]; exact hes
            simpa [hsz] using this
          · exact absurd (hdn _ hm) hes⟩
        have himl : ∀ t, (i, t) ∉ ml := fun t h => by
          obtain ⟨o', ty, p, q, g1, g2⟩ := hstore i t h
          rw [h2] at g1
          cases g1
          rw [g2] at h3
          cases h3
        have hiol : i ∉ ol := fun e => by
          obtain ⟨o', g1, g2, _⟩ := hol i e
          rw [h2] at g1
          cases g1
          rw [h3] at g2
          cases g2
        have hrem' : rem ops.size (L.setIfInBounds i true) = m := by have := rem_set hI.size hlt hun; omega
        have hfree' : ∀ j oj, ops[j]? = some oj → j ≠ i → L.getD j true = false → (∀ e ∈ oj.after, Region.binds .any e = true → e.on ≠ i) → o.apart ops oj = true := fun j oj hj hji hL hno =>
          freeQ_spec (ops := ops) (by simpa using hfree) j oj (Nat.zero_le _) (by simpa using hj) (fun e => by
            rw [(hI.lst j (Array.getElem?_eq_some_iff.1 hj).1).2 (.inl e)] at hL; cases hL) hji hno
        rcases guardK_sound hI.rel hv with ⟨hw, s1, k1, hR1, hk⟩ | ⟨hw, s1, k1, hR1, hk⟩
        · have hI1 := hI.know hR1 hk
          obtain ⟨sv, ⟨k2, k3⟩, k4, k5⟩ := vcVal_sound htt (hI1.envOk i) (view_blkOk hb0 i) (vcVal_orig k1)
          obtain ⟨hcl, k2⟩ := okK_spec k2
          rw [putK_eq] at k2
          obtain ⟨g1, g2⟩ := hI1.orig hb0 k3 hcl
          refine anyG_first h2 hsel (fun c a' w' h => hQ c _ _ _ h) (fun L w => SS_quiet himl hiol L w) m L a w hfree' hI.closed hready (.inl ⟨hw, fun w' hp => k5 w' (view_sees hp)⟩) hI.ss ?_
          refine ih n dirty (i :: done) A ρ _ _ _ w (fun k hk => (List.mem_cons.1 hk).elim (fun e => e ▸ hlt) (hdn k)) hrem' ?_ k2
          refine (hI1.done hal h2 hna hready (s' := s1.put o.dst sv) (v := sv.conc) (w' := w) (dirty' := dirty) (hR1.put hd g1) (fun r _ h1 h0 h2 => ?_) (fun _ _ _ _ => rfl) (fun _ => ?_) (fun d hdd hnone => ?_) ((SS_quiet himl hiol L w).2 hI.ss) ?_ (fun k x hx => ?_) ?_ (fun t r cs ty h => ?_) (fun t lb ht h => ?_)).congr (fun k => by simp) (fun k => Iff.rfl)
          · cases hdst : o.dst <;> exact ⟨h1, h0, h2⟩
          · cases o.dst <;> rfl
          · cases hdst : o.dst with
            | none => exact hnone
            | some d' =>
              simp only [St.put, look_cons]
              rw [if_neg (fun e => hdd (by rw [hdst, e]))]
              exact hnone
          · cases o.dst <;> exact Mem.Le.refl _
          · cases hdst : o.dst with
            | none => rw [hdst] at hx; exact hI1.v0 k x hx
            | some d' =>
              rw [hdst] at hx
              simp only [St.put, look_cons] at hx
              split at hx
              · cases hx; exact g2
              · exact hI1.v0 k x hx
          · cases o.dst <;> exact Nat.le_refl _
          · cases o.dst <;> exact .inl ⟨_, _, h⟩
          · cases hdst : o.dst <;> (rw [hdst] at h; exact hI1.stay t lb ht h)
        · have hI1 := hI.know hR1 hk
          rw [putK_eq] at k1
          refine anyG_first h2 hsel (fun c a' w' h => hQ c _ _ _ h) (fun L w => SS_quiet himl hiol L w) m L a w hfree' hI.closed hready (.inr ⟨hw, rfl⟩) hI.ss ?_
          refine ih n dirty (i :: done) A ρ _ _ _ w (fun k hk => (List.mem_cons.1 hk).elim (fun e => e ▸ hlt) (hdn k)) hrem' ?_ k1
          refine (hI1.done hal h2 hna hready (s' := s1.put o.dst (.val undef)) (v := undef) (w' := w) (dirty' := dirty) (hR1.put (sv := .val undef) hd trivial) (fun r _ h1 h0 h2 => ?_) (fun _ _ _ _ => rfl) (fun _ => ?_) (fun d hdd hnone => ?_) ((SS_quiet himl hiol L w).2 hI.ss) ?_ (fun k x hx => ?_) ?_ (fun t r cs ty h => ?_) (fun t lb ht h => ?_)).congr (fun k => by simp) (fun k => Iff.rfl)
          · cases hdst : o.dst <;> exact ⟨h1, h0, h2⟩
          · cases o.dst <;> rfl
          · cases hdst : o.dst with
            | none => exact hnone
            | some d' =>
                simp only [St.put, look_cons]
                rw [if_neg (fun e => hdd (by rw [hdst, e]))]
                exact hnone
          · cases o.dst <;> exact Mem.Le.refl _
          · cases hdst : o.dst with
            | none => rw [hdst] at hx; exact hI1.v0 k x hx
            | some d' =>
              rw [hdst] at hx
              simp only [St.put, look_cons] at hx
              split at hx
              · cases hx; trivial
              · exact hI1.v0 k x hx
          · cases o.dst <;> exact Nat.le_refl _
          · cases o.dst <;> exact .inl ⟨_, _, h⟩
          · cases hdst : o.dst <;> (rw [hdst] at h; exact hI1.stay t lb ht h)
      · -- the one that comes next, or new variables
        have hready : ∀ j ∈ al, L.getD j true = false → j ∈ Region.ready .any ops L := fun j hj h => by
          obtain ⟨o, g1, g2⟩ := (hal.spec j).1 hj
          obtain ⟨_, _, _, _, _, g3⟩ := allocOp_spec g2
          refine mem_ready.2 ⟨h, o, g1, fun e he => ?_⟩
          have : o.after = #[] := by apply Array.ext'; simpa using g3
          rw [this] at he
          simp at he
        have hlisted : ∀ {j}, L.getD j false = true → j ∈ done ∨ A j := fun {j} h => by
          have hj : j < L.size := by
            rcases Nat.lt_or_ge j L.size with h' | h'
            · exact h'
            · simp [Array.getElem?_eq_none h'] at h
          exact (hI.lst j (by rw [← hI.size]; exact hj)).1 (by simpa [hj] using h)
        have hlist : ∀ {j}, j < ops.size → (j ∈ done ∨ A j) → L.getD j false = true := fun {j} hj h => by
          have := (hI.lst j hj).2 h
          have hsz : j < L.size := by rw [hI.size]; exact hj
          simpa [hsz] using this
        refine ⟨fun hr => ?_, fun j hj => ?_⟩
        · -- all have come up
          have hall : ∀ j ∈ al, j ∉ done → A j := fun j hj hd => by
            obtain ⟨o, g1, _⟩ := (hal.spec j).1 hj
            cases hL : L.getD j true with
            | false => have := hready j hj hL; rw [hr] at this; cases this
            | true => exact ((hI.lst j (Array.getElem?_eq_some_iff.1 g1).1).1 hL).resolve_left hd
          split at hv
          · obtain ⟨s', k1, h1⟩ := hI.adoptAll hal hs0 (hos hdr) (undone done al) (fun j hj => hall j (undone_spec.1 hj).1 (undone_spec.1 hj).2) (undone_nodup haln) hv
            exact hK _ _ _ k1 h1.rel
          · rename_i i hc
            exfalso
            have hi : i ∈ candsOf done al 0 ops.toList := by rw [hc]; simp
            obtain ⟨o, _, g1, g2, g3, g4⟩ := candsOf_spec.1 hi
            have g1 : ops[i]? = some o := by simpa using g1
            have hir : i ∈ Region.ready .any ops L := by
              refine mem_ready.2 ⟨?_, o, g1, fun e he hb => ?_⟩
              · cases hL : L.getD i true with
                | false => rfl
                | true =>
                  rcases (hI.lst i (Array.getElem?_eq_some_iff.1 g1).1).1 hL with h | h
                  · exact absurd h g2
                  · exact absurd (hI.sub i h).1 g3
              · have hm := depsIn_iff.1 g4 e (by simpa using he) hb
                by_cases hd : e.on ∈ done
                · exact hlist (hdn _ hd) (.inl hd)
                · have ha : e.on ∈ al := (List.mem_append.1 hm).resolve_right hd
                  obtain ⟨o', g5, _⟩ := (hal.spec _).1 ha
                  exact hlist (Array.getElem?_eq_some_iff.1 g5).1 (.inr (hall _ ha hd))
            rw [hr] at hir
            cases hir
          · exact hv.elim
        · obtain ⟨hun, o, ho, hdeps⟩ := mem_ready.1 hj
          have hlt : j < ops.size := (Array.getElem?_eq_some_iff.1 ho).1
          have hrem' : rem ops.size (L.setIfInBounds j true) = m := by have := rem_set hI.size hlt hun; omega
          have hjd : j ∉ done := fun e => by rw [(hI.lst j hlt).2 (.inl e)] at hun; cases hun
          have hjA : ¬ A j := fun e => by rw [(hI.lst j hlt).2 (.inr e)] at hun; cases hun
          by_cases hja : j ∈ al
          · -- a new variable
            obtain ⟨o', g1, g2⟩ := (hal.spec j).1 hja
            rw [ho] at g1
            cases g1
            obtain ⟨t, d, hop, hg, hd, -⟩ := allocOp_spec g2
            obtain ⟨ti, hti⟩ := hal.tt j hja o t ho hop
            have hdl : d < E.n := by rw [← hn]; exact hal.dst j hja o d ho hd
            obtain ⟨z, hz, hrun⟩ := (htt.get hti).run_zero w
            have hB := hI.born hal hja hjd hjA ho hop hd hdl hti (halml j hja) (fun e => by obtain ⟨o', k1, _, k2⟩ := hol j e; rw [ho] at k1; cases k1; rw [g2] at k2; cases k2) hj
            have hzc : z.cells = ti.zero.toArray := by apply Array.ext'; rw [cells_vcells, hz]
            unfold wpOp
            simp only [ho]
            have hw : Region.wanted o (yielded ops a.tmps) = true := by simp [Region.wanted, hg]
            rw [if_pos hw]
            refine .inl ?_
            unfold Oper.wp
            have he : (execOp a.eval o).run C.P w = .ok (.value (.pointer (some ⟨w.heap.size, 0, none⟩))) (w.alloc (.cells ti.zero.toArray t)) := by
              simp only [execOp, hop, Instr.alloc, Sem.run_bind, hrun, Result.andThen_ok, ← hzc]
              rfl
            rw [he]
            exact ⟨hB.ss, ih (n + 1) dirty done _ _ s _ _ _ hdn hrem' hB hv0⟩
          · -- the one that comes next
            have hjc : j ∈ candsOf done al 0 ops.toList := candsOf_spec.2 ⟨o, Nat.zero_le _, by simpa using ho, hjd, hja, depsIn_iff.2 fun e he hb => by
              rw [List.mem_append]
              rcases hlisted (hdeps e (by simpa using he) hb) with h | h
              · exact .inr h
              · exact .inl (hI.sub _ h).1⟩
            split at hv
            · rename_i hc; rw [hc] at hjc; cases hjc
            case h_3 => exact hv.elim
            rename_i i hc
            have hij : j = i := by rw [hc] at hjc; simpa using hjc
            subst hij
            have hjo : ops.toList[j]? = some o := by simpa using ho
            simp only [hjo] at hv
            obtain ⟨hd, hv⟩ := dstK_spec hv
            rw [hn] at hd
            have hneed : ∀ k ∈ needOf done o.after.toList al, A k := fun k hk => by
              obtain ⟨g1, g2, g3⟩ := needOf_spec.1 hk
              obtain ⟨e, he, g4, g5⟩ := onEdge_iff.1 g3
              subst g5
              exact (hlisted (hdeps e (by simpa using he) g4)).resolve_left g2
            obtain ⟨s1, k1, hI1⟩ := hI.adoptAll hal hs0 (hos hdr) _ hneed (needOf_nodup haln) hv
            have hdn' : ∀ k ∈ j :: (needOf done o.after.toList al ++ done), k < ops.size := fun k hk => by
              rcases List.mem_cons.1 hk with e | hk
              · exact e ▸ hlt
              · rcases List.mem_append.1 hk with hk | hk
                · obtain ⟨o', g1, _⟩ := (hal.spec k).1 (needOf_spec.1 hk).1
                  exact (Array.getElem?_eq_some_iff.1 g1).1
                · exact hdn k hk
            have hD : ∀ k, (k = j ∨ k ∈ needOf done o.after.toList al ∨ k ∈ done) ↔ k ∈ j :: (needOf done o.after.toList al ++ done) := fun k => by simp
            have hss' : ∀ w', Holds s0.mem w' → (∀ t r cs ty, s0.lb t = some (.cells r cs ty) → (j, t) ∉ ml → (LB.cells r cs ty).fits (fun b => w.heap[b]?) → (LB.cells r cs ty).fits (fun b => w'.heap[b]?)) → (j ∉ ol → (∀ x ∈ ol, L.getD x true = false) → Holds s0.own w') → SS s0 ml ol (L.setIfInBounds j true) w' := fun w' hh hf hw => by
              have hset : ∀ x, (L.setIfInBounds j true).getD x true = false → x ≠ j ∧ L.getD x true = false := fun x hx => by
                by_cases e : j = x
                · subst e; rw [getD_set_self (by rw [hI.size]; exact hlt)] at hx; cases hx
                · exact ⟨fun h => e h.symm, by rw [getD_set_ne true e] at hx; exact hx⟩
              refine ⟨hh, fun t r cs ty g1 g2 => ?_, fun hx => hw (fun e => (hset j (hx j e)).1 rfl) fun x hxo => (hset x (hx x hxo)).2⟩
              exact hf t r cs ty g1 (fun hm => (hset j (g2 j hm)).1 rfl) (hI.ss.2.1 t r cs ty g1 fun x hx => (hset x (g2 x hx)).2)
            unfold wpOp
            simp only [ho]
            rcases guardK_sound hI1.rel k1 with ⟨hw, s2, k2, hR2, hk⟩ | ⟨hw, s2, k2, hR2, hk⟩
            · rw [if_pos hw]
              refine .inl ?_
              obtain ⟨hmods, k2⟩ := okK_spec k2
              obtain ⟨how, k2⟩ := okK_spec k2
              have how := owOk_spec how
              have hI2 := hI1.know hR2 hk
              refine vcOp_sound htt hn hos hR2 k2 fun v w' s3 k3 hR3 hE => ?_
              have hE := hE hdr
              obtain ⟨hel, k3⟩ := okK_spec k3
              have hown3 : (s3.put o.dst v).own = s3.own := by cases o.dst <;> rfl
              have hsame : j ∉ ol → s3.own = s2.own := fun hj => hE.own (how.resolve_right hj)
              have hss : SS s0 ml ol (L.setIfInBounds j true) w' := by
                refine hss' w' (fun b x hb => ?_) (fun t r cs ty g1 g2 g3 => ?_) fun hj hx => ?_
                · refine hR3.sees.1 b x ?_
                  have h1 := hE.le b x (hI2.le b x hb)
                  cases o.dst <;> exact h1
                · refine LB.fits_congr (fun r' hr' => ?_) g3
                  have hlt' := LB.fits_lt g3 hr'
                  simp only [LB.blk?, Option.some.injEq] at hr'
                  subst hr'
                  refine hE.keep r hlt' (fun t' ht' lb hl hr => ?_) fun _ => ?_
                  · rcases hI2.b0 t r cs ty g1 with ⟨cs', ty', g4⟩ | g4
                    · have := hI2.rel.sep _ _ _ _ r g4 hl rfl hr
                      subst this
                      exact g2 (modsOk_spec hmods t ht' r cs ty g1)
                    · exact g4 (hI2.rel.place t' lb r hl hr).1
                  · rcases hI2.b0 t r cs ty g1 with ⟨cs', ty', g4⟩ | g4
                    · exact (hI2.rel.place t _ r g4 rfl).2.1
                    · exact hI2.rel.own_none g4
                · rw [← hI2.own0 hx, ← hsame hj, ← hown3]
                  exact hR3.own.1
              refine ⟨hss, ih n _ _ (fun k => k ∉ needOf done o.after.toList al ∧ A k) ρ _ _ _ w' hdn' hrem' ?_ k3⟩
              have hlb : ∀ t, (s3.put o.dst v).lb t = s3.lb t := fun t => by cases o.dst <;> rfl
              have hmem : (s3.put o.dst v).mem = s3.mem := by cases o.dst <;> rfl
              refine (hI2.done hal ho hja hj (s' := s3.put o.dst v) (v := v.conc) (w' := w') (dirty' := modsOf s2 o.op ++ dirty) hR3 (fun r hr h1 h0 h2 => ?_) (fun b hb h0 h => hE.keep b hb (fun t _ lb hl => h t lb hl) fun _ => h0) (fun hj => ?_) (fun d hdd hnone => ?_) hss ?_ (fun k x hx => ?_) ?_ (fun t r cs ty h => ?_) (fun t lb ht h => ?_)).congr hD (fun k => Iff.rfl)
              · rw [hmem, hown3]
                simp only [hlb]
                exact hE.out r hr h1 h0 h2
              · rw [hown3]; exact hsame hj
              · have h0 : look s3.env d = none := by
                  cases h : look s3.env d with
                  | none => rfl
                  | some sv =>
                    rcases hE.envs d sv h with g | ⟨_, g⟩
                    · rw [hnone] at g; cases g
                    · exact absurd hnone g
                cases hdst : o.dst with
                | none => exact h0
                | some d' =>
                  simp only [St.put, look_cons]
                  rw [if_neg (fun e => hdd (by rw [hdst, e]))]
                  exact h0
              · rw [hmem]; exact hE.le
              · have old : ∀ {k x}, look s3.env k = some x → V0 s0 x := fun {k x} h => by
                  rcases hE.envs k x h with g | ⟨⟨u, rfl⟩, _⟩
                  · exact hI2.v0 k x g
                  · trivial
                cases hdst : o.dst with
                | none => rw [hdst] at hx; exact old hx
                | some d' =>
                  rw [hdst] at hx hel
                  simp only [St.put, look_cons] at hx
                  split at hx
                  · cases hx
                    exact noElem_spec hel
                  · exact old hx
              · refine Nat.le_trans hE.nxt ?_
                cases o.dst <;> exact Nat.le_refl _
              · rw [hmem]; simp only [hlb]
                exact hE.alive t r cs ty h
              · rw [hlb] at h
                obtain ⟨lb1, g1, g2⟩ := hE.stay t lb (Nat.lt_of_lt_of_le ht hI2.nx) h
                obtain ⟨lb0, g3, g4⟩ := hI2.stay t lb1 ht g1
                refine ⟨lb0, g3, ?_⟩
                rcases g4 with g4 | ⟨g4, g5, g6⟩
                · rcases g2 with g2 | ⟨g2, g7, g8⟩
                  · exact .inl (LB.alike_trans g4 g2)
                  · exact .inr ⟨by simp [g2], (alike_row g4).2 g7, g8⟩
                · rcases g2 with g2 | ⟨g2, g7, g8⟩
                  · exact .inr ⟨by simp [g4], g5, (alike_row g2).1 g6⟩
                  · exact .inr ⟨by simp [g4], g5, g8⟩
            · rw [hw, if_neg (by simp)]
              have hI2 := hI1.know hR2 hk
              rw [putK_eq] at k2
              have hss : SS s0 ml ol (L.setIfInBounds j true) w := hss' w hI.ss.1 (fun _ _ _ _ _ _ h => h) fun _ hx => hI.ss.2.2 hx
              refine ⟨hss, ih n _ _ (fun k => k ∉ needOf done o.after.toList al ∧ A k) ρ _ _ _ w hdn' hrem' ?_ k2⟩
              refine (hI2.done hal ho hja hj (s' := s2.put o.dst (.val undef)) (v := undef) (w' := w) (dirty' := dirty) (hR2.put (sv := .val undef) hd trivial) (fun r _ h1 h0 h2 => ?_) (fun _ _ _ _ => rfl) (fun _ => ?_) (fun d hdd hnone => ?_) hss ?_ (fun k x hx => ?_) ?_ (fun t r cs ty h => ?_) (fun t lb ht h => ?_)).congr hD (fun k => Iff.rfl)
              · cases hdst : o.dst <;> exact ⟨h1, h0, h2⟩
              · cases o.dst <;> rfl
              · cases hdst : o.dst with
                | none => exact hnone
                | some d' =>
                simp only [St.put, look_cons]
                rw [if_neg (fun e => hdd (by rw [hdst, e]))]
                exact hnone
              · cases o.dst <;> exact Mem.Le.refl _
              · cases hdst : o.dst with
                | none => rw [hdst] at hx; exact hI2.v0 k x hx
                | some d' =>
                  rw [hdst] at hx
                  simp only [St.put, look_cons] at hx
                  split at hx
                  · cases hx; trivial
                  · exact hI2.v0 k x hx
              · cases o.dst <;> exact Nat.le_refl _
              · cases o.dst <;> exact .inl ⟨_, _, h⟩
              · cases hdst : o.dst <;> (rw [hdst] at h; exact hI2.stay t lb ht h)
end
end Go.Vx
