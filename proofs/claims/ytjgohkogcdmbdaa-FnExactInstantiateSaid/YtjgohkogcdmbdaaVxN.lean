/- Where a value comes from; small laws on drawn regions. -/
import Derived.Test.YtjgohkogcdmbdaaVxL
namespace Go.Vx
/-- Where a value that only reads comes from. -/
inductive Orig (s : St) : SV → Prop
  | val (v : Value) : Orig s (.val v)
  | kn (b : Bool) : Orig s (.kn b)
  | env {i : Nat} {sv : SV} (h : look s.env i = some sv) : Orig s sv
  | cell {t r : Nat} {cs : List SV} {ty : TypeId} {sv : SV} (h : s.lb t = some (.cells r cs ty)) (hm : sv ∈ cs) : Orig s sv
  | locOff {t r o o' : Nat} (h : Orig s (.loc t r o)) : Orig s (.loc t r o')
  | elemOff {a : Addr} {cs : List Value} {o o' : Nat} (h : Orig s (.elem a cs o)) : Orig s (.elem a cs o')
  | relOff {t : Nat} {b : Option Nat} {e i o o' : Nat} (h : Orig s (.rel t b e i o)) : Orig s (.rel t b e i o')
  | elem {a : Addr} {cs : List Value} {o : Nat} (h : ∀ j v, cs[j]? = some v → s.mem.cell (a.add j) = some v) : Orig s (.elem a cs o)
  | rel {t : Nat} {b b' : Option Nat} {n c e i o c' e' : Nat} {ty : TypeId} {xs : List Value} (h : Orig s (.row t b n c)) (hl : s.lb t = some (.row b' c' ty e' xs)) : Orig s (.rel t b e i o)
section
variable {C : Cx} {s : St}
theorem ev_orig {x : Operand} {sv : SV} (h : ev s x = some sv) : Orig s sv := by
  cases x with
  | tmp t => exact .env h
  | const v => simp only [ev] at h; split at h <;> (cases h; first | exact .kn _ | exact .val _)
  | global g => cases h; exact .val _
  | func f => cases h; exact .val _
theorem evK_orig {x : Operand} {K : SV → Prop} (h : evK s x K) : evK s x fun sv => K sv ∧ Orig s sv := by
  obtain ⟨sv, h1, h2⟩ := evK_spec h
  unfold evK
  rw [h1]
  exact ⟨h2, ev_orig h1⟩
theorem evK_mono {x : Operand} {K K' : SV → Prop} (hk : ∀ sv, Orig s sv → K sv → K' sv) (h : evK s x K) : evK s x K' := by
  obtain ⟨sv, h1, h2⟩ := evK_spec h
  unfold evK
  rw [h1]
  exact hk _ (ev_orig h1) h2
theorem tyK_mono {t : TypeId} {K K' : TI → Prop} (hk : ∀ i, K i → K' i) (h : tyK C t K) : tyK C t K' := by
  obtain ⟨i, h1, h2⟩ := tyK_spec h
  unfold tyK
  rw [h1]
  exact hk _ h2
theorem fldK_mono {t f : Nat} {K K' : Nat → TI → Prop} (hk : ∀ o i, K o i → K' o i) (h : fldK C t f K) : fldK C t f K' := by
  unfold fldK at *
  refine tyK_mono (fun i h => ?_) h
  split at h
  · split at h
    · exact tyK_mono (fun j h => hk _ _ h) h
    · exact h
  · exact h
theorem numVC_mono {r : Int} {K K' : Int → Prop} (hk : ∀ x, K x → K' x) (h : numVC r K) : numVC r K' := num_intro fun x e => by subst e; exact hk _ (num_elim h)
theorem unK_mono {op : UnOp} {x : SV} {K K' : SV → Prop} (h1 : ∀ v, K (.val v) → K' (.val v)) (h2 : ∀ b, K (.kn b) → K' (.kn b)) (h : unK op x K) : unK op x K' := by
  unfold unK at *
  split at h
  · exact h2 _ h
  · exact h1 _ h
  · exact numVC_mono (fun _ h => h1 _ h) h
  · exact h
theorem intK_mono {op : BinOp} {k : IntKind} {a b : Int} {K K' : SV → Prop} (h1 : ∀ v, K (.val v) → K' (.val v)) (h : intK op k a b K) : intK op k a b K' := by
  unfold intK at *
  split at h <;> first
    | exact h1 _ h
    | exact numVC_mono (fun _ h => h1 _ h) h
    | (obtain ⟨g1, g2⟩ := need_elim h; exact need_intro g1 (numVC_mono (fun _ h => h1 _ h) g2))
    | exact h
theorem strK_mono {op : BinOp} {a b : ByteArray} {K K' : SV → Prop} (h1 : ∀ v, K (.val v) → K' (.val v)) (h : strK op a b K) : strK op a b K' := by
  unfold strK at *
  split at h <;> first
    | exact h1 _ h
    | (obtain ⟨g1, g2⟩ := need_elim h; exact need_intro g1 (h1 _ g2))
    | exact h
theorem eqbK_mono {op : BinOp} {a b : Bool} {K K' : SV → Prop} (h1 : ∀ v, K (.val v) → K' (.val v)) (h : eqbK op a b K) : eqbK op a b K' := by
  unfold eqbK at *
  split at h <;> first
    | exact h1 _ h
    | exact h
theorem nilK_mono {op : BinOp} {b : Bool} {K K' : SV → Prop} (h1 : ∀ v, K (.val v) → K' (.val v)) (h : nilK op b K) : nilK op b K' := by
  unfold nilK at *
  split at h <;> first
    | exact h1 _ h
    | exact h
theorem shiftK_mono {op : BinOp} {k : IntKind} {a b : Int} {K K' : SV → Prop} (h1 : ∀ v, K (.val v) → K' (.val v)) (h : shiftK op k a b K) : shiftK op k a b K' := by
  unfold shiftK at *
  split at h <;> first
    | (obtain ⟨g1, g2⟩ := need_elim h; exact need_intro g1 (numVC_mono (fun _ h => h1 _ h) g2))
    | exact h
theorem binK_mono {op : BinOp} {t : TypeId} {x y : SV} {K K' : SV → Prop} (h1 : ∀ v, K (.val v) → K' (.val v)) (h : binK C op t x y K) : binK C op t x y K' := by
  unfold binK at *
  split at h
  · split at h
    · cases hs : isShift op <;> simp only [hs] at h ⊢
      · split at h
        · exact intK_mono h1 h
        · exact h
      · exact shiftK_mono h1 h
    · exact h
  · split at h
    · exact strK_mono h1 h
    · exact h
  · refine tyK_mono (fun i h => ?_) h
    split at h <;> first | exact eqbK_mono h1 h | exact h
  · refine tyK_mono (fun i h => ?_) h
    split at h <;> first | exact eqbK_mono h1 h | exact h
  · refine tyK_mono (fun i h => ?_) h
    split at h
    · exact nilK_mono h1 h
    · exact h
  · exact h
theorem cutK_mono {α : Type} : ∀ {l : List α} {m n : Nat} {K K' : List α → Prop}, (∀ r, (∀ x ∈ r, x ∈ l) → K r → K' r) → cutK l m n K → cutK l m n K'
  | l, m, 0, K, K', hk, h => by
    have : ∀ (K : List α → Prop), cutK l m 0 K = K [] := fun K => by cases l <;> rfl
    rw [this] at h ⊢
    exact hk [] (by simp) h
  | x :: l, 0, n + 1, K, K', hk, h => by
    simp only [cutK] at *
    exact cutK_mono (fun r hr h => hk _ (fun y hy => by
      rcases List.mem_cons.1 hy with rfl | hy
      · simp
      · simp [hr y hy]) h) h
  | x :: l, m + 1, n + 1, K, K', hk, h => by
    simp only [cutK] at *
    exact cutK_mono (fun r hr h => hk _ (fun y hy => by simp [hr y hy]) h) h
  | [], m, n + 1, K, K', _, h => by cases m <;> exact h.elim
theorem oneK_mono {α : Type} {l : List α} {K K' : α → Prop} (hk : ∀ x ∈ l, K x → K' x) (h : oneK l K) : oneK l K' := by
  unfold oneK at *
  split at h
  · exact hk _ (by simp) h
  · exact h
theorem partK_mono {i : TI} {cs : List SV} {off : Nat} {K K' : SV → Prop} (h1 : ∀ v, K (.val v) → K' (.val v)) (h2 : ∀ x ∈ cs, K x → K' x) (h : partK i cs off K) : partK i cs off K' := by
  unfold partK at *
  split at h
  · exact cutK_mono (fun r _ h => by rw [concsK_eq] at *; exact h1 _ h) h
  · exact cutK_mono (fun r hr h => oneK_mono (fun x hx h => h2 x (hr x hx) h) h) h
theorem partV_mono {i : TI} {cs : List Value} {off : Nat} {K K' : SV → Prop} (h1 : ∀ v, K (.val v) → K' (.val v)) (h : partV i cs off K) : partV i cs off K' := by
  unfold partV at *
  split at h
  · exact cutK_mono (fun r _ h => h1 _ h) h
  · exact cutK_mono (fun r hr h => oneK_mono (fun x hx h => h1 _ h) h) h
theorem extVC_mono {μ h0 : Mem} {a : Addr} {n : Nat} {K K' : List Value → Prop} (hk : ∀ cs, K cs → K' cs) (h : extVC μ h0 a n K) : extVC μ h0 a n K' := by
  obtain ⟨cs, h1, h2, h3⟩ := ext_elim h
  rcases h2 with h2 | h2
  · exact ext_intro cs h1 h2 (hk _ h3)
  · exact own_intro cs h1 h2 (hk _ h3)
theorem elemVC_mono {μ : Mem} {base : Option Addr} {n es : Nat} {i : Int} {K K2 : Addr → List Value → Prop} {K' K2' : Addr → Prop} (hk : ∀ a cs, ElemAt μ base n es i a cs → K a cs → K2 a cs) (hk' : ∀ a, K' a → K2' a) (h : elemVC μ base n es i K K') : elemVC μ base n es i K2 K2' := by
  rcases elem_elim h with ⟨a, cs, h1, h2⟩ | ⟨a0, h1, h2, h3, h4⟩
  · exact elem_intro h1 (hk _ _ h1 h2)
  · exact ptr_intro a0 h1 h2 h3 (hk' _ h4)
theorem loadK_orig {t : TypeId} {a : SV} {K : SV → Prop} (h : loadK C s t a K) : loadK C s t a fun sv => K sv ∧ Orig s sv := by
  unfold loadK at *
  refine tyK_mono (fun i h => ?_) h
  split at h
  · split at h
    · rename_i hlb
      exact partK_mono (fun v h => ⟨h, .val v⟩) (fun x hx h => ⟨h, .cell hlb hx⟩) h
    · exact h.elim
    · exact extVC_mono (fun cs h => partV_mono (fun v h => ⟨h, .val v⟩) h) h
  · exact partV_mono (fun v h => ⟨h, .val v⟩) h
  · split at h
    · rename_i hlb
      obtain ⟨v, h1, h2⟩ := get_elim h
      exact get_intro v h1 (partV_mono (fun v h => ⟨h, .val v⟩) h2)
    · exact h.elim
  · exact extVC_mono (fun cs h => partV_mono (fun v h => ⟨h, .val v⟩) h) h
  · exact h
theorem idxK_orig {t : TypeId} {x i : SV} (hx : Orig s x) {K : SV → Prop} (h : idxK C s t x i K) : idxK C s t x i fun sv => K sv ∧ Orig s sv := by
  unfold idxK at *
  split at h
  · refine tyK_mono (fun ti h => ?_) h
    split at h
    · refine tyK_mono (fun te h => ?_) h
      split at h
      · exact elemVC_mono (fun a cs h1 h2 => ⟨h2, .elem h1.cell⟩) (fun a h => ⟨h, .val _⟩) h
      · split at h
        · rename_i hlb
          simp only [hlb]
          split at h
          · rename_i he
            obtain ⟨j, h1, h2, h3⟩ := rel_elim h
            exact rel_intro j h1 h2 ⟨h3, .rel hx hlb⟩
          · exact h.elim
        · exact h.elim
        · rename_i hlb
          simp only [hlb]
          exact elemVC_mono (fun a cs h1 h2 => ⟨h2, .elem h1.cell⟩) (fun a h => ⟨h, .val _⟩) h
      · exact h
    · exact h
  · exact h
theorem lenK_mono {t : TypeId} {x : SV} {K K' : SV → Prop} (h1 : ∀ v, K (.val v) → K' (.val v)) (h : lenK C t x K) : lenK C t x K' := by
  unfold lenK at *
  refine tyK_mono (fun i h => ?_) h
  split at h <;> first | exact h1 _ h | exact h
theorem pickK_orig {c x y : Operand} {K : SV → Prop} (h : pickK s c x y K) : pickK s c x y fun sv => K sv ∧ Orig s sv := by
  unfold pickK at *
  refine evK_mono (fun sc _ h => ?_) h
  split at h
  · exact evK_orig h
  · exact evK_orig h
  · refine evK_mono (fun sx _ h => evK_mono (fun sy _ h => ?_) h) h
    split at h <;> first | exact ⟨h, .val _⟩ | exact h
  · exact h
theorem setK_mono {α : Type} : ∀ {l : List α} {m : Nat} {vs : List α} {K K' : List α → Prop}, (∀ r, K r → K' r) → setK l m vs K → setK l m vs K'
  | l, 0, [], K, K', hk, h => by
    have : ∀ (K : List α → Prop), setK l 0 [] K = K l := fun K => by cases l <;> simp only [setK]
    rw [this] at h ⊢
    exact hk _ h
  | x :: l, 0, v :: vs, K, K', hk, h => by simp only [setK] at *; exact setK_mono (fun r h => hk _ h) h
  | x :: l, m + 1, vs, K, K', hk, h => by
    have : ∀ (K : List α → Prop), setK (x :: l) (m + 1) vs K = setK l m vs fun r => K (x :: r) := fun K => by cases vs <;> simp only [setK]
    rw [this] at h ⊢
    exact setK_mono (fun r h => hk _ h) h
  | [], 0, v :: vs, K, K', _, h => h.elim
  | [], m + 1, vs, K, K', _, h => by cases vs <;> exact h.elim
theorem needLen_mono : ∀ {n : Nat} {l : List Value} {A B : Prop}, (A → B) → fillK.needLen n l A → fillK.needLen n l B
  | 0, [], _, _, hk, h => hk h
  | n + 1, _ :: l, _, _, hk, h => needLen_mono (n := n) (l := l) hk h
  | 0, _ :: _, _, _, _, h => h.elim
  | _ + 1, [], _, _, _, h => h.elim
theorem needOne_mono {sv : SV} {n : Nat} {A B : Prop} (hk : A → B) (h : fillK.needOne sv n A) : fillK.needOne sv n B := by
  unfold fillK.needOne at *
  split at h
  · exact h
  · exact hk h
  · exact h
theorem fillK_mono {fs : List (Nat × TypeId)} : ∀ {ps : List (Nat × Operand)} {cs : List SV} {K K' : List SV → Prop}, (∀ r, K r → K' r) → fillK C s fs ps cs K → fillK C s fs ps cs K'
  | [], cs, K, K', hk, h => hk _ h
  | (f, x) :: r, cs, K, K', hk, h => by
    simp only [fillK] at *
    split at h
    · refine tyK_mono (fun ti h => evK_mono (fun sv _ h => ?_) h) h
      split at h
      · split at h
        · exact needLen_mono (fun h => setK_mono (fun _ h => fillK_mono hk h) h) h
        · exact h
      · exact needOne_mono (fun h => setK_mono (fun _ h => fillK_mono hk h) h) h
    · exact h
theorem evsK_mono : ∀ {l : List Operand} {K K' : List Value → Prop}, (∀ r, K r → K' r) → evsK s l K → evsK s l K'
  | [], _, _, hk, h => hk _ h
  | x :: l, K, K', hk, h => by
    simp only [evsK] at *
    refine evK_mono (fun sv _ h => ?_) h
    rw [concK_eq] at *
    exact evsK_mono (fun r h => hk _ h) h
theorem convK_mono {src dst : TypeId} {x : SV} {K K' : SV → Prop} (hK : ∀ v, K (.val v) → K' (.val v)) (h : convK C s src dst x K) : convK C s src dst x K' := by
  unfold convK at *
  refine tyK_mono (fun ts h => tyK_mono (fun td h => ?_) h) h
  split at h
  · refine tyK_mono (fun te h => ?_) h
    split at h
    · obtain ⟨bs, h1, h2⟩ := bytes_elim h
      exact bytes_intro bs h1 (hK _ h2)
    · exact h.elim
  · exact num_intro fun r hr => hK _ (by subst hr; exact num_elim h)
  · exact hK _ h
  · exact h
theorem optK_mono {x : Option Operand} {K K' : Option SV → Prop} (hk : ∀ sv, K sv → K' sv) (h : optK s x K) : optK s x K' := by
  unfold optK at *
  split at h
  · exact hk _ h
  · exact evK_mono (fun _ _ h => hk _ h) h
theorem boundK_mono {o : Option SV} {d : Int} {K K' : Int → Prop} (hk : ∀ i, K i → K' i) (h : sliceK.boundK o d K) : sliceK.boundK o d K' := by
  unfold sliceK.boundK at *
  split at h
  · exact hk _ h
  · exact hk _ h
  · exact h
theorem cutVC_mono {lo hi cap : Int} {K K' : Nat → Nat → Prop} (hk : ∀ i j, K i j → K' i j) (h : cutVC lo hi cap K) : cutVC lo hi cap K' := by
  obtain ⟨l, k, h1, h2, h3, h4, h5⟩ := cut_elim h
  exact cut_intro l k h1 h2 h3 h4 (hk _ _ h5)
theorem sliceK_mono {es : Nat} {base : Option Addr} {n c : Nat} {lo hi : Option SV} {K K' : SV → Prop} (hK : ∀ v, K (.val v) → K' (.val v)) (h : sliceK es base n c lo hi K) : sliceK es base n c lo hi K' := by
  unfold sliceK at *
  exact boundK_mono (fun i h => boundK_mono (fun j h => cutVC_mono (fun l k h => hK _ h) h) h) h
theorem maxK_mono {big : Bool} {x y : SV} {K K' : SV → Prop} (hK : ∀ v, K (.val v) → K' (.val v)) (h : maxK big x y K) : maxK big x y K' := by
  unfold maxK at *
  split at h
  · split at h <;> exact hK _ h
  · exact h
theorem vcVal_orig {o : Op} {K : SV → Prop} (h : vcVal C s o K) : vcVal C s o fun sv => K sv ∧ Orig s sv := by
  unfold vcVal at *
  split at h
  · exact evK_mono (fun x _ h => convK_mono (fun v h => ⟨h, .val v⟩) h) h
  · exact evK_orig h
  · exact evK_orig h
  · exact pickK_orig h
  · exact evK_mono (fun x _ h => unK_mono (fun v h => ⟨h, .val v⟩) (fun b h => ⟨h, .kn b⟩) h) h
  · exact evK_mono (fun x _ h => evK_mono (fun y _ h => binK_mono (fun v h => ⟨h, .val v⟩) h) h) h
  · refine fldK_mono (fun off ti h => evK_mono (fun x _ h => ?_) h) h
    split at h
    · exact partV_mono (fun v h => ⟨h, .val v⟩) h
    · exact h
  · refine fldK_mono (fun off ti h => ?_) h
    unfold posK at *
    split at h
    · exact h
    · refine evK_mono (fun x ho h => ?_) h
      split at h
      · exact ⟨h, .locOff ho⟩
      · exact ⟨h, .elemOff ho⟩
      · split at h
        · rename_i hlb
          exact ⟨h, .relOff ho⟩
        · exact h.elim
      · exact ⟨h, .val _⟩
      · exact h
  · exact evK_mono (fun x hx h => evK_mono (fun y _ h => idxK_orig hx h) h) h
  · refine tyK_mono (fun ti h => evK_mono (fun x _ h => optK_mono (fun lo h => optK_mono (fun hi h => ?_) h) h) h) h
    split at h
    · exact tyK_mono (fun te h => sliceK_mono (fun v h => ⟨h, .val v⟩) h) h
    · exact tyK_mono (fun te h => sliceK_mono (fun v h => ⟨h, .val v⟩) h) h
    · exact boundK_mono (fun i h => boundK_mono (fun j h => cutVC_mono (fun l k h => ⟨h, .val _⟩) h) h) h
    · exact h
  · refine tyK_mono (fun ti h => evK_mono (fun x _ h => evK_mono (fun y _ h => ?_) h) h) h
    split at h
    · obtain ⟨j, b, h1, h2, h3⟩ := byte_elim h
      exact byte_intro j b h1 h2 ⟨h3, .val _⟩
    · exact h
  · exact evK_mono (fun x _ h => loadK_orig h) h
  · refine evK_mono (fun x _ h => ?_) h
    split at h
    · split at h
      · rename_i hv
        exact ⟨h, .val _⟩
      · exact h.elim
    · exact h
  · refine tyK_mono (fun ti h => ?_) h
    split at h
    · exact fillK_mono (fun cs h => by rw [concsK_eq] at *; exact ⟨h, .val _⟩) h
    · exact h
  · exact evsK_mono (fun f h => evsK_mono (fun c h => ⟨h, .val _⟩) h) h
  · split at h
    · rename_i hc
      split at h
      · rename_i h1 h2
        exact evK_mono (fun x _ h => lenK_mono (fun v h => ⟨h, .val v⟩) h) h
      · exact h.elim
    · split at h
      · exact evK_mono (fun x _ h => evK_mono (fun y _ h => maxK_mono (fun v h => ⟨h, .val v⟩) h) h) h
      · exact h.elim
    · split at h
      · exact evK_mono (fun x _ h => evK_mono (fun y _ h => maxK_mono (fun v h => ⟨h, .val v⟩) h) h) h
      · exact h.elim
    · exact h.elim
  · exact h
end
end Go.Vx
