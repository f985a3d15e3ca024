/- The arguments' reading, as data; a law's row out of its contract. -/
import Derived.Test.YtjgohkogcdmbdaaVxW
import Derived.WalkKit
import Derived.ProofKit
import Derived.OpenShut
import Derived.Carry
import Derived.ChangeOld
import Derived.Handed
import Derived.JoinedOf
namespace Go.Vx
open Go.ChangeShapes Go.WideShapes Go.ChangeAt Go.RowKit
/-- What is read at type t, with fuel up to n, is data that R holds of. -/
def ReadsTo (P : Program) (n : Nat) (t : TypeId) (R : D → Prop) : Prop :=
  ∀ (H : Type) (enc : TypeId × Value → H) (w : World) (spare : Nat → Bool) (held : Bool) (fuel : Nat) (cs : List Value) (x : DataW H × List MemPlace), fuel ≤ n → DataW.trod enc P w 0 spare held fuel t cs = some x → ∃ d, R d ∧ Rep (wmem w) d cs
def Reads (P : Program) (t : TypeId) (R : D → Prop) : Prop := ∀ n, ReadsTo P n t R
def InR (n : Int) : Prop := -9223372036854775808 ≤ n ∧ n ≤ 9223372036854775807
section
variable {P : Program} {t : TypeId}
theorem ReadsTo.weaken {n : Nat} {R R' : D → Prop} (h : ReadsTo P n t R) (k : ∀ d, R d → R' d) : ReadsTo P n t R' := fun H enc w sp hd fuel cs x hf hx => by
  obtain ⟨d, h1, h2⟩ := h H enc w sp hd fuel cs x hf hx
  exact ⟨d, k d h1, h2⟩
theorem ReadsTo.zero (R : D → Prop) : ReadsTo P 0 t R := fun H enc w sp hd fuel cs x hf hx => by
  obtain rfl : fuel = 0 := by omega
  simp [DataW.trod] at hx
theorem reads_int (ht : P.underlying t = some (.int .i64)) : Reads P t fun d => ∃ n, d = .i n ∧ InR n := fun _ H enc w sp hd fuel cs x hf hx => by
  obtain ⟨n, rfl, _, h⟩ := DataW.trod_int ht hx
  refine ⟨.i n, ⟨n, rfl, ?_⟩, rfl⟩
  have h1 : IntKind.i64.min = -9223372036854775808 := by decide
  have h2 : IntKind.i64.max = 9223372036854775807 := by decide
  simp only [Lit.wf, h1, h2, Bool.and_eq_true, decide_eq_true_eq] at h
  unfold InR
  omega
theorem reads_bool (ht : P.underlying t = some .bool) : Reads P t fun d => ∃ b, d = .b b := fun _ H enc w sp hd fuel cs x hf hx => by
  obtain ⟨b, rfl, _⟩ := DataW.trod_bool ht hx
  exact ⟨.b b, ⟨b, rfl⟩, rfl⟩
theorem reads_str (ht : P.underlying t = some .string) : Reads P t fun d => ∃ s, d = .s s ∧ s.size ≤ maxLen := fun _ H enc w sp hd fuel cs x hf hx => by
  obtain ⟨s, rfl, _, h⟩ := DataW.trod_string ht hx
  exact ⟨.s s, ⟨s, rfl, h⟩, rfl⟩
/-- Data, each as its own predicate says. -/
def AllR : List (D → Prop) → List D → Prop
  | [], [] => True
  | R :: Rs, d :: ds => R d ∧ AllR Rs ds
  | _, _ => False
theorem AllR.cons {R : D → Prop} {Rs : List (D → Prop)} {ds : List D} (h : AllR (R :: Rs) ds) : ∃ d ds', ds = d :: ds' ∧ R d ∧ AllR Rs ds' := by
  cases ds with
  | nil => exact h.elim
  | cons d ds => exact ⟨d, ds, rfl, h.1, h.2⟩
theorem AllR.nil {ds : List D} (h : AllR [] ds) : ds = [] := by
  cases ds with
  | nil => rfl
  | cons d ds => exact h.elim
def FieldsTo (P : Program) (n : Nat) : Nat → List (Nat × TypeId) → List (D → Prop) → Nat → Prop
  | o, [], [], e => o = e
  | o, (off, ft) :: fs, R :: Rs, e => off = o ∧ ReadsTo P n ft R ∧ FieldsTo P n (o + P.cellsOf ft) fs Rs e
  | _, _, _, _ => False
theorem FieldsTo.nil {n o : Nat} : FieldsTo P n o [] [] o := rfl
theorem FieldsTo.cons {n o e ft : Nat} {i : TI} {R : D → Prop} {fs : List (Nat × TypeId)} {Rs : List (D → Prop)} (hi : TIok P ft i) (h : ReadsTo P n ft R) (r : FieldsTo P n (o + i.size) fs Rs e) : FieldsTo P n o ((o, ft) :: fs) (R :: Rs) e := by
  refine ⟨rfl, h, ?_⟩
  obtain ⟨inf, hin, hs, _⟩ := hi.info'
  have : P.cellsOf ft = i.size := by simp [Program.cellsOf, hin, hs]
  rw [this]
  exact r
theorem reads_fields {n e : Nat} {H : Type} {enc : TypeId × Value → H} {w : World} {sp : Nat → Bool} {hd : Bool} {m : Nat} (hm : m ≤ n) {cs : List Value} (hl : cs.length = e) : ∀ (fs : List (Nat × TypeId)) (Rs : List (D → Prop)) (o : Nat), FieldsTo P n o fs Rs e →
    (∀ f ∈ fs, ∃ x, DataW.trod enc P w 0 sp hd m f.2 ((cs.drop f.1).take (P.cellsOf f.2)) = some x) → ∃ ds, AllR Rs ds ∧ RepS (wmem w) ds (cs.drop o)
  | [], [], o, h, _ => by
    have : o = e := h
    exact ⟨[], trivial, by simp [RepS]; omega⟩
  | (off, ft) :: fs, R :: Rs, o, h, hx => by
    obtain ⟨rfl, h1, h2⟩ := h
    obtain ⟨x, hx0⟩ := hx (off, ft) (by simp)
    obtain ⟨d, g1, g2⟩ := h1 H enc w sp hd m _ x hm hx0
    obtain ⟨ds, g3, g4⟩ := reads_fields hm hl fs Rs _ h2 fun f hf => hx f (by simp [hf])
    refine ⟨d :: ds, ⟨g1, g3⟩, _, _, ?_, g2, g4⟩
    rw [← List.drop_drop, List.take_append_drop]
  | [], _ :: _, _, h, _ => h.elim
  | _ :: _, [], _, h, _ => h.elim
theorem reads_struct {i : TI} {fs : List (Nat × TypeId)} {Rs : List (D → Prop)} {n : Nat} (hi : TIok P t i) (hk : i.kind = .strct fs) (hf : FieldsTo P n 0 fs Rs i.size) : ReadsTo P (n + 1) t fun d => ∃ ds, d = .st ds ∧ AllR Rs ds := fun H enc w sp hd fuel cs x hfu hx => by
  have h := hi.kind
  rw [hk] at h
  obtain ⟨h, _⟩ := h
  cases hu : P.underlying t with
  | none => simp [hu] at h
  | some desc =>
    simp only [hu, Option.bind_some] at h
    cases desc <;> simp only [fieldsD] at h <;> try (cases h; done)
    rename_i F
    simp only [Option.some.injEq] at h
    obtain ⟨xs, m, rfl, _, hcs, hxs, hall⟩ := DataW.trod_struct hu hx
    have hsz : P.cellsOf t = i.size := by
      obtain ⟨inf, hin, hs, _⟩ := hi.info'
      simp [Program.cellsOf, hin, hs]
    obtain ⟨ds, g1, g2⟩ := reads_fields (w := w) (enc := enc) (sp := sp) (hd := hd) (m := m) (by omega) (hcs.trans hsz) fs Rs 0 hf fun f hfm => by
      rw [← h] at hfm
      obtain ⟨fd, hfd, rfl⟩ := List.mem_map.1 hfm
      obtain ⟨j, hj⟩ := List.mem_iff_getElem?.1 hfd
      have hj' : F[j]? = some fd := by simpa using hj
      have hlt : j < F.size := (Array.getElem?_eq_some_iff.1 hj').1
      exact ⟨xs[j]'(by omega), by rw [hall j fd hj', List.getElem?_eq_getElem (by omega)]⟩
    exact ⟨.st ds, ⟨ds, rfl, g1⟩, by simpa [Rep] using g2⟩
theorem RepS.flat {μ : Mem} {es : Nat} : ∀ {xs : List D} {cells : Nat → List Value}, (∀ i x, xs[i]? = some x → Rep μ x (cells i)) → RepS μ xs ((List.range xs.length).flatMap cells)
  | [], _, _ => rfl
  | d :: r, cells, h => by
    have ih := RepS.flat (es := es) (μ := μ) (xs := r) (cells := fun i => cells (i + 1)) fun i x hx => h (i + 1) x (by simpa using hx)
    refine ⟨cells 0, (List.range r.length).flatMap fun i => cells (i + 1), ?_, h 0 d (by simp), ih⟩
    rw [List.length_cons, List.range_succ_eq_map, List.flatMap_cons, List.flatMap_map]
theorem reads_slice {e : TypeId} {es n : Nat} {R : D → Prop} (ht : P.underlying t = some (.slice e)) (hc : P.cellsOf e = es) (h : ReadsTo P n e R) (hn : ∀ d, R d → d.n = es) : ReadsTo P (n + 1) t fun d => ∃ xs, d = .sl es xs ∧ ∀ x ∈ xs, R x := fun H enc w sp hd fuel cs x hf hx => by
  rcases DataW.trod_slice ht hx with ⟨rfl, _⟩ | ⟨a, len, cap, elems, rest, m, rfl, rfl, _, _, h1, h2, h3, h4, _⟩
  · exact ⟨.sl es [], ⟨[], rfl, by simp⟩, Rep.nilSl es⟩
  · subst hc
    obtain ⟨xs, g1, g2⟩ := exists_list (Pr := fun i (y : D) => ∃ cs', w.cells? 0 (a.add (i * P.cellsOf e)) (P.cellsOf e) = some cs' ∧ R y ∧ Rep (wmem w) y cs') len fun i hi => by
      have := h4 i hi
      rw [List.getElem?_eq_getElem (by omega)] at this
      obtain ⟨cs', k1, k2⟩ := Option.bind_eq_some_iff.1 this
      obtain ⟨y, hy, hy'⟩ := h H enc w sp hd m cs' _ (by omega) k2
      exact ⟨y, cs', k1, hy, hy'⟩
    have hR : ∀ y ∈ xs, R y := fun y hy => by
      obtain ⟨j, hj⟩ := List.mem_iff_getElem?.1 hy
      obtain ⟨_, _, hr, _⟩ := g2 j y hj
      exact hr
    let cells : Nat → List Value := fun i => (w.cells? 0 (a.add (i * P.cellsOf e)) (P.cellsOf e)).getD []
    have hcell : ∀ i y, xs[i]? = some y → Rep (wmem w) y (cells i) := fun i y hy => by
      obtain ⟨cs', k1, _, k3⟩ := g2 i y hy
      simp only [cells, k1, Option.getD_some]; exact k3
    refine ⟨.sl _ xs, ⟨xs, rfl, hR⟩, some a, cap, by rw [g1], ⟨by omega, by omega⟩, fun y hy => hn y (hR y hy), .inr ⟨a, (List.range xs.length).flatMap cells, rfl, ?_, RepS.flat (es := P.cellsOf e) hcell⟩⟩
    intro j v hj
    have hlen : ∀ y ∈ (List.range xs.length).map fun i => Value.agg (cells i).toArray, (vcells y).length = P.cellsOf e := fun y hy => by
      obtain ⟨i, hi, rfl⟩ := List.mem_map.1 hy
      obtain ⟨z, hz⟩ : ∃ z, xs[i]? = some z := ⟨_, List.getElem?_eq_getElem (by simpa using hi)⟩
      obtain ⟨cs', k1, _, _⟩ := g2 i z hz
      simp only [vcells, cells, k1, Option.getD_some]
      exact (cells?_at k1).1
    have hfl : (List.range xs.length).flatMap cells = ((List.range xs.length).map fun i => Value.agg (cells i).toArray).flatMap vcells := by
      rw [List.flatMap_map]; rfl
    have htot : ((List.range xs.length).flatMap cells).length = xs.length * P.cellsOf e := by
      rw [hfl, flat_len _ hlen]; simp
    have hjlt := (List.getElem?_eq_some_iff.1 hj).1
    rw [htot] at hjlt
    have hpos : 0 < P.cellsOf e := by
      rcases Nat.eq_zero_or_pos (P.cellsOf e) with h | h
      · rw [h] at hjlt; simp at hjlt
      · exact h
    let i := j / P.cellsOf e
    let k := j % P.cellsOf e
    have hjk : j = i * P.cellsOf e + k := by simp only [i, k]; rw [Nat.mul_comm]; exact (Nat.div_add_mod _ _).symm
    have hi : i < xs.length := Nat.div_lt_of_lt_mul (by rw [Nat.mul_comm]; exact hjlt)
    have hk : k < P.cellsOf e := Nat.mod_lt _ hpos
    obtain ⟨z, hz⟩ : ∃ z, xs[i]? = some z := ⟨_, List.getElem?_eq_getElem hi⟩
    obtain ⟨cs', k1, _, _⟩ := g2 i z hz
    obtain ⟨k3, k4⟩ := cells?_at k1
    obtain ⟨u, hu⟩ : ∃ u, cs'[k]? = some u := ⟨_, List.getElem?_eq_getElem (by omega)⟩
    have hf := flat_at hlen (i := i) (y := .agg (cells i).toArray) (by simp [hi]) (j := k) (v := u) (by simp only [vcells, cells, k1, Option.getD_some]; exact hu)
    rw [← hfl, ← hjk, hj] at hf
    cases hf
    rw [hjk, ← add_add]
    exact k4 k v hu
theorem reads_sl {e : TypeId} {es : Nat} {R : D → Prop} (ht : P.underlying t = some (.slice e)) (hc : P.cellsOf e = es) (hn : ∀ d, R d → d.n = es) (h : Reads P e R) : Reads P t fun d => ∃ xs, d = .sl es xs ∧ ∀ x ∈ xs, R x
  | 0 => ReadsTo.zero _
  | n + 1 => reads_slice ht hc (h n) hn
/-- What the reading of an argument that is a struct gives. -/
theorem read_struct {H : Type} {enc : TypeId × Value → H} {w : World} {sp : Nat → Bool} {hd : Bool} {b : Nat} {fs : Array Go.Field} {v : Value} {x : DataW H} {p : List MemPlace} {R : D → Prop} (ht : P.underlying t = some (.struct fs)) (hr : Reads P t R)
    (hv : Value.okWide P w .any b t v) (h : DataW.Trod enc P w 0 sp hd t v x p) : ∃ d, R d ∧ ∃ cs, v = .agg (List.toArray cs) ∧ Rep (wmem w) d cs := by
  obtain ⟨cs, rfl, _⟩ := okWide_struct ht hv
  obtain ⟨fuel, h⟩ := h
  obtain ⟨d, h1, h2⟩ := hr fuel H enc w sp hd fuel _ _ (Nat.le_refl _) h
  exact ⟨d, h1, cs.toList, by simp, h2⟩
/-- What the reading of an argument that is no struct gives. -/
theorem read_cell {H : Type} {enc : TypeId × Value → H} {w : World} {sp : Nat → Bool} {hd : Bool} {b : Nat} {v : Value} {x : DataW H} {p : List MemPlace} {R : D → Prop} (ha : ∀ cs, ¬ Value.okWide P w .any b t (.agg cs)) (hr : Reads P t R)
    (hv : Value.okWide P w .any b t v) (h : DataW.Trod enc P w 0 sp hd t v x p) : ∃ d, R d ∧ Rep (wmem w) d [v] := by
  obtain ⟨fuel, h⟩ := h
  obtain ⟨d, h1, h2⟩ := hr fuel H enc w sp hd fuel _ _ (Nat.le_refl _) h
  refine ⟨d, h1, ?_⟩
  cases v with
  | agg cs => exact absurd hv (ha cs)
  | _ => exact h2
theorem okWide_slice {w : World} {b : Nat} {e : TypeId} (ht : P.underlying t = some (.slice e)) (cs : Array Value) : ¬ Value.okWide P w .any b t (.agg cs) := fun h => by
  simp [Value.okWide, ht, Cell.okWide, Cell.ok] at h
theorem okWide_int {w : World} {b : Nat} {k : IntKind} (ht : P.underlying t = some (.int k)) (cs : Array Value) : ¬ Value.okWide P w .any b t (.agg cs) := fun h => by
  simp [Value.okWide, ht, Cell.okWide, Cell.ok] at h
theorem okWide_string {w : World} {b : Nat} (ht : P.underlying t = some .string) (cs : Array Value) : ¬ Value.okWide P w .any b t (.agg cs) := fun h => by
  simp [Value.okWide, ht, Cell.okWide, Cell.ok] at h
theorem okWide_bool {w : World} {b : Nat} (ht : P.underlying t = some .bool) (cs : Array Value) : ¬ Value.okWide P w .any b t (.agg cs) := fun h => by
  simp [Value.okWide, ht, Cell.okWide, Cell.ok] at h
end
/-! ### The row -/
theorem trodAll_stays {H : Type} {enc : TypeId × Value → H} {P : Program} (hl : laidOutB P = true) {W W' : World} (hb : Below W.heap.size W W') {sp : Nat → Bool} : ∀ {ts : List TypeId} {vs : List Value} {ds : List (DataW H)} {ps : List MemPlace},
    (∀ t ∈ ts, P.readableRec t = true ∧ t < P.types.size) → DataW.TrodAll enc P W 0 (fun _ => true) true ts vs ds ps → (∀ x ∈ ps, x.block < W.heap.size) → (∀ x ∈ ps, sp x.block = true) → DataW.TrodAll enc P W' 0 sp true ts vs ds ps
  | [], vs, ds, ps, _, h, _, _ => by
    obtain ⟨rfl, rfl, rfl⟩ := trodAll_nil h
    exact trodAll_mk0
  | t :: ts, vs, ds, ps, hr, h, hlt, hs => by
    obtain ⟨v, vs', d, ds', p, q, rfl, rfl, rfl, h1, h2⟩ := trodAll_cons h
    obtain ⟨g1, g2⟩ := hr t (by simp)
    exact trodAll_cons_mk (WideElems.Trod_stays hl g1 g2 h1 (fun x hx => hb.same (hlt x (by simp [hx]))) (fun x hx => hs x (by simp [hx])))
      (trodAll_stays hl hb (fun t ht => hr t (by simp [ht])) h2 (fun x hx => hlt x (by simp [hx])) (fun x hx => hs x (by simp [hx])))
/-- 'post' of a law: true came back, and what was there when the call began is as it was. -/
theorem law_post {H : Type} {enc : TypeId × Value → H} {P : Program} {f : Func} {s : ChangeSpec} {apart fresh handsOn again : Bool} {W W' : World} {args : Array Value} {ds gs : List (DataW H)} {before : List MemPlace} {tb : TypeId}
    (hl : laidOutB P = true) (hr : ∀ t ∈ f.params.toList, P.readableRec t = true ∧ t < P.types.size) (hres : f.resultTypes = #[tb]) (htb : P.underlying tb = some .bool) (hs : s.vars = [])
    (hfn : s.fn H ds = { results := [.lit (.bool true)], args := ds })
    (hW : DataW.Whole enc P f.params.toList s.vars apart W args.toList ds gs before) (hb : Below W.heap.size W W') : s.post enc P f apart fresh handsOn again W args (.bool true) W' := by
  have hW0 := hW
  obtain ⟨p, q, hA, hV, rfl, hz, hn⟩ := hW
  rw [hs] at hV
  obtain ⟨rfl, rfl⟩ := trodVars_none hV
  have hlt : ∀ x ∈ p, x.block < W.heap.size := fun x hx => hW0.lt x (by simp [hx])
  have hfn' : s.fn H (ds ++ []) = { results := [.lit (.bool true)], args := ds } := by simpa using hfn
  have hrl : (Value.bool true).resultList f.resultTypes.size = [.bool true] := by rw [hres]; rfl
  have hbool : ∀ (b : Nat) (sp : Nat → Bool) (hd : Bool), DataW.TrodAll enc P W' b sp hd f.resultTypes.toList ((Value.bool true).resultList f.resultTypes.size) [.lit (.bool true)] [] := fun b sp hd => by
    rw [hrl, hres]
    exact trodAll_mk1 (shut_bool htb true)
  refine ⟨ds, [], p ++ [], [], p, [], hW0, by rw [hfn']; exact hbool _ _ _, by rw [hfn']; exact trodAll_stays hl hb hr hA hlt (fun x hx => by simpa using hlt x hx), by rw [hfn', hs]; rfl, hb.frame _, fun _ => ⟨fun j t r hj hr' => ?_, .lit (.bool true) :: ds, [], p, ⟨p, [], ?_, by rw [hs]; rfl, by simp, fun b off hp => ?_, fun ha => ?_⟩, fun x hx _ => by simpa using hx⟩⟩
  · rw [hres] at hj
    rw [hrl] at hr'
    match j, hj, hr' with
    | 0, hj, hr' =>
      simp at hj hr'
      subst hj; subst hr'
      exact okWide_bool_mk htb true
  · exact trodAll_append (trodAll_stays (sp := fun _ => true) hl hb hr hA hlt fun _ _ => rfl) (hbool _ _ _)
  · rw [hb.frozen (p := ⟨b, off, none⟩) (hlt _ hp)]
    exact hz b off (by simpa using hp)
  · have := hn ha
    simpa using this
theorem step_below {μ' h' : Mem} {w w' : World} {μ : Mem} (h : Step μ Mem.nil w μ' h' w') : Below w.heap.size w w' := ⟨h.os, h.tape, h.output, h.size, fun k hk => h.keep k hk rfl⟩
/-- **A LAW'S CALL, OUT OF ITS CONTRACT.** -/
theorem law_calls {H : Type} {enc : TypeId × Value → H} {P : Program} {f : FuncId} {fn : Func} {s : ChangeSpec} {apart fresh handsOn again : Bool} {W : World} {args : Array Value} {ds gs : List (DataW H)} {before : List MemPlace} {tb : TypeId}
    (hl : laidOutB P = true) (hr : ∀ t ∈ fn.params.toList, P.readableRec t = true ∧ t < P.types.size) (hres : fn.resultTypes = #[tb]) (htb : P.underlying tb = some .bool) (hs : s.vars = [])
    (hfn : s.fn H ds = { results := [.lit (.bool true)], args := ds })
    (hW : DataW.Whole enc P fn.params.toList s.vars apart W args.toList ds gs before) (h : Spec P f args.toList (wmem W) fun r _ => r = .bool true) :
    Calls P f args W fun e W' => ∃ v, e = .returned v ∧ s.post enc P fn apart fresh handsOn again W args v W' := by
  have := h.2 W (wmem_holds W) (holds_nil W) (apart_nil _)
  simp only [Array.toArray_toList] at this
  refine this.mono ?_
  rintro e W' ⟨v, μ', h', rfl, rfl, hS⟩
  exact ⟨_, rfl, law_post hl hr hres htb hs hfn hW (step_below hS)⟩
end Go.Vx
