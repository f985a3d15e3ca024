/- Texts of the proof, part 4: Xa Vr Vs Vt Vu Vv Vw Wa Wc Xb Xc Xd Vb Xg Xh Wd Wb We Vt2 Wh Xe Xi Xj. -/
import Derived.Test.YtjhpcpmapncbiaaM3
/- Owned rows, maps of numbers, results that grow. -/
namespace Go.Vx
open Go.Proofs Classical
section
variable {P : Program} {f : FuncId} {args : List Value} {μ h H : Mem}
theorem Mem.set_at (m : Mem) (r : Nat) (o : Obj) : (m.set r o) r = some o := by rw [Mem.set_get, if_pos rfl]
theorem Mem.set_ne {m : Mem} {b r : Nat} {o : Obj} (h : b ≠ r) : (m.set r o) b = m b := by rw [Mem.set_get, if_neg h]
theorem ne_of_obj {a b : Nat} {x y : Obj} (h1 : h a = some x) (h2 : h b = some y) (hne : x ≠ y) : a ≠ b := fun e => by
  subst e; rw [h1] at h2; cases h2; exact hne rfl
theorem ne_of_none {a b : Nat} {x : Obj} (h1 : h a = some x) (h2 : h b = none) : a ≠ b := fun e => by
  subst e; rw [h1] at h2; cases h2
theorem Apart.set {r : Nat} {o : Obj} (k : Apart μ h) (hr : μ r = none) : Apart μ (h.set r o) := fun b hb => by
  by_cases e : b = r
  · subst e; exact absurd hr hb
  · rw [Mem.set_ne e]; exact k b hb
/-! ### Rows -/
theorem RowO.set_ne {r cap b : Nat} {ty : TypeId} {es : Nat} {xs : List Value} {o : Obj} (k : RowO h r cap ty es xs) (hb : r ≠ b) : RowO (h.set b o) r cap ty es xs := by
  obtain ⟨cs, h1, h2⟩ := k
  exact ⟨cs, by rw [Mem.set_ne hb]; exact h1, h2⟩
theorem RowO.rowAt {r cap : Nat} {ty : TypeId} {es : Nat} {xs : List Value} (k : RowO h r cap ty es xs) (hl : h.Le μ) : RowAt μ (some r) cap es xs := by
  obtain ⟨cs, h1, h2, h3, h4, h5, h6⟩ := k
  exact ⟨h2, h4, cs.toArray, ty, hl _ _ h1, by simpa using h5, by simpa using h6⟩
theorem RowO.len {r cap : Nat} {ty : TypeId} {es : Nat} {xs : List Value} (k : RowO h r cap ty es xs) : xs.length ≤ maxLen := by
  obtain ⟨cs, h1, h2, h3, _⟩ := k
  exact Nat.le_trans h2 h3
theorem RowO.rep {r cap : Nat} {ty : TypeId} {es : Nat} {xs : List Value} {ds : List D} (k : RowO h r cap ty es xs) (hl : h.Le μ) (hr : Rows μ es ds xs) : RepV μ (.sl es ds) (.slice (some ⟨r, 0, none⟩) xs.length cap) :=
  Rows.sl (k.rowAt hl) hr k.len
theorem RowO.mk_nil (h : Mem) (r : Nat) (ty : TypeId) (es : Nat) : RowO (h.set r (.cells #[] ty (0, 0))) r 0 ty es [] :=
  ⟨[], Mem.set_at _ _ _, Nat.le_refl _, Nat.zero_le _, by simp, by simp, by simp⟩
theorem RowO.obj {r cap : Nat} {ty : TypeId} {es : Nat} {xs : List Value} (k : RowO h r cap ty es xs) : ∃ cs : List Value, h r = some (.cells cs.toArray ty (0, 0)) := by
  obtain ⟨cs, h1, _⟩ := k
  exact ⟨cs, h1⟩
theorem RowO.ints {r cap : Nat} {ty : TypeId} {l : List Int} (k : RowO h r cap ty 1 (ints l)) (hl : h.Le μ) : Sl μ 1 (some ⟨r, 0, none⟩) l.length (l.map D.i) := by
  obtain ⟨b, c, e, hs⟩ := Rep.sl (k.rep hl (Ints.rows l))
  obtain ⟨rfl, _, _⟩ := Value.slice.inj e
  rw [List.length_map] at hs
  exact hs
/-! ### Maps of numbers -/
def IntKey (v : Value) : Prop := ∃ n, v = .int .i64 n
theorem MapOk.weaken {ok ok' : Value → Prop} {l : List (Value × Value)} (k : MapOk ok l) (hk : ∀ v, ok v → ok' v) : MapOk ok' l := ⟨fun p hp => hk _ (k.keys p hp), k.nodup⟩
theorem MapOk.int {l : List (Value × Value)} (k : MapOk IntKey l) {n : Int} (v : Value) : MapOk IntKey (mset l (.int .i64 n) v) := k.set ⟨n, rfl⟩ v
theorem mget_int (l : List (Value × Value)) (n m : Int) (v : Value) : mget (mset l (.int .i64 n) v) (.int .i64 m) = if m = n then some v else mget l (.int .i64 m) := by
  rw [mget_mset]
  by_cases e : m = n
  · subst e; rw [if_pos rfl, if_pos rfl]
  · rw [if_neg e, if_neg (by simp [e])]
/-! ### Results that grow -/
/-- Elements whose memory is new. -/
def Grown (es : Nat) (μ μ' : Mem) (ds : List D) (ys : List Value) : Prop := ∃ g, OwnRows es ds ys g ∧ g.Le μ' ∧ ∀ b, g b ≠ none → μ b = none
theorem Grown.nil (es : Nat) (μ μ' : Mem) : Grown es μ μ' [] [] := ⟨Mem.nil, OwnRows.nil es, (fun _ _ h => nomatch h), fun _ h => absurd rfl h⟩
theorem Grown.snoc {es : Nat} {μ μ' μ'' : Mem} {ds : List D} {ys : List Value} {d : D} {v : Value} (k : Grown es μ μ' ds ys) (h0 : μ.Le μ') (hv : Fresh μ' μ'' d v) (h1 : μ'.Le μ'') (hn : d.n = es) : Grown es μ μ'' (ds ++ [d]) (ys ++ [v]) := by
  obtain ⟨g, a, b, c⟩ := k
  obtain ⟨g', a', b', c'⟩ := hv
  refine ⟨g.join g', a.snoc a' hn (fresh_apart b c'), join_le (b.trans h1) b', fun x hx => ?_⟩
  rcases join_ne hx with h | h
  · exact c x h
  · have h3 := c' x h
    cases h4 : μ x with
    | none => rfl
    | some o => rw [h0 x o h4] at h3; cases h3
theorem Grown.mono {es : Nat} {μ μ' μ'' : Mem} {ds : List D} {ys : List Value} (k : Grown es μ μ' ds ys) (h : μ'.Le μ'') : Grown es μ μ'' ds ys := by
  obtain ⟨g, a, b, c⟩ := k
  exact ⟨g, a, b.trans h, c⟩
theorem Grown.len {es : Nat} {μ μ' : Mem} {ds : List D} {ys : List Value} (k : Grown es μ μ' ds ys) : ds.length = ys.length := by
  obtain ⟨g, a, _⟩ := k
  exact a.len
theorem Grown.fresh {es : Nat} {μ μ1 μ' : Mem} {b : Option Nat} {cap : Nat} {ds : List D} {ys : List Value} (k : Grown es μ μ1 ds ys) (h0 : μ.Le μ1) (h1 : μ1.Le μ') (hb : ∀ r, b = some r → μ1 r = none) (hr : RowAt μ' b cap es ys) (hm : ys.length ≤ maxLen) :
    Fresh μ μ' (.sl es ds) (.slice (b.map fun r => ⟨r, 0, none⟩) ys.length cap) := by
  obtain ⟨g, a, b', c⟩ := k
  exact Fresh.ofRow a b' c h0 h1 hb hr hm
/-! ### Owned memory lent -/
theorem Fresh.unlend {μ1 : Mem} {d : D} {v : Value} (k : Fresh (μ.join H) μ1 d v) (ha : Apart μ H) : Fresh μ (μ1.sub H) d v := by
  obtain ⟨g, a, b, c⟩ := k
  have c1 : ∀ x, g x ≠ none → μ x = none ∧ H x = none := fun x hx => by
    have h1 := c x hx
    rw [Mem.join_get] at h1
    cases h2 : μ x with
    | none => rw [h2] at h1; exact ⟨rfl, h1⟩
    | some o => rw [h2] at h1; cases h1
  refine ⟨g, a, fun x o hx => ?_, fun x hx => (c1 x hx).1⟩
  rw [Mem.sub_of (c1 x (by simp [hx])).2]
  exact b x o hx
variable {dr : Bool} {s : St} {K : Value → St → Prop}
/-- A call that reads owned memory and makes new data. -/
theorem call_lend {d : D} (hap : Apart s.mem s.own) (h : Spec P f args (s.mem.join s.own) fun v μ' => Fresh (s.mem.join s.own) μ' d v)
    (k : ∀ v μ', s.mem.Le μ' → Apart μ' s.own → Fresh s.mem μ' d v → memOwnK s μ' s.own fun s => K v s) : callVC dr P f args s K :=
  call_own (SpecH.lend hap h) fun v μ' H' hle ha' ⟨h1, μ1, h2, _, h4⟩ => by
    subst h1 h4
    exact k v _ hle ha' (h2.unlend hap)
end
section
variable {μ : Mem}
/-- Variables visited; what the closure owns is told by a relation. -/
theorem eachVar_rel {S : Type} (J : S → Mem → Prop) (step : S → Int → S) (Q : S → Int → Prop) {k : FuncId} {caps : List Value}
    (hc : ∀ s h n, Q s n → J s h → SpecH Try.prog k (.int .i64 n :: caps) μ h fun r μ' h' => r = .tuple #[] ∧ μ' = μ ∧ J (step s n) h') :
    ∀ (x : T) {v : Value} (s : S) (h : Mem), RepV μ x.tm.d v → (∀ pre n post, x.vars = pre ++ n :: post → Q (pre.foldl step s) n) → J s h → SpecH Try.prog 152 [v, .func (.func k) #[] caps.toArray] μ h fun r μ' h' => r = .tuple #[] ∧ μ' = μ ∧ J (x.vars.foldl step s) h'
  | .var n, v, s, h, hv, hq, hj => by
    obtain ⟨base, cap, rfl, hsl⟩ := Tm.inv hv
    refine SpecH.mk [] Try.func152 (by kernel_rfl) ?_
    intro r
    refine ifd (fun _ => ?_) (fun h => absurd rfl h)
    refine call_own (hc s h n (hq [] n [] rfl) hj) fun v μ' h' hle hap hR => ?_
    obtain ⟨rfl, e2, hj'⟩ := hR
    obtain rfl := e2.symm
    refine ifd (fun h => absurd h (by decide)) (fun _ => ?_)
    exact ret_plain ⟨rfl, rfl, hj'⟩
  | .nil, v, s, h, hv, hq, hj => by
    obtain ⟨base, cap, rfl, hsl⟩ := Tm.inv hv
    refine SpecH.mk [] Try.func152 (by kernel_rfl) ?_
    intro r
    refine ifd (fun h => absurd h (by decide)) (fun _ => ?_)
    refine ifd (fun h => absurd h (by decide)) (fun _ => ?_)
    exact ret_plain ⟨rfl, rfl, hj⟩
  | .sym _, v, s, h, hv, hq, hj => by
    obtain ⟨base, cap, rfl, hsl⟩ := Tm.inv hv
    refine SpecH.mk [] Try.func152 (by kernel_rfl) ?_
    intro r
    refine ifd (fun h => absurd h (by decide)) (fun _ => ?_)
    refine ifd (fun h => absurd h (by decide)) (fun _ => ?_)
    exact ret_plain ⟨rfl, rfl, hj⟩
  | .num _, v, s, h, hv, hq, hj => by
    obtain ⟨base, cap, rfl, hsl⟩ := Tm.inv hv
    refine SpecH.mk [] Try.func152 (by kernel_rfl) ?_
    intro r
    refine ifd (fun h => absurd h (by decide)) (fun _ => ?_)
    refine ifd (fun h => absurd h (by decide)) (fun _ => ?_)
    exact ret_plain ⟨rfl, rfl, hj⟩
  | .pair a b, v, s, h, hv, hq, hj => by
    obtain ⟨base, cap, rfl, hsl⟩ := Tm.inv hv
    obtain ⟨ad, ad', p, p', h1, h2, hra, hrb⟩ := T.parts hsl
    refine SpecH.mk [] Try.func152 (by kernel_rfl) ?_
    intro r
    refine ifd (fun h => absurd h (by decide)) (fun _ => ?_)
    refine ifd (fun _ => ?_) (fun h => absurd rfl h)
    refine elem_intro h1 (call_own (eachVar_rel J step Q hc a s h hra (fun pre n post e => hq pre n (post ++ b.vars) (by simp [T.vars, e])) hj) fun v μ' h' hle hap hR => ?_)
    obtain ⟨rfl, e2, hj'⟩ := hR
    obtain rfl := e2.symm
    refine elem_intro h2 (call_own (eachVar_rel J step Q hc b _ h' hrb (fun pre n post e => by
      have := hq (a.vars ++ pre) n post (by simp [T.vars, e])
      rwa [List.foldl_append] at this) hj') fun v μ' h' hle hap hR => ?_)
    obtain ⟨rfl, e2, hj'⟩ := hR
    obtain rfl := e2.symm
    exact ret_plain ⟨rfl, rfl, by simpa [T.vars, List.foldl_append] using hj'⟩
end
end Go.Vx

/- Contracts: lists of bindings, and the reference's substitutions. -/
namespace Go.Vx
open Go.Proofs Classical
/-! ### Plain -/
noncomputable def Tm.toT (t : Tm) : T := if h : ∃ x : T, x.tm = t then h.choose else .nil
theorem T.toT_tm (x : T) : x.tm.toT = x := by
  have h : ∃ y : T, y.tm = x.tm := ⟨x, rfl⟩
  rw [Tm.toT, dif_pos h]
  exact T.tm_inj h.choose_spec
theorem Tm.Ok.toT {t : Tm} (h : t.Ok) : t.toT.ok ∧ t.toT.tm = t := by
  obtain ⟨x, h1, rfl⟩ := h.lift
  rw [T.toT_tm]; exact ⟨h1, rfl⟩
structure B where
  var : Int
  to : T
def B.bd (b : B) : Bd := ⟨b.var, b.to.tm⟩
noncomputable def Bd.b (b : Bd) : B := ⟨b.var, b.to.toT⟩
/-- Binding i of a list is fine. -/
def okAt (l : List Bd) (i : Nat) (b : Bd) : Prop := (0 ≤ b.var ∧ b.var ≤ 100000) ∧ b.to.Ok ∧ ∀ j c, j + 1 = i → l[j]? = some c → c.var < b.var
def valsOk (l : List Bd) : Prop := l.length ≤ 400 ∧ ∀ i b, l[i]? = some b → okAt l i b
theorem valsOk.lift {l : List Bd} (h : valsOk l) : (l.map Bd.b).map B.bd = l ∧ (∀ b ∈ l.map Bd.b, b.to.ok) := by
  have h2 : ∀ b ∈ l, b.to.Ok := fun b hb => by
    obtain ⟨i, hi⟩ := List.mem_iff_getElem?.1 hb
    exact (h.2 i b hi).2.1
  clear h
  induction l with
  | nil => simp
  | cons b l ih =>
    have h1 := (h2 b (by simp)).toT
    obtain ⟨i1, i2⟩ := ih fun b hb => h2 b (by simp [hb])
    refine ⟨?_, ?_⟩
    · simp only [List.map_cons, i1, List.cons.injEq, and_true, Bd.b, B.bd, h1.2]
    · intro c hc
      simp only [List.map_cons, List.mem_cons] at hc
      rcases hc with rfl | hc
      · exact h1.1
      · exact i2 c hc
def sub : List B → Int → Option T
  | [], _ => none
  | b :: r, n => if b.var = n then some b.to else sub r n
def T.subst (f : Int → Option T) : T → T
  | .var n => (f n).getD (.var n)
  | .pair a b => .pair (a.subst f) (b.subst f)
  | .nil => .nil
  | .sym s => .sym s
  | .num n => .num n
theorem drop_at {α : Type} {l : List α} {i : Nat} {a : α} (h : l[i]? = some a) : l.drop i = a :: l.drop (i + 1) := by
  obtain ⟨h1, h2⟩ := List.getElem?_eq_some_iff.1 h
  rw [List.drop_eq_getElem_cons h1, h2]
/-- A term and whether it is one. -/
def optV (P : T → Value → Prop) (o : Option T) (v : Value) : Prop := match o with
  | some y => ∃ tv, v = .tuple #[tv, .bool true] ∧ P y tv
  | none => v = .tuple #[.agg #[.int .i64 0, .int .i64 0, .string ⟨#[]⟩, .slice none 0 0], .bool false]
section
variable {μ : Mem}
theorem T.fits (x : T) : (upTo (x.size : Int) 5000 ≤ 5000) ↔ x.size ≤ 5000 := by unfold upTo; omega
/-- An element's term. -/
theorem Bd.toV {b : Bd} {p : Option Addr × Nat} (h : RepV μ b.d (.agg (b.cs p).toArray)) : RepV μ b.to.d (.agg (b.to.cs p).toArray) := by
  obtain ⟨q, e, hto⟩ := Bd.inv h
  have hq : q = p := by
    have h2 := congrArg (fun v => match v with | Value.agg a => a[4]? | _ => none) e
    simp [Bd.cs] at h2
    exact Prod.ext h2.1.symm h2.2.symm
  rw [← hq]; exact hto
/-! ### The reference's -/
theorem l02Pair_spec {a b : T} {va vb : Value} (ha : RepV μ a.tm.d va) (hb : RepV μ b.tm.d vb) : Spec Try.prog 200 [va, vb] μ fun v μ' => RepV μ' (T.pair a b).tm.d v := by
  obtain ⟨p, rfl⟩ := Tm.invV ha
  obtain ⟨q, rfl⟩ := Tm.invV hb
  refine Spec.mk Try.func200 (by kernel_rfl) ?_
  intro r1 r2 r3 r4
  refine ret_frz [3] fun μ' hle hno hrow => .inl ?_
  rw [T.tm, Tm.d_mk]
  exact ⟨_, rfl, RepS.int (RepS.int (RepS.str (RepS.last (Rows.sl hrow (.cons (ha.mono hle) (Tm.d_n _) (.cons (hb.mono hle) (Tm.d_n _) .nil)) (show 2 ≤ maxLen by decide)))))⟩
theorem l02Fits_spec (x : T) {v : Value} (hv : RepV μ x.tm.d v) : Gives Try.prog 151 [v] μ (.bool (decide (x.size ≤ 5000))) := by
  obtain ⟨p, rfl⟩ := Tm.invV hv
  refine Spec.mk Try.func151 (by kernel_rfl) ?_
  intro r
  refine call_gives (l02Count_spec x.tm hv (by decide) (by decide)) (ret_gives ?_ rfl)
  rw [T.cnt_tm]
  exact isI (T.fits x)
theorem l04Get_spec {bs : List B} {base : Option Addr} {cap : Nat} {n : Int} (hsl : Sl μ 5 base bs.length ((bs.map B.bd).map Bd.d)) :
    Spec Try.prog 118 [.slice base bs.length cap, .int .i64 n] μ fun v μ' => optV (fun y tv => RepV μ y.tm.d tv) (sub bs n) v ∧ μ' = μ := by
  have hn := maxLen_le hsl.max
  refine Spec.mk Try.func118 (by kernel_rfl) ?_
  intro r
  refine loop_intro (fun i : Nat => i ≤ bs.length ∧ sub bs n = sub (bs.drop i) n) (fun i => ⟨[(1, .val (.int .i64 n)), (4, .loc 0 r 0), (8, .val (.slice base bs.length cap)), (9, .val (.int .i64 bs.length)), (10, .val (.int .i64 i))], [(0, some (.cells r [.val (.int .i64 0), .val (.int .i64 0), .val (.string ⟨#[]⟩), .val (.slice none 0 0)] 30))], 1, μ, Mem.nil⟩) (fun i => bs.length - i)
    0 ⟨by omega, rfl⟩ (fun i => ⟨rfl, rfl⟩) ⟨⟨rfl, rfl, rfl, rfl, rfl, trivial⟩, ⟨rfl, trivial⟩, rfl, rfl⟩ ?_
  rintro i ⟨hi, he⟩
  refine ifd (fun h => ?_) (fun h => ?_)
  · obtain ⟨b, hb⟩ := at_some (l := bs) (i := i) (by omega)
    have hb' : (bs.map B.bd)[i]? = some b.bd := by simp [hb]
    obtain ⟨ad, p, hel, hr⟩ := Bd.elem hsl hb'
    have hto := Bd.toV hr
    rw [drop_at hb] at he
    refine elem_intro hel ?_
    intro r2
    refine ifd (fun h2 => ?_) (fun h2 => ?_)
    · have h2 : b.var = n := h2
      have e2 : sub bs n = some b.to := by rw [he, sub, if_pos h2]
      rw [e2]
      exact ret_plain ⟨⟨_, rfl, hto⟩, rfl⟩
    · have h2 : ¬ b.var = n := h2
      have e2 : sub bs n = sub (bs.drop (i + 1)) n := by rw [he, sub, if_neg h2]
      exact num64 (by omega) (by omega) ⟨i + 1, ⟨by omega, e2⟩, by omega, ⟨⟨rfl, rfl, rfl, rfl, rfl, trivial⟩, ⟨rfl, trivial⟩, rfl, rfl⟩⟩
  · obtain rfl : i = bs.length := by omega
    rw [List.drop_length] at he
    rw [he]
    exact ret_plain ⟨rfl, rfl⟩
theorem l04Put_spec {bs : List B} {base : Option Addr} {cap : Nat} : ∀ (x : T) {μ : Mem} {v : Value}, Sl μ 5 base bs.length ((bs.map B.bd).map Bd.d) → RepV μ x.tm.d v →
    Spec Try.prog 150 [.slice base bs.length cap, v] μ fun v μ' => RepV μ' (x.subst (sub bs)).tm.d v := by
  intro x
  induction x with
  | var n =>
    intro μ v hsl hv
    obtain ⟨p, rfl⟩ := Tm.invV hv
    refine Spec.mk Try.func150 (by kernel_rfl) ?_
    intro r1 r2
    refine ifd (fun _ => ?_) (fun h => absurd rfl h)
    refine call_plain (l04Get_spec hsl) fun v' μ' hle hR => ?_
    obtain ⟨hR, e2⟩ := hR
    obtain rfl := e2.symm
    have hR : optV (fun y tv => RepV μ y.tm.d tv) (sub bs n) v' := hR
    simp only [T.subst]
    cases hs : sub bs n with
    | some y =>
      rw [hs] at hR
      obtain ⟨tv, rfl, htv⟩ := hR
      obtain ⟨q, rfl⟩ := Tm.invV htv
      intro r3
      refine if_intro (fun _ => ret_plain htv) (fun h => nomatch h)
    | none =>
      rw [hs] at hR
      obtain rfl := hR
      intro r3
      refine if_intro (fun h => nomatch h) (fun _ => ?_)
      refine ifd (fun h => absurd h (by simp [T.tm, Tm.kind])) (fun _ => ?_)
      exact ret_plain hv
  | pair a b iha ihb =>
    intro μ v hsl hv
    obtain ⟨base', cap', rfl, hsa⟩ := Tm.inv hv
    obtain ⟨ad, ad', p, p', h1, h2, hra, hrb⟩ := T.parts hsa
    refine Spec.mk Try.func150 (by kernel_rfl) ?_
    intro r1 r2
    refine ifd (fun h => absurd h (by simp [T.tm, Tm.kind])) (fun _ => ?_)
    refine ifd (fun _ => ?_) (fun h => absurd rfl h)
    refine elem_intro h1 ?_
    refine elem_intro h2 ?_
    refine call_plain (iha hsl hra) fun v1 μ1 hle1 hR1 => ?_
    refine call_plain (ihb (hsl.mono hle1) (hrb.mono hle1)) fun v2 μ2 hle2 hR2 => ?_
    refine call_plain (l02Pair_spec (hR1.mono hle2) hR2) fun v3 μ3 hle3 hR3 => ?_
    obtain ⟨q, rfl⟩ := Tm.invV hR3
    exact ret_plain hR3
  | _ =>
    intro μ v hsl hv
    obtain ⟨p, rfl⟩ := Tm.invV hv
    refine Spec.mk Try.func150 (by kernel_rfl) ?_
    intro r1 r2
    refine ifd (fun h => absurd h (by simp [T.tm, Tm.kind])) (fun _ => ?_)
    refine ifd (fun h => absurd h (by simp [T.tm, Tm.kind])) (fun _ => ?_)
    exact ret_plain hv
theorem l04Apply_spec {bs : List B} {base : Option Addr} {cap : Nat} (x : T) {v : Value} (hsl : Sl μ 5 base bs.length ((bs.map B.bd).map Bd.d)) (hv : RepV μ x.tm.d v) :
    Spec Try.prog 72 [.slice base bs.length cap, v] μ fun v μ' => ∃ tv, v = .tuple #[tv, .bool (decide ((x.subst (sub bs)).size ≤ 5000))] ∧ RepV μ' (x.subst (sub bs)).tm.d tv := by
  obtain ⟨p, rfl⟩ := Tm.invV hv
  refine Spec.mk Try.func72 (by kernel_rfl) ?_
  intro r1 r2
  refine call_plain (l04Put_spec x hsl hv) fun v1 μ1 hle1 hR1 => ?_
  obtain ⟨q, rfl⟩ := Tm.invV hR1
  intro r3
  refine call_gives (l02Fits_spec _ hR1) ?_
  exact ret_plain ⟨_, rfl, hR1⟩
end
end Go.Vx

/- Contracts: which lists of bindings are fine; copies; the reference's Instantiate. -/
namespace Go.Vx
open Go.Proofs Classical
section
variable {μ : Mem}
theorem okAt_ext {l : List Bd} {i : Nat} (hall : ∀ j b, j < i → l[j]? = some b → okAt l j b) {b : Bd} (hb : l[i]? = some b) (h : okAt l i b) : ∀ j b, j < i + 1 → l[j]? = some b → okAt l j b := fun j c hj hc => by
  rcases Nat.lt_or_ge j i with h1 | h1
  · exact hall j c h1 hc
  · obtain rfl : j = i := by omega
    rw [hb] at hc; cases hc; exact h
theorem l04Values_spec {l : List Bd} {base : Option Addr} {cap : Nat} (hsl : Sl μ 5 base l.length (l.map Bd.d)) (hw : D.wds (l.map Bd.d)) : Gives Try.prog 146 [.slice base l.length cap] μ (.bool (decide (valsOk l))) := by
  have hn := maxLen_le hsl.max
  refine Spec.mk Try.func146 (by kernel_rfl) ?_
  refine loop_intro (fun i : Nat => i ≤ l.length ∧ ∀ j b, j < i → l[j]? = some b → okAt l j b) (fun i => ⟨[(0, .val (.slice base l.length cap)), (5, .val (.slice base l.length cap)), (6, .val (.int .i64 l.length)), (7, .val (.int .i64 i))], [], 0, μ, Mem.nil⟩) (fun i => l.length - i)
    0 ⟨by omega, fun j b hj => by omega⟩ (fun i => ⟨rfl, rfl⟩) ⟨⟨rfl, rfl, rfl, rfl, trivial⟩, trivial, rfl, rfl⟩ ?_
  rintro i ⟨hi, hall⟩
  refine ifd (fun h => ?_) (fun h => ?_)
  · obtain ⟨b, hb⟩ := at_some (l := l) (i := i) (by omega)
    obtain ⟨ad, p, hel, hr⟩ := Bd.elem hsl hb
    have hto := Bd.toV hr
    have hwt : b.to.d.wd := (D.wds_mem hw _ (mem_at (at_map (f := Bd.d) hb))).2.1
    have bad : ¬ okAt l i b → Value.bool false = .bool (decide (valsOk l)) := fun k => isF fun hv => k (hv.2 i b hb)
    refine elem_intro hel ?_
    intro r
    refine ifd (fun h0 => ?_) (fun h0 => ?_)
    · obtain ⟨c, hc⟩ := at_some (l := l) (i := i - 1) (by omega)
      obtain ⟨ad2, p2, hel2, _⟩ := Bd.elem hsl hc
      have hprev : okAt l i b → c.var < b.var := fun k => k.2.2 (i - 1) c (by omega) hc
      refine num_eq (x := ((i - 1 : Nat) : Int)) (by rw [wrap64 (by omega) (by omega)]; omega) ?_
      refine elem_intro hel2 ?_
      refine ifd (fun h1 => ret_gives (bad fun k => by have := hprev k; omega) rfl) (fun h1 => ?_)
      have hlt : ∀ j c', j + 1 = i → l[j]? = some c' → c'.var < b.var := fun j c' hj hc' => by
        have e : j = i - 1 := by omega
        rw [e, hc] at hc'
        cases hc'; omega
      refine call_gives (l01In_spec _ _ _ _) ?_
      refine ifnd (fun h2 => ret_gives (bad fun k => h2 k.1) rfl) (fun h2 => ?_)
      refine call_gives (spec_TermOk_spec b.to hto hwt) ?_
      refine ifnd (fun h3 => ret_gives (bad fun k => h3 k.2.1) rfl) (fun h3 => ?_)
      exact num64 (by omega) (by omega) ⟨i + 1, ⟨by omega, okAt_ext hall hb ⟨h2, h3, hlt⟩⟩, by omega, ⟨⟨rfl, rfl, rfl, rfl, trivial⟩, trivial, rfl, rfl⟩⟩
    · refine call_gives (l01In_spec _ _ _ _) ?_
      refine ifnd (fun h2 => ret_gives (bad fun k => h2 k.1) rfl) (fun h2 => ?_)
      refine call_gives (spec_TermOk_spec b.to hto hwt) ?_
      refine ifnd (fun h3 => ret_gives (bad fun k => h3 k.2.1) rfl) (fun h3 => ?_)
      exact num64 (by omega) (by omega) ⟨i + 1, ⟨by omega, okAt_ext hall hb ⟨h2, h3, fun j c' hj _ => by omega⟩⟩, by omega, ⟨⟨rfl, rfl, rfl, rfl, trivial⟩, trivial, rfl, rfl⟩⟩
  · obtain rfl : i = l.length := by omega
    refine ret_gives (isI ⟨fun hh => ⟨by omega, fun j b hb => hall j b (List.getElem?_eq_some_iff.1 hb).1 hb⟩, fun hh => by have := hh.1; omega⟩) rfl
theorem spec_ValuesOk_spec {l : List Bd} {base : Option Addr} {cap : Nat} (hsl : Sl μ 5 base l.length (l.map Bd.d)) (hw : D.wds (l.map Bd.d)) : Gives Try.prog 93 [.slice base l.length cap] μ (.bool (decide (valsOk l))) := by
  refine Spec.mk Try.func93 (by kernel_rfl) ?_
  exact call_gives (l04Values_spec hsl hw) (ret_gives rfl rfl)
theorem impl_ValuesOk_spec {l : List Bd} {base : Option Addr} {cap : Nat} (hsl : Sl μ 5 base l.length (l.map Bd.d)) : Gives Try.prog 83 [.slice base l.length cap] μ (.bool (decide (valsOk l))) := by
  have hn := maxLen_le hsl.max
  refine Spec.mk Try.func83 (by kernel_rfl) ?_
  refine ifd (fun h => ret_gives (isF fun k => by have := k.1; omega) rfl) (fun hlen => ?_)
  refine loop_intro (fun i : Nat => i ≤ l.length ∧ ∀ j b, j < i → l[j]? = some b → okAt l j b) (fun i => ⟨[(0, .val (.slice base l.length cap)), (8, .val (.slice base l.length cap)), (9, .val (.int .i64 l.length)), (10, .val (.int .i64 i))], [], 0, μ, Mem.nil⟩) (fun i => l.length - i)
    0 ⟨by omega, fun j b hj => by omega⟩ (fun i => ⟨rfl, rfl⟩) ⟨⟨rfl, rfl, rfl, rfl, trivial⟩, trivial, rfl, rfl⟩ ?_
  rintro i ⟨hi, hall⟩
  refine ifd (fun h => ?_) (fun h => ?_)
  · obtain ⟨b, hb⟩ := at_some (l := l) (i := i) (by omega)
    obtain ⟨ad, p, hel, hr⟩ := Bd.elem hsl hb
    have hto := Bd.toV hr
    have bad : ¬ okAt l i b → Value.bool false = .bool (decide (valsOk l)) := fun k => isF fun hv => k (hv.2 i b hb)
    refine elem_intro hel ?_
    intro r
    refine ifd (fun h1 => ret_gives (bad fun k => by have := k.1.1; omega) rfl) (fun h1 => ?_)
    refine ifd (fun h2 => ret_gives (bad fun k => by have := k.1.2; omega) rfl) (fun h2 => ?_)
    refine ifd (fun h0 => ?_) (fun h0 => ?_)
    · obtain ⟨c, hc⟩ := at_some (l := l) (i := i - 1) (by omega)
      obtain ⟨ad2, p2, hel2, _⟩ := Bd.elem hsl hc
      have hprev : okAt l i b → c.var < b.var := fun k => k.2.2 (i - 1) c (by omega) hc
      refine num_eq (x := ((i - 1 : Nat) : Int)) (by rw [wrap64 (by omega) (by omega)]; omega) ?_
      refine elem_intro hel2 ?_
      refine ifd (fun h1 => ret_gives (bad fun k => by have := hprev k; omega) rfl) (fun h3 => ?_)
      have hlt : ∀ j c', j + 1 = i → l[j]? = some c' → c'.var < b.var := fun j c' hj hc' => by
        have e : j = i - 1 := by omega
        rw [e, hc] at hc'
        cases hc'; omega
      refine call_gives (impl_TermOk_spec b.to hto) ?_
      refine ifnd (fun h3 => ret_gives (bad fun k => h3 k.2.1) rfl) (fun h4 => ?_)
      exact num64 (by omega) (by omega) ⟨i + 1, ⟨by omega, okAt_ext hall hb ⟨⟨by omega, by omega⟩, h4, hlt⟩⟩, by omega, ⟨⟨rfl, rfl, rfl, rfl, trivial⟩, trivial, rfl, rfl⟩⟩
    · refine call_gives (impl_TermOk_spec b.to hto) ?_
      refine ifnd (fun h3 => ret_gives (bad fun k => h3 k.2.1) rfl) (fun h4 => ?_)
      exact num64 (by omega) (by omega) ⟨i + 1, ⟨by omega, okAt_ext hall hb ⟨⟨by omega, by omega⟩, h4, fun j c' hj _ => by omega⟩⟩, by omega, ⟨⟨rfl, rfl, rfl, rfl, trivial⟩, trivial, rfl, rfl⟩⟩
  · obtain rfl : i = l.length := by omega
    exact ret_gives (isT ⟨by omega, fun j b hb => hall j b (List.getElem?_eq_some_iff.1 hb).1 hb⟩) rfl
end
end Go.Vx

/- Contracts: copies; the reference's Instantiate. -/
namespace Go.Vx
open Go.Proofs Classical
theorem T.d_eq (x : T) : x.tm.d = .st [.i x.tm.kind, .i x.tm.num, .s x.tm.name, .sl 4 ((x.args.map T.tm).map Tm.d)] := by
  rw [Tm.d_eq, T.tm_args]
theorem T.inv {μ : Mem} {x : T} {w : Value} (hw : RepV μ x.tm.d w) : ∃ base cap, w = .agg #[.int .i64 x.tm.kind, .int .i64 x.tm.num, .string x.tm.name, .slice base x.args.length cap] ∧ Sl μ 4 base x.args.length ((x.args.map T.tm).map Tm.d) := by
  have h1 := Tm.inv (k := x.tm.kind) (n := x.tm.num) (s := x.tm.name) (l := x.tm.args) (v := w) (by cases x <;> exact hw)
  rw [T.tm_args, List.length_map] at h1
  exact h1
theorem T.args_le (x : T) : x.args.length ≤ 2 := by cases x <;> simp [T.args]
theorem l02Copy_spec : ∀ (x : T) {μ : Mem} {v : Value}, RepV μ x.tm.d v → Spec Try.prog 73 [v] μ fun v μ' => RepV μ' x.tm.d v :=
  T.ind fun x ih μ v hv => by
    obtain ⟨base, cap, rfl, hsl⟩ := T.inv hv
    have hn := T.args_le x
    refine Spec.mk Try.func73 (by kernel_rfl) ?_
    intro r1 r2 r3
    refine loop_nil (fun p : Nat × Option Nat × Nat × List Value × Mem => p.1 ≤ x.args.length ∧ μ.Le p.2.2.2.2 ∧ Rows p.2.2.2.2 4 (((x.args.take p.1).map T.tm).map Tm.d) p.2.2.2.1)
      (fun (i, b, c, ys, μ') => ⟨[(2, .loc 1 r2 0), (3, .loc 2 r3 0), (14, .val (.slice base x.args.length cap)), (15, .val (.int .i64 x.args.length)), (16, .val (.int .i64 i))],
        [(1, some (.cells r2 [.val (.int .i64 0), .val (.int .i64 0), .val (.string ⟨#[]⟩), .val (.slice none 0 0)] 30)), (2, some (.cells r3 [.val (.int .i64 x.tm.kind), .val (.int .i64 x.tm.num), .val (.string x.tm.name), .row 3 b ys.length c] 30)), (3, some (.row b c 30 4 ys))], 4, μ', Mem.nil⟩) (fun p => x.args.length - p.1)
      (0, none, 0, [], μ) ⟨by simp, Mem.Le.refl μ, .nil⟩ (fun (_, _, _, _, _) => ⟨rfl, rfl⟩) ⟨⟨⟨_, rfl, .inl rfl⟩, ⟨_, rfl, .inl rfl⟩, ⟨_, rfl, .inl rfl⟩, ⟨_, rfl, .inl rfl⟩, ⟨_, rfl, .inl rfl⟩, trivial⟩, ⟨.inl rfl, .inr (.inr ⟨_, _, _, _, rfl, rfl, .inl rfl, .inl rfl, .inl rfl, .inr ⟨3, rfl, rfl, Nat.le_refl _⟩, trivial⟩), .inr (.inl ⟨_, _, rfl, Nat.le_refl _⟩), trivial⟩, rfl, rfl⟩ ?_
    rintro ⟨i, b, c, ys, μ'⟩ ⟨hi, hle, hrows⟩
    dsimp only at hi hle hrows
    have hlen := hrows.len
    simp only [List.length_map, List.length_take] at hlen
    refine ifd (fun h => ?_) (fun h => ?_)
    · obtain ⟨t, ht⟩ := at_some (l := x.args) (i := i) (by omega)
      have ht' : (x.args.map T.tm)[i]? = some t.tm := by simp [ht]
      obtain ⟨ad, p, hel, hr⟩ := Tm.elem (hsl.mono hle) ht'
      refine elem_intro hel ?_
      intro r4
      refine call_plain (ih t (mem_at ht) hr) fun v' μ'' hle2 hR => ?_
      obtain ⟨q, rfl⟩ := Tm.invV hR
      intro r5
      refine grow_intro ?_ ?_ fun b' c' _ => ?_
      · show (ys.length + 1) * 56 ≤ _; omega
      · show ys.length + 1 ≤ 9223372036854775807; omega
      have hsucc : ((x.args.take (i + 1)).map T.tm).map Tm.d = ((x.args.take i).map T.tm).map Tm.d ++ [t.tm.d] := by
        rw [List.take_add_one, ht, Option.toList_some]; simp
      exact num64 (by omega) (by omega) ⟨(i + 1, b', c', _, μ''), ⟨by dsimp only; omega, hle.trans hle2, by rw [hsucc]; exact (hrows.mono hle2).append (Rows.one hR (Tm.d_n _))⟩, by dsimp only; omega, ⟨⟨rfl, rfl, rfl, rfl, rfl, trivial⟩, ⟨rfl, rfl, rfl, trivial⟩, rfl, rfl⟩⟩
    · obtain rfl : i = x.args.length := by omega
      rw [List.take_length] at hrows
      refine ret_frz [3] fun μ2 hle2 hno hrow => .inl ?_
      rw [T.d_eq]
      exact ⟨_, rfl, RepS.int (RepS.int (RepS.str (RepS.last (Rows.sl hrow (hrows.mono hle2) (Nat.le_trans (m := 10) (by omega) (by decide))))))⟩
end Go.Vx

/- Contracts: the program's substitutions: pairs, copies, mapped variables. -/
namespace Go.Vx
open Go.Proofs Classical
section
variable {μ : Mem}
theorem T.leaf_own {x : T} {v : Value} (h : x.args = []) (hv : RepV μ x.tm.d v) : OwnV x.tm.d Mem.nil v := by
  obtain ⟨base, cap, rfl, _⟩ := T.inv hv
  rw [T.d_eq, h]
  rw [T.d_eq, h] at hv
  obtain ⟨cs, e, h1⟩ := hv
  obtain ⟨_, _, rfl, rfl, _, _, rfl, rfl, _, _, rfl, rfl, _, _, rfl, h7, rfl⟩ := h1
  obtain ⟨b, c, rfl, hl, _, _⟩ := h7
  exact ⟨_, e, OwnS.int (OwnS.int (OwnS.str (OwnS.last ⟨b, c, rfl, hl, by simp, .inl ⟨rfl, rfl⟩⟩)))⟩
theorem T.leaf_fresh {x : T} {v : Value} {μ' : Mem} (h : x.args = []) (hv : RepV μ x.tm.d v) : Fresh μ μ' x.tm.d v := ⟨Mem.nil, T.leaf_own h hv, (fun _ _ h => nomatch h), fun _ h => absurd rfl h⟩
/-- Two data of one's own make a row of one's own. -/
theorem two_fresh {μ1 μ2 : Mem} {a b : D} {va vb : Value} (na : a.n = 4) (nb : b.n = 4) (h1 : μ.Le μ1) (h2 : μ1.Le μ2) (ha : Fresh μ μ1 a va) (hb : Fresh μ1 μ2 b vb) : ∃ g, OwnRows 4 [a, b] [va, vb] g ∧ g.Le μ2 ∧ ∀ x, g x ≠ none → μ x = none := by
  obtain ⟨ga, a1, a2, a3⟩ := ha
  obtain ⟨gb, b1, b2, b3⟩ := hb
  have hap := fresh_apart a2 b3
  have k1 := (OwnRows.nil 4).snoc a1 na (Apart.nil_left _)
  have k2 := k1.snoc b1 nb (fun x hx => hap x (by
    rcases join_ne hx with h | h
    · exact absurd rfl h
    · exact h))
  refine ⟨_, k2, join_le (join_le (fun _ _ h => nomatch h) (a2.trans h2)) b2, fun x hx => ?_⟩
  rcases join_ne hx with h | h
  · rcases join_ne h with h | h
    · exact absurd rfl h
    · exact a3 x h
  · cases h0 : μ x with
    | none => rfl
    | some o => have := b3 x h; rw [h1 x o h0] at this; cases this
theorem pair_spec {a b : T} {va vb : Value} {μ0 g : Mem} (ha : RepV μ a.tm.d va) (hb : RepV μ b.tm.d vb) (hg : OwnRows 4 [a.tm.d, b.tm.d] [va, vb] g) (h1 : g.Le μ) (h2 : ∀ x, g x ≠ none → μ0 x = none) (h3 : μ0.Le μ) :
    Spec Try.prog 206 [va, vb] μ fun v μ' => Fresh μ0 μ' (T.pair a b).tm.d v := by
  obtain ⟨p, rfl⟩ := Tm.invV ha
  obtain ⟨q, rfl⟩ := Tm.invV hb
  refine Spec.mk Try.func206 (by kernel_rfl) ?_
  intro r1 r2 r3 r4
  refine ret_frz [3] fun μ' hle hno hrow => .inl ?_
  have hf := Fresh.ofRow hg h1 h2 h3 hle hno hrow (show 2 ≤ maxLen by decide)
  obtain ⟨gg, k1, k2, k3⟩ := hf
  rw [T.d_eq]
  exact ⟨gg, ⟨_, rfl, OwnS.int (OwnS.int (OwnS.str (OwnS.last k1)))⟩, k2, k3⟩
theorem copyTerm_spec : ∀ (x : T) {μ : Mem} {v : Value}, RepV μ x.tm.d v → Spec Try.prog 122 [v] μ fun v μ' => Fresh μ μ' x.tm.d v := by
  intro x
  induction x with
  | pair a b iha ihb =>
    intro μ v hv
    obtain ⟨base', cap', rfl, hsa⟩ := Tm.inv hv
    obtain ⟨ad, ad', p, p', h1, h2, hra, hrb⟩ := T.parts hsa
    refine Spec.mk Try.func122 (by kernel_rfl) ?_
    intro r1 r2
    refine ifnd (fun h => absurd rfl h) (fun _ => ?_)
    refine elem_intro h1 ?_
    refine elem_intro h2 ?_
    refine call_plain (iha hra) fun v1 μ1 hle1 hR1 => ?_
    refine call_plain (ihb (hrb.mono hle1)) fun v2 μ2 hle2 hR2 => ?_
    obtain ⟨g, k1, k2, k3⟩ := two_fresh (Tm.d_n _) (Tm.d_n _) hle1 hle2 hR1 hR2
    obtain ⟨q1, rfl⟩ := Tm.invV hR1.rep
    obtain ⟨q2, rfl⟩ := Tm.invV hR2.rep
    intro r3
    refine ret_frz [2] fun μ' hle hno hrow => .inl ?_
    obtain ⟨gg, g1, g2, g3⟩ := Fresh.ofRow k1 k2 k3 (hle1.trans hle2) hle hno hrow (show 2 ≤ maxLen by decide)
    rw [T.d_eq]
    exact ⟨gg, ⟨_, rfl, OwnS.int (OwnS.int (OwnS.str (OwnS.last g1)))⟩, g2, g3⟩
  | _ =>
    intro μ v hv
    obtain ⟨base', cap', rfl, hsa⟩ := Tm.inv hv
    refine Spec.mk Try.func122 (by kernel_rfl) ?_
    intro r1 r2
    refine ifnd (fun _ => ?_) (fun h => absurd h (by simp))
    refine ret_plain ?_
    rw [T.d_eq]
    exact ⟨Mem.nil, ⟨_, rfl, OwnS.int (OwnS.int (OwnS.str (OwnS.last (Own.nilSl 4))))⟩, (fun _ _ h => nomatch h), fun _ h => absurd rfl h⟩
/-- A closure that looks variables up. -/
def Looks (k : FuncId) (caps : List Value) (μ : Mem) (f : Int → Option T) : Prop :=
  ∀ μ', μ.Le μ' → ∀ n, Spec Try.prog k (.int .i64 n :: caps) μ' fun v μ'' => optV (fun y tv => RepV μ'' y.tm.d tv) (f n) v
theorem mapVars_spec {k : FuncId} {caps : List Value} {f : Int → Option T} : ∀ (x : T) {μ : Mem} {v : Value}, Looks k caps μ f → RepV μ x.tm.d v →
    Spec Try.prog 162 [v, .func (.func k) #[] caps.toArray] μ fun v μ' => Fresh μ μ' (x.subst f).tm.d v := by
  intro x
  induction x with
  | var n =>
    intro μ v hk hv
    obtain ⟨p, rfl⟩ := Tm.invV hv
    refine Spec.mk Try.func162 (by kernel_rfl) ?_
    intro r1 r2
    refine ifd (fun _ => ?_) (fun h => absurd rfl h)
    refine call_plain (hk μ (Mem.Le.refl μ) n) fun v' μ' hle hR => ?_
    simp only [T.subst]
    cases hs : f n with
    | some y =>
      rw [hs] at hR
      obtain ⟨tv, rfl, htv⟩ := hR
      obtain ⟨q, rfl⟩ := Tm.invV htv
      intro r3
      refine if_intro (fun _ => ?_) (fun h => nomatch h)
      refine call_plain (copyTerm_spec y htv) fun v2 μ2 hle2 hR2 => ?_
      obtain ⟨q2, rfl⟩ := Tm.invV hR2.rep
      exact ret_plain (hR2.mono hle (Mem.Le.refl _))
    | none =>
      rw [hs] at hR
      obtain rfl := hR
      intro r3
      refine if_intro (fun h => nomatch h) (fun _ => ?_)
      exact ret_plain (T.leaf_fresh rfl hv)
  | pair a b iha ihb =>
    intro μ v hk hv
    obtain ⟨base', cap', rfl, hsa⟩ := Tm.inv hv
    obtain ⟨ad, ad', p, p', h1, h2, hra, hrb⟩ := T.parts hsa
    refine Spec.mk Try.func162 (by kernel_rfl) ?_
    intro r1 r2
    refine ifd (fun h => absurd h (by simp)) (fun _ => ?_)
    refine ifd (fun _ => ?_) (fun h => absurd rfl h)
    refine elem_intro h1 ?_
    refine elem_intro h2 ?_
    refine call_plain (iha hk hra) fun v1 μ1 hle1 hR1 => ?_
    refine call_plain (ihb (fun μ' h => hk μ' (hle1.trans h)) (hrb.mono hle1)) fun v2 μ2 hle2 hR2 => ?_
    obtain ⟨g, k1, k2, k3⟩ := two_fresh (Tm.d_n _) (Tm.d_n _) hle1 hle2 hR1 hR2
    refine call_plain (pair_spec (hR1.rep.mono hle2) hR2.rep k1 k2 k3 (hle1.trans hle2)) fun v3 μ3 hle3 hR3 => ?_
    obtain ⟨q, rfl⟩ := Tm.invV hR3.rep
    exact ret_plain hR3
  | _ =>
    intro μ v hk hv
    obtain ⟨p, rfl⟩ := Tm.invV hv
    refine Spec.mk Try.func162 (by kernel_rfl) ?_
    intro r1 r2
    refine ifd (fun h => absurd h (by simp [T.tm, Tm.kind])) (fun _ => ?_)
    refine ifd (fun h => absurd h (by simp [T.tm, Tm.kind])) (fun _ => ?_)
    exact ret_plain (T.leaf_fresh rfl hv)
end
end Go.Vx

/- Contracts: the program's substitutions: sizes, searches, values put in. -/
namespace Go.Vx
open Go.Proofs Classical
section
variable {μ : Mem}
/-- A closure that counts what a variable stands for. -/
def Counts (k : FuncId) (caps : List Value) (μ : Mem) (c : Int → Nat) : Prop := ∀ n, Gives Try.prog k (.int .i64 n :: caps) μ (.int .i64 (c n))
def cntOf (f : Int → Option T) (n : Int) : Nat := match f n with | some y => y.size | none => 1
theorem subst_var_size (f : Int → Option T) (n : Int) : ((T.var n).subst f).size = cntOf f n := by
  simp only [T.subst, cntOf]
  cases f n <;> rfl
theorem sizeWith_spec {k : FuncId} {caps : List Value} {f : Int → Option T} (hk : Counts k caps μ (cntOf f)) (hf : ∀ n, cntOf f n ≤ 5000) : ∀ (x : T) {v : Value}, RepV μ x.tm.d v →
    Gives Try.prog 201 [v, .func (.func k) #[] caps.toArray] μ (.int .i64 (min (x.subst f).size 5001 : Nat)) := by
  intro x
  induction x with
  | var n =>
    intro v hv
    obtain ⟨p, rfl⟩ := Tm.invV hv
    have := hf n
    refine Spec.mk Try.func201 (by kernel_rfl) ?_
    intro r1
    refine ifd (fun _ => ?_) (fun h => absurd rfl h)
    refine call_gives (hk n) (ret_gives ?_ rfl)
    rw [subst_var_size]
    congr 1
    show (if (5001 : Int) < (cntOf f n : Int) then (5001 : Int) else (cntOf f n : Int)) = _
    rw [if_neg (by omega)]
    omega
  | pair a b iha ihb =>
    intro v hv
    obtain ⟨base', cap', rfl, hsa⟩ := Tm.inv hv
    obtain ⟨ad, ad', p, p', h1, h2, hra, hrb⟩ := T.parts hsa
    have hs : ((T.pair a b).subst f).size = 1 + (a.subst f).size + (b.subst f).size := rfl
    refine Spec.mk Try.func201 (by kernel_rfl) ?_
    intro r1
    refine ifd (fun h => absurd h (by simp)) (fun _ => ?_)
    refine ifd (fun _ => ?_) (fun h => absurd rfl h)
    refine elem_intro h1 ?_
    refine call_gives (iha hra) ?_
    refine ifd (fun h => ret_gives ?_ rfl) (fun h => ?_)
    · rw [hs]; congr 1; omega
    · refine num64 (by omega) (by omega) ?_
      refine elem_intro h2 ?_
      refine call_gives (ihb hrb) ?_
      refine num64 (by omega) (by omega) (ret_gives ?_ rfl)
      rw [hs]
      congr 1
      split <;> omega
  | _ =>
    intro v hv
    obtain ⟨p, rfl⟩ := Tm.invV hv
    refine Spec.mk Try.func201 (by kernel_rfl) ?_
    intro r1
    refine ifd (fun h => absurd h (by simp [T.tm, Tm.kind])) (fun _ => ?_)
    refine ifd (fun h => absurd h (by simp [T.tm, Tm.kind])) (fun _ => ?_)
    exact ret_gives rfl rfl
theorem wrapu64 {n : Int} (h1 : 0 ≤ n) (h2 : n < 18446744073709551616) : IntKind.u64.wrap n = n := by
  have e : IntKind.u64.bits = 64 := rfl
  have e2 : IntKind.u64.signed = false := rfl
  simp only [IntKind.wrap, e, e2, Bool.false_and]
  simp only [show (2 : Int) ^ 64 = 18446744073709551616 from rfl]
  simp; omega
theorem Search_spec {k : FuncId} {caps : List Value} {p : Int → Prop} {n : Nat} (hn : n ≤ 1000000000) (hk : ∀ i : Nat, i < n → Gives Try.prog k (.int .i64 i :: caps) μ (.bool (decide (p i)))) :
    Spec Try.prog 183 [.int .i64 n, .func (.func k) #[] caps.toArray] μ fun v μ' => (∃ i : Nat, v = .int .i64 i ∧ i ≤ n ∧ (i < n → p i) ∧ ∀ j : Nat, j + 1 = i → ¬ p j) ∧ μ' = μ := by
  refine Spec.mk Try.func183 (by kernel_rfl) ?_
  refine loop_intro (fun q : Nat × Nat => q.1 ≤ q.2 ∧ q.2 ≤ n ∧ (q.2 < n → p q.2) ∧ ∀ j : Nat, j + 1 = q.1 → ¬ p j) (fun (i, j) => ⟨[(1, .val (.func (.func k) #[] caps.toArray)), (5, .val (.int .i64 i)), (6, .val (.int .i64 j))], [], 0, μ, Mem.nil⟩) (fun q => q.2 - q.1)
    (0, n) ⟨by simp, by simp, by simp, fun j hj => by simp at hj⟩ (fun (_, _) => ⟨rfl, rfl⟩) ⟨⟨rfl, rfl, rfl, trivial⟩, trivial, rfl, rfl⟩ ?_
  rintro ⟨i, j⟩ ⟨h1, h2, h3, h4⟩
  dsimp only at h1 h2 h3 h4
  refine ifd (fun h => ?_) (fun h => ?_)
  · refine num64 (by omega) (by omega) ?_
    refine num_eq (wrapu64 (by omega) (by omega)) ?_
    refine need_intro (by omega) ?_
    refine num_eq (x := (((i + j) / 2 : Nat) : Int)) ?_ ?_
    · show Int.fdiv ((i : Int) + j) (2 ^ (min (Int.toNat 1) 64)) = _
      rw [show min (Int.toNat 1) 64 = 1 from rfl, show (2 : Int) ^ 1 = 2 from rfl, Int.fdiv_eq_ediv_of_nonneg _ (by omega)]
      omega
    refine num64 (by omega) (by omega) ?_
    refine call_gives (hk ((i + j) / 2) (by omega)) ?_
    refine ifnd (fun hp => ?_) (fun hp => ?_)
    · refine num64 (by omega) (by omega) ⟨((i + j) / 2 + 1, j), ⟨by dsimp only; omega, h2, h3, fun m hm => ?_⟩, by dsimp only; omega, ⟨⟨rfl, rfl, rfl, trivial⟩, trivial, rfl, rfl⟩⟩
      dsimp only at hm
      obtain rfl : m = (i + j) / 2 := by omega
      exact hp
    · exact ⟨(i, (i + j) / 2), ⟨by dsimp only; omega, by dsimp only; omega, fun _ => hp, h4⟩, by dsimp only; omega, ⟨⟨rfl, rfl, rfl, trivial⟩, trivial, rfl, rfl⟩⟩
  · obtain rfl : i = j := by omega
    exact ret_plain ⟨⟨i, rfl, h2, h3, h4⟩, rfl⟩
end
end Go.Vx

/- Contracts: the program's search for a binding. -/
namespace Go.Vx
open Go.Proofs Classical
/-- Variables in order. -/
def Srt (bs : List B) : Prop := ∀ (i j : Nat) b c, i < j → bs[i]? = some b → bs[j]? = some c → b.var < c.var
section
variable {μ : Mem}
theorem B.elem {bs : List B} {base : Option Addr} {n : Nat} (h : Sl μ 5 base n ((bs.map B.bd).map Bd.d)) {i : Nat} {b : B} (hb : bs[i]? = some b) : ∃ ad, ∃ p : Option Addr × Nat, ElemAt μ base n 5 i ad (b.bd.cs p) ∧ RepV μ b.to.tm.d (.agg (b.to.tm.cs p).toArray) := by
  have hb' : (bs.map B.bd)[i]? = some b.bd := by simp [hb]
  obtain ⟨ad, p, h1, h2⟩ := Bd.elem h hb'
  exact ⟨ad, p, h1, Bd.toV h2⟩
def atLeast (bs : List B) (n : Int) (z : Int) : Prop := ∃ b, bs[z.toNat]? = some b ∧ n ≤ b.var
theorem find1_spec {bs : List B} {base : Option Addr} {cap : Nat} {n : Int} {r1 r2 : Nat} {t1 t2 : TypeId} (hsl : Sl μ 5 base bs.length ((bs.map B.bd).map Bd.d)) (h1 : μ r1 = some (.cells #[.slice base bs.length cap] t1 (0, 0))) (h2 : μ r2 = some (.cells #[.int .i64 n] t2 (0, 0))) {i : Nat} (hi : i < bs.length) :
    Gives Try.prog 184 [.int .i64 i, .pointer (some ⟨r1, 0, none⟩), .pointer (some ⟨r2, 0, none⟩)] μ (.bool (decide (atLeast bs n i))) := by
  obtain ⟨b, hb⟩ := at_some hi
  obtain ⟨ad, p, hel, _⟩ := B.elem hsl hb
  refine Spec.mk Try.func184 (by kernel_rfl) ?_
  refine ext_intro [.slice base bs.length cap] rfl (box_at h1) ?_
  refine elem_intro hel ?_
  refine ext_intro [.int .i64 n] rfl (box_at h2) ?_
  refine ret_gives (isI ?_) rfl
  constructor
  · intro h; exact ⟨b, hb, h⟩
  · rintro ⟨c, hc, h⟩
    have hc : bs[i]? = some c := hc
    rw [hb] at hc; cases hc; exact h
/-- Where a variable is bound. -/
def FindR (bs : List B) (n : Int) (v : Value) : Prop := (∃ (i : Nat) (b : B), v = .int .i64 i ∧ bs[i]? = some b ∧ b.var = n) ∨ (v = .int .i64 (-1) ∧ ∀ b ∈ bs, b.var ≠ n)
theorem find_spec {bs : List B} {base : Option Addr} {cap : Nat} {n : Int} (hs : Srt bs) (hlen : bs.length ≤ 1000000000) (hsl : Sl μ 5 base bs.length ((bs.map B.bd).map Bd.d)) :
    Spec Try.prog 121 [.slice base bs.length cap, .int .i64 n] μ fun v μ' => FindR bs n v ∧ μ' = μ := by
  refine Spec.forget (Spec.mk Try.func121 (by kernel_rfl) ?_)
  intro r1 r2
  refine call_frz [0, 1] ?_
  intro μ1 hle1 hno1 hat1 μ2 hle2 hno2 hat2
  have hsl2 := (hsl.mono hle1).mono hle2
  have e1 : μ2 r1 = some (.cells #[.slice base bs.length cap] 33 (0, 0)) := hle2 _ _ hat1
  refine call_go (Search_spec (p := atLeast bs n) hlen fun i hi => find1_spec hsl2 e1 hat2 hi) fun v μ3 hle3 hR => ?_
  obtain ⟨⟨i, rfl, g1, g2, g3⟩, rfl⟩ := hR
  have low : ∀ (j : Nat) b, j < i → bs[j]? = some b → b.var < n := fun j b hj hb => by
    obtain ⟨c, hc⟩ := at_some (l := bs) (i := i - 1) (by omega)
    have h4 : c.var < n := by
      rcases Int.lt_or_le c.var n with h | h
      · exact h
      · exact absurd ⟨c, hc, h⟩ (g3 (i - 1) (by omega))
    rcases Nat.lt_or_ge j (i - 1) with h | h
    · have := hs j (i - 1) b c h hb hc; omega
    · obtain rfl : j = i - 1 := by omega
      rw [hb] at hc; cases hc; exact h4
  have none : (∀ b, bs[i]? = some b → b.var ≠ n) → FindR bs n (.int .i64 (-1)) := fun h => .inr ⟨rfl, fun b hb => by
    obtain ⟨j, hj⟩ := List.mem_iff_getElem?.1 hb
    rcases Nat.lt_or_ge j i with h1 | h1
    · have := low j b h1 hj; omega
    · have hjl := (List.getElem?_eq_some_iff.1 hj).1
      obtain ⟨c, hc⟩ := at_some (l := bs) (i := i) (by omega)
      obtain ⟨c', hc', h2⟩ := g2 (by omega)
      have hc' : bs[i]? = some c' := hc'
      rw [hc] at hc'; cases hc'
      have := h c hc
      rcases Nat.eq_or_lt_of_le h1 with h3 | h3
      · subst h3; rw [hj] at hc; cases hc; omega
      · have := hs i j c b h3 hc hj; omega⟩
  refine ext_intro [.slice base bs.length cap] rfl (box_at e1) ?_
  refine ifd (fun h => ?_) (fun h => ?_)
  · obtain ⟨b, hb⟩ := at_some (l := bs) (i := i) (by omega)
    obtain ⟨ad, p, hel, _⟩ := B.elem hsl2 hb
    refine ext_intro [.slice base bs.length cap] rfl (box_at e1) ?_
    refine elem_intro hel ?_
    refine ext_intro [.int .i64 n] rfl (box_at hat2) ?_
    refine ifd (fun h2 => ?_) (fun h2 => ?_)
    · exact ret_plain (.inl ⟨i, b, rfl, hb, h2⟩)
    · exact ret_plain (none fun c hc => by rw [hb] at hc; cases hc; exact h2)
  · exact ret_plain (none fun c hc => absurd (List.getElem?_eq_some_iff.1 hc).1 (by omega))
end
end Go.Vx

/- Contracts: the program's put and Instantiate. -/
namespace Go.Vx
open Go.Proofs Classical
theorem Srt.tail {b : B} {bs : List B} (h : Srt (b :: bs)) : Srt bs := fun i j c d hij hc hd => h (i + 1) (j + 1) c d (by omega) (by simpa using hc) (by simpa using hd)
theorem sub_some : ∀ {bs : List B} (_ : Srt bs) {i : Nat} {b : B} {n : Int}, bs[i]? = some b → b.var = n → sub bs n = some b.to
  | [], _, i, b, n, h, _ => by simp at h
  | c :: bs, hs, 0, b, n, h, e => by
    simp only [List.getElem?_cons_zero, Option.some.injEq] at h
    subst h
    rw [sub, if_pos e]
  | c :: bs, hs, i + 1, b, n, h, e => by
    have := hs 0 (i + 1) c b (by omega) rfl h
    rw [sub, if_neg (by omega)]
    exact sub_some hs.tail (by simpa using h) e
theorem sub_none : ∀ {bs : List B} {n : Int}, (∀ b ∈ bs, b.var ≠ n) → sub bs n = none
  | [], _, _ => rfl
  | c :: bs, n, h => by
    rw [sub, if_neg (h c (by simp))]
    exact sub_none fun b hb => h b (by simp [hb])
theorem sub_ok : ∀ {bs : List B} (_ : ∀ b ∈ bs, b.to.ok) {n : Int} {y : T}, sub bs n = some y → y.ok
  | [], _, n, y, h => by simp [sub] at h
  | c :: bs, hk, n, y, h => by
    rw [sub] at h
    split at h
    · cases h; exact hk c (by simp)
    · exact sub_ok (fun b hb => hk b (by simp [hb])) h
theorem valsOk.srt {l : List Bd} (h : valsOk l) : Srt (l.map Bd.b) := by
  intro i j b c hij hb hc
  simp only [List.getElem?_map, Option.map_eq_some_iff] at hb hc
  obtain ⟨b, hb, rfl⟩ := hb
  obtain ⟨c, hc, rfl⟩ := hc
  show b.var < c.var
  induction j generalizing c with
  | zero => omega
  | succ j ih =>
    have hj : j < l.length := by have := (List.getElem?_eq_some_iff.1 hc).1; omega
    obtain ⟨d, hd⟩ := at_some hj
    have h1 := (h.2 (j + 1) c hc).2.2 j d rfl hd
    rcases Nat.lt_or_ge i j with h2 | h2
    · have := ih h2 d hd; omega
    · obtain rfl : i = j := by omega
      rw [hb] at hd; cases hd; exact h1
section
variable {μ : Mem}
theorem put1_looks {bs : List B} {base : Option Addr} {cap : Nat} {r : Nat} {ty : TypeId} (hs : Srt bs) (hlen : bs.length ≤ 1000000000) (hsl : Sl μ 5 base bs.length ((bs.map B.bd).map Bd.d)) (h : μ r = some (.cells #[.slice base bs.length cap] ty (0, 0))) :
    Looks 156 [.pointer (some ⟨r, 0, none⟩)] μ (sub bs) := fun μ' hle n => by
  have hsl := hsl.mono hle
  have h : μ' r = _ := hle _ _ h
  refine Spec.mk Try.func156 (by kernel_rfl) ?_
  intro r1
  refine ext_intro [.slice base bs.length cap] rfl (box_at h) ?_
  refine call_plain (find_spec hs hlen hsl) fun v μ2 hle2 hR => ?_
  obtain ⟨hR, e2⟩ := hR
  obtain rfl := e2.symm
  rcases hR with ⟨i, b, rfl, hb, hn⟩ | ⟨rfl, hno⟩
  · rw [sub_some hs hb hn]
    obtain ⟨ad, p, hel, hto⟩ := B.elem hsl hb
    refine ifd (fun _ => ?_) (fun h => absurd h (by omega))
    refine ext_intro [.slice base bs.length cap] rfl (box_at h) ?_
    refine elem_intro hel ?_
    exact ret_plain ⟨_, rfl, hto⟩
  · rw [sub_none hno]
    refine ifd (fun h => absurd h (by omega)) (fun _ => ?_)
    exact ret_plain rfl
theorem replaced1_counts {k : FuncId} {caps : List Value} {f : Int → Option T} {r : Nat} {ty : TypeId} (hk : Looks k caps μ f) (hf : ∀ n y, f n = some y → y.ok) (h : μ r = some (.cells #[.func (.func k) #[] caps.toArray] ty (0, 0))) :
    Counts 202 [.pointer (some ⟨r, 0, none⟩)] μ (cntOf f) := fun n => by
  refine (Spec.forget (R := fun v => v = .int .i64 (cntOf f n)) (Spec.mk Try.func202 (by kernel_rfl) ?_))
  refine ext_intro [.func (.func k) #[] caps.toArray] rfl (box_at h) ?_
  refine call_plain (hk μ (Mem.Le.refl μ) n) fun v μ1 hle1 hR => ?_
  simp only [cntOf]
  cases hs : f n with
  | some y =>
    rw [hs] at hR
    obtain ⟨tv, rfl, htv⟩ := hR
    obtain ⟨q, rfl⟩ := Tm.invV htv
    intro r3
    refine if_intro (fun _ => ?_) (fun h => nomatch h)
    refine call_gives (nodesOf_spec y.tm htv (by decide) (by decide)) ?_
    have hy := (hf n y hs).tm
    rw [Tm.nodes_pos hy.1 (by have := hy.2; omega), T.cnt_tm]
    exact ret_plain rfl
  | none =>
    rw [hs] at hR
    obtain rfl := hR
    intro r3
    refine if_intro (fun h => nomatch h) (fun _ => ?_)
    exact ret_plain rfl
/-- A substituted term, if it is not too big. -/
noncomputable def fit (x : T) : Option T := if x.size ≤ 5000 then some x else none
theorem replaced_spec {k : FuncId} {caps : List Value} {f : Int → Option T} (x : T) {v : Value} (hk : Looks k caps μ f) (hf : ∀ n y, f n = some y → y.ok) (hv : RepV μ x.tm.d v) :
    Spec Try.prog 155 [v, .func (.func k) #[] caps.toArray] μ fun v μ' => optV (fun y tv => Fresh μ μ' y.tm.d tv) (fit (x.subst f)) v := by
  obtain ⟨p, rfl⟩ := Tm.invV hv
  have hc : ∀ n, cntOf f n ≤ 5000 := fun n => by
    simp only [cntOf]
    split
    · rename_i y hy
      exact (hf n y hy).2
    · omega
  refine Spec.mk Try.func155 (by kernel_rfl) ?_
  intro r1 r2 r3
  refine call_frz [1] ?_
  intro μ1 hle1 hno1 hat1
  have hk1 : Looks k caps μ1 f := fun μ' h => hk μ' (hle1.trans h)
  refine call_go (sizeWith_spec (replaced1_counts hk1 hf hat1) hc x (hv.mono hle1)) fun v μ2 hle2 hR => ?_
  obtain ⟨rfl, e2⟩ := hR
  obtain rfl := e2.symm
  refine ifd (fun h => ?_) (fun h => ?_)
  · rw [fit, if_neg (by omega)]
    exact ret_plain rfl
  · rw [fit, if_pos (by omega)]
    refine ext_intro [.func (.func k) #[] caps.toArray] rfl (box_at hat1) ?_
    refine call_plain (mapVars_spec x hk1 (hv.mono hle1)) fun v2 μ3 hle3 hR3 => ?_
    obtain ⟨q, rfl⟩ := Tm.invV hR3.rep
    exact ret_plain ⟨_, rfl, hR3.mono hle1 (Mem.Le.refl _)⟩
theorem put_spec {bs : List B} {base : Option Addr} {cap : Nat} (x : T) {v : Value} (hs : Srt bs) (hlen : bs.length ≤ 1000000000) (hk : ∀ b ∈ bs, b.to.ok) (hsl : Sl μ 5 base bs.length ((bs.map B.bd).map Bd.d)) (hv : RepV μ x.tm.d v) :
    Spec Try.prog 77 [.slice base bs.length cap, v] μ fun v μ' => optV (fun y tv => Fresh μ μ' y.tm.d tv) (fit (x.subst (sub bs))) v := by
  obtain ⟨p, rfl⟩ := Tm.invV hv
  refine Spec.mk Try.func77 (by kernel_rfl) ?_
  intro r1 r2 r3
  refine call_frz [0] ?_
  intro μ1 hle1 hno1 hat1
  refine call_go (replaced_spec x (put1_looks hs hlen (hsl.mono hle1) hat1) (fun n y h => sub_ok hk h) (hv.mono hle1)) fun v μ2 hle2 hR => ?_
  cases hf : fit (x.subst (sub bs)) with
  | some y =>
    rw [hf] at hR
    obtain ⟨tv, rfl, htv⟩ := hR
    obtain ⟨q, rfl⟩ := Tm.invV htv.rep
    exact ret_plain ⟨_, rfl, htv.mono hle1 (Mem.Le.refl _)⟩
  | none =>
    rw [hf] at hR
    obtain rfl := hR
    exact ret_plain rfl
end
end Go.Vx

/- Contracts: terms compared. -/
namespace Go.Vx
open Go.Proofs Classical
def sgn (b : Bool) : Int := if b then -1 else 1
/-- The comparison of two terms' own fields, then the rest. -/
noncomputable def hdCmp (x y : Tm) (rest : Int) : Int :=
  if x.kind ≠ y.kind then sgn (decide (x.kind < y.kind)) else if x.num ≠ y.num then sgn (decide (x.num < y.num)) else if x.name ≠ y.name then sgn (Op.bytesLess x.name.data.toList y.name.data.toList) else rest
noncomputable def T.cmp : T → T → Int
  | .pair a b, .pair c d => if a.cmp c = 0 then b.cmp d else a.cmp c
  | .pair a b, .nil => hdCmp (T.pair a b).tm T.nil.tm 0
  | .pair a b, .var n => hdCmp (T.pair a b).tm (T.var n).tm 0
  | .pair a b, .sym n => hdCmp (T.pair a b).tm (T.sym n).tm 0
  | .pair a b, .num n => hdCmp (T.pair a b).tm (T.num n).tm 0
  | .nil, y => hdCmp T.nil.tm y.tm 0
  | .var n, y => hdCmp (T.var n).tm y.tm 0
  | .sym n, y => hdCmp (T.sym n).tm y.tm 0
  | .num n, y => hdCmp (T.num n).tm y.tm 0
theorem sgn_ne (b : Bool) : sgn b ≠ 0 := by cases b <;> simp [sgn]
theorem hdCmp_zero {x y : Tm} {r : Int} : hdCmp x y r = 0 ↔ x.kind = y.kind ∧ x.num = y.num ∧ x.name = y.name ∧ r = 0 := by
  unfold hdCmp
  split
  · rename_i h; exact ⟨fun k => absurd k (sgn_ne _), fun k => absurd k.1 h⟩
  · split
    · rename_i h; exact ⟨fun k => absurd k (sgn_ne _), fun k => absurd k.2.1 h⟩
    · split
      · rename_i h; exact ⟨fun k => absurd k (sgn_ne _), fun k => absurd k.2.2.1 h⟩
      · rename_i h1 h2 h3
        exact ⟨fun k => ⟨Classical.not_not.1 h1, Classical.not_not.1 h2, Classical.not_not.1 h3, k⟩, fun k => k.2.2.2⟩
theorem T.cmp_zero : ∀ x y : T, x.cmp y = 0 ↔ x = y := by
  intro x
  induction x with
  | pair a b iha ihb =>
    intro y
    cases y with
    | pair c d =>
      rw [T.cmp, T.pair.injEq, ← iha, ← ihb]
      split
      · rename_i h; exact ⟨fun k => ⟨h, k⟩, fun k => k.2⟩
      · rename_i h; exact ⟨fun k => absurd k h, fun k => absurd k.1 h⟩
    | _ => rw [T.cmp, hdCmp_zero]; simp [T.tm, Tm.kind]
  | _ =>
    intro y
    rw [T.cmp, hdCmp_zero]
    cases y <;> simp [T.tm, Tm.kind, Tm.num, Tm.name]
theorem hd1 {x y : Tm} {r : Int} (h : ¬ x.kind = y.kind) : hdCmp x y r = sgn (decide (x.kind < y.kind)) := by rw [hdCmp, if_pos h]
theorem hd2 {x y : Tm} {r : Int} (h1 : x.kind = y.kind) (h : ¬ x.num = y.num) : hdCmp x y r = sgn (decide (x.num < y.num)) := by rw [hdCmp, if_neg (fun k => k h1), if_pos h]
theorem hd3 {x y : Tm} {r : Int} (h1 : x.kind = y.kind) (h2 : x.num = y.num) (h : ¬ x.name = y.name) : hdCmp x y r = sgn (Op.bytesLess x.name.data.toList y.name.data.toList) := by rw [hdCmp, if_neg (fun k => k h1), if_neg (fun k => k h2), if_pos h]
theorem hd4 {x y : Tm} {r : Int} (h1 : x.kind = y.kind) (h2 : x.num = y.num) (h : x.name = y.name) : hdCmp x y r = r := by rw [hdCmp, if_neg (fun k => k h1), if_neg (fun k => k h2), if_neg (fun k => k h)]
section
variable {μ : Mem}
theorem orderInts_spec (a b : Int) (h : ¬ a = b) : Gives Try.prog 182 [.int .i64 a, .int .i64 b] μ (.int .i64 (sgn (decide (a < b)))) := by
  refine Spec.mk Try.func182 (by kernel_rfl) ?_
  refine ifd (fun h1 => ret_gives ?_ rfl) (fun h1 => ?_)
  · rw [decide_eq_true h1]; rfl
  refine ifd (fun h2 => ret_gives ?_ rfl) (fun h2 => by omega)
  rw [decide_eq_false h1]; rfl
theorem l02Sign_spec (b : Bool) : Gives Try.prog 203 [.bool b] μ (.int .i64 (sgn b)) := by
  refine Spec.mk Try.func203 (by kernel_rfl) ?_
  refine if_intro (fun h1 => ret_gives ?_ rfl) (fun h1 => ret_gives ?_ rfl)
  · rw [h1]; rfl
  · rw [h1]; rfl
noncomputable def T.rest : T → T → Int
  | .pair a b, .pair c d => if a.cmp c = 0 then b.cmp d else a.cmp c
  | _, _ => 0
theorem T.cmp_eq (x y : T) : x.cmp y = hdCmp x.tm y.tm (x.rest y) := by
  cases x with
  | pair a b =>
    cases y with
    | pair c d => rw [T.cmp, hd4 (x := (T.pair a b).tm) (y := (T.pair c d).tm) rfl rfl rfl]; rfl
    | _ => rw [T.cmp]; rfl
  | _ => rw [T.cmp]; rfl
theorem T.rest_at {x y : T} {i : Nat} {p q : T} (h : ∀ j p q, j < i → x.args[j]? = some p → y.args[j]? = some q → p.cmp q = 0) (hp : x.args[i]? = some p) (hq : y.args[i]? = some q) (hne : p.cmp q ≠ 0) : x.rest y = p.cmp q := by
  cases x with
  | pair a b =>
    cases y with
    | pair c d =>
      simp only [T.rest]
      match i, hp, hq with
      | 0, hp, hq => cases hp; cases hq; rw [if_neg hne]
      | 1, hp, hq =>
        cases hp; cases hq
        have := h 0 a c (by omega) rfl rfl
        rw [if_pos this]
      | i + 2, hp, hq => simp [T.args] at hp
    | _ => simp [T.args] at hq
  | _ => simp [T.args] at hp
theorem T.rest_zero {x y : T} (h : ∀ (j : Nat) p q, j < x.args.length → x.args[j]? = some p → y.args[j]? = some q → p.cmp q = 0) : x.rest y = 0 := by
  cases x with
  | pair a b =>
    cases y with
    | pair c d =>
      have h0 := h 0 a c (by simp [T.args]) rfl rfl
      have h1 := h 1 b d (by simp [T.args]) rfl rfl
      simp only [T.rest]
      rw [if_pos h0, h1]
    | _ => rfl
  | _ => rfl
theorem T.args_kind {x y : T} (h : x.tm.kind = y.tm.kind) : x.args.length = y.args.length := by
  cases x <;> cases y <;> simp_all [T.tm, Tm.kind, T.args]
theorem T.kind4 {x : T} (h : x.tm.kind = 4) : ∃ a b, x = .pair a b := by
  cases x <;> simp_all [T.tm, Tm.kind]
theorem T.arg {μ : Mem} {x : T} {base : Option Addr} (h : Sl μ 4 base x.args.length ((x.args.map T.tm).map Tm.d)) {i : Nat} {y : T} (hy : x.args[i]? = some y) : ∃ ad, ∃ p : Option Addr × Nat, ElemAt μ base x.args.length 4 i ad (y.tm.cs p) ∧ RepV μ y.tm.d (.agg (y.tm.cs p).toArray) :=
  Tm.elem h (by simp [hy])
theorem orderTerms_spec : ∀ (x y : T) {v w : Value}, RepV μ x.tm.d v → RepV μ y.tm.d w → Gives Try.prog 158 [v, w] μ (.int .i64 (x.cmp y)) :=
  T.ind fun x ih y v w hv hw => by
    obtain ⟨b1, c1, rfl, hs1⟩ := T.inv hv
    obtain ⟨b2, c2, rfl, hs2⟩ := T.inv hw
    rw [T.cmp_eq]
    refine Spec.mk Try.func158 (by kernel_rfl) ?_
    intro r1 r2
    refine ifnd (fun h => ?_) (fun h1 => ?_)
    · exact call_gives (orderInts_spec _ _ h) (ret_gives (by rw [hd1 h]) rfl)
    refine ifnd (fun h => ?_) (fun h2 => ?_)
    · exact call_gives (orderInts_spec _ _ h) (ret_gives (by rw [hd2 h1 h]) rfl)
    refine ifnd (fun h => ?_) (fun h3 => ?_)
    · refine if_intro (fun h4 => ret_gives ?_ rfl) (fun h4 => ret_gives ?_ rfl)
      · rw [hd3 h1 h2 h, h4]; rfl
      · rw [hd3 h1 h2 h, h4]; rfl
    rw [hd4 h1 h2 h3]
    refine ifnd (fun h => ?_) (fun h4 => ?_)
    · refine ret_gives ?_ rfl
      have : x.rest y = 0 := by cases x <;> first | rfl | exact absurd rfl h
      rw [this]
    obtain ⟨a, b, rfl⟩ := T.kind4 h4
    obtain ⟨c, d, rfl⟩ := T.kind4 (h1 ▸ h4)
    obtain ⟨ad1, p1, e1, g1⟩ := T.arg hs1 (i := 0) rfl
    obtain ⟨ad2, p2, e2, g2⟩ := T.arg hs2 (i := 0) rfl
    obtain ⟨ad3, p3, e3, g3⟩ := T.arg hs1 (i := 1) rfl
    obtain ⟨ad4, p4, e4, g4⟩ := T.arg hs2 (i := 1) rfl
    refine elem_intro e1 (elem_intro e2 (call_gives (ih a (by simp [T.args]) c g1 g2) ?_))
    simp only [T.rest]
    refine ifnd (fun h => ?_) (fun h5 => ?_)
    · rw [if_neg h]; exact ret_gives rfl rfl
    · rw [if_pos h5]
      exact elem_intro e3 (elem_intro e4 (call_gives (ih b (by simp [T.args]) d g3 g4) (ret_gives rfl rfl)))
theorem l02Cmp_spec : ∀ (x y : T) {v w : Value}, RepV μ x.tm.d v → RepV μ y.tm.d w → Gives Try.prog 157 [v, w] μ (.int .i64 (x.cmp y)) :=
  T.ind fun x ih y v w hv hw => by
    obtain ⟨b1, c1, rfl, hs1⟩ := T.inv hv
    obtain ⟨b2, c2, rfl, hs2⟩ := T.inv hw
    have hn := T.args_le x
    rw [T.cmp_eq]
    refine Spec.mk Try.func157 (by kernel_rfl) ?_
    intro r1 r2
    refine ifnd (fun h => ?_) (fun h1 => ?_)
    · exact call_gives (l02Sign_spec _) (ret_gives (by rw [hd1 h]) rfl)
    refine ifnd (fun h => ?_) (fun h2 => ?_)
    · exact call_gives (l02Sign_spec _) (ret_gives (by rw [hd2 h1 h]) rfl)
    refine ifnd (fun h => ?_) (fun h3 => ?_)
    · exact call_gives (l02Sign_spec _) (ret_gives (by rw [hd3 h1 h2 h]) rfl)
    rw [hd4 h1 h2 h3]
    have hlen := T.args_kind h1
    refine loop_intro (fun i : Nat => i ≤ x.args.length ∧ ∀ j p q, j < i → x.args[j]? = some p → y.args[j]? = some q → p.cmp q = 0) (fun i => ⟨[(2, .loc 0 r1 0), (3, .loc 1 r2 0), (5, .val (.int .i64 i))], [(0, some (.cells r1 [.val (.int .i64 x.tm.kind), .val (.int .i64 x.tm.num), .val (.string x.tm.name), .val (.slice b1 x.args.length c1)] 30)), (1, some (.cells r2 [.val (.int .i64 y.tm.kind), .val (.int .i64 y.tm.num), .val (.string y.tm.name), .val (.slice b2 y.args.length c2)] 30))], 2, μ, Mem.nil⟩) (fun i => x.args.length - i)
      0 ⟨by omega, fun j p q hj => by omega⟩ (fun i => ⟨rfl, rfl⟩) ⟨⟨rfl, rfl, rfl, trivial⟩, ⟨rfl, rfl, trivial⟩, rfl, rfl⟩ ?_
    rintro i ⟨hi, hz⟩
    refine ifd (fun h => ?_) (fun h => ?_)
    · refine ifd (fun h' => ?_) (fun h' => by omega)
      obtain ⟨p, hp⟩ := at_some (l := x.args) (i := i) (by omega)
      obtain ⟨q, hq⟩ := at_some (l := y.args) (i := i) (by omega)
      obtain ⟨ad1, p1, e1, g1⟩ := T.arg hs1 hp
      obtain ⟨ad2, p2, e2, g2⟩ := T.arg hs2 hq
      refine elem_intro e1 (elem_intro e2 (call_gives (ih p (mem_at hp) q g1 g2) ?_))
      refine ifnd (fun h5 => ?_) (fun h5 => ?_)
      · rw [T.rest_at hz hp hq h5]; exact ret_gives rfl rfl
      · refine num64 (by omega) (by omega) ⟨i + 1, ⟨by omega, fun j p' q' hj hp' hq' => ?_⟩, by omega, ⟨⟨rfl, rfl, rfl, trivial⟩, ⟨rfl, rfl, trivial⟩, rfl, rfl⟩⟩
        rcases Nat.lt_or_ge j i with h6 | h6
        · exact hz j p' q' h6 hp' hq'
        · obtain rfl : j = i := by omega
          rw [hp] at hp'; rw [hq] at hq'; cases hp'; cases hq'; exact h5
    · obtain rfl : i = x.args.length := by omega
      rw [T.rest_zero hz]
      exact ret_gives rfl rfl
theorem equalTerms_spec (x y : T) {v w : Value} (hv : RepV μ x.tm.d v) (hw : RepV μ y.tm.d w) : Gives Try.prog 85 [v, w] μ (.bool (decide (x = y))) := by
  obtain ⟨p, rfl⟩ := Tm.invV hv
  obtain ⟨q, rfl⟩ := Tm.invV hw
  refine Spec.mk Try.func85 (by kernel_rfl) ?_
  intro r1 r2
  exact call_gives (orderTerms_spec x y hv hw) (ret_gives (isI (T.cmp_zero x y)) rfl)
theorem l02Same_spec (x y : T) {v w : Value} (hv : RepV μ x.tm.d v) (hw : RepV μ y.tm.d w) : Gives Try.prog 82 [v, w] μ (.bool (decide (x = y))) := by
  obtain ⟨p, rfl⟩ := Tm.invV hv
  obtain ⟨q, rfl⟩ := Tm.invV hw
  refine Spec.mk Try.func82 (by kernel_rfl) ?_
  intro r1 r2
  exact call_gives (l02Cmp_spec x y hv hw) (ret_gives (isI (T.cmp_zero x y)) rfl)
/-- A variable as a term. -/
def varV (n : Int) : Value := .agg #[.int .i64 1, .int .i64 n, .string ⟨#[]⟩, .slice none 0 0]
theorem varV_own (n : Int) : OwnV (T.var n).tm.d Mem.nil (varV n) := by
  rw [T.d_eq]
  exact ⟨_, rfl, OwnS.int (OwnS.int (OwnS.str (OwnS.last (Own.nilSl 4))))⟩
theorem varV_rep (n : Int) : RepV μ (T.var n).tm.d (varV n) := (varV_own n).rep (fun _ _ h => nomatch h)
theorem variable_spec (n : Int) : Gives Try.prog 84 [.int .i64 n] μ (varV n) := by
  refine Spec.mk Try.func84 (by kernel_rfl) ?_
  intro r1
  exact ret_gives rfl rfl
theorem l02Var_spec (n : Int) : Gives Try.prog 81 [.int .i64 n] μ (varV n) := by
  refine Spec.mk Try.func81 (by kernel_rfl) ?_
  intro r1
  exact ret_gives rfl rfl
end
end Go.Vx

/- Contracts: variables in the order in which they come. -/
namespace Go.Vx
open Go.Proofs Classical
noncomputable def ord (acc : List Int) (n : Int) : List Int := if n ∈ acc then acc else acc ++ [n]
noncomputable def ordAll (acc vs : List Int) : List Int := vs.foldl ord acc
theorem ordAll_append (acc a b : List Int) : ordAll acc (a ++ b) = ordAll (ordAll acc a) b := List.foldl_append
theorem ord_length (acc : List Int) (n : Int) : (ord acc n).length ≤ acc.length + 1 := by unfold ord; split <;> simp
theorem ordAll_length : ∀ (vs acc : List Int), (ordAll acc vs).length ≤ acc.length + vs.length
  | [], acc => by simp [ordAll]
  | n :: vs, acc => by
    have h1 := ordAll_length vs (ord acc n)
    have h2 := ord_length acc n
    simp only [ordAll, List.foldl_cons, List.length_cons] at *
    omega
theorem ord_mem (acc : List Int) (n m : Int) : m ∈ ord acc n ↔ m = n ∨ m ∈ acc := by
  unfold ord
  split
  · rename_i h
    exact ⟨.inr, fun k => k.elim (fun e => e ▸ h) id⟩
  · simp only [List.mem_append, List.mem_singleton]
    exact or_comm
theorem ordAll_mem : ∀ (vs acc : List Int) (m : Int), m ∈ ordAll acc vs ↔ m ∈ vs ∨ m ∈ acc
  | [], acc, m => by simp [ordAll]
  | n :: vs, acc, m => by
    have := ordAll_mem vs (ord acc n) m
    simp only [ordAll, List.foldl_cons] at *
    rw [this, ord_mem, List.mem_cons]
    constructor
    · rintro (h | h | h) <;> simp [h]
    · rintro ((h | h) | h) <;> simp [h]
theorem ord_nodup {acc : List Int} (h : acc.Nodup) (n : Int) : (ord acc n).Nodup := by
  unfold ord
  split
  · exact h
  · rename_i hn
    refine List.nodup_append.2 ⟨h, by simp, fun a ha b hb => ?_⟩
    simp only [List.mem_singleton] at hb
    subst hb
    exact fun e => hn (e ▸ ha)
theorem ordAll_nodup : ∀ (vs : List Int) {acc : List Int}, acc.Nodup → (ordAll acc vs).Nodup
  | [], _, h => h
  | n :: vs, acc, h => ordAll_nodup vs (ord_nodup h n)
section
variable {μ : Mem}
/-- What the program's closure owns: the set of those seen, and those in order. -/
def OrdInv (rm ro : Nat) (acc : List Int) (h : Mem) : Prop := ∃ r rr cap l, h rm = some (.cells #[.map (some r)] 224 (0, 0)) ∧ h ro = some (.cells #[.slice (some ⟨rr, 0, none⟩) acc.length cap] 169 (0, 0)) ∧
  h r = some (mapO l) ∧ MapOk IntKey l ∧ (∀ n, mget l (.int .i64 n) = if n ∈ acc then some (.bool true) else none) ∧ RowO h rr cap 3 1 (ints acc)
theorem orderedVars1_spec {rm ro : Nat} {acc : List Int} {h : Mem} (n : Int) (hb : acc.length ≤ 1000000000000) (H : OrdInv rm ro acc h) :
    SpecH Try.prog 205 [.int .i64 n, .pointer (some ⟨rm, 0, none⟩), .pointer (some ⟨ro, 0, none⟩)] μ h fun v μ' h' => v = .tuple #[] ∧ μ' = μ ∧ OrdInv rm ro (ord acc n) h' := by
  have H0 := H
  obtain ⟨r, rr, cap, l, h1, h2, h3, hk, hg, hr⟩ := H
  refine SpecH.mk [] Try.func205 (by kernel_rfl) ?_
  refine own_intro [.map (some r)] rfl (box_at h1) ?_
  by_cases hn : n ∈ acc
  · refine look_intro l (some (.bool true)) h3 (hk.weaken (by rintro _ ⟨n, rfl⟩; rfl)) rfl (by rw [hg, if_pos hn]) ?_
    refine if_intro (fun h => nomatch h) (fun _ => ?_)
    exact ret_plain ⟨rfl, rfl, by rw [ord, if_pos hn]; exact H0⟩
  · refine look_intro l none h3 (hk.weaken (by rintro _ ⟨n, rfl⟩; rfl)) rfl (by rw [hg, if_neg hn]) ?_
    refine if_intro (fun _ => ?_) (fun h => nomatch h)
    obtain ⟨cs, hcs⟩ := hr.obj
    have e1 : rm ≠ r := ne_of_obj h1 h3 (by simp [mapO])
    have e2 : ro ≠ r := ne_of_obj h2 h3 (by simp [mapO])
    have e3 : rr ≠ r := ne_of_obj hcs h3 (by simp [mapO])
    have e4 : rm ≠ ro := ne_of_obj h1 h2 (by simp)
    have e5 : rr ≠ rm := ne_of_obj hcs h1 (by simp)
    have e6 : rr ≠ ro := ne_of_obj hcs h2 (by simp)
    refine own_intro [.map (some r)] rfl (box_at h1) ?_
    refine upd_intro l h3 (hk.weaken (by rintro _ ⟨n, rfl⟩; rfl)) rfl ?_
    generalize hl' : mset l (.int .i64 n) (.bool true) = l'
    have g2 : (h.set r (mapO l')) ro = some (.cells #[.slice (some ⟨rr, 0, none⟩) acc.length cap] 169 (0, 0)) := by rw [Mem.set_ne e2]; exact h2
    refine own_intro [.slice (some ⟨rr, 0, none⟩) acc.length cap] rfl (box_at g2) ?_
    intro r1
    refine app_intro (ints acc) (by simp [ints]) (hr.set_ne e3) ?_ ?_ fun r' cap' o hrow hor => ?_
    · show (acc.length + 1) * 8 ≤ _; omega
    · exact Nat.le_trans (show acc.length + 1 ≤ 1000000000001 by omega) (by decide)
    dsimp only at hrow hor
    have f1 : rm ≠ r' := by
      rcases hor with e | ⟨e, _⟩
      · rw [e]; exact e5.symm
      · exact ne_of_none (by rw [Mem.set_ne e1]; exact h1) e
    have f2 : ro ≠ r' := by
      rcases hor with e | ⟨e, _⟩
      · rw [e]; exact e6.symm
      · exact ne_of_none g2 e
    have f3 : r ≠ r' := by
      rcases hor with e | ⟨e, _⟩
      · rw [e]; exact e3.symm
      · exact ne_of_none (Mem.set_at _ _ _) e
    refine sto_intro [.slice (some ⟨rr, 0, none⟩) acc.length cap] 169 (by show (Mem.set (Mem.set h r (mapO l')) r' o) ro = _; rw [Mem.set_ne f2]; exact g2) rfl (Nat.le_refl _) ?_
    refine ret_plain ⟨rfl, rfl, r, r', cap', l', ?_, ?_, ?_, ?_, ?_, ?_⟩
    · show (Mem.set (Mem.set (Mem.set h r (mapO l')) r' o) ro _) rm = _
      rw [Mem.set_ne e4, Mem.set_ne f1, Mem.set_ne e1]; exact h1
    · show (Mem.set (Mem.set (Mem.set h r (mapO l')) r' o) ro _) ro = _
      rw [Mem.set_at, ord, if_neg hn]
      simp
    · show (Mem.set (Mem.set (Mem.set h r (mapO l')) r' o) ro _) r = _
      rw [Mem.set_ne e2.symm, Mem.set_ne f3, Mem.set_at]
    · rw [← hl']; exact hk.int _
    · intro m
      rw [← hl', mget_int, hg, ord, if_neg hn]
      by_cases e : m = n
      · subst e; rw [if_pos rfl, if_pos (by simp)]
      · rw [if_neg e]
        by_cases e' : m ∈ acc
        · rw [if_pos e', if_pos (by simp [e'])]
        · rw [if_neg e', if_neg (by simp [e', e])]
    · have e : ints (ord acc n) = ints acc ++ [.int .i64 n] := by rw [ord, if_neg hn]; simp [ints]
      rw [e]
      exact hrow.set_ne f2.symm
theorem flat_vars_length {xs : List T} (hx : ∀ x ∈ xs, x.size ≤ 5000) : (xs.flatMap T.vars).length ≤ xs.length * 5000 := by
  induction xs with
  | nil => simp
  | cons x xs ih =>
    have h1 := T.vars_size x
    have h2 := hx x (by simp)
    have h3 := ih fun y hy => hx y (by simp [hy])
    simp only [List.flatMap_cons, List.length_append, List.length_cons]
    omega
theorem flat_take {α β : Type} {f : α → List β} {xs : List α} {i : Nat} {x : α} (h : xs[i]? = some x) : (xs.take (i + 1)).flatMap f = (xs.take i).flatMap f ++ f x := by
  rw [List.take_add_one, h, Option.toList_some, List.flatMap_append]; simp
theorem impl_orderedVars_spec {xs : List T} {base : Option Addr} {cap : Nat} (hsl : Sl μ 4 base xs.length ((xs.map T.tm).map Tm.d)) (hx : ∀ x ∈ xs, x.size ≤ 5000) (hn : xs.length ≤ 10000000) :
    Spec Try.prog 161 [.slice base xs.length cap] μ fun v μ' => RepV μ' (.sl 1 ((ordAll [] (xs.flatMap T.vars)).map D.i)) v := by
  have htot := flat_vars_length hx
  refine Spec.mkO [7, 3, 4] Try.func161 (by kernel_rfl) ?_
  intro r7 hm7 ho7 r3 hm3 ho3
  refine sto_intro [.slice none 0 0] 169 (Mem.set_at _ _ _) rfl (Nat.le_refl _) ?_
  intro rM hmM hoM r4 hm4 ho4
  refine sto_intro [.map none] 224 (Mem.set_at _ _ _) rfl (Nat.le_refl _) ?_
  generalize hh : Mem.set (Mem.set _ r4 _) r4 _ = h0
  have n1 : r7 ≠ r3 := fun e => by subst e; simp [Mem.set_get] at ho3
  have n2 : rM ≠ r3 := fun e => by subst e; simp [Mem.set_get] at hoM
  have n3 : rM ≠ r7 := fun e => by subst e; simp [Mem.set_get, n1] at hoM
  have n4 : r4 ≠ rM := fun e => by subst e; simp [Mem.set_get] at ho4
  have n5 : r4 ≠ r3 := fun e => by subst e; simp [Mem.set_get, n2.symm] at ho4
  have n6 : r4 ≠ r7 := fun e => by subst e; simp [Mem.set_get, n1, n3.symm] at ho4
  have H0 : OrdInv r4 r3 [] h0 := by
    subst hh
    refine ⟨rM, r7, 0, [], ?_, ?_, ?_, MapOk.nil, fun n => rfl, ⟨[], ?_, Nat.le_refl _, Nat.zero_le _, by simp [ints], by simp, by simp [ints]⟩⟩
    · dsimp only; rw [Mem.set_at]; rfl
    · dsimp only; rw [Mem.set_ne n5.symm, Mem.set_ne n5.symm, Mem.set_ne n2.symm, Mem.set_at]; rfl
    · dsimp only; rw [Mem.set_ne n4.symm, Mem.set_ne n4.symm, Mem.set_at]
    · dsimp only; rw [Mem.set_ne n6.symm, Mem.set_ne n6.symm, Mem.set_ne n3.symm, Mem.set_ne n1, Mem.set_ne n1, Mem.set_at]; rfl
  have A0 : Apart μ h0 := by
    subst hh
    exact (((((((apart_nil μ).set hm7).set hm3).set hm3).set hmM).set hm4).set hm4)
  refine loop_intro (fun p : Nat × Mem => p.1 ≤ xs.length ∧ Apart μ p.2 ∧ OrdInv r4 r3 (ordAll [] ((xs.take p.1).flatMap T.vars)) p.2)
    (fun (i, h) => ⟨[(3, .val (.pointer (some ⟨r3, 0, none⟩))), (4, .val (.pointer (some ⟨r4, 0, none⟩))), (9, .val (.slice base xs.length cap)), (10, .val (.int .i64 xs.length)), (11, .val (.int .i64 i))], [], 0, μ, h⟩) (fun p => xs.length - p.1)
    (0, h0) ⟨by simp, A0, H0⟩ (fun (_, _) => ⟨rfl, rfl⟩) ⟨⟨rfl, rfl, rfl, rfl, rfl, trivial⟩, trivial, rfl, rfl⟩ ?_
  rintro ⟨i, h⟩ ⟨hi, hap, hJ⟩
  dsimp only at hi hap hJ
  refine ifd (fun hlt => ?_) (fun hlt => ?_)
  · obtain ⟨x, hx'⟩ := at_some (l := xs) (i := i) (by omega)
    obtain ⟨ad, p, hel, hto⟩ := Tm.elem (i := i) (t := x.tm) hsl (by simp [hx'])
    have hpre := flatMap_take_le T.vars xs i
    have hsz := T.vars_size x
    have hsz2 := hx x (mem_at hx')
    refine elem_intro hel ?_
    intro r
    refine call_own (eachVar_rel (OrdInv r4 r3) ord (fun s _ => s.length ≤ 1000000000000) (fun s h n hq hj => orderedVars1_spec n hq hj) x _ h hto (fun pre n post e => ?_) hJ) fun v μ' h' hle hap' hR => ?_
    · have h1 := ordAll_length pre (ordAll [] ((xs.take i).flatMap T.vars))
      have h2 := ordAll_length ((xs.take i).flatMap T.vars) []
      have h3 : pre.length ≤ x.vars.length := by rw [e]; simp
      show (ordAll _ pre).length ≤ _
      simp only [List.length_nil] at h2
      omega
    obtain ⟨rfl, e2, hj'⟩ := hR
    obtain rfl := e2.symm
    refine num64 (by omega) (by omega) ⟨(i + 1, h'), ⟨by dsimp only; omega, hap', ?_⟩, by dsimp only; omega, ⟨⟨rfl, rfl, rfl, rfl, rfl, trivial⟩, trivial, rfl, rfl⟩⟩
    dsimp only
    rw [flat_take hx', ordAll_append]
    exact hj'
  · obtain rfl : i = xs.length := by omega
    rw [List.take_length] at hJ
    obtain ⟨r, rr, cap', l, g1, g2, g3, gk, gg, gr⟩ := hJ
    refine own_intro [.slice (some ⟨rr, 0, none⟩) (ordAll [] (xs.flatMap T.vars)).length cap'] rfl (box_at g2) ?_
    refine ret_own h Mem.nil (Parts.nil_right h) ?_
    have := gr.rep (Mem.le_join_right hap) (Ints.rows (ordAll [] (xs.flatMap T.vars)))
    simpa [ints] using this
/-! ### The reference's -/
theorem l02Has_spec {l : List Int} {base : Option Addr} {cap : Nat} {n : Int} (hsl : Sl μ 1 base l.length (l.map D.i)) : Gives Try.prog 233 [.slice base l.length cap, .int .i64 n] μ (.bool (decide (n ∈ l))) := by
  have hn := maxLen_le hsl.max
  refine Spec.mk Try.func233 (by kernel_rfl) ?_
  refine loop_intro (fun i : Nat => i ≤ l.length ∧ n ∉ l.take i) (fun i => ⟨[(1, .val (.int .i64 n)), (7, .val (.slice base l.length cap)), (8, .val (.int .i64 l.length)), (9, .val (.int .i64 i))], [], 0, μ, Mem.nil⟩) (fun i => l.length - i)
    0 ⟨by omega, by simp⟩ (fun i => ⟨rfl, rfl⟩) ⟨⟨rfl, rfl, rfl, rfl, trivial⟩, trivial, rfl, rfl⟩ ?_
  rintro i ⟨hi, hno⟩
  refine ifd (fun h => ?_) (fun h => ?_)
  · obtain ⟨x, hx⟩ := at_some (l := l) (i := i) (by omega)
    obtain ⟨ad, hel⟩ := Ints.elem hsl hx
    refine elem_intro hel ?_
    refine ifd (fun h2 => ret_gives (isT (by rw [← h2]; exact mem_at hx)) rfl) (fun h2 => ?_)
    refine num64 (by omega) (by omega) ⟨i + 1, ⟨by omega, ?_⟩, by omega, ⟨⟨rfl, rfl, rfl, rfl, trivial⟩, trivial, rfl, rfl⟩⟩
    rw [List.take_add_one, hx, Option.toList_some, List.mem_append, List.mem_singleton]
    rintro (k | k)
    · exact hno k
    · exact h2 k.symm
  · obtain rfl : i = l.length := by omega
    rw [List.take_length] at hno
    exact ret_gives (isF hno) rfl
theorem l07Order_spec : ∀ (x : T) {h : Mem} {r cap : Nat} {acc : List Int} {w : Value}, RepV μ x.tm.d w → RowO h r cap 3 1 (ints acc) → acc.length + x.vars.length ≤ 1000000000000 →
    SpecH Try.prog 204 [w, .slice (some ⟨r, 0, none⟩) acc.length cap] μ h fun v μ' h' => μ' = μ ∧ ∃ r' cap', v = .slice (some ⟨r', 0, none⟩) (ordAll acc x.vars).length cap' ∧ RowO h' r' cap' 3 1 (ints (ordAll acc x.vars)) :=
  T.ind fun x ih h r cap acc w hw hr hb => by
    obtain ⟨base, cap2, rfl, hsl⟩ := T.inv hw
    have hn := T.args_le x
    refine SpecH.mkA [] Try.func204 (by kernel_rfl) (by kernel_rfl) fun hap => ?_
    intro r0
    have main : (x.tm.kind = 1 → x.tm.num ∈ acc) → x.vars.foldl ord acc = (x.args.flatMap T.vars).foldl ord acc := fun hk => by
      cases x with
      | var n =>
        have : n ∈ acc := hk rfl
        simp [T.vars, T.args, ord, this]
      | _ => simp [T.vars, T.args]
    by_cases hk : x.tm.kind = 1 ∧ x.tm.num ∉ acc
    · obtain ⟨hk1, hk2⟩ := hk
      have e : x.vars = [x.tm.num] := by cases x <;> simp_all [T.vars, T.tm, Tm.kind, Tm.num]
      refine ifd (fun _ => ?_) (fun h => absurd hk1 h)
      refine call_read hap (l02Has_spec (hr.ints (Mem.le_join_right hap))) ?_
      refine ifnd (fun _ => ?_) (fun h => absurd h hk2)
      intro r1
      refine app_intro (ints acc) (by simp [ints]) hr ?_ ?_ fun r' cap' o hrow hor => ?_
      · show (acc.length + 1) * 8 ≤ _; omega
      · exact Nat.le_trans (show acc.length + 1 ≤ 1000000000001 by omega) (by decide)
      have e2 : ordAll acc x.vars = acc ++ [x.tm.num] := by rw [e]; simp [ordAll, ord, hk2]
      rw [e2]
      refine ret_plain ⟨rfl, r', cap', by simp, ?_⟩
      have : ints (acc ++ [x.tm.num]) = ints acc ++ [.int .i64 x.tm.num] := by simp [ints]
      rw [this]; exact hrow
    · have hk' : x.tm.kind = 1 → x.tm.num ∈ acc := fun h => Classical.not_not.1 fun h2 => hk ⟨h, h2⟩
      have e2 : ordAll acc x.vars = ordAll acc (x.args.flatMap T.vars) := main hk'
      have hvl : (x.args.flatMap T.vars).length ≤ x.vars.length := by cases x <;> simp [T.vars, T.args]
      rw [e2]
      refine ifd (fun h1 => ?_) (fun h1 => ?_)
      · refine call_read hap (l02Has_spec (hr.ints (Mem.le_join_right hap))) ?_
        refine ifnd (fun h2 => absurd (hk' h1) h2) (fun _ => ?_)
        refine loop_intro (fun p : Nat × Nat × Nat × Mem => p.1 ≤ x.args.length ∧ Apart μ p.2.2.2 ∧ RowO p.2.2.2 p.2.1 p.2.2.1 3 1 (ints (ordAll acc ((x.args.take p.1).flatMap T.vars))))
          (fun (i, r, cap, h) => ⟨[(1, .val (.slice (some ⟨r, 0, none⟩) (ordAll acc ((x.args.take i).flatMap T.vars)).length cap)), (23, .val (.slice base x.args.length cap2)), (24, .val (.int .i64 x.args.length)), (25, .val (.int .i64 i))], [], 1, μ, h⟩) (fun p => x.args.length - p.1)
          (0, r, cap, h) ⟨by simp, hap, hr⟩ (fun (_, _, _, _) => ⟨rfl, rfl⟩) ⟨⟨rfl, rfl, rfl, rfl, trivial⟩, trivial, rfl, rfl⟩ ?_
        rintro ⟨i, r, cap, h⟩ ⟨hi, hap, hr⟩
        dsimp only at hi hap hr
        refine ifd (fun hlt => ?_) (fun hlt => ?_)
        · obtain ⟨t, ht⟩ := at_some (l := x.args) (i := i) (by omega)
          obtain ⟨ad, p, hel, hto⟩ := T.arg hsl ht
          have hl1 := ordAll_length ((x.args.take i).flatMap T.vars) acc
          have hl2 : ((x.args.take (i + 1)).flatMap T.vars).length ≤ (x.args.flatMap T.vars).length := flatMap_take_le _ _ _
          rw [flat_take ht, List.length_append] at hl2
          refine elem_intro hel ?_
          intro r2
          refine call_own (ih t (mem_at ht) hto hr (by omega)) fun v μ' h' hle hap' hR => ?_
          obtain ⟨e3, r', cap', rfl, hr'⟩ := hR
          obtain rfl := e3.symm
          refine num64 (by omega) (by omega) ⟨(i + 1, r', cap', h'), ⟨by dsimp only; omega, hap', ?_⟩, by dsimp only; omega, ⟨⟨?_, rfl, rfl, rfl, trivial⟩, trivial, rfl, rfl⟩⟩
          · dsimp only; rw [flat_take ht, ordAll_append]; exact hr'
          · rw [flat_take ht, ordAll_append]; rfl
        · obtain rfl : i = x.args.length := by omega
          rw [List.take_length] at *
          exact ret_plain ⟨rfl, r, cap, rfl, hr⟩
      · refine loop_intro (fun p : Nat × Nat × Nat × Mem => p.1 ≤ x.args.length ∧ Apart μ p.2.2.2 ∧ RowO p.2.2.2 p.2.1 p.2.2.1 3 1 (ints (ordAll acc ((x.args.take p.1).flatMap T.vars))))
          (fun (i, r, cap, h) => ⟨[(1, .val (.slice (some ⟨r, 0, none⟩) (ordAll acc ((x.args.take i).flatMap T.vars)).length cap)), (23, .val (.slice base x.args.length cap2)), (24, .val (.int .i64 x.args.length)), (25, .val (.int .i64 i))], [], 1, μ, h⟩) (fun p => x.args.length - p.1)
          (0, r, cap, h) ⟨by simp, hap, hr⟩ (fun (_, _, _, _) => ⟨rfl, rfl⟩) ⟨⟨rfl, rfl, rfl, rfl, trivial⟩, trivial, rfl, rfl⟩ ?_
        rintro ⟨i, r, cap, h⟩ ⟨hi, hap, hr⟩
        dsimp only at hi hap hr
        refine ifd (fun hlt => ?_) (fun hlt => ?_)
        · obtain ⟨t, ht⟩ := at_some (l := x.args) (i := i) (by omega)
          obtain ⟨ad, p, hel, hto⟩ := T.arg hsl ht
          have hl1 := ordAll_length ((x.args.take i).flatMap T.vars) acc
          have hl2 : ((x.args.take (i + 1)).flatMap T.vars).length ≤ (x.args.flatMap T.vars).length := flatMap_take_le _ _ _
          rw [flat_take ht, List.length_append] at hl2
          refine elem_intro hel ?_
          intro r2
          refine call_own (ih t (mem_at ht) hto hr (by omega)) fun v μ' h' hle hap' hR => ?_
          obtain ⟨e3, r', cap', rfl, hr'⟩ := hR
          obtain rfl := e3.symm
          refine num64 (by omega) (by omega) ⟨(i + 1, r', cap', h'), ⟨by dsimp only; omega, hap', ?_⟩, by dsimp only; omega, ⟨⟨?_, rfl, rfl, rfl, trivial⟩, trivial, rfl, rfl⟩⟩
          · dsimp only; rw [flat_take ht, ordAll_append]; exact hr'
          · rw [flat_take ht, ordAll_append]; rfl
        · obtain rfl : i = x.args.length := by omega
          rw [List.take_length] at *
          exact ret_plain ⟨rfl, r, cap, rfl, hr⟩
theorem spec_OrderedVars_spec {xs : List T} {base : Option Addr} {cap : Nat} (hsl : Sl μ 4 base xs.length ((xs.map T.tm).map Tm.d)) (hw : D.wds ((xs.map T.tm).map Tm.d)) (hx : ∀ x ∈ xs, x.ok) (hn : xs.length ≤ 10000000) :
    Spec Try.prog 160 [.slice base xs.length cap] μ fun v μ' => RepV μ' (.sl 1 ((ordAll [] (xs.flatMap T.vars)).map D.i)) v := by
  have htot := flat_vars_length fun x h => (hx x h).2
  refine Spec.mkO [9] Try.func160 (by kernel_rfl) ?_
  have hall := l02AllOk_spec (l := xs.map T.tm) (cap := cap) (by rw [List.length_map]; exact hsl) hw
  rw [List.length_map] at hall
  refine call_gives hall ?_
  refine ifnd (fun h => absurd (fun t ht => ?_) h) (fun _ => ?_)
  · obtain ⟨x, hx', rfl⟩ := List.mem_map.1 ht
    exact (hx x hx').tm
  intro r9 hm9 ho9
  have A0 : Apart μ (Mem.nil.set r9 (.cells (List.toArray (([] : List Value).flatMap vcells)) 3 (0, 0))) := (apart_nil μ).set hm9
  have R0 : RowO (Mem.nil.set r9 (.cells (List.toArray (([] : List Value).flatMap vcells)) 3 (0, 0))) r9 0 3 1 (ints []) := RowO.mk_nil _ _ _ _
  refine loop_intro (fun p : Nat × Nat × Nat × Mem => p.1 ≤ xs.length ∧ Apart μ p.2.2.2 ∧ RowO p.2.2.2 p.2.1 p.2.2.1 3 1 (ints (ordAll [] ((xs.take p.1).flatMap T.vars))))
    (fun (i, r, c, h) => ⟨[(3, .val (.slice (some ⟨r, 0, none⟩) (ordAll [] ((xs.take i).flatMap T.vars)).length c)), (10, .val (.slice base xs.length cap)), (11, .val (.int .i64 xs.length)), (12, .val (.int .i64 i))], [], 0, μ, h⟩) (fun p => xs.length - p.1)
    (0, r9, 0, _) ⟨by simp, A0, R0⟩ (fun (_, _, _, _) => ⟨rfl, rfl⟩) ⟨⟨rfl, rfl, rfl, rfl, trivial⟩, trivial, rfl, rfl⟩ ?_
  rintro ⟨i, r, c, h⟩ ⟨hi, hap, hr⟩
  dsimp only at hi hap hr
  refine ifd (fun hlt => ?_) (fun hlt => ?_)
  · obtain ⟨x, hx'⟩ := at_some (l := xs) (i := i) (by omega)
    obtain ⟨ad, p, hel, hto⟩ := Tm.elem (i := i) (t := x.tm) hsl (by simp [hx'])
    have hl1 := ordAll_length ((xs.take i).flatMap T.vars) []
    have hl2 := flatMap_take_le T.vars xs (i + 1)
    rw [flat_take hx', List.length_append] at hl2
    simp only [List.length_nil] at hl1
    refine elem_intro hel ?_
    intro r2
    refine call_own (l07Order_spec x hto hr (by omega)) fun v μ' h' hle hap' hR => ?_
    obtain ⟨e3, r', cap', rfl, hr'⟩ := hR
    obtain rfl := e3.symm
    refine num64 (by omega) (by omega) ⟨(i + 1, r', cap', h'), ⟨by dsimp only; omega, hap', ?_⟩, by dsimp only; omega, ⟨⟨?_, rfl, rfl, rfl, trivial⟩, trivial, rfl, rfl⟩⟩
    · dsimp only; rw [flat_take hx', ordAll_append]; exact hr'
    · rw [flat_take hx', ordAll_append]; rfl
  · obtain rfl : i = xs.length := by omega
    rw [List.take_length] at *
    refine ret_own h Mem.nil (Parts.nil_right h) ?_
    have := hr.rep (Mem.le_join_right hap) (Ints.rows (ordAll [] (xs.flatMap T.vars)))
    simpa [ints] using this
end
end Go.Vx

/- Contracts: bindings inserted; names by number; the reference's canonical terms. -/
namespace Go.Vx
open Go.Proofs Classical
section
variable {μ : Mem}
theorem Rep.val : ∀ {d : D} {c : List Value}, Rep μ d c → ∃ v, RepV μ d v ∧ vcells v = c
  | .st fs, c, h => ⟨.agg c.toArray, ⟨c, rfl, h⟩, by simp [vcells]⟩
  | .i n, c, h => by
    have h2 : c = [.int .i64 n] := h
    subst h2; exact ⟨_, h, rfl⟩
  | .b x, c, h => by
    have h2 : c = [.bool x] := h
    subst h2; exact ⟨_, h, rfl⟩
  | .s x, c, h => by
    have h2 : c = [.string x] := h
    subst h2; exact ⟨_, h, rfl⟩
  | .sl es xs, c, h => by
    obtain ⟨base, cap, h1, h2⟩ := h
    subst h1
    exact ⟨_, ⟨base, cap, rfl, h2⟩, rfl⟩
theorem RepS.rows {es : Nat} : ∀ {l : List D} {flat : List Value}, RepS μ l flat → (∀ x ∈ l, x.n = es) → ∃ vs, Rows μ es l vs ∧ vs.flatMap vcells = flat
  | [], flat, h, _ => by
    have h : flat = [] := h
    subst h; exact ⟨[], .nil, rfl⟩
  | d :: l, flat, h, hn => by
    obtain ⟨c1, c2, rfl, h1, h2⟩ := h
    obtain ⟨v, hv, rfl⟩ := Rep.val h1
    obtain ⟨vs, hr, rfl⟩ := RepS.rows h2 fun x hx => hn x (by simp [hx])
    exact ⟨v :: vs, .cons hv (hn d (by simp)) hr, by simp⟩
theorem Rows.take {es : Nat} : ∀ {ds : List D} {vs : List Value} (k : Nat), Rows μ es ds vs → Rows μ es (ds.take k) (vs.take k)
  | _, _, 0, _ => by simpa using Rows.nil
  | _, _, k + 1, .nil => by simpa using Rows.nil
  | _, _, k + 1, .cons h hn r => by simpa using Rows.cons h hn (r.take k)
theorem Rows.drop {es : Nat} : ∀ {ds : List D} {vs : List Value} (k : Nat), Rows μ es ds vs → Rows μ es (ds.drop k) (vs.drop k)
  | _, _, 0, h => by simpa using h
  | _, _, k + 1, .nil => by simpa using Rows.nil
  | _, _, k + 1, .cons h hn r => by simpa using r.drop k
theorem Rows.size {es : Nat} : ∀ {ds : List D} {vs : List Value}, Rows μ es ds vs → ∀ v ∈ vs, (vcells v).length = es ∧ ∀ u ∈ vcells v, u.oneCell' = true
  | _, _, .nil, v, hv => by simp at hv
  | _, _, .cons h hn r, v, hv => by
    rcases List.mem_cons.1 hv with rfl | hv
    · exact ⟨by rw [Rep.len _ _ h.cells]; exact hn, Rep.one _ _ h.cells⟩
    · exact r.size v hv
/-- A slice's elements as a row that an append may read. -/
theorem Rep.src {es n cap : Nat} {base : Option Addr} {ds : List D} (h : RepV μ (.sl es ds) (.slice base n cap)) :
    ∃ vs, Rows μ es ds vs ∧ vs.length = n ∧ n ≤ cap ∧ ∀ a b, a ≤ b → b ≤ n → SrcAt μ (if cap = a then base else base.map (·.add (a * es))) (b - a) es ((vs.drop a).take (b - a)) := by
  have h' : Rep μ (.sl es ds) [.slice base n cap] := h
  have hcap := Rep.lens h'
  obtain ⟨b0, c0, h1, h2, h3, h4⟩ := h'
  simp only [List.cons.injEq, and_true] at h1
  obtain ⟨rfl, rfl, rfl⟩ := Value.slice.inj h1
  have : ∃ vs, Rows μ es ds vs ∧ (ds = [] ∨ ∃ a0, base = some a0 ∧ CellsAt μ a0 (vs.flatMap vcells)) := by
    rcases h4 with rfl | ⟨a0, flat, g1, g2, g3⟩
    · exact ⟨[], .nil, .inl rfl⟩
    · obtain ⟨vs, hr, rfl⟩ := RepS.rows g3 h3
      exact ⟨vs, hr, .inr ⟨a0, g1, g2⟩⟩
  obtain ⟨vs, hr, hc⟩ := this
  have hlen := hr.len
  refine ⟨vs, hr, hlen.symm, hcap, fun a b hab hb => ⟨by simp; omega, fun y hy => hr.size y (List.mem_of_mem_drop (List.mem_of_mem_take hy)), ?_⟩⟩
  rcases Nat.eq_or_lt_of_le hab with e | hlt
  · exact .inl (by omega)
  · right
    rcases hc with e | ⟨a0, e, hcell⟩
    · subst e; simp at hb; omega
    · subst e
      refine ⟨a0.add (a * es), by rw [if_neg (by omega)]; rfl, fun j v hj => ?_⟩
      rw [add_add]
      refine hcell _ _ ?_
      have e1 : vs.flatMap vcells = (vs.take a).flatMap vcells ++ (((vs.drop a).take (b - a)).flatMap vcells ++ ((vs.drop a).drop (b - a)).flatMap vcells) := by
        rw [← List.flatMap_append, List.take_append_drop, ← List.flatMap_append, List.take_append_drop]
      have e2 : ((vs.take a).flatMap vcells).length = a * es := by
        rw [flat_len (es := es) (vs.take a) fun y hy => (hr.size y (List.mem_of_mem_take hy)).1]
        congr 1; simp; omega
      rw [e1, List.getElem?_append_right (by omega), e2, Nat.add_sub_cancel_left, List.getElem?_append_left (List.getElem?_eq_some_iff.1 hj).1]
      exact hj
/-! ### Insertion -/
def insAt {α : Type} (l : List α) (x : α) (k : Nat) : List α := l.take k ++ ([x] ++ l.drop k)
theorem insAt_mem {α : Type} (l : List α) (x y : α) (k : Nat) : y ∈ insAt l x k ↔ y = x ∨ y ∈ l := by
  have h2 : y ∈ l ↔ y ∈ l.take k ∨ y ∈ l.drop k := by rw [← List.mem_append, List.take_append_drop]
  simp only [insAt, List.mem_append, List.mem_singleton, h2]
  constructor
  · rintro (h | h | h) <;> simp [h]
  · rintro (h | h | h) <;> simp [h]
theorem insAt_length {α : Type} (l : List α) (x : α) (k : Nat) : (insAt l x k).length = l.length + 1 := by
  have := congrArg List.length (List.take_append_drop k l)
  simp only [insAt, List.length_append, List.length_singleton] at *
  omega
theorem insAt_map {α β : Type} (f : α → β) (l : List α) (x : α) (k : Nat) : (insAt l x k).map f = insAt (l.map f) (f x) k := by
  simp [insAt]
/-- Where an insertion goes, seen from the right. -/
def InsPos (bs : List B) (n : Int) (k : Nat) : Prop := k ≤ bs.length ∧ (∀ c, bs[k - 1]? = some c → 0 < k → c.var ≤ n) ∧ ∀ j c, k ≤ j → bs[j]? = some c → n < c.var
theorem sub_append (a c : List B) (n : Int) : sub (a ++ c) n = (sub a n).or (sub c n) := by
  induction a with
  | nil => simp [sub]
  | cons b a ih =>
    simp only [List.cons_append, sub]
    split
    · simp
    · exact ih
theorem sub_insAt {bs : List B} {b : B} (h : ∀ c ∈ bs, c.var ≠ b.var) (k : Nat) (n : Int) : sub (insAt bs b k) n = if b.var = n then some b.to else sub bs n := by
  have e := List.take_append_drop k bs
  have e2 : sub bs n = (sub (bs.take k) n).or (sub (bs.drop k) n) := by rw [← sub_append, e]
  rw [insAt, sub_append, sub_append, e2]
  by_cases hn : b.var = n
  · have h1 : sub (bs.take k) n = none := sub_none fun c hc => by rw [← hn]; exact h c (List.mem_of_mem_take hc)
    rw [if_pos hn, h1]
    simp [sub, hn]
  · rw [if_neg hn]
    simp [sub, hn]
theorem sub_mem {bs : List B} {b : B} (h : b ∈ bs) : sub bs b.var ≠ none := by
  induction bs with
  | nil => simp at h
  | cons c bs ih =>
    rw [sub]
    split
    · simp
    · rename_i hne
      rcases List.mem_cons.1 h with e | h
      · subst e; exact absurd rfl hne
      · exact ih h
theorem l04Insert_spec {bs : List B} {b : B} {v vb : Value} (hv : RepV μ (.sl 5 ((bs.map B.bd).map Bd.d)) v) (hb : RepV μ b.bd.d vb) (hn : bs.length ≤ 1000000000) :
    Spec Try.prog 119 [v, vb] μ fun v μ' => ∃ k, InsPos bs b.var k ∧ RepV μ' (.sl 5 (((insAt bs b k).map B.bd).map Bd.d)) v := by
  obtain ⟨base, cap, rfl, hsl⟩ := Rep.sl hv
  rw [List.length_map, List.length_map] at hsl hv ⊢
  obtain ⟨p, rfl⟩ := Bd.invV hb
  obtain ⟨vs, hrows, hvl, hcap, hsrc⟩ := Rep.src hv
  refine Spec.mk Try.func119 (by kernel_rfl) ?_
  intro r
  refine loop_intro (fun k : Nat => k ≤ bs.length ∧ ∀ (j : Nat) c, k ≤ j → bs[j]? = some c → b.var < c.var) (fun k => ⟨[(0, .val (.slice base bs.length cap)), (3, .loc 0 r 0), (5, .val (.int .i64 k))], [(0, some (.cells r [.val (.int .i64 b.bd.var), .val (.int .i64 b.bd.to.kind), .val (.int .i64 b.bd.to.num), .val (.string b.bd.to.name), .val (.slice p.1 b.bd.to.args.length p.2)] 114))], 1, μ, Mem.nil⟩) (fun k => k)
    bs.length ⟨Nat.le_refl _, fun j c hj hc => absurd (List.getElem?_eq_some_iff.1 hc).1 (by omega)⟩ (fun i => ⟨rfl, rfl⟩) ⟨⟨rfl, rfl, rfl, trivial⟩, ⟨rfl, trivial⟩, rfl, rfl⟩ ?_
  rintro k ⟨hk, hgt⟩
  refine ifd (fun h1 => ?_) (fun h1 => ?_)
  · obtain ⟨c, hc⟩ := at_some (l := bs) (i := k - 1) (by omega)
    obtain ⟨ad, q, hel, _⟩ := B.elem hsl hc
    refine num_eq (x := ((k - 1 : Nat) : Int)) (by rw [wrap64 (by omega) (by omega)]; omega) ?_
    refine elem_intro hel ?_
    refine ifd (fun h2 => ?_) (fun h2 => ?_)
    · refine num_eq (x := ((k - 1 : Nat) : Int)) (by rw [wrap64 (by omega) (by omega)]; omega) ⟨k - 1, ⟨by omega, fun j c' hj hc' => ?_⟩, by omega, ⟨⟨rfl, rfl, rfl, trivial⟩, ⟨rfl, trivial⟩, rfl, rfl⟩⟩
      rcases Nat.lt_or_ge j k with h3 | h3
      · obtain rfl : j = k - 1 := by omega
        rw [hc] at hc'; cases hc'; exact h2
      · exact hgt j c' h3 hc'
    · have hpos : InsPos bs b.var k := ⟨hk, fun c' hc' _ => by rw [hc] at hc'; cases hc'; exact Int.not_lt.1 h2, hgt⟩
      intro r0
      refine cut_intro 0 k rfl rfl (by omega) (by omega) ?_
      refine src_intro _ (hsrc 0 k (by omega) hk) ?_
      refine grow_intro ?_ ?_ fun b1 c1 _ => ?_
      · show (0 + _) * 64 ≤ _; simp; omega
      · exact Nat.le_trans (m := 2000000000) (by simp; omega) (by decide)
      intro r1
      refine grow_intro ?_ ?_ fun b2 c2 _ => ?_
      · show (_ + 1) * 64 ≤ _; simp; omega
      · exact Nat.le_trans (m := 2000000000) (by simp; omega) (by decide)
      refine cut_intro k bs.length rfl rfl hk (by omega) ?_
      refine src_intro _ (hsrc k bs.length hk (Nat.le_refl _)) ?_
      refine grow_intro ?_ ?_ fun b3 c3 _ => ?_
      · show (_ + _) * 64 ≤ _; simp; omega
      · exact Nat.le_trans (m := 3000000000) (by simp; omega) (by decide)
      refine ret_frz [1] fun μ' hle hno hrow => .inl ⟨k, hpos, ?_⟩
      have hr2 := ((hrows.take k).append ((Rows.one hb (Bd.d_n _)).append (hrows.drop k))).mono hle
      have e : (([] : List Value) ++ (vs.drop 0).take (k - 0) ++ [.agg #[.int .i64 b.bd.var, .int .i64 b.bd.to.kind, .int .i64 b.bd.to.num, .string b.bd.to.name, .slice p.1 b.bd.to.args.length p.2]] ++ (vs.drop k).take (bs.length - k)) = vs.take k ++ ([.agg #[.int .i64 b.bd.var, .int .i64 b.bd.to.kind, .int .i64 b.bd.to.num, .string b.bd.to.name, .slice p.1 b.bd.to.args.length p.2]] ++ vs.drop k) := by
        simp
        rw [List.take_of_length_le (by simp; omega)]
      rw [e] at hrow ⊢
      have e2 : ((insAt bs b k).map B.bd).map Bd.d = ((bs.map B.bd).map Bd.d).take k ++ ([b.bd.d] ++ ((bs.map B.bd).map Bd.d).drop k) := by simp [insAt]
      rw [e2]
      exact Rows.sl hrow hr2 (Nat.le_trans (m := 3000000000) (by simp; omega) (by decide))
  · have hpos : InsPos bs b.var k := ⟨hk, fun c' hc' h => by omega, hgt⟩
    intro r0
    refine cut_intro 0 k rfl rfl (by omega) (by omega) ?_
    refine src_intro _ (hsrc 0 k (by omega) hk) ?_
    refine grow_intro ?_ ?_ fun b1 c1 _ => ?_
    · show (0 + _) * 64 ≤ _; simp; omega
    · exact Nat.le_trans (m := 2000000000) (by simp; omega) (by decide)
    intro r1
    refine grow_intro ?_ ?_ fun b2 c2 _ => ?_
    · show (_ + 1) * 64 ≤ _; simp; omega
    · exact Nat.le_trans (m := 2000000000) (by simp; omega) (by decide)
    refine cut_intro k bs.length rfl rfl hk (by omega) ?_
    refine src_intro _ (hsrc k bs.length hk (Nat.le_refl _)) ?_
    refine grow_intro ?_ ?_ fun b3 c3 _ => ?_
    · show (_ + _) * 64 ≤ _; simp; omega
    · exact Nat.le_trans (m := 3000000000) (by simp; omega) (by decide)
    refine ret_frz [1] fun μ' hle hno hrow => .inl ⟨k, hpos, ?_⟩
    have hr2 := ((hrows.take k).append ((Rows.one hb (Bd.d_n _)).append (hrows.drop k))).mono hle
    have e : (([] : List Value) ++ (vs.drop 0).take (k - 0) ++ [.agg #[.int .i64 b.bd.var, .int .i64 b.bd.to.kind, .int .i64 b.bd.to.num, .string b.bd.to.name, .slice p.1 b.bd.to.args.length p.2]] ++ (vs.drop k).take (bs.length - k)) = vs.take k ++ ([.agg #[.int .i64 b.bd.var, .int .i64 b.bd.to.kind, .int .i64 b.bd.to.num, .string b.bd.to.name, .slice p.1 b.bd.to.args.length p.2]] ++ vs.drop k) := by
      simp
      rw [List.take_of_length_le (by simp; omega)]
    rw [e] at hrow ⊢
    have e2 : ((insAt bs b k).map B.bd).map Bd.d = ((bs.map B.bd).map Bd.d).take k ++ ([b.bd.d] ++ ((bs.map B.bd).map Bd.d).drop k) := by simp [insAt]
    rw [e2]
    exact Rows.sl hrow hr2 (Nat.le_trans (m := 3000000000) (by simp; omega) (by decide))
/-! ### Names by number -/
noncomputable def canonF (vs : List Int) (n : Int) : Option T := if n ∈ vs then some (.var (vs.idxOf n)) else none
theorem idx_at : ∀ {l : List Int} (_ : l.Nodup) {i : Nat} {n : Int}, l[i]? = some n → l.idxOf n = i
  | [], _, i, n, h => by simp at h
  | a :: l, hn, 0, n, h => by
    simp only [List.getElem?_cons_zero, Option.some.injEq] at h
    subst h; simp
  | a :: l, hn, i + 1, n, h => by
    simp only [List.getElem?_cons_succ] at h
    simp only [List.nodup_cons] at hn
    have hne : ¬ a = n := fun e => hn.1 (by subst e; exact List.mem_of_getElem? h)
    have hb : (a == n) = false := by simp [hne]
    rw [List.idxOf_cons, hb, idx_at hn.2 h]
    rfl
theorem l07Names_spec {l : List Int} {v : Value} (hv : RepV μ (.sl 1 (l.map D.i)) v) (hnd : l.Nodup) (hn : l.length ≤ 100000000) :
    Spec Try.prog 159 [v] μ fun v μ' => ∃ bs : List B, RepV μ' (.sl 5 ((bs.map B.bd).map Bd.d)) v ∧ ∀ n, sub bs n = canonF l n := by
  obtain ⟨base, cap, rfl, hsl⟩ := Rep.sl hv
  rw [List.length_map] at hsl ⊢
  refine Spec.mkO [6] Try.func159 (by kernel_rfl) ?_
  intro r6 hm6 ho6
  have start : RepV μ (.sl 5 ((([] : List B).map B.bd).map Bd.d)) (.slice (some ⟨r6, 0, none⟩) 0 0) := ⟨_, _, rfl, ⟨Nat.le_refl _, Nat.zero_le _⟩, by simp, .inl rfl⟩
  refine loop_intro (fun p : Nat × List B × Value × Mem => p.1 ≤ l.length ∧ μ.Le p.2.2.2 ∧ p.2.1.length = p.1 ∧ RepV p.2.2.2 (.sl 5 ((p.2.1.map B.bd).map Bd.d)) p.2.2.1 ∧ ∀ n, sub p.2.1 n = if n ∈ l.take p.1 then some (.var (l.idxOf n)) else none)
    (fun (i, _, v, μ') => ⟨[(3, .val v), (7, .val (.slice base l.length cap)), (8, .val (.int .i64 l.length)), (9, .val (.int .i64 i))], [], 0, μ', Mem.nil.set r6 (.cells (List.toArray (([] : List Value).flatMap vcells)) 114 (0, 0))⟩) (fun p => l.length - p.1)
    (0, [], .slice (some ⟨r6, 0, none⟩) 0 0, μ) ⟨by simp, Mem.Le.refl μ, rfl, start, fun n => by simp [sub]⟩ (fun (_, _, _, _) => ⟨rfl, rfl⟩) ⟨⟨rfl, rfl, rfl, rfl, trivial⟩, trivial, rfl, rfl⟩ ?_
  rintro ⟨i, bs, v, μ'⟩ ⟨hi, hle, hbl, hrep, hsub⟩
  dsimp only at hi hle hbl hrep hsub
  refine ifd (fun h => ?_) (fun h => ?_)
  · obtain ⟨n, hn'⟩ := at_some (l := l) (i := i) (by omega)
    obtain ⟨ad, hel⟩ := Ints.elem (hsl.mono hle) hn'
    have hidx := idx_at hnd hn'
    refine elem_intro hel ?_
    refine call_gives (l02Var_spec _) ?_
    have hb : RepV μ' (B.mk n (.var i)).bd.d (.agg #[.int .i64 n, .int .i64 1, .int .i64 i, .string ⟨#[]⟩, .slice none 0 0]) := by
      obtain ⟨cs, e, h2⟩ : ∃ cs, varV (i : Int) = .agg (List.toArray cs) ∧ Rep μ' (T.var (i : Int)).tm.d cs := ⟨_, rfl, varV_rep (μ := μ') (i : Int) |>.cells⟩
      have e2 : cs = [.int .i64 1, .int .i64 i, .string ⟨#[]⟩, .slice none 0 0] := by
        have := congrArg vcells e
        simpa [vcells, varV] using this.symm
      subst e2
      exact ⟨_, rfl, [.int .i64 n], _, rfl, rfl, _, [], rfl, h2, rfl⟩
    have hfresh : ∀ c ∈ bs, c.var ≠ n := fun c hc e => by
      have h1 := sub_mem hc
      rw [hsub, e] at h1
      by_cases h2 : n ∈ l.take i
      · obtain ⟨j, hj⟩ := List.mem_iff_getElem?.1 h2
        rw [List.getElem?_take] at hj
        split at hj
        · rename_i hji
          have := idx_at hnd hj
          omega
        · cases hj
      · rw [if_neg h2] at h1; exact h1 rfl
    refine call_plain (l04Insert_spec hrep hb (by omega)) fun v2 μ2 hle2 hR => ?_
    obtain ⟨k, _, hrep2⟩ := hR
    refine num64 (by omega) (by omega) ⟨(i + 1, insAt bs ⟨n, .var i⟩ k, v2, μ2), ⟨by dsimp only; omega, hle.trans hle2, by dsimp only; rw [insAt_length, hbl], hrep2, fun m => ?_⟩, by dsimp only; omega, ⟨⟨rfl, rfl, rfl, rfl, trivial⟩, trivial, rfl, rfl⟩⟩
    dsimp only
    rw [sub_insAt hfresh, List.take_add_one, hn', Option.toList_some]
    by_cases e : n = m
    · subst e; rw [if_pos rfl, if_pos (by simp), hidx]
    · rw [if_neg e, hsub]
      by_cases h2 : m ∈ l.take i
      · rw [if_pos h2, if_pos (by simp [h2])]
      · rw [if_neg h2, if_neg (by simp [h2]; exact fun e' => e e'.symm)]
  · obtain rfl : i = l.length := by omega
    rw [List.take_length] at hsub
    exact ret_plain ⟨bs, hrep, hsub⟩
/-- Numbers of variables lie in a range. -/
theorem T.vars_range : ∀ {x : T}, x.good → ∀ n ∈ x.vars, 0 ≤ n ∧ n ≤ 100000
  | .var n, h, m, hm => by
    simp only [T.vars, List.mem_singleton] at hm
    subst hm; exact h
  | .pair a b, h, m, hm => by
    simp only [T.vars, List.mem_append] at hm
    exact hm.elim (T.vars_range h.1 m) (T.vars_range h.2 m)
  | .nil, _, m, hm => by simp [T.vars] at hm
  | .sym _, _, m, hm => by simp [T.vars] at hm
  | .num _, _, m, hm => by simp [T.vars] at hm
theorem nodup_range {N : Nat} : ∀ {l : List Int}, l.Nodup → (∀ n ∈ l, 0 ≤ n ∧ n < N) → l.length ≤ N := by
  induction N with
  | zero =>
    intro l _ h
    cases l with
    | nil => simp
    | cons a l => have := h a (by simp); omega
  | succ N ih =>
    intro l hn h
    have h1 := ih (l := l.erase (N : Int)) (hn.erase _) fun n hm => by
      rw [hn.mem_erase_iff] at hm
      have := h n hm.2
      have h2 : n ≠ (N : Int) := hm.1
      omega
    have h2 : l.length ≤ (l.erase (N : Int)).length + 1 := by
      rw [List.length_erase]; split <;> omega
    omega
theorem ordAll_range {xs : List T} (hx : ∀ x ∈ xs, x.ok) : (ordAll [] (xs.flatMap T.vars)).length ≤ 100001 := by
  refine nodup_range (ordAll_nodup _ (by simp)) fun n hn => ?_
  rw [ordAll_mem] at hn
  rcases hn with hn | hn
  · obtain ⟨x, hx', hm⟩ := List.mem_flatMap.1 hn
    have := T.vars_range (hx x hx').1 n hm
    omega
  · simp at hn
/-! ### Canonical terms -/
theorem T.subst_congr {f g : Int → Option T} : ∀ (x : T), (∀ n ∈ x.vars, f n = g n) → x.subst f = x.subst g
  | .var n, h => by simp only [T.subst]; rw [h n (by simp [T.vars])]
  | .pair a b, h => by
    simp only [T.subst]
    rw [T.subst_congr a fun n hn => h n (by simp [T.vars, hn]), T.subst_congr b fun n hn => h n (by simp [T.vars, hn])]
  | .nil, _ => rfl
  | .sym _, _ => rfl
  | .num _, _ => rfl
theorem T.subst_vars_size {f : Int → Option T} (hf : ∀ n y, f n = some y → y.size = 1) : ∀ (x : T), (x.subst f).size = x.size
  | .var n => by
    simp only [T.subst]
    cases h : f n with
    | none => rfl
    | some y => simpa [T.size] using hf n y h
  | .pair a b => by simp only [T.subst, T.size, T.subst_vars_size hf a, T.subst_vars_size hf b]
  | .nil => rfl
  | .sym _ => rfl
  | .num _ => rfl
noncomputable def canon (xs : List T) : List T := xs.map (·.subst (canonF (ordAll [] (xs.flatMap T.vars))))
theorem canonF_size (vs : List Int) (n : Int) (y : T) (h : canonF vs n = some y) : y.size = 1 := by
  unfold canonF at h
  split at h
  · cases h; rfl
  · cases h
theorem spec_Canonical_spec {xs : List T} {base : Option Addr} {cap : Nat} (hsl : Sl μ 4 base xs.length ((xs.map T.tm).map Tm.d)) (hw : D.wds ((xs.map T.tm).map Tm.d)) (hx : ∀ x ∈ xs, x.ok) (hn : xs.length ≤ 10000000) :
    Spec Try.prog 88 [.slice base xs.length cap] μ fun v μ' => RepV μ' (.sl 4 (((canon xs).map T.tm).map Tm.d)) v := by
  refine Spec.mk Try.func88 (by kernel_rfl) ?_
  have hall := l02AllOk_spec (l := xs.map T.tm) (cap := cap) (by rw [List.length_map]; exact hsl) hw
  rw [List.length_map] at hall
  refine call_gives hall ?_
  refine ifnd (fun h => absurd (fun t ht => ?_) h) (fun _ => ?_)
  · obtain ⟨x, hx', rfl⟩ := List.mem_map.1 ht
    exact (hx x hx').tm
  refine call_plain (spec_OrderedVars_spec hsl hw hx hn) fun v1 μ1 hle1 hR1 => ?_
  have hnd : (ordAll [] (xs.flatMap T.vars)).Nodup := ordAll_nodup _ (by simp)
  have hrange : (ordAll [] (xs.flatMap T.vars)).length ≤ 100001 := ordAll_range hx
  refine call_plain (l07Names_spec hR1 hnd (by omega)) fun v2 μ2 hle2 hR2 => ?_
  obtain ⟨bs, hbs, hsub⟩ := hR2
  obtain ⟨nb, nc, rfl, hns⟩ := Rep.sl hbs
  rw [List.length_map, List.length_map] at hns ⊢
  have hfun : sub bs = canonF (ordAll [] (xs.flatMap T.vars)) := funext hsub
  have hsl2 := (hsl.mono hle1).mono hle2
  intro r13
  refine loop_intro (fun p : Nat × Option Nat × Nat × List Value × Mem => p.1 ≤ xs.length ∧ μ2.Le p.2.2.2.2 ∧ Rows p.2.2.2.2 4 ((((xs.take p.1).map (·.subst (sub bs))).map T.tm).map Tm.d) p.2.2.2.1)
    (fun (i, b, c, ys, μ') => ⟨[(3, .val (.slice nb bs.length nc)), (4, .row 0 b ys.length c), (14, .val (.slice base xs.length cap)), (15, .val (.int .i64 xs.length)), (16, .val (.int .i64 i))], [(0, some (.row b c 30 4 ys))], 1, μ', Mem.nil⟩) (fun p => xs.length - p.1)
    (0, some r13, 0, [], μ2) ⟨by simp, Mem.Le.refl _, .nil⟩ (fun (_, _, _, _, _) => ⟨rfl, rfl⟩) ⟨⟨rfl, rfl, rfl, rfl, rfl, trivial⟩, ⟨rfl, trivial⟩, rfl, rfl⟩ ?_
  rintro ⟨i, b, c, ys, μ'⟩ ⟨hi, hle, hrows⟩
  dsimp only at hi hle hrows
  have hlen := hrows.len
  simp only [List.length_map, List.length_take] at hlen
  refine ifd (fun h => ?_) (fun h => ?_)
  · obtain ⟨x, hx'⟩ := at_some (l := xs) (i := i) (by omega)
    obtain ⟨ad, p, hel, hto⟩ := Tm.elem (i := i) (t := x.tm) (hsl2.mono hle) (by simp [hx'])
    refine elem_intro hel ?_
    intro r
    refine call_plain (l04Put_spec x (hns.mono hle) hto) fun v3 μ3 hle3 hR3 => ?_
    refine call_plain (l02Copy_spec _ hR3) fun v4 μ4 hle4 hR4 => ?_
    obtain ⟨q, rfl⟩ := Tm.invV hR4
    intro r5
    refine grow_intro ?_ ?_ fun b' c' _ => ?_
    · show (ys.length + 1) * 56 ≤ _; omega
    · exact Nat.le_trans (m := 100000000) (show ys.length + 1 ≤ _ by omega) (by decide)
    refine num64 (by omega) (by omega) ⟨(i + 1, b', c', _, μ4), ⟨by dsimp only; omega, (hle.trans hle3).trans hle4, ?_⟩, by dsimp only; omega, ⟨⟨rfl, rfl, rfl, rfl, rfl, trivial⟩, ⟨rfl, trivial⟩, rfl, rfl⟩⟩
    dsimp only
    rw [List.take_add_one, hx', Option.toList_some]
    simp only [List.map_append, List.map_cons, List.map_nil]
    exact ((hrows.mono hle3).mono hle4).append (Rows.one hR4 (Tm.d_n _))
  · obtain rfl : i = xs.length := by omega
    rw [List.take_length] at hrows
    refine ret_frz [0] fun μ' hle' hno hrow => .inl ?_
    rw [canon, ← hfun]
    exact Rows.sl hrow (hrows.mono hle') (Nat.le_trans (m := 100000000) (by omega) (by decide))
end
end Go.Vx

/- Contracts: the program's canonical terms. -/
namespace Go.Vx
open Go.Proofs Classical
section
variable {μ : Mem}
theorem look_mem {μ h : Mem} {r : Nat} {ok : Value → Prop} {key : Value} {K : Option Value → Prop} (l : List (Value × Value)) (o : Option Value) (hm : μ r = some (mapO l)) (hk : MapOk ok l) (hok : ok key) (e : mget l key = o) (k : K o) : lookVC μ h r ok key K := ⟨⟨hok, l, .inl hm, hk, by rw [e]; exact k⟩⟩
/-- The map of names: what it holds for the first i variables. -/
def NameInv (rm : Nat) (vs : List Int) (i : Nat) (h : Mem) : Prop := ∃ r l, h rm = some (.cells #[.map (some r)] 180 (0, 0)) ∧ h r = some (mapO l) ∧ MapOk IntKey l ∧ ∀ n, mget l (.int .i64 n) = if n ∈ vs.take i then some (.int .i64 (vs.idxOf n)) else none
theorem Canonical1_looks {rm : Nat} {vs : List Int} {h : Mem} (H : NameInv rm vs vs.length h) (hl : h.Le μ) :
    Looks 163 [.pointer (some ⟨rm, 0, none⟩)] μ fun n => some (.var (if n ∈ vs then vs.idxOf n else 0)) := fun μ' hle n => by
  obtain ⟨r, l, h1, h2, hk, hg⟩ := H
  rw [List.take_length] at hg
  have g1 : μ' rm = _ := hle _ _ (hl _ _ h1)
  have g2 : μ' r = _ := hle _ _ (hl _ _ h2)
  refine Spec.mk Try.func163 (by kernel_rfl) ?_
  intro r0
  refine ext_intro [.map (some r)] rfl (box_at g1) ?_
  by_cases hn : n ∈ vs
  · refine look_mem l (some (.int .i64 (vs.idxOf n))) g2 (hk.weaken (by rintro _ ⟨n, rfl⟩; rfl)) rfl (by rw [hg, if_pos hn]) ?_
    refine call_gives (variable_spec _) ?_
    refine ret_plain ⟨_, rfl, ?_⟩
    rw [if_pos hn]
    exact varV_rep _
  · refine look_mem l none g2 (hk.weaken (by rintro _ ⟨n, rfl⟩; rfl)) rfl (by rw [hg, if_neg hn]) ?_
    refine call_gives (variable_spec _) ?_
    refine ret_plain ⟨_, rfl, ?_⟩
    rw [if_neg hn]
    exact varV_rep _
theorem impl_Canonical_spec {xs : List T} {base : Option Addr} {cap : Nat} (hsl : Sl μ 4 base xs.length ((xs.map T.tm).map Tm.d)) (hx : ∀ x ∈ xs, x.ok) (hn : xs.length ≤ 10000000) :
    Spec Try.prog 90 [.slice base xs.length cap] μ fun v μ' => Fresh μ μ' (.sl 4 (((canon xs).map T.tm).map Tm.d)) v := by
  refine Spec.mkO [3] Try.func90 (by kernel_rfl) ?_
  have hall := termsOk_spec (l := xs.map T.tm) (cap := cap) (by rw [List.length_map]; exact hsl)
  rw [List.length_map] at hall
  refine call_gives hall ?_
  refine ifnd (fun h => absurd (fun t ht => ?_) h) (fun _ => ?_)
  · obtain ⟨x, hx', rfl⟩ := List.mem_map.1 ht
    exact (hx x hx').tm
  intro rM hmM hoM r3 hm3 ho3
  refine sto_intro [.map none] 180 (Mem.set_at _ _ _) rfl (Nat.le_refl _) ?_
  dsimp only at hmM hoM hm3 ho3
  have n1 : rM ≠ r3 := fun e => by subst e; simp [Mem.set_get] at ho3
  generalize hh : Mem.set (Mem.set _ r3 _) r3 _ = h0
  have A0 : Apart μ h0 := by subst hh; exact ((((apart_nil μ).set hmM).set hm3).set hm3)
  have vs0 := ordAll [] (xs.flatMap T.vars)
  generalize hvs : ordAll [] (xs.flatMap T.vars) = vs
  have hnd : vs.Nodup := by rw [← hvs]; exact ordAll_nodup _ (by simp)
  have hrange : vs.length ≤ 100001 := by rw [← hvs]; exact ordAll_range hx
  have hcov : ∀ x ∈ xs, ∀ n ∈ x.vars, n ∈ vs := fun x hx' n hnv => by
    rw [← hvs, ordAll_mem]; exact .inl (List.mem_flatMap.2 ⟨x, hx', hnv⟩)
  have H0 : NameInv r3 vs 0 h0 := by
    subst hh
    refine ⟨rM, [], ?_, ?_, MapOk.nil, fun n => by simp [mget]⟩
    · rw [Mem.set_at]; rfl
    · dsimp only; rw [Mem.set_ne n1, Mem.set_ne n1, Mem.set_at]
  refine call_data A0 (impl_orderedVars_spec hsl (fun x h => (hx x h).2) hn) fun v1 μ1 hle1 A1 hR1 => ?_
  rw [hvs] at hR1
  obtain ⟨vb, vc, rfl, hvsl⟩ := Rep.sl hR1
  rw [List.length_map] at hvsl ⊢
  refine loop_intro (fun p : Nat × Mem => p.1 ≤ vs.length ∧ Apart μ1 p.2 ∧ NameInv r3 vs p.1 p.2)
    (fun (i, h) => ⟨[(0, .val (.slice base xs.length cap)), (3, .val (.pointer (some ⟨r3, 0, none⟩))), (14, .val (.slice vb vs.length vc)), (15, .val (.int .i64 vs.length)), (16, .val (.int .i64 i))], [], 0, μ1, h⟩) (fun p => vs.length - p.1)
    (0, h0) ⟨by simp, A1, H0⟩ (fun (_, _) => ⟨rfl, rfl⟩) ⟨⟨rfl, rfl, rfl, rfl, rfl, trivial⟩, trivial, rfl, rfl⟩ ?_
  rintro ⟨i, h⟩ ⟨hi, hap, hJ⟩
  dsimp only at hi hap hJ
  have hJ0 := hJ
  obtain ⟨r, l, h1, h2, hk, hg⟩ := hJ
  have e1 : r3 ≠ r := ne_of_obj h1 h2 (by simp [mapO])
  refine ifd (fun hlt => ?_) (fun hlt => ?_)
  · obtain ⟨n, hn'⟩ := at_some (l := vs) (i := i) (by omega)
    obtain ⟨ad, hel⟩ := Ints.elem hvsl hn'
    have hidx := idx_at hnd hn'
    refine elem_intro hel ?_
    refine own_intro [.map (some r)] rfl (box_at h1) ?_
    refine upd_intro l h2 (hk.weaken (by rintro _ ⟨n, rfl⟩; rfl)) rfl ?_
    refine num64 (by omega) (by omega) ⟨(i + 1, h.set r (mapO (mset l (.int .i64 n) (.int .i64 i)))), ⟨by dsimp only; omega, ?_, r, _, ?_, Mem.set_at _ _ _, hk.int _, fun m => ?_⟩, by dsimp only; omega, ⟨⟨rfl, rfl, rfl, rfl, rfl, trivial⟩, trivial, rfl, rfl⟩⟩
    · refine hap.set ?_
      cases h3 : μ1 r with
      | none => rfl
      | some o => have := hap r (by simp [h3]); rw [h2] at this; cases this
    · dsimp only; rw [Mem.set_ne e1]; exact h1
    · dsimp only
      rw [mget_int, hg, List.take_add_one, hn', Option.toList_some]
      by_cases e : m = n
      · subst e; rw [if_pos rfl, if_pos (by simp), hidx]
      · rw [if_neg e]
        by_cases h2 : m ∈ vs.take i
        · rw [if_pos h2, if_pos (by simp [h2])]
        · rw [if_neg h2, if_neg (by simp [h2, e])]
  · obtain rfl : i = vs.length := by omega
    clear h1 h2 hk hg e1 r l
    intro r25
    refine loop_intro (fun p : Nat × Option Nat × Nat × List Value × Mem => p.1 ≤ xs.length ∧ μ1.Le p.2.2.2.2 ∧ Apart p.2.2.2.2 h ∧ Grown 4 μ p.2.2.2.2 ((((xs.take p.1).map (·.subst (canonF vs))).map T.tm).map Tm.d) p.2.2.2.1)
      (fun (i, b, c, ys, μ') => ⟨[(3, .val (.pointer (some ⟨r3, 0, none⟩))), (6, .row 0 b ys.length c), (26, .val (.slice base xs.length cap)), (27, .val (.int .i64 xs.length)), (28, .val (.int .i64 i))], [(0, some (.row b c 30 4 ys))], 1, μ', h⟩) (fun p => xs.length - p.1)
      (0, some r25, 0, [], μ1) ⟨by simp, Mem.Le.refl _, hap, Grown.nil _ _ _⟩ (fun (_, _, _, _, _) => ⟨rfl, rfl⟩) ⟨⟨rfl, rfl, rfl, rfl, rfl, trivial⟩, ⟨rfl, trivial⟩, rfl, rfl⟩ ?_
    rintro ⟨i, b, c, ys, μ'⟩ ⟨hi, hle, hap', hrows⟩
    dsimp only at hi hle hap' hrows
    have hlen := hrows.len
    simp only [List.length_map, List.length_take] at hlen
    refine ifd (fun hlt => ?_) (fun hlt => ?_)
    · obtain ⟨x, hx'⟩ := at_some (l := xs) (i := i) (by omega)
      obtain ⟨ad, p, hel, hto⟩ := Tm.elem (i := i) (t := x.tm) ((hsl.mono hle1).mono hle) (by simp [hx'])
      refine elem_intro hel ?_
      intro r
      have hcall := mapVars_spec x (Canonical1_looks (μ := μ'.join h) hJ0 (Mem.le_join_right hap')) (hto.mono (Mem.le_join _ _))
      have hsub : x.subst (fun n => some (.var (if n ∈ vs then ((vs.idxOf n : Nat) : Int) else 0))) = x.subst (canonF vs) := T.subst_congr x fun n hnv => by
        have := hcov x (mem_at hx') n hnv
        rw [canonF, if_pos this, if_pos this]
      refine call_lend hap' hcall fun v3 μ3 hle3 hap3 hR3 => ?_
      obtain ⟨q, rfl⟩ := Tm.invV hR3.rep
      intro r5
      refine grow_intro ?_ ?_ fun b' c' _ => ?_
      · show (ys.length + 1) * 56 ≤ _; omega
      · exact Nat.le_trans (m := 100000000) (show ys.length + 1 ≤ _ by omega) (by decide)
      refine num64 (by omega) (by omega) ⟨(i + 1, b', c', _, μ3), ⟨by dsimp only; omega, hle.trans hle3, hap3, ?_⟩, by dsimp only; omega, ⟨⟨rfl, rfl, rfl, rfl, rfl, trivial⟩, ⟨rfl, trivial⟩, rfl, rfl⟩⟩
      dsimp only
      rw [List.take_add_one, hx', Option.toList_some]
      simp only [List.map_append, List.map_cons, List.map_nil]
      exact hrows.snoc (hle1.trans hle) (by rw [← hsub]; exact hR3) hle3 (Tm.d_n _)
    · obtain rfl : i = xs.length := by omega
      rw [List.take_length] at hrows
      refine ret_frz [0] fun μ' hle' hno hrow => .inl ?_
      rw [canon, hvs]
      exact hrows.fresh (hle1.trans hle) hle' hno hrow (Nat.le_trans (m := 100000000) (by omega) (by decide))
end
end Go.Vx

/- Contracts: names of relations. -/
namespace Go.Vx
open Go.Proofs Classical
/-! ### Names of relations -/
def rsv : List ByteArray := [⟨#[116, 114, 117, 101]⟩, ⟨#[102, 97, 105, 108]⟩, ⟨#[115, 121, 109, 98, 111, 108]⟩, ⟨#[110, 117, 109, 98, 101, 114]⟩, ⟨#[97, 98, 115, 101, 110, 116]⟩, ⟨#[97, 110, 100]⟩, ⟨#[111, 114]⟩, ⟨#[110, 111, 116]⟩, ⟨#[100, 101, 102, 105, 110, 101]⟩]
def IsRel (s : ByteArray) : Prop := s ∉ rsv ∧ IsNm s
theorem impl_IsRelName_spec (s : ByteArray) (μ : Mem) : Gives Try.prog 140 [.string s] μ (.bool (decide (IsRel s))) := by
  refine Spec.mk Try.func140 (by kernel_rfl) ?_
  have bad : s ∈ rsv → Value.bool false = .bool (decide (IsRel s)) := fun h => by
    have : ¬ IsRel s := fun k => k.1 h
    simp [this]
  repeat' (first
    | refine ifd (fun h => ?_) (fun h => ?_) <;> try contradiction
    | refine call_gives (impl_IsName_spec s μ) (ret_gives ?_ rfl)
    | refine ret_gives ?_ rfl)
  all_goals first
    | (refine bad ?_; subst_vars; simp [rsv])
    | (have : s ∉ rsv := by simp only [rsv, List.mem_cons, List.not_mem_nil, or_false, not_or]; simp_all
       simp [IsRel, this])
theorem spec_IsRelName_spec (s : ByteArray) (hs : s.size ≤ maxLen) (μ : Mem) : Gives Try.prog 135 [.string s] μ (.bool (decide (IsRel s))) := by
  refine Spec.mk Try.func135 (by kernel_rfl) ?_
  have bad : s ∈ rsv → Value.bool false = .bool (decide (IsRel s)) := fun h => by
    have : ¬ IsRel s := fun k => k.1 h
    simp [this]
  intro r
  refine loop_intro (fun i : Nat => i ≤ 9 ∧ ∀ x ∈ rsv.take i, x ≠ s) (fun i => ⟨[(0, .val (.string s)), (5, .row 0 (some r) 9 9), (6, .val (.int .i64 9)), (7, .val (.int .i64 i))], [(0, some (.row (some r) 9 9 1 (rsv.map .string)))], 1, μ, Mem.nil⟩) (fun i => 9 - i)
    0 ⟨by omega, by simp⟩ (fun i => ⟨rfl, rfl⟩) ⟨⟨rfl, rfl, rfl, rfl, trivial⟩, ⟨rfl, trivial⟩, rfl, rfl⟩ ?_
  rintro i ⟨hi, hall⟩
  refine ifd (fun h => ?_) (fun h => ?_)
  · have hi : i < 9 := by omega
    obtain ⟨x, hx⟩ : ∃ x, rsv[i]? = some x := ⟨_, List.getElem?_eq_getElem (by simpa [rsv] using hi)⟩
    refine rel_intro i rfl (by omega) (get_intro (.string x) (by simp [hx]) ?_)
    refine ifd (fun h => ret_gives (bad ?_) rfl) (fun h => ?_)
    · subst h; exact List.mem_of_getElem? hx
    · refine num64 (by omega) (by omega) ⟨i + 1, ⟨by omega, fun y hy => ?_⟩, by omega, ⟨⟨rfl, rfl, rfl, rfl, trivial⟩, ⟨rfl, trivial⟩, rfl, rfl⟩⟩
      rw [List.take_add_one, hx] at hy
      simp only [Option.toList_some, List.mem_append, List.mem_singleton] at hy
      rcases hy with hy | rfl
      · exact hall y hy
      · exact h
  · refine call_gives (spec_IsName_spec s hs μ) (ret_gives ?_ rfl)
    have hi : i = 9 := by omega
    subst hi
    have : s ∉ rsv := fun k => hall s (by simpa [rsv] using k) rfl
    simp [IsRel, this]
end Go.Vx

/- Contracts: which goals are well-formed. -/
namespace Go.Vx
open Go.Proofs Classical
/-! ### Plain -/
mutual
def Gl.cnt : Gl → Nat
  | .mk _ _ _ l => 1 + Gl.cnts l
def Gl.cnts : List Gl → Nat
  | [] => 0
  | t :: r => t.cnt + Gl.cnts r
end
theorem Gl.cnt_eq1 (g : Gl) : g.cnt = 1 + Gl.cnts g.goals := by cases g; rfl
theorem Gl.cnt_pos (g : Gl) : 1 ≤ g.cnt := by rw [Gl.cnt_eq1]; omega
theorem Gl.cnts_append : ∀ (a c : List Gl), Gl.cnts (a ++ c) = Gl.cnts a + Gl.cnts c
  | [], c => by simp [Gl.cnts]
  | d :: r, c => by simp [Gl.cnts, Gl.cnts_append r c, Nat.add_assoc]
theorem Gl.cnts_take {xs : List Gl} {j : Nat} {x : Gl} (h : xs[j]? = some x) : Gl.cnts (xs.take (j + 1)) = Gl.cnts (xs.take j) + x.cnt := by
  rw [List.take_add_one, h, Option.toList_some, Gl.cnts_append]; simp [Gl.cnts]
theorem Gl.cnts_le (xs : List Gl) (j : Nat) : Gl.cnts (xs.take j) ≤ Gl.cnts xs := by
  have := Gl.cnts_append (xs.take j) (xs.drop j)
  rw [List.take_append_drop] at this; omega
theorem Gl.cnts_len : ∀ (xs : List Gl), xs.length ≤ Gl.cnts xs
  | [] => by simp
  | x :: xs => by
    have h1 := x.cnt_pos
    have h2 := Gl.cnts_len xs
    simp only [Gl.cnts, List.length_cons]; omega
/-- What a goal's own node must be. -/
structure TopOk (g : Gl) : Prop where
  tm : ∀ t ∈ g.terms, t.Ok
  k0 : 0 ≤ g.kind
  k1 : g.kind ≤ 10
  nm : g.kind ≠ 9 → g.name = ⟨#[]⟩
  rel : g.kind = 9 → IsRel g.name
  ln9 : g.kind = 9 → g.terms.length ≤ 4
  ln2 : g.kind = 2 ∨ g.kind = 3 ∨ g.kind = 6 → g.terms.length = 2
  ln1 : g.kind = 4 ∨ g.kind = 5 → g.terms.length = 1
  ln0 : g.kind = 0 ∨ g.kind = 1 ∨ g.kind = 7 ∨ g.kind = 8 ∨ g.kind = 10 → g.terms.length = 0
  gl : g.goals.length ≤ 8
  gl0 : g.kind < 7 ∨ g.kind = 9 → g.goals.length = 0
  gl1 : g.kind = 10 → g.goals.length = 1
  sy : g.kind = 6 → ∀ a, g.terms[0]? = some a → a.kind = 2
  cl : g.kind = 10 → ∀ b, g.goals[0]? = some b → b.kind = 9
inductive Gl.Sh : Gl → Prop
  | mk {g : Gl} (top : TopOk g) (sub : ∀ x ∈ g.goals, x.Sh) : g.Sh
theorem Gl.Sh.top {g : Gl} (h : g.Sh) : TopOk g := by cases h; assumption
theorem Gl.Sh.sub {g : Gl} (h : g.Sh) : ∀ x ∈ g.goals, x.Sh := by cases h; assumption
def Gl.Ok (g : Gl) : Prop := g.Sh ∧ g.cnt ≤ 80
section
variable {μ : Mem}
theorem l13Count_spec : ∀ (g : Gl) {v : Value} {most : Int}, RepV μ g.d v → -1000000000000 ≤ most → most ≤ 1000000000000 → Gives Try.prog 164 [v, .int .i64 most] μ (.int .i64 (upTo g.cnt most)) :=
  Gl.ind fun g ih v most hv h1 h2 => by
    obtain ⟨p, rfl, -, hsl⟩ := Gl.inv hv
    have hn := maxLen_le hsl.max
    have hge := Gl.cnt_eq1 g
    generalize hl : g.goals = l at *
    refine Spec.mk Try.func164 (by kernel_rfl) ?_
    intro r
    refine loop_intro (fun i : Nat => i ≤ l.length) (fun i => ⟨[(1, .val (.int .i64 most)), (5, .val (.int .i64 (upTo (1 + Gl.cnts (l.take i) : Nat) most))), (9, .val (.slice p.2.1 l.length p.2.2)), (10, .val (.int .i64 l.length)), (11, .val (.int .i64 i))], [], 1, μ, Mem.nil⟩) (fun i => l.length - i)
      0 (by omega) (fun i => ⟨rfl, rfl⟩) ⟨⟨rfl, by show some (SV.val (.int .i64 _)) = some (SV.val (.int .i64 _)); congr 3; simp [Gl.cnts, upTo]; omega, rfl, rfl, rfl, trivial⟩, trivial, rfl, rfl⟩ ?_
    intro i hi
    refine ifd (fun h => ?_) (fun h => ?_)
    · obtain ⟨t, ht⟩ := at_some (l := l) (i := i) (by omega)
      have hc := Gl.cnts_take ht
      have hc' := Gl.cnts_le l (i + 1)
      obtain ⟨ad, p, hel, hr⟩ := Gl.elem hsl ht
      refine elem_intro hel ?_
      intro r2
      refine ifd (fun h => ret_gives ?_ rfl) (fun h => ?_)
      · simp only [upTo] at h ⊢
        congr 1; omega
      · have hb : upTo (1 + Gl.cnts (l.take i) : Nat) most ≤ 1000000000001 ∧ 1 ≤ upTo (1 + Gl.cnts (l.take i) : Nat) most := by unfold upTo; omega
        refine num64 (by omega) (by omega) ?_
        refine call_gives (ih t (mem_at ht) hr (by omega) (by omega)) ?_
        refine num_eq (x := upTo (1 + Gl.cnts (l.take (i + 1)) : Nat) most) ?_ ?_
        · have hb2 : upTo (t.cnt : Int) (most - upTo (1 + Gl.cnts (l.take i) : Nat) most) ≤ 1000000000001 ∧ 1 ≤ upTo (t.cnt : Int) (most - upTo (1 + Gl.cnts (l.take i) : Nat) most) := by
            have := t.cnt_pos
            unfold upTo at hb h ⊢
            omega
          rw [wrap64 (by omega) (by omega), hc]
          unfold upTo at h ⊢; omega
        · exact num64 (by omega) (by omega) ⟨i + 1, by omega, by omega, ⟨⟨rfl, rfl, rfl, rfl, rfl, trivial⟩, trivial, rfl, rfl⟩⟩
    · obtain rfl : i = l.length := by omega
      rw [List.take_length]
      exact ret_gives (by rw [hge]) rfl
theorem kinds_at {n k : Nat} (hk : k ≤ 10) : ([.int .i64 0, .int .i64 0, .int .i64 2, .int .i64 2, .int .i64 1, .int .i64 1, .int .i64 2, .int .i64 0, .int .i64 0, .int .i64 n, .int .i64 0] : List Value)[k]? = some (.int .i64 (if k = 2 ∨ k = 3 ∨ k = 6 then 2 else if k = 4 ∨ k = 5 then 1 else if k = 9 then n else 0)) := by
  match k, hk with
  | 0, _ => rfl
  | 1, _ => rfl
  | 2, _ => rfl
  | 3, _ => rfl
  | 4, _ => rfl
  | 5, _ => rfl
  | 6, _ => rfl
  | 7, _ => rfl
  | 8, _ => rfl
  | 9, _ => rfl
  | 10, _ => rfl
theorem l13Shape_spec : ∀ (g : Gl) {v : Value}, RepV μ g.d v → g.d.wd → Gives Try.prog 165 [v] μ (.bool (decide g.Sh)) :=
  Gl.ind fun g ih v hv hw => by
    obtain ⟨p, rfl, hts, hgs⟩ := Gl.inv hv
    have hn1 := maxLen_le hts.max
    have hn2 := maxLen_le hgs.max
    rw [Gl.d_eq] at hw
    have hs : g.name.size ≤ maxLen := hw.2.1
    have wt : D.wds (g.terms.map Tm.d) := hw.2.2.1
    have wg : D.wds (g.goals.map Gl.d) := hw.2.2.2.1
    have bad : ¬ TopOk g → Value.bool false = .bool (decide g.Sh) := fun h => isF fun k => h k.top
    refine Spec.mk Try.func165 (by kernel_rfl) ?_
    intro r
    refine call_gives (l01In_spec _ _ _ _) ?_
    refine ifnd (fun h => ret_gives (bad fun T => h ⟨T.k0, T.k1⟩) rfl) (fun hk => ?_)
    refine ifnd (fun h9 => ifnd (fun hne => ret_gives (bad fun T => hne (T.nm h9)) rfl) (fun hnm => ?_)) (fun h9 => ?_)
    all_goals refine call_gives (l02AllOk_spec hts wt) ?_
    all_goals refine ifnd (fun h => ret_gives (bad fun T => h T.tm) rfl) (fun htm => ?_)
    all_goals intro r2
    all_goals obtain ⟨k, hk'⟩ : ∃ k : Nat, g.kind = k := ⟨g.kind.toNat, by omega⟩
    all_goals refine rel_intro k hk' (by omega) (get_intro _ (kinds_at (by omega)) ?_)
    all_goals refine ifnd (fun hlen => ret_gives (bad fun T => hlen ?_) rfl) (fun hlen => ?_)
    any_goals (have e9 := T.ln9; have e2 := T.ln2; have e1 := T.ln1; have e0 := T.ln0; have := T.gl; omega)
    all_goals refine ifd (fun h4 => ret_gives (bad fun T => ?_) rfl) (fun h4 => ?_)
    any_goals (have e9 := T.ln9; have e2 := T.ln2; have e1 := T.ln1; have e0 := T.ln0; have := T.gl; omega)
    all_goals refine ifd (fun h7 => ifd (fun h0 => ret_gives (bad fun T => ?_) rfl) (fun h0 => ?_)) (fun h7 => ?_)
    any_goals (have e9 := T.gl0; omega)
    all_goals refine ifd (fun h8 => ret_gives (bad fun T => ?_) rfl) (fun h8 => ?_)
    any_goals (have e9 := T.gl; omega)
    all_goals refine loop_intro (fun i : Nat => i ≤ g.goals.length ∧ ∀ t ∈ g.goals.take i, t.Sh) (fun i => ⟨[(1, .loc 0 r 0), (61, .val (.slice p.2.1 g.goals.length p.2.2)), (62, .val (.int .i64 g.goals.length)), (63, .val (.int .i64 i))], [(0, some (.cells r [.val (.int .i64 g.kind), .val (.string g.name), .val (.slice p.1.1 g.terms.length p.1.2), .val (.slice p.2.1 g.goals.length p.2.2)] 55))], 2, μ, Mem.nil⟩) (fun i => g.goals.length - i) 0 ⟨by omega, by simp⟩ (fun i => ⟨rfl, rfl⟩) ⟨⟨rfl, rfl, rfl, rfl, trivial⟩, ⟨rfl, trivial⟩, rfl, rfl⟩ ?_
    all_goals rintro i ⟨hi, hall⟩
    all_goals refine ifd (fun h => ?_) (fun h => ?_)
    any_goals
      obtain ⟨t, ht⟩ := at_some (l := g.goals) (i := i) (by omega)
      obtain ⟨ad, p, hel, hr⟩ := Gl.elem hgs ht
      refine elem_intro hel ?_
      intro r3
      refine call_gives (ih t (mem_at ht) hr (D.wds_mem wg _ (mem_at (at_map (f := Gl.d) ht)))) ?_
      refine ifnd (fun h => ret_gives (isF fun S => h (S.sub t (mem_at ht))) rfl) (fun h => ?_)
      refine num64 (by omega) (by omega) ⟨i + 1, ⟨by omega, fun x hx => ?_⟩, by omega, ⟨⟨rfl, rfl, rfl, rfl, trivial⟩, ⟨rfl, trivial⟩, rfl, rfl⟩⟩
      rw [List.take_add_one, ht, Option.toList_some, List.mem_append, List.mem_singleton] at hx
      rcases hx with hx | rfl
      · exact hall x hx
      · exact h
    all_goals obtain rfl : i = g.goals.length := by omega
    all_goals rw [List.take_length] at hall
    all_goals
      have mk : (g.kind = 9 → IsRel g.name) → (g.kind = 10 → g.goals.length = 1) → (g.kind = 9 → g.goals.length = 0) → (g.kind = 6 → ∀ a, g.terms[0]? = some a → a.kind = 2) → (g.kind = 10 → ∀ b, g.goals[0]? = some b → b.kind = 9) → g.Sh := fun a b c d e =>
        .mk ⟨htm, by omega, by omega, by first | exact fun _ => hnm | exact fun h => absurd h9 h, a, by omega, by omega, by omega, by omega, by omega, by omega, b, d, e⟩ hall
    all_goals refine ifd (fun h6 => ?_) (fun h6 => ?_)
    any_goals
      obtain ⟨a, ha⟩ := at_some (l := g.terms) (i := 0) (by omega)
      obtain ⟨ad, p, hel, hr⟩ := Tm.elem hts ha
      refine elem_intro hel ?_
      exact ret_gives (isI ⟨fun hh => mk (by omega) (by omega) (by omega) (fun _ x hx => by rw [ha] at hx; cases hx; exact hh) (by omega), fun S => S.top.sy h6 a ha⟩) rfl
    all_goals refine ifd (fun h9 => ?_) (fun h9 => ?_)
    any_goals omega
    any_goals
      refine ifd (fun h0 => call_gives (spec_IsRelName_spec _ hs _) (ret_gives (isI ⟨fun hh => mk (fun _ => hh) (by omega) (by omega) (by omega) (by omega), fun S => S.top.rel h9⟩) rfl)) (fun h0 => ret_gives (isF fun S => ?_) rfl)
      have := S.top.gl0; omega
    all_goals refine ifd (fun h10 => ?_) (fun h10 => ret_gives (isT (mk (by omega) (by omega) (by omega) (by omega) (by omega))) rfl)
    any_goals omega
    all_goals refine ifd (fun h1 => ?_) (fun h1 => ret_gives (isF fun S => h1 ?_) rfl)
    any_goals (have := S.top.gl1; omega)
    all_goals
      obtain ⟨b, hb⟩ := at_some (l := g.goals) (i := 0) (by omega)
      obtain ⟨ad, p, hel, hr⟩ := Gl.elem hgs hb
      refine elem_intro hel ?_
      exact ret_gives (isI ⟨fun hh => mk (by omega) (by omega) (by omega) (by omega) (fun _ x hx => by rw [hb] at hx; cases hx; exact hh), fun S => S.top.cl h10 b hb⟩) rfl
end
end Go.Vx

/- Contracts: well-formed goals, both sides. -/
namespace Go.Vx
open Go.Proofs Classical
theorem Gl.Ok_iff (g : Gl) : g.Ok ↔ g.Sh ∧ g.cnt ≤ 80 := Iff.rfl
/-- 'goalNodes': the nodes of a well-formed goal that fits; else -1. -/
noncomputable def Gl.nodes (t : Gl) (room : Int) : Int := if t.Sh ∧ (t.cnt : Int) ≤ room then t.cnt else -1
theorem Gl.nodes_neg {t : Gl} {room : Int} (h : ¬ (t.Sh ∧ (t.cnt : Int) ≤ room)) : Value.int .i64 (-1) = .int .i64 (t.nodes room) := by rw [Gl.nodes, if_neg h]
theorem Gl.nodes_pos {t : Gl} {room : Int} (h : t.Sh) (h2 : (t.cnt : Int) ≤ room) : t.nodes room = t.cnt := by rw [Gl.nodes, if_pos ⟨h, h2⟩]
theorem Gl.nodes_lt {t : Gl} {room : Int} (h : t.nodes room < 0) : ¬ (t.Sh ∧ (t.cnt : Int) ≤ room) := fun k => by rw [Gl.nodes, if_pos k] at h; omega
theorem Gl.nodes_ge {t : Gl} {room : Int} (h : ¬ t.nodes room < 0) : t.Sh ∧ (t.cnt : Int) ≤ room ∧ t.nodes room = t.cnt := by
  by_cases k : t.Sh ∧ (t.cnt : Int) ≤ room
  · exact ⟨k.1, k.2, by rw [Gl.nodes, if_pos k]⟩
  · rw [Gl.nodes, if_neg k] at h; omega
/-- The map of how many terms a kind has. -/
noncomputable def kmap : List (Value × Value) := mset (mset (mset (mset (mset [] (.int .i64 2) (.int .i64 2)) (.int .i64 3) (.int .i64 2)) (.int .i64 4) (.int .i64 1)) (.int .i64 5) (.int .i64 1)) (.int .i64 6) (.int .i64 2)
theorem kmap_get (k : Int) : mget kmap (.int .i64 k) = if k = 6 then some (.int .i64 2) else if k = 5 then some (.int .i64 1) else if k = 4 then some (.int .i64 1) else if k = 3 then some (.int .i64 2) else if k = 2 then some (.int .i64 2) else none := by
  unfold kmap
  rw [mget_int, mget_int, mget_int, mget_int, mget_int]
  rfl
section
variable {μ : Mem}
theorem spec_GoalOk_spec (g : Gl) {v : Value} (hv : RepV μ g.d v) (hw : g.d.wd) : Gives Try.prog 92 [v] μ (.bool (decide g.Ok)) := by
  obtain ⟨p, rfl⟩ := Gl.invV hv
  refine Spec.mk Try.func92 (by kernel_rfl) ?_
  intro r
  refine call_gives (l13Count_spec g hv (by decide) (by decide)) ?_
  refine ifd (fun h => ?_) (fun h => ret_gives (isF fun hh => ?_) rfl)
  · refine call_gives (l13Shape_spec g hv hw) (ret_gives (isI ⟨fun hh => ⟨hh, ?_⟩, fun hh => hh.1⟩) rfl)
    unfold upTo at h; omega
  · have := hh.2; unfold upTo at h; omega
theorem goalNodes_spec : ∀ (g : Gl) {v : Value} {room : Int}, RepV μ g.d v → -1000000000000 ≤ room → room ≤ 1000000000000 → Gives Try.prog 167 [v, .int .i64 room] μ (.int .i64 (g.nodes room)) :=
  Gl.ind fun g ih v room hv hr1 hr2 => by
    obtain ⟨p, rfl, hts, hgs⟩ := Gl.inv hv
    have hn1 := maxLen_le hts.max
    have hn2 := maxLen_le hgs.max
    have hpos := g.cnt_pos
    have hce := g.cnt_eq1
    have bad : ¬ TopOk g → Value.int .i64 (-1) = .int .i64 (g.nodes room) := fun h => Gl.nodes_neg fun k => h k.1.top
    refine Spec.mkO [18] Try.func167 (by kernel_rfl) ?_
    intro r
    refine ifd (fun h => ret_gives (Gl.nodes_neg fun k => by omega) rfl) (fun h1 => ?_)
    refine call_gives (termsOk_spec hts) ?_
    refine ifnd (fun h => ret_gives (bad fun T => h T.tm) rfl) (fun htm => ?_)
    intro rM hmM hoM
    have k0 : MapOk IntKey [] := MapOk.nil
    have k1 := k0.int (n := 2) (.int .i64 2)
    have k2 := k1.int (n := 3) (.int .i64 2)
    have k3 := k2.int (n := 4) (.int .i64 1)
    have k4 := k3.int (n := 5) (.int .i64 1)
    have k5 := k4.int (n := 6) (.int .i64 2)
    refine upd_intro _ (Mem.set_at _ _ _) (k0.weaken (by rintro _ ⟨n, rfl⟩; rfl)) rfl ?_
    refine upd_intro _ (Mem.set_at _ _ _) (k1.weaken (by rintro _ ⟨n, rfl⟩; rfl)) rfl ?_
    refine upd_intro _ (Mem.set_at _ _ _) (k2.weaken (by rintro _ ⟨n, rfl⟩; rfl)) rfl ?_
    refine upd_intro _ (Mem.set_at _ _ _) (k3.weaken (by rintro _ ⟨n, rfl⟩; rfl)) rfl ?_
    refine upd_intro _ (Mem.set_at _ _ _) (k4.weaken (by rintro _ ⟨n, rfl⟩; rfl)) rfl ?_
    generalize hh : Mem.set (Mem.set (Mem.set (Mem.set (Mem.set (Mem.set _ rM _) rM _) rM _) rM _) rM _) rM _ = h0
    have hm : h0 rM = some (mapO kmap) := by subst hh; exact Mem.set_at _ _ _
    clear hh hmM hoM
    have one : TopOk g → g.goals.length = 0 → Value.int .i64 1 = .int .i64 (g.nodes room) := fun T h => by
      have e : g.goals = [] := List.eq_nil_of_length_eq_zero h
      have hc : g.cnt = 1 := by rw [hce, e]; rfl
      rw [Gl.nodes_pos (.mk T (by rw [e]; simp)) (by omega), hc]; rfl
    have htm : ∀ t ∈ g.terms, t.Ok := htm
    rcases (by omega : g.kind = 6 ∨ g.kind = 5 ∨ g.kind = 4 ∨ g.kind = 3 ∨ g.kind = 2 ∨ ¬ (2 ≤ g.kind ∧ g.kind ≤ 6)) with e | e | e | e | e | e
    · refine look_intro kmap (some (.int .i64 2)) hm (k5.weaken (by rintro _ ⟨n, rfl⟩; rfl)) rfl (by rw [kmap_get]; simp [e]) ?_
      repeat (refine ifd (fun h => ?_) (fun h => ?_) <;> try (exfalso; omega))
      refine ifnd (fun h => ret_gives (bad fun T => h (T.nm (by omega))) rfl) (fun hnm => ?_)
      refine ifnd (fun h => ret_gives (bad fun T => h (by have := T.gl0; omega)) rfl) (fun hg0 => ?_)
      refine ifnd (fun h => ret_gives (bad fun T => h (by have := T.ln2; omega)) rfl) (fun hl => ?_)
      refine ifd (fun _ => ?_) (fun h => absurd e h)
      obtain ⟨a, ha⟩ := at_some (l := g.terms) (i := 0) (by omega)
      obtain ⟨ad, p, hel, hr⟩ := Tm.elem hts ha
      refine elem_intro hel ?_
      refine ifnd (fun h => ret_gives (bad fun T => h (T.sy e a ha)) rfl) (fun h => ?_)
      exact ret_gives (one ⟨htm, by omega, by omega, fun _ => hnm, by omega, by omega, by omega, by omega, by omega, by omega, by omega, by omega, fun _ x hx => by rw [ha] at hx; cases hx; exact h, by omega⟩ (by omega)) rfl
    · refine look_intro kmap (some (.int .i64 1)) hm (k5.weaken (by rintro _ ⟨n, rfl⟩; rfl)) rfl (by rw [kmap_get]; simp [e]) ?_
      repeat (refine ifd (fun h => ?_) (fun h => ?_) <;> try (exfalso; omega))
      refine ifnd (fun h => ret_gives (bad fun T => h (T.nm (by omega))) rfl) (fun hnm => ?_)
      refine ifnd (fun h => ret_gives (bad fun T => h (by have := T.gl0; omega)) rfl) (fun hg0 => ?_)
      refine ifnd (fun h => ret_gives (bad fun T => h (by have := T.ln1; omega)) rfl) (fun hl => ?_)
      refine ifd (fun h => by omega) (fun h => ?_)
      exact ret_gives (one ⟨htm, by omega, by omega, fun _ => hnm, by omega, by omega, by omega, by omega, by omega, by omega, by omega, by omega, by omega, by omega⟩ (by omega)) rfl
    · refine look_intro kmap (some (.int .i64 1)) hm (k5.weaken (by rintro _ ⟨n, rfl⟩; rfl)) rfl (by rw [kmap_get]; simp [e]) ?_
      repeat (refine ifd (fun h => ?_) (fun h => ?_) <;> try (exfalso; omega))
      refine ifnd (fun h => ret_gives (bad fun T => h (T.nm (by omega))) rfl) (fun hnm => ?_)
      refine ifnd (fun h => ret_gives (bad fun T => h (by have := T.gl0; omega)) rfl) (fun hg0 => ?_)
      refine ifnd (fun h => ret_gives (bad fun T => h (by have := T.ln1; omega)) rfl) (fun hl => ?_)
      refine ifd (fun h => by omega) (fun h => ?_)
      exact ret_gives (one ⟨htm, by omega, by omega, fun _ => hnm, by omega, by omega, by omega, by omega, by omega, by omega, by omega, by omega, by omega, by omega⟩ (by omega)) rfl
    · refine look_intro kmap (some (.int .i64 2)) hm (k5.weaken (by rintro _ ⟨n, rfl⟩; rfl)) rfl (by rw [kmap_get]; simp [e]) ?_
      repeat (refine ifd (fun h => ?_) (fun h => ?_) <;> try (exfalso; omega))
      refine ifnd (fun h => ret_gives (bad fun T => h (T.nm (by omega))) rfl) (fun hnm => ?_)
      refine ifnd (fun h => ret_gives (bad fun T => h (by have := T.gl0; omega)) rfl) (fun hg0 => ?_)
      refine ifnd (fun h => ret_gives (bad fun T => h (by have := T.ln2; omega)) rfl) (fun hl => ?_)
      refine ifd (fun h => by omega) (fun h => ?_)
      exact ret_gives (one ⟨htm, by omega, by omega, fun _ => hnm, by omega, by omega, by omega, by omega, by omega, by omega, by omega, by omega, by omega, by omega⟩ (by omega)) rfl
    · refine look_intro kmap (some (.int .i64 2)) hm (k5.weaken (by rintro _ ⟨n, rfl⟩; rfl)) rfl (by rw [kmap_get]; simp [e]) ?_
      repeat (refine ifd (fun h => ?_) (fun h => ?_) <;> try (exfalso; omega))
      refine ifnd (fun h => ret_gives (bad fun T => h (T.nm (by omega))) rfl) (fun hnm => ?_)
      refine ifnd (fun h => ret_gives (bad fun T => h (by have := T.gl0; omega)) rfl) (fun hg0 => ?_)
      refine ifnd (fun h => ret_gives (bad fun T => h (by have := T.ln2; omega)) rfl) (fun hl => ?_)
      refine ifd (fun h => by omega) (fun h => ?_)
      exact ret_gives (one ⟨htm, by omega, by omega, fun _ => hnm, by omega, by omega, by omega, by omega, by omega, by omega, by omega, by omega, by omega, by omega⟩ (by omega)) rfl
    · refine look_intro kmap none hm (k5.weaken (by rintro _ ⟨n, rfl⟩; rfl)) rfl (by rw [kmap_get, if_neg (by omega), if_neg (by omega), if_neg (by omega), if_neg (by omega), if_neg (by omega)]) ?_
      by_cases e2 : g.kind = 0 ∨ g.kind = 1
      · repeat' (refine ifd (fun h => ?_) (fun h => ?_) <;> try (exfalso; omega))
        all_goals
          refine ifnd (fun h => ret_gives (bad fun T => h (T.nm (by omega))) rfl) (fun hnm => ?_)
          refine ifnd (fun h => ret_gives (bad fun T => h (by have := T.gl0; omega)) rfl) (fun hg0 => ?_)
          refine ifnd (fun h => ret_gives (bad fun T => h (by have := T.ln0; omega)) rfl) (fun hl => ?_)
          refine ifd (fun h => by omega) (fun h => ?_)
          exact ret_gives (one ⟨htm, by omega, by omega, fun _ => hnm, by omega, by omega, by omega, by omega, by omega, by omega, by omega, by omega, by omega, by omega⟩ (by omega)) rfl
      · by_cases e9 : g.kind = 9
        · repeat (refine ifd (fun h => ?_) (fun h => ?_) <;> try (exfalso; omega))
          refine call_gives (impl_IsRelName_spec _ _) ?_
          refine ifnd (fun h => ret_gives (bad fun T => h (T.rel e9)) rfl) (fun hnm => ?_)
          refine ifnd (fun h => ret_gives (bad fun T => h (by have := T.gl0; omega)) rfl) (fun hg0 => ?_)
          refine ifd (fun h => ret_gives (bad fun T => by have := T.ln9; omega) rfl) (fun hl => ?_)
          exact ret_gives (one ⟨htm, by omega, by omega, by omega, fun _ => hnm, by omega, by omega, by omega, by omega, by omega, by omega, by omega, by omega, by omega⟩ (by omega)) rfl
        · by_cases e3 : g.kind = 7 ∨ g.kind = 8 ∨ g.kind = 10
          · have fin : ∀ k : Int, k = 1 + (Gl.cnts g.goals : Nat) → TopOk g → (∀ x ∈ g.goals, x.Sh) → k ≤ room → Value.int .i64 k = .int .i64 (g.nodes room) := fun k hk T hS hr => by
              rw [Gl.nodes_pos (.mk T hS) (by omega), hce, hk]; congr 1
            have top : g.name = ⟨#[]⟩ → g.terms.length = 0 → g.goals.length ≤ 8 → (g.kind = 10 → g.goals.length = 1) → (g.kind = 10 → ∀ b, g.goals[0]? = some b → b.kind = 9) → TopOk g := fun a b c d f =>
              ⟨htm, by omega, by omega, fun _ => a, by omega, by omega, by omega, by omega, by omega, c, by omega, d, by omega, f⟩
            repeat' (refine ifd (fun h => ?_) (fun h => ?_) <;> try (exfalso; omega))
            · refine ifnd (fun h => ret_gives (bad fun T => h (T.nm (by omega))) rfl) (fun hnm => ?_)
              refine ifnd (fun h => ret_gives (bad fun T => h (by have := T.ln0; omega)) rfl) (fun hl => ?_)
              refine ifd (fun h => ret_gives (bad fun T => by have := T.gl; omega) rfl) (fun h8 => ?_)
              have T := top hnm (by omega) (by omega) (by omega) (by omega)
              refine loop_intro (fun i : Nat => i ≤ g.goals.length ∧ (∀ x ∈ g.goals.take i, x.Sh) ∧ 1 + (Gl.cnts (g.goals.take i) : Int) ≤ room) (fun i => ⟨[(1, .val (.int .i64 room)), (6, .val (.int .i64 (1 + (Gl.cnts (g.goals.take i) : Int)))), (124, .val (.slice p.2.1 g.goals.length p.2.2)), (125, .val (.int .i64 g.goals.length)), (126, .val (.int .i64 i))], [], 1, μ, h0⟩) (fun i => g.goals.length - i)
                0 ⟨by omega, by simp, by simp [Gl.cnts]; omega⟩ (fun i => ⟨rfl, rfl⟩) ⟨⟨rfl, rfl, rfl, rfl, rfl, trivial⟩, trivial, rfl, rfl⟩ ?_
              rintro i ⟨hi, hall, hle⟩
              refine ifd (fun h => ?_) (fun h => ?_)
              · obtain ⟨t, ht⟩ := at_some (l := g.goals) (i := i) (by omega)
                have hc := Gl.cnts_take ht
                have hc' := Gl.cnts_le g.goals (i + 1)
                obtain ⟨ad, p3, hel, hr⟩ := Gl.elem hgs ht
                refine elem_intro hel ?_
                intro r2
                refine num64 (by omega) (by omega) ?_
                refine call_gives (ih t (mem_at ht) hr (by omega) (by omega)) ?_
                refine ifd (fun h => ret_gives (Gl.nodes_neg fun k => Gl.nodes_lt h ⟨k.1.sub t (mem_at ht), by omega⟩) rfl) (fun h => ?_)
                obtain ⟨hS, hcnt, he⟩ := Gl.nodes_ge h
                refine num_eq (x := 1 + (Gl.cnts (g.goals.take (i + 1)) : Int)) (by rw [he, wrap64 (by omega) (by omega), hc]; omega) ?_
                refine num64 (by omega) (by omega) ⟨i + 1, ⟨by omega, fun x hx => ?_, by omega⟩, by omega, ⟨⟨rfl, rfl, rfl, rfl, rfl, trivial⟩, trivial, rfl, rfl⟩⟩
                rw [List.take_add_one, ht, Option.toList_some, List.mem_append, List.mem_singleton] at hx
                rcases hx with hx | rfl
                · exact hall x hx
                · exact hS
              · obtain rfl : i = g.goals.length := by omega
                rw [List.take_length] at hall hle
                exact ret_gives (fin _ (by rw [List.take_length]) T hall (by rw [List.take_length]; exact hle)) rfl
            · refine ifnd (fun h => ret_gives (bad fun T => h (T.nm (by omega))) rfl) (fun hnm => ?_)
              refine ifnd (fun h => ret_gives (bad fun T => h (by have := T.ln0; omega)) rfl) (fun hl => ?_)
              refine ifd (fun h => ret_gives (bad fun T => by have := T.gl; omega) rfl) (fun h8 => ?_)
              have T := top hnm (by omega) (by omega) (by omega) (by omega)
              refine loop_intro (fun i : Nat => i ≤ g.goals.length ∧ (∀ x ∈ g.goals.take i, x.Sh) ∧ 1 + (Gl.cnts (g.goals.take i) : Int) ≤ room) (fun i => ⟨[(1, .val (.int .i64 room)), (6, .val (.int .i64 (1 + (Gl.cnts (g.goals.take i) : Int)))), (124, .val (.slice p.2.1 g.goals.length p.2.2)), (125, .val (.int .i64 g.goals.length)), (126, .val (.int .i64 i))], [], 1, μ, h0⟩) (fun i => g.goals.length - i)
                0 ⟨by omega, by simp, by simp [Gl.cnts]; omega⟩ (fun i => ⟨rfl, rfl⟩) ⟨⟨rfl, rfl, rfl, rfl, rfl, trivial⟩, trivial, rfl, rfl⟩ ?_
              rintro i ⟨hi, hall, hle⟩
              refine ifd (fun h => ?_) (fun h => ?_)
              · obtain ⟨t, ht⟩ := at_some (l := g.goals) (i := i) (by omega)
                have hc := Gl.cnts_take ht
                have hc' := Gl.cnts_le g.goals (i + 1)
                obtain ⟨ad, p3, hel, hr⟩ := Gl.elem hgs ht
                refine elem_intro hel ?_
                intro r2
                refine num64 (by omega) (by omega) ?_
                refine call_gives (ih t (mem_at ht) hr (by omega) (by omega)) ?_
                refine ifd (fun h => ret_gives (Gl.nodes_neg fun k => Gl.nodes_lt h ⟨k.1.sub t (mem_at ht), by omega⟩) rfl) (fun h => ?_)
                obtain ⟨hS, hcnt, he⟩ := Gl.nodes_ge h
                refine num_eq (x := 1 + (Gl.cnts (g.goals.take (i + 1)) : Int)) (by rw [he, wrap64 (by omega) (by omega), hc]; omega) ?_
                refine num64 (by omega) (by omega) ⟨i + 1, ⟨by omega, fun x hx => ?_, by omega⟩, by omega, ⟨⟨rfl, rfl, rfl, rfl, rfl, trivial⟩, trivial, rfl, rfl⟩⟩
                rw [List.take_add_one, ht, Option.toList_some, List.mem_append, List.mem_singleton] at hx
                rcases hx with hx | rfl
                · exact hall x hx
                · exact hS
              · obtain rfl : i = g.goals.length := by omega
                rw [List.take_length] at hall hle
                exact ret_gives (fin _ (by rw [List.take_length]) T hall (by rw [List.take_length]; exact hle)) rfl
            · refine ifnd (fun h => ret_gives (bad fun T => h (T.nm (by omega))) rfl) (fun hnm => ?_)
              refine ifnd (fun h => ret_gives (bad fun T => h (by have := T.ln0; omega)) rfl) (fun hl => ?_)
              refine ifnd (fun h => ret_gives (bad fun T => h (by have := T.gl1; omega)) rfl) (fun hg1 => ?_)
              obtain ⟨b, hb⟩ := at_some (l := g.goals) (i := 0) (by omega)
              obtain ⟨ad, p2, hel, hr⟩ := Gl.elem hgs hb
              refine elem_intro hel ?_
              refine ifnd (fun h => ret_gives (bad fun T => h (T.cl (by omega) b hb)) rfl) (fun hb9 => ?_)
              have T := top hnm (by omega) (by omega) (by omega) (fun _ x hx => by rw [hb] at hx; cases hx; exact hb9)
              refine loop_intro (fun i : Nat => i ≤ g.goals.length ∧ (∀ x ∈ g.goals.take i, x.Sh) ∧ 1 + (Gl.cnts (g.goals.take i) : Int) ≤ room) (fun i => ⟨[(1, .val (.int .i64 room)), (6, .val (.int .i64 (1 + (Gl.cnts (g.goals.take i) : Int)))), (124, .val (.slice p.2.1 g.goals.length p.2.2)), (125, .val (.int .i64 g.goals.length)), (126, .val (.int .i64 i))], [], 1, μ, h0⟩) (fun i => g.goals.length - i)
                0 ⟨by omega, by simp, by simp [Gl.cnts]; omega⟩ (fun i => ⟨rfl, rfl⟩) ⟨⟨rfl, rfl, rfl, rfl, rfl, trivial⟩, trivial, rfl, rfl⟩ ?_
              rintro i ⟨hi, hall, hle⟩
              refine ifd (fun h => ?_) (fun h => ?_)
              · obtain ⟨t, ht⟩ := at_some (l := g.goals) (i := i) (by omega)
                have hc := Gl.cnts_take ht
                have hc' := Gl.cnts_le g.goals (i + 1)
                obtain ⟨ad, p3, hel, hr⟩ := Gl.elem hgs ht
                refine elem_intro hel ?_
                intro r2
                refine num64 (by omega) (by omega) ?_
                refine call_gives (ih t (mem_at ht) hr (by omega) (by omega)) ?_
                refine ifd (fun h => ret_gives (Gl.nodes_neg fun k => Gl.nodes_lt h ⟨k.1.sub t (mem_at ht), by omega⟩) rfl) (fun h => ?_)
                obtain ⟨hS, hcnt, he⟩ := Gl.nodes_ge h
                refine num_eq (x := 1 + (Gl.cnts (g.goals.take (i + 1)) : Int)) (by rw [he, wrap64 (by omega) (by omega), hc]; omega) ?_
                refine num64 (by omega) (by omega) ⟨i + 1, ⟨by omega, fun x hx => ?_, by omega⟩, by omega, ⟨⟨rfl, rfl, rfl, rfl, rfl, trivial⟩, trivial, rfl, rfl⟩⟩
                rw [List.take_add_one, ht, Option.toList_some, List.mem_append, List.mem_singleton] at hx
                rcases hx with hx | rfl
                · exact hall x hx
                · exact hS
              · obtain rfl : i = g.goals.length := by omega
                rw [List.take_length] at hall hle
                exact ret_gives (fin _ (by rw [List.take_length]) T hall (by rw [List.take_length]; exact hle)) rfl
          · repeat (refine ifd (fun h => ?_) (fun h => ?_) <;> try (exfalso; omega))
            exact ret_gives (bad fun T => by have := T.k0; have := T.k1; omega) rfl
theorem impl_GoalOk_spec (g : Gl) {v : Value} (hv : RepV μ g.d v) : Gives Try.prog 97 [v] μ (.bool (decide g.Ok)) := by
  obtain ⟨p, rfl⟩ := Gl.invV hv
  refine Spec.mk Try.func97 (by kernel_rfl) ?_
  intro r
  refine call_gives (goalNodes_spec g hv (by decide) (by decide)) (ret_gives (isI ⟨fun hh => ?_, fun hh => ?_⟩) rfl)
  · obtain ⟨h1, h2, _⟩ := Gl.nodes_ge (by omega : ¬ g.nodes 80 < 0)
    exact ⟨h1, by omega⟩
  · rw [Gl.nodes_pos hh.1 (by have := hh.2; omega)]
    have := g.cnt_pos; omega
end
end Go.Vx

/- Contracts: which substitutions are fine. -/
namespace Go.Vx
open Go.Proofs Classical
/-! ### Plain -/
def bndOk (bs : List B) (b : B) : Prop := ¬ (b.to.tm.kind = 1 ∧ b.var ≤ b.to.tm.num) ∧ ∀ n ∈ b.to.vars, sub bs n = none
def substOk (l : List Bd) : Prop := valsOk l ∧ ∀ b ∈ l.map Bd.b, bndOk (l.map Bd.b) b
theorem B.bd_b (b : B) : b.bd.b = b := by
  cases b; simp [B.bd, Bd.b, T.toT_tm]
theorem B.map_b (bs : List B) : (bs.map B.bd).map Bd.b = bs := by
  rw [List.map_map]
  conv => rhs; rw [← List.map_id bs]
  exact List.map_congr_left fun b _ => B.bd_b b
/-- A fine list of bindings, as terms. -/
structure Vals (bs : List B) : Prop where
  ok : valsOk (bs.map B.bd)
theorem Vals.len {bs : List B} (h : Vals bs) : bs.length ≤ 400 := by have := h.ok.1; simpa using this
theorem Vals.srt {bs : List B} (h : Vals bs) : Srt bs := by have := h.ok.srt; rwa [B.map_b] at this
theorem Vals.tok {bs : List B} (h : Vals bs) : ∀ b ∈ bs, b.to.ok := by have := h.ok.lift.2; rwa [B.map_b] at this
theorem Vals.var {bs : List B} (h : Vals bs) : ∀ b ∈ bs, 0 ≤ b.var ∧ b.var ≤ 100000 := fun b hb => by
  obtain ⟨i, hi⟩ := List.mem_iff_getElem?.1 hb
  exact (h.ok.2 i b.bd (by simp [hi])).1
theorem valsOk.vals {l : List Bd} (h : valsOk l) : ∃ bs : List B, l = bs.map B.bd ∧ Vals bs := ⟨l.map Bd.b, h.lift.1.symm, ⟨by rw [h.lift.1]; exact h⟩⟩
structure Subst (bs : List B) : Prop where
  vals : Vals bs
  bnd : ∀ b ∈ bs, bndOk bs b
theorem substOk_iff (bs : List B) : substOk (bs.map B.bd) ↔ Subst bs := by
  unfold substOk
  rw [B.map_b]
  exact ⟨fun h => ⟨⟨h.1⟩, h.2⟩, fun h => ⟨h.1.1, h.2⟩⟩
theorem substOk.subst {l : List Bd} (h : substOk l) : ∃ bs : List B, l = bs.map B.bd ∧ Subst bs := by
  obtain ⟨bs, rfl, _⟩ := h.1.vals
  exact ⟨bs, rfl, (substOk_iff bs).1 h⟩
section
variable {μ : Mem}
theorem spec_SubstOk_spec {l : List Bd} {base : Option Addr} {cap : Nat} (hsl : Sl μ 5 base l.length (l.map Bd.d)) (hw : D.wds (l.map Bd.d)) : Gives Try.prog 70 [.slice base l.length cap] μ (.bool (decide (substOk l))) := by
  refine Spec.forget (Spec.mk Try.func70 (by kernel_rfl) ?_)
  refine call_gives (l04Values_spec hsl hw) ?_
  refine ifnd (fun h => ret_plain (isF fun k => h k.1)) (fun hv => ?_)
  obtain ⟨bs, rfl, hbs⟩ := hv.vals
  rw [List.length_map] at hsl ⊢
  have hn := hbs.len
  refine loop_intro (fun p : Nat × Mem => p.1 ≤ bs.length ∧ μ.Le p.2 ∧ ∀ (j : Nat) b, j < p.1 → bs[j]? = some b → bndOk bs b)
    (fun (i, μ') => ⟨[(0, .val (.slice base bs.length cap)), (12, .val (.slice base bs.length cap)), (13, .val (.int .i64 bs.length)), (14, .val (.int .i64 i))], [], 0, μ', Mem.nil⟩) (fun p => bs.length - p.1)
    (0, μ) ⟨by simp, Mem.Le.refl μ, fun j b hj => by simp at hj⟩ (fun (_, _) => ⟨rfl, rfl⟩) ⟨⟨rfl, rfl, rfl, rfl, trivial⟩, trivial, rfl, rfl⟩ ?_
  rintro ⟨i, μ'⟩ ⟨hi, hle, hall⟩
  dsimp only at hi hle hall
  refine ifd (fun h => ?_) (fun h => ?_)
  · obtain ⟨b, hb⟩ := at_some (l := bs) (i := i) (by omega)
    obtain ⟨ad, p, hel, hto⟩ := B.elem (hsl.mono hle) hb
    have hsz := (hbs.tok b (mem_at hb)).2
    have hvs := T.vars_size b.to
    have bad : ¬ bndOk bs b → Value.bool false = .bool (decide (substOk (bs.map B.bd))) := fun k => isF fun hs => k (((substOk_iff bs).1 hs).bnd b (mem_at hb))
    refine elem_intro hel ?_
    intro r
    refine ifd (fun h1 => ?_) (fun h1 => ?_)
    · refine ifd (fun h2 => ret_plain (bad fun k => k.1 ⟨h1, h2⟩)) (fun h2 => ?_)
      have hk : ¬ (b.to.tm.kind = 1 ∧ b.var ≤ b.to.tm.num) := fun k => h2 k.2
      refine call_plain (l02Vars_spec b.to (l := []) hto (Rep.nilSl 1) (by simp; omega)) fun v μ2 hle2 hR => ?_
      obtain ⟨rs, hrs, hmem, hlen⟩ := hR
      obtain ⟨vb, vc, rfl, hvs⟩ := Rep.sl hrs
      rw [List.length_map] at hvs hrs ⊢
      have hsl2 := (hsl.mono hle).mono hle2
      refine loop_intro (fun k : Nat => k ≤ rs.length ∧ ∀ (j : Nat) n, j < k → rs[j]? = some n → sub bs n = none)
        (fun k => ⟨[(0, .val (.slice base bs.length cap)), (12, .val (.slice base bs.length cap)), (13, .val (.int .i64 bs.length)), (14, .val (.int .i64 i)), (32, .val (.slice vb rs.length vc)), (33, .val (.int .i64 rs.length)), (34, .val (.int .i64 k))], [], 0, μ2, Mem.nil⟩) (fun k => rs.length - k)
        0 ⟨by omega, fun j n hj => by omega⟩ (fun k => ⟨rfl, rfl⟩) ⟨⟨rfl, rfl, rfl, rfl, rfl, rfl, rfl, trivial⟩, trivial, rfl, rfl⟩ ?_
      rintro k ⟨hkl, hz⟩
      have hrl : rs.length ≤ 5000 := by simp at hlen; omega
      refine ifd (fun h5 => ?_) (fun h5 => ?_)
      · obtain ⟨n, hn'⟩ := at_some (l := rs) (i := k) (by omega)
        obtain ⟨ad2, hel2⟩ := Ints.elem hvs hn'
        refine elem_intro hel2 ?_
        refine call_plain (l04Get_spec hsl2) fun v' μ3 hle3 hR3 => ?_
        obtain ⟨hR3, e3⟩ := hR3
        obtain rfl := e3.symm
        cases hs : sub bs n with
        | some y =>
          rw [hs] at hR3
          obtain ⟨tv, rfl, htv⟩ := hR3
          obtain ⟨q, rfl⟩ := Tm.invV htv
          intro r7
          refine if_intro (fun _ => ret_plain (bad fun k => ?_)) (fun h => nomatch h)
          have := k.2 n (((hmem n).1 (mem_at hn')).elim id (fun h => absurd h (by simp)))
          rw [hs] at this; cases this
        | none =>
          rw [hs] at hR3
          obtain rfl := hR3
          intro r7
          refine if_intro (fun h => nomatch h) (fun _ => ?_)
          refine num64 (by omega) (by omega) ⟨k + 1, ⟨by omega, fun j m hj hm => ?_⟩, by omega, ⟨⟨rfl, rfl, rfl, rfl, rfl, rfl, rfl, trivial⟩, trivial, rfl, rfl⟩⟩
          rcases Nat.lt_or_ge j k with h6 | h6
          · exact hz j m h6 hm
          · obtain rfl : j = k := by omega
            rw [hn'] at hm; cases hm; exact hs
      · obtain rfl : k = rs.length := by omega
        refine num64 (by omega) (by omega) ⟨(i + 1, μ2), ⟨by dsimp only; omega, hle.trans hle2, fun j c hj hc => ?_⟩, by dsimp only; omega, ⟨⟨rfl, rfl, rfl, rfl, trivial⟩, trivial, rfl, rfl⟩⟩
        dsimp only at hj
        rcases Nat.lt_or_ge j i with h6 | h6
        · exact hall j c h6 hc
        · obtain rfl : j = i := by omega
          rw [hb] at hc; cases hc
          refine ⟨hk, fun n hnv => ?_⟩
          obtain ⟨m, hm⟩ := List.mem_iff_getElem?.1 ((hmem n).2 (.inl hnv))
          exact hz m n (List.getElem?_eq_some_iff.1 hm).1 hm
    · have hk : ¬ (b.to.tm.kind = 1 ∧ b.var ≤ b.to.tm.num) := fun k => h1 k.1
      refine call_plain (l02Vars_spec b.to (l := []) hto (Rep.nilSl 1) (by simp; omega)) fun v μ2 hle2 hR => ?_
      obtain ⟨rs, hrs, hmem, hlen⟩ := hR
      obtain ⟨vb, vc, rfl, hvs⟩ := Rep.sl hrs
      rw [List.length_map] at hvs hrs ⊢
      have hsl2 := (hsl.mono hle).mono hle2
      refine loop_intro (fun k : Nat => k ≤ rs.length ∧ ∀ (j : Nat) n, j < k → rs[j]? = some n → sub bs n = none)
        (fun k => ⟨[(0, .val (.slice base bs.length cap)), (12, .val (.slice base bs.length cap)), (13, .val (.int .i64 bs.length)), (14, .val (.int .i64 i)), (32, .val (.slice vb rs.length vc)), (33, .val (.int .i64 rs.length)), (34, .val (.int .i64 k))], [], 0, μ2, Mem.nil⟩) (fun k => rs.length - k)
        0 ⟨by omega, fun j n hj => by omega⟩ (fun k => ⟨rfl, rfl⟩) ⟨⟨rfl, rfl, rfl, rfl, rfl, rfl, rfl, trivial⟩, trivial, rfl, rfl⟩ ?_
      rintro k ⟨hkl, hz⟩
      have hrl : rs.length ≤ 5000 := by simp at hlen; omega
      refine ifd (fun h5 => ?_) (fun h5 => ?_)
      · obtain ⟨n, hn'⟩ := at_some (l := rs) (i := k) (by omega)
        obtain ⟨ad2, hel2⟩ := Ints.elem hvs hn'
        refine elem_intro hel2 ?_
        refine call_plain (l04Get_spec hsl2) fun v' μ3 hle3 hR3 => ?_
        obtain ⟨hR3, e3⟩ := hR3
        obtain rfl := e3.symm
        cases hs : sub bs n with
        | some y =>
          rw [hs] at hR3
          obtain ⟨tv, rfl, htv⟩ := hR3
          obtain ⟨q, rfl⟩ := Tm.invV htv
          intro r7
          refine if_intro (fun _ => ret_plain (bad fun k => ?_)) (fun h => nomatch h)
          have := k.2 n (((hmem n).1 (mem_at hn')).elim id (fun h => absurd h (by simp)))
          rw [hs] at this; cases this
        | none =>
          rw [hs] at hR3
          obtain rfl := hR3
          intro r7
          refine if_intro (fun h => nomatch h) (fun _ => ?_)
          refine num64 (by omega) (by omega) ⟨k + 1, ⟨by omega, fun j m hj hm => ?_⟩, by omega, ⟨⟨rfl, rfl, rfl, rfl, rfl, rfl, rfl, trivial⟩, trivial, rfl, rfl⟩⟩
          rcases Nat.lt_or_ge j k with h6 | h6
          · exact hz j m h6 hm
          · obtain rfl : j = k := by omega
            rw [hn'] at hm; cases hm; exact hs
      · obtain rfl : k = rs.length := by omega
        refine num64 (by omega) (by omega) ⟨(i + 1, μ2), ⟨by dsimp only; omega, hle.trans hle2, fun j c hj hc => ?_⟩, by dsimp only; omega, ⟨⟨rfl, rfl, rfl, rfl, trivial⟩, trivial, rfl, rfl⟩⟩
        dsimp only at hj
        rcases Nat.lt_or_ge j i with h6 | h6
        · exact hall j c h6 hc
        · obtain rfl : j = i := by omega
          rw [hb] at hc; cases hc
          refine ⟨hk, fun n hnv => ?_⟩
          obtain ⟨m, hm⟩ := List.mem_iff_getElem?.1 ((hmem n).2 (.inl hnv))
          exact hz m n (List.getElem?_eq_some_iff.1 hm).1 hm
  · obtain rfl : i = bs.length := by omega
    exact ret_plain (isT ((substOk_iff bs).2 ⟨hbs, fun b hb => by
      obtain ⟨j, hj⟩ := List.mem_iff_getElem?.1 hb
      exact hall j b (List.getElem?_eq_some_iff.1 hj).1 hj⟩))
/-- A cell of one's own beside other memory. -/
def boolOn (H : Mem) (r : Nat) (b : Bool) : Mem := H.set r (.cells #[.bool b] 4 (0, 0))
noncomputable def unbound (bs : List B) (f : Bool) (n : Int) : Bool := if sub bs n = none then f else false
theorem SubstOk1_spec {bs : List B} {base : Option Addr} {cap : Nat} {H : Mem} {r1 : Nat} {t1 : TypeId} (r : Nat) (b : Bool) (n : Int) (hs : Srt bs) (hlen : bs.length ≤ 1000000000) (hsl : Sl μ 5 base bs.length ((bs.map B.bd).map Bd.d)) (h1 : μ r1 = some (.cells #[.slice base bs.length cap] t1 (0, 0))) :
    SpecH Try.prog 153 [.int .i64 n, .pointer (some ⟨r1, 0, none⟩), .pointer (some ⟨r, 0, none⟩)] μ (boolOn H r b) fun v μ' h' => v = .tuple #[] ∧ μ' = μ ∧ h' = boolOn H r (unbound bs b n) := by
  refine SpecH.mk [] Try.func153 (by kernel_rfl) ?_
  refine ext_intro [.slice base bs.length cap] rfl (box_at h1) ?_
  refine call_plain (find_spec hs hlen hsl) fun v μ2 hle2 hR => ?_
  obtain ⟨hR, e2⟩ := hR
  obtain rfl := e2.symm
  rcases hR with ⟨i, c, rfl, hc, hn⟩ | ⟨rfl, hno⟩
  · refine ifd (fun _ => ?_) (fun h => absurd h (by omega))
    refine sto_intro (h := boolOn H r b) (a := ⟨r, 0, none⟩) [.bool b] 4 (set_self _ _ _) rfl ?_ ?_
    · exact Nat.le_refl _
    have e : sub bs n ≠ none := by rw [sub_some hs hc hn]; exact fun h => nomatch h
    exact ret_plain ⟨rfl, rfl, by rw [unbound, if_neg e]; exact Mem.set_set _ _ _ _⟩
  · refine ifd (fun h => absurd h (by omega)) (fun _ => ?_)
    exact ret_plain ⟨rfl, rfl, by rw [unbound, if_pos (sub_none hno)]⟩
theorem unbound_all (bs : List B) : ∀ (l : List Int) (f : Bool), l.foldl (unbound bs) f = (f && decide (∀ n ∈ l, sub bs n = none))
  | [], f => by simp
  | n :: l, f => by
    rw [List.foldl_cons, unbound_all bs l, unbound]
    by_cases h : sub bs n = none <;> simp [h]
theorem impl_SubstOk_spec {l : List Bd} {base : Option Addr} {cap : Nat} (hsl : Sl μ 5 base l.length (l.map Bd.d)) : Gives Try.prog 75 [.slice base l.length cap] μ (.bool (decide (substOk l))) := by
  refine Spec.forget (Spec.mkO [5] Try.func75 (by kernel_rfl) ?_)
  intro r1
  refine call_frz [0] ?_
  intro μ1 hle1 hno1 hat1
  refine call_go (impl_ValuesOk_spec (hsl.mono hle1)) fun v μ2 hle2 hR => ?_
  obtain ⟨rfl, e2⟩ := hR
  obtain rfl := e2.symm
  refine ifnd (fun h => ret_plain (isF fun k => h k.1)) (fun hv => ?_)
  obtain ⟨bs, rfl, hbs⟩ := hv.vals
  rw [List.length_map] at hsl hat1 ⊢
  have hn := hbs.len
  have hsl1 := hsl.mono hle1
  refine ext_intro [.slice base bs.length cap] rfl (box_at hat1) ?_
  refine loop_intro (fun p : Nat × Mem => p.1 ≤ bs.length ∧ ∀ (j : Nat) b, j < p.1 → bs[j]? = some b → bndOk bs b)
    (fun (i, H) => ⟨[(1, .loc 0 r1 0), (9, .val (.slice base bs.length cap)), (10, .val (.int .i64 bs.length)), (11, .val (.int .i64 i))], [], 1, μ1, H⟩) (fun p => bs.length - p.1)
    (0, Mem.nil) ⟨by simp, fun j b hj => by simp at hj⟩ (fun (_, _) => ⟨rfl, rfl⟩) ⟨⟨rfl, rfl, rfl, rfl, trivial⟩, trivial, rfl, rfl⟩ ?_
  rintro ⟨i, H⟩ ⟨hi, hall⟩
  dsimp only at hi hall
  refine ifd (fun h => ?_) (fun h => ?_)
  · obtain ⟨b, hb⟩ := at_some (l := bs) (i := i) (by omega)
    obtain ⟨ad, p, hel, hto⟩ := B.elem hsl1 hb
    have bad : ¬ bndOk bs b → Value.bool false = .bool (decide (substOk (bs.map B.bd))) := fun k => isF fun hs => k (((substOk_iff bs).1 hs).bnd b (mem_at hb))
    refine elem_intro hel ?_
    intro r r5 hm5 ho5
    refine sto_intro [.bool false] 4 (set_self _ _ _) rfl ?_ ?_
    · exact Nat.le_refl _
    have e : ((H.set r5 (.cells #[.bool false] 4 (0, 0))).set r5 (.cells #[.bool true] 4 (0, 0))) = boolOn H r5 true := Mem.set_set _ _ _ _
    refine call_own (R := fun r μ' h' => r = .tuple #[] ∧ μ' = μ1 ∧ h' = boolOn H r5 (b.to.vars.foldl (unbound bs) true)) ?_ fun v μ' h' hle hap hR => ?_
    · have := eachVar_spec (μ := μ1) (boolOn H r5) (unbound bs) (Q := fun _ => True) (fun s n _ => SubstOk1_spec (H := H) r5 s n hbs.srt (by omega) hsl1 hat1) b.to true hto (fun _ _ => trivial)
      rw [← e] at this
      exact this
    obtain ⟨rfl, e4, rfl⟩ := hR
    obtain rfl := e4.symm
    rw [unbound_all, Bool.true_and]
    refine own_intro [.bool (decide (∀ n ∈ b.to.vars, sub bs n = none))] rfl (fun j v hj => ?_) ?_
    · match j, hj with
      | 0, hj => cases hj; simp [boolOn, Mem.cell, Addr.add_lit', set_self]
    have fin : bndOk bs b → ∀ (j : Nat) c, j < i + 1 → bs[j]? = some c → bndOk bs c := fun hok j c hj hc => by
      rcases Nat.lt_or_ge j i with h6 | h6
      · exact hall j c h6 hc
      · obtain rfl : j = i := by omega
        rw [hb] at hc; cases hc; exact hok
    refine ifnd (fun h1 => ret_plain (bad fun k => h1 k.2)) (fun h1 => ?_)
    refine ifd (fun h2 => ?_) (fun h2 => ?_)
    · refine ifd (fun h3 => ret_plain (bad fun k => k.1 ⟨h2, h3⟩)) (fun h3 => ?_)
      exact num64 (by omega) (by omega) ⟨(i + 1, _), ⟨by dsimp only; omega, fin ⟨fun k => h3 k.2, h1⟩⟩, by dsimp only; omega, ⟨⟨rfl, rfl, rfl, rfl, trivial⟩, trivial, rfl, rfl⟩⟩
    · exact num64 (by omega) (by omega) ⟨(i + 1, _), ⟨by dsimp only; omega, fin ⟨fun k => h2 k.1, h1⟩⟩, by dsimp only; omega, ⟨⟨rfl, rfl, rfl, rfl, trivial⟩, trivial, rfl, rfl⟩⟩
  · obtain rfl : i = bs.length := by omega
    exact ret_plain (isT ((substOk_iff bs).2 ⟨hbs, fun b hb => by
      obtain ⟨j, hj⟩ := List.mem_iff_getElem?.1 hb
      exact hall j b (List.getElem?_eq_some_iff.1 hj).1 hj⟩))
end
end Go.Vx

/- Marks counted; the term of an answer. -/
namespace Go.Vx
open Go.Proofs Classical
theorem tm_cnt : ∀ t : Tm, t.d.cnt = 3 * t.cnt :=
  Tm.ind fun k n s l ih => by
    have : D.cnts (l.map Tm.d) = 3 * Tm.cnts l := by
      induction l with
      | nil => rfl
      | cons t l ih2 =>
        have h1 := ih t (by simp)
        have h2 := ih2 fun t ht => ih t (by simp [ht])
        simp only [List.map_cons, D.cnts, Tm.cnts, h1, h2]; omega
    rw [Tm.cnt_eq, Tm.cnt]
    show 3 + D.cnts (l.map Tm.d) = _
    omega
theorem tm_cnt_sz : ∀ t : Tm, t.d.cnt ≤ 3 + 3 * t.d.sz :=
  Tm.ind fun k n s l ih => by
    have : D.cnts (l.map Tm.d) ≤ 3 * l.length + 3 * D.szs (l.map Tm.d) := by
      induction l with
      | nil => simp [D.cnts, D.szs]
      | cons t l ih2 =>
        have h1 := ih t (by simp)
        have h2 := ih2 fun t ht => ih t (by simp [ht])
        simp only [List.map_cons, D.cnts, D.szs, List.length_cons]; omega
    rw [Tm.cnt_eq, Tm.d_mk]
    show 3 + D.cnts (l.map Tm.d) ≤ _
    simp only [D.sz, D.szs, List.length_map]
    omega
theorem bds_cnt : ∀ l : List Bd, D.cnts (l.map Bd.d) ≤ 4 * l.length + 3 * D.szs (l.map Bd.d)
  | [] => by simp [D.cnts, D.szs]
  | b :: l => by
    have h1 := bds_cnt l
    have h2 := tm_cnt_sz b.to
    rw [Tm.cnt_eq] at h2
    have h3 := Bd.cnt_eq b
    have h4 : b.d.sz = b.to.d.sz := by simp [Bd.d, D.sz, D.szs]
    simp only [List.map_cons, D.cnts, D.szs, List.length_cons]; omega
theorem tm_mt (t : Tm) (k : Int) : (t.d.mt k).2 = k + D.cnts (t.args.map Tm.d) := by rw [Tm.mt_eq]; exact D.mks_cnt _ _
/-- The term of an answer. -/
def resTm : Option T → Tm
  | some y => y.tm
  | none => .mk 0 0 ⟨#[]⟩ []
theorem zero_own : OwnV (resTm none).d Mem.nil (.agg #[.int .i64 0, .int .i64 0, .string ⟨#[]⟩, .slice none 0 0]) := by
  rw [resTm, Tm.d_mk]
  exact ⟨_, rfl, OwnS.int (OwnS.int (OwnS.str (OwnS.last (Own.nilSl 4))))⟩
theorem optV_rep {μ : Mem} {o : Option T} {v : Value} (h : optV (fun y tv => RepV μ y.tm.d tv) o v) : ∃ tv, v = .tuple #[tv, .bool o.isSome] ∧ RepV μ (resTm o).d tv := by
  cases o with
  | some y => obtain ⟨tv, rfl, h⟩ := h; exact ⟨tv, rfl, h⟩
  | none => exact ⟨_, h, zero_own.rep (fun _ _ h => nomatch h)⟩
theorem optV_fresh {μ μ' : Mem} {o : Option T} {v : Value} (h : optV (fun y tv => Fresh μ μ' y.tm.d tv) o v) : ∃ tv, v = .tuple #[tv, .bool o.isSome] ∧ Fresh μ μ' (resTm o).d tv := by
  cases o with
  | some y => obtain ⟨tv, rfl, h⟩ := h; exact ⟨tv, rfl, h⟩
  | none => exact ⟨_, h, Mem.nil, zero_own, (fun _ _ h => nomatch h), fun _ h => absurd rfl h⟩
end Go.Vx

/- Contracts: substitutions applied; which one is more general; unifiers. -/
namespace Go.Vx
open Go.Proofs Classical
/-! ### Plain -/
noncomputable def appl (l : List Bd) (t : Tm) : Option T := if substOk l ∧ t.Ok then fit (t.toT.subst (sub (l.map Bd.b))) else none
theorem fit_some {x y : T} : fit x = some y ↔ x.size ≤ 5000 ∧ x = y := by
  unfold fit
  split
  · rename_i h; exact ⟨fun k => ⟨h, Option.some.inj k⟩, fun k => by rw [k.2]⟩
  · rename_i h; exact ⟨fun k => (nomatch k), fun k => absurd k.1 h⟩
theorem fit_isSome (x : T) : (fit x).isSome = decide (x.size ≤ 5000) := by
  unfold fit
  split <;> simp_all
section
variable {μ : Mem}
theorem spec_ApplySubst_spec {t : Tm} {l : List Bd} {v : Value} {base : Option Addr} {cap : Nat} (hsl : Sl μ 5 base l.length (l.map Bd.d)) (hwl : D.wds (l.map Bd.d)) (hv : RepV μ t.d v) (hw : t.d.wd) :
    Spec Try.prog 15 [.slice base l.length cap, v] μ fun v μ' => optV (fun y tv => RepV μ' y.tm.d tv) (appl l t) v := by
  obtain ⟨p, rfl⟩ := Tm.invV hv
  refine Spec.mk Try.func15 (by kernel_rfl) ?_
  intro r1 r2
  refine call_gives (spec_SubstOk_spec hsl hwl) ?_
  refine ifnd (fun h => ret_plain (by rw [appl, if_neg fun k => h k.1]; rfl)) (fun h1 => ?_)
  refine call_gives (spec_TermOk_spec t hv hw) ?_
  refine ifnd (fun h => ret_plain (by rw [appl, if_neg fun k => h k.2]; rfl)) (fun h2 => ?_)
  obtain ⟨x, _, rfl⟩ := h2.lift
  obtain ⟨bs, rfl, hbs⟩ := h1.subst
  rw [List.length_map] at hsl ⊢
  have e3 : appl (bs.map B.bd) x.tm = fit (x.subst (sub bs)) := by
    rw [appl, if_pos ⟨h1, h2⟩, T.toT_tm, B.map_b]
  rw [e3]
  refine call_plain (l04Apply_spec x hsl hv) fun v1 μ1 hle1 hR => ?_
  obtain ⟨tv, rfl, hR⟩ := hR
  obtain ⟨q, rfl⟩ := Tm.invV hR
  intro r3
  refine ifnd (fun h => ret_plain (by rw [fit, if_neg h]; rfl)) (fun h3 => ?_)
  refine call_plain (l02Copy_spec _ hR) fun v2 μ2 hle2 hR2 => ?_
  obtain ⟨q2, rfl⟩ := Tm.invV hR2
  refine ret_plain ?_
  rw [fit, if_pos h3]
  exact ⟨_, rfl, hR2⟩
theorem impl_ApplySubst_spec {t : Tm} {l : List Bd} {v : Value} {base : Option Addr} {cap : Nat} (hsl : Sl μ 5 base l.length (l.map Bd.d)) (hv : RepV μ t.d v) :
    Spec Try.prog 18 [.slice base l.length cap, v] μ fun v μ' => optV (fun y tv => Fresh μ μ' y.tm.d tv) (appl l t) v := by
  obtain ⟨p, rfl⟩ := Tm.invV hv
  refine Spec.mk Try.func18 (by kernel_rfl) ?_
  intro r1 r2
  refine call_gives (impl_SubstOk_spec hsl) ?_
  refine ifnd (fun h => ret_plain (by rw [appl, if_neg fun k => h k.1]; rfl)) (fun h1 => ?_)
  refine call_gives (impl_TermOk_spec t hv) ?_
  refine ifnd (fun h => ret_plain (by rw [appl, if_neg fun k => h k.2]; rfl)) (fun h2 => ?_)
  obtain ⟨x, _, rfl⟩ := h2.lift
  obtain ⟨bs, rfl, hbs⟩ := h1.subst
  rw [List.length_map] at hsl ⊢
  have hlen := hbs.vals.len
  have e3 : appl (bs.map B.bd) x.tm = fit (x.subst (sub bs)) := by
    rw [appl, if_pos ⟨h1, h2⟩, T.toT_tm, B.map_b]
  rw [e3]
  refine call_plain (put_spec x hbs.vals.srt (by omega) hbs.vals.tok hsl hv) fun v1 μ1 hle1 hR => ?_
  cases hf : fit (x.subst (sub bs)) with
  | some y =>
    rw [hf] at hR
    obtain ⟨tv, rfl, htv⟩ := hR
    obtain ⟨q, rfl⟩ := Tm.invV htv.rep
    exact ret_plain ⟨_, rfl, htv⟩
  | none =>
    rw [hf] at hR
    obtain rfl := hR
    exact ret_plain rfl
end
end Go.Vx

/- Contracts: the reference's Instantiate. -/
namespace Go.Vx
open Go.Proofs Classical
section
variable {μ : Mem}
/-- What 'Instantiate' gives. -/
noncomputable def inst (t : Tm) (l : List Bd) : Option T := if t.Ok ∧ valsOk l ∧ (t.toT.subst (sub (l.map Bd.b))).size ≤ 5000 then some (t.toT.subst (sub (l.map Bd.b))) else none
theorem spec_Instantiate_spec {t : Tm} {l : List Bd} {v : Value} {base : Option Addr} {cap : Nat} (hv : RepV μ t.d v) (hw : t.d.wd) (hsl : Sl μ 5 base l.length (l.map Bd.d)) (hwl : D.wds (l.map Bd.d)) :
    Spec Try.prog 80 [v, .slice base l.length cap] μ fun v μ' => optV (fun y tv => RepV μ' y.tm.d tv) (inst t l) v := by
  obtain ⟨p, rfl⟩ := Tm.invV hv
  refine Spec.mk Try.func80 (by kernel_rfl) ?_
  intro r1 r2
  refine call_gives (spec_TermOk_spec t hv hw) ?_
  refine ifnd (fun h => ret_plain (by rw [inst, if_neg fun k => h k.1]; rfl)) (fun h1 => ?_)
  refine call_gives (spec_ValuesOk_spec hsl hwl) ?_
  refine ifnd (fun h => ret_plain (by rw [inst, if_neg fun k => h k.2.1]; rfl)) (fun h2 => ?_)
  have e1 := h1.toT.2
  have e2 := h2.lift.1
  have hv' : RepV μ t.toT.tm.d (.agg #[.int .i64 t.kind, .int .i64 t.num, .string t.name, .slice p.1 t.args.length p.2]) := by rw [e1]; exact hv
  have hsl' : Sl μ 5 base (l.map Bd.b).length (((l.map Bd.b).map B.bd).map Bd.d) := by rw [e2, List.length_map]; exact hsl
  have hcall := l04Apply_spec (cap := cap) t.toT hsl' hv'
  rw [List.length_map] at hcall
  refine call_plain hcall fun v1 μ1 hle1 hR => ?_
  obtain ⟨tv, rfl, hR⟩ := hR
  obtain ⟨q, rfl⟩ := Tm.invV hR
  intro r3
  refine ifnd (fun h => ret_plain (by rw [inst, if_neg fun k => h k.2.2]; rfl)) (fun h3 => ?_)
  refine call_plain (l02Copy_spec _ hR) fun v2 μ2 hle2 hR2 => ?_
  obtain ⟨q2, rfl⟩ := Tm.invV hR2
  refine ret_plain ?_
  rw [inst, if_pos ⟨h1, h2, h3⟩]
  exact ⟨_, rfl, hR2⟩
end
end Go.Vx

/- Contracts: a disequality holds of values. -/
namespace Go.Vx
open Go.Proofs Classical
def differ (bl : List B) (b : B) : Prop := ∃ x y, fit ((T.var b.var).subst (sub bl)) = some x ∧ fit (b.to.subst (sub bl)) = some y ∧ x ≠ y
def disHolds (l m : List Bd) : Prop := substOk l ∧ valsOk m ∧ ∃ b ∈ l.map Bd.b, differ (m.map Bd.b) b
theorem disHolds_iff (bs bl : List B) : disHolds (bs.map B.bd) (bl.map B.bd) ↔ Subst bs ∧ Vals bl ∧ ∃ b ∈ bs, differ bl b := by
  unfold disHolds
  rw [substOk_iff, B.map_b, B.map_b]
  exact ⟨fun h => ⟨h.1, ⟨h.2.1⟩, h.2.2⟩, fun h => ⟨h.1, h.2.1.1, h.2.2⟩⟩
theorem inst_tm {x : T} (hx : x.ok) (m : List Bd) : inst x.tm m = if valsOk m then fit (x.subst (sub (m.map Bd.b))) else none := by
  rw [inst, T.toT_tm, fit]
  by_cases h : valsOk m
  · rw [if_pos h]
    by_cases h2 : (x.subst (sub (m.map Bd.b))).size ≤ 5000
    · rw [if_pos ⟨hx.tm, h, h2⟩, if_pos h2]
    · rw [if_neg fun k => h2 k.2.2, if_neg h2]
  · rw [if_neg fun k => h k.2.1, if_neg h]
theorem var_ok {n : Int} (h : 0 ≤ n ∧ n ≤ 100000) : (T.var n).ok := ⟨h, by simp [T.size]⟩
theorem var_wd {n : Int} (h : 0 ≤ n ∧ n ≤ 100000) : (T.var n).tm.d.wd := by
  rw [T.d_eq]
  exact ⟨⟨show (-9223372036854775808 : Int) ≤ 1 by decide, show (1 : Int) ≤ 9223372036854775807 by decide⟩, ⟨show _ ≤ n by omega, show n ≤ _ by omega⟩, Nat.zero_le _, trivial, trivial⟩
section
variable {μ : Mem}
theorem impl_DisequalityHolds_spec {l m : List Bd} {base base2 : Option Addr} {cap cap2 : Nat} (hsl : Sl μ 5 base l.length (l.map Bd.d)) (hsl2 : Sl μ 5 base2 m.length (m.map Bd.d)) :
    Gives Try.prog 25 [.slice base l.length cap, .slice base2 m.length cap2] μ (.bool (decide (disHolds l m))) := by
  refine Spec.forget (Spec.mk Try.func25 (by kernel_rfl) ?_)
  refine call_gives (impl_SubstOk_spec hsl) ?_
  refine ifnd (fun h => ret_plain (isF fun k => h k.1)) (fun h1 => ?_)
  refine call_gives (impl_ValuesOk_spec hsl2) ?_
  refine ifnd (fun h => ret_plain (isF fun k => h k.2.1)) (fun h2 => ?_)
  obtain ⟨bs, rfl, hbs⟩ := h1.subst
  obtain ⟨bt, rfl, ht⟩ := h2.vals
  rw [List.length_map] at hsl ⊢
  rw [List.length_map] at hsl2 ⊢
  have hn := hbs.vals.len
  have htl := ht.len
  let good := differ bt
  have none : (∀ b ∈ bs, ¬ good b) → Value.bool false = .bool (decide (disHolds (bs.map B.bd) (bt.map B.bd))) := fun k => isF fun h => by
    obtain ⟨b, hb, h⟩ := ((disHolds_iff bs bt).1 h).2.2
    exact k b hb h
  refine loop_intro (fun p : Nat × Mem => p.1 ≤ bs.length ∧ μ.Le p.2 ∧ ∀ (j : Nat) b, j < p.1 → bs[j]? = some b → ¬ good b)
    (fun (i, μ') => ⟨[(1, .val (.slice base2 bt.length cap2)), (19, .val (.slice base bs.length cap)), (20, .val (.int .i64 bs.length)), (21, .val (.int .i64 i))], [], 0, μ', Mem.nil⟩) (fun p => bs.length - p.1)
    (0, μ) ⟨by simp, Mem.Le.refl μ, fun j b hj => by simp at hj⟩ (fun (_, _) => ⟨rfl, rfl⟩) ⟨⟨rfl, rfl, rfl, rfl, trivial⟩, trivial, rfl, rfl⟩ ?_
  rintro ⟨i, μ'⟩ ⟨hi, hle, hall⟩
  dsimp only at hi hle hall
  refine ifd (fun h => ?_) (fun h => ?_)
  rotate_left
  · obtain rfl : i = bs.length := by omega
    exact ret_plain (none fun b hb => by
      obtain ⟨j, hj⟩ := List.mem_iff_getElem?.1 hb
      exact hall j b (List.getElem?_eq_some_iff.1 hj).1 hj)
  obtain ⟨b, hb⟩ := at_some (l := bs) (i := i) (by omega)
  obtain ⟨ad, p, hel, hto⟩ := B.elem (hsl.mono hle) hb
  have hsl2' := hsl2.mono hle
  have fin : ∀ μ3, μ'.Le μ3 → ¬ good b → i + 1 ≤ bs.length ∧ μ.Le μ3 ∧ ∀ (j : Nat) c, j < i + 1 → bs[j]? = some c → ¬ good c := fun μ3 hle3 hg => ⟨by omega, hle.trans hle3, fun j c hj hc => by
    rcases Nat.lt_or_ge j i with h6 | h6
    · exact hall j c h6 hc
    · obtain rfl : j = i := by omega
      rw [hb] at hc; cases hc; exact hg⟩
  refine elem_intro hel ?_
  intro r
  have no : ¬ differ bt b → ¬ good b := id
  have yes : ∀ b ∈ bs, differ bt b → Value.bool true = .bool (decide (disHolds (bs.map B.bd) (bt.map B.bd))) := fun b hb h => isT ((disHolds_iff bs bt).2 ⟨hbs, ht, b, hb, h⟩)
  refine call_gives (variable_spec _) ?_
  refine call_plain (put_spec (T.var b.var) ht.srt (by omega) ht.tok hsl2' (varV_rep _)) fun v1 μ1 hle1 hR1 => ?_
  obtain ⟨tv1, rfl, hf1⟩ := optV_fresh hR1
  obtain ⟨p1, rfl⟩ := Tm.invV hf1.rep
  intro r7
  refine call_plain (put_spec b.to ht.srt (by omega) ht.tok (hsl2'.mono hle1) (hto.mono hle1)) fun v2 μ2 hle2 hR2 => ?_
  obtain ⟨tv2, rfl, hf2⟩ := optV_fresh hR2
  obtain ⟨p2, rfl⟩ := Tm.invV hf2.rep
  intro r9
  cases e1 : fit ((T.var b.var).subst (sub bt)) with
  | none => exact if_intro (fun h => nomatch h) (fun _ => num64 (by omega) (by omega) ⟨(i + 1, μ2), fin μ2 (hle1.trans hle2) (no (by rintro ⟨x, y, k, _⟩; first | cases k | (rw [e1] at k; cases k))), by dsimp only; omega, ⟨⟨rfl, rfl, rfl, rfl, trivial⟩, trivial, rfl, rfl⟩⟩)
  | some x1 =>
    refine if_intro (fun _ => ?_) (fun h => nomatch h)
    cases e2 : fit (b.to.subst (sub bt)) with
    | none => exact if_intro (fun h => nomatch h) (fun _ => num64 (by omega) (by omega) ⟨(i + 1, μ2), fin μ2 (hle1.trans hle2) (no (by rintro ⟨x, y, _, k, _⟩; first | cases k | (rw [e2] at k; cases k))), by dsimp only; omega, ⟨⟨rfl, rfl, rfl, rfl, trivial⟩, trivial, rfl, rfl⟩⟩)
    | some x2 =>
      refine if_intro (fun _ => ?_) (fun h => nomatch h)
      rw [e1] at hf1
      rw [e2] at hf2
      refine call_gives (equalTerms_spec x1 x2 (hf1.rep.mono hle2) hf2.rep) ?_
      refine ifnd (fun h9 => ?_) (fun h9 => ?_)
      · exact ret_plain (yes b (mem_at hb) ⟨x1, x2, e1, e2, h9⟩)
      · exact num64 (by omega) (by omega) ⟨(i + 1, μ2), fin μ2 (hle1.trans hle2) (no (by rintro ⟨x, y, k1, k2, k3⟩; first | cases k1 | (rw [e1] at k1; cases k1); first | cases k2 | (rw [e2] at k2; cases k2); exact k3 h9)), by dsimp only; omega, ⟨⟨rfl, rfl, rfl, rfl, trivial⟩, trivial, rfl, rfl⟩⟩
theorem spec_DisequalityHolds_spec {l m : List Bd} {base base2 : Option Addr} {cap cap2 : Nat} (hsl : Sl μ 5 base l.length (l.map Bd.d)) (hw : D.wds (l.map Bd.d)) (hsl2 : Sl μ 5 base2 m.length (m.map Bd.d)) (hw2 : D.wds (m.map Bd.d)) :
    Gives Try.prog 24 [.slice base l.length cap, .slice base2 m.length cap2] μ (.bool (decide (disHolds l m))) := by
  refine Spec.forget (Spec.mk Try.func24 (by kernel_rfl) ?_)
  refine call_gives (spec_SubstOk_spec hsl hw) ?_
  refine ifnd (fun h => ret_plain (isF fun k => h k.1)) (fun h1 => ?_)
  obtain ⟨bs, rfl, hbs⟩ := h1.subst
  rw [List.length_map] at hsl ⊢
  have hn := hbs.vals.len
  let good := fun b : B => ∃ x y, inst (T.var b.var).tm m = some x ∧ inst b.to.tm m = some y ∧ x ≠ y
  have hgood : ∀ b ∈ bs, good b ↔ valsOk m ∧ differ (m.map Bd.b) b := fun b hb => by
    have h1 := inst_tm (var_ok (hbs.vals.var b hb)) m
    have h2 := inst_tm (hbs.vals.tok b hb) m
    show (∃ x y, inst (T.var b.var).tm m = some x ∧ inst b.to.tm m = some y ∧ x ≠ y) ↔ _
    rw [h1, h2]
    by_cases hv : valsOk m
    · rw [if_pos hv, if_pos hv]; exact ⟨fun h => ⟨hv, h⟩, fun h => h.2⟩
    · rw [if_neg hv, if_neg hv]; exact ⟨fun ⟨x, y, h, _⟩ => (nomatch h), fun h => absurd h.1 hv⟩
  have hiff : disHolds (bs.map B.bd) m ↔ ∃ b ∈ bs, good b := by
    unfold disHolds
    rw [substOk_iff, B.map_b]
    exact ⟨fun ⟨_, h2, b, hb, h3⟩ => ⟨b, hb, (hgood b hb).2 ⟨h2, h3⟩⟩, fun ⟨b, hb, h⟩ => ⟨hbs, ((hgood b hb).1 h).1, b, hb, ((hgood b hb).1 h).2⟩⟩
  have none : (∀ b ∈ bs, ¬ good b) → Value.bool false = .bool (decide (disHolds (bs.map B.bd) m)) := fun k => isF fun h => by
    obtain ⟨b, hb, h⟩ := hiff.1 h
    exact k b hb h
  refine loop_intro (fun p : Nat × Mem => p.1 ≤ bs.length ∧ μ.Le p.2 ∧ ∀ (j : Nat) b, j < p.1 → bs[j]? = some b → ¬ good b)
    (fun (i, μ') => ⟨[(1, .val (.slice base2 m.length cap2)), (14, .val (.slice base bs.length cap)), (15, .val (.int .i64 bs.length)), (16, .val (.int .i64 i))], [], 0, μ', Mem.nil⟩) (fun p => bs.length - p.1)
    (0, μ) ⟨by simp, Mem.Le.refl μ, fun j b hj => by simp at hj⟩ (fun (_, _) => ⟨rfl, rfl⟩) ⟨⟨rfl, rfl, rfl, rfl, trivial⟩, trivial, rfl, rfl⟩ ?_
  rintro ⟨i, μ'⟩ ⟨hi, hle, hall⟩
  dsimp only at hi hle hall
  refine ifd (fun h => ?_) (fun h => ?_)
  rotate_left
  · obtain rfl : i = bs.length := by omega
    exact ret_plain (none fun b hb => by
      obtain ⟨j, hj⟩ := List.mem_iff_getElem?.1 hb
      exact hall j b (List.getElem?_eq_some_iff.1 hj).1 hj)
  obtain ⟨b, hb⟩ := at_some (l := bs) (i := i) (by omega)
  obtain ⟨ad, p, hel, hto⟩ := B.elem (hsl.mono hle) hb
  have hsl2' := hsl2.mono hle
  have fin : ∀ μ3, μ'.Le μ3 → ¬ good b → i + 1 ≤ bs.length ∧ μ.Le μ3 ∧ ∀ (j : Nat) c, j < i + 1 → bs[j]? = some c → ¬ good c := fun μ3 hle3 hg => ⟨by omega, hle.trans hle3, fun j c hj hc => by
    rcases Nat.lt_or_ge j i with h6 | h6
    · exact hall j c h6 hc
    · obtain rfl : j = i := by omega
      rw [hb] at hc; cases hc; exact hg⟩
  refine elem_intro hel ?_
  intro r
  have no : ¬ (∃ x y, inst (T.var b.var).tm m = some x ∧ inst b.to.tm m = some y ∧ x ≠ y) → ¬ good b := id
  have yes : ∀ b ∈ bs, (∃ x y, inst (T.var b.var).tm m = some x ∧ inst b.to.tm m = some y ∧ x ≠ y) → Value.bool true = .bool (decide (disHolds (bs.map B.bd) m)) := fun b hb h => isT (hiff.2 ⟨b, hb, h⟩)
  have hwt : b.to.tm.d.wd := (D.wds_mem hw _ (mem_at (at_map (f := Bd.d) (l := bs.map B.bd) (j := i) (a := b.bd) (by simp [hb])))).2.1
  refine call_gives (l02Var_spec _) ?_
  refine call_plain (spec_Instantiate_spec (t := (T.var b.var).tm) (varV_rep b.var) (var_wd (hbs.vals.var b (mem_at hb))) hsl2' hw2) fun v1 μ1 hle1 hR1 => ?_
  obtain ⟨tv1, rfl, hf1⟩ := optV_rep hR1
  obtain ⟨p1, rfl⟩ := Tm.invV hf1
  intro r7
  refine call_plain (spec_Instantiate_spec (hto.mono hle1) hwt (hsl2'.mono hle1) hw2) fun v2 μ2 hle2 hR2 => ?_
  obtain ⟨tv2, rfl, hf2⟩ := optV_rep hR2
  obtain ⟨p2, rfl⟩ := Tm.invV hf2
  intro r9
  cases e1 : inst (T.var b.var).tm m with
  | none => exact if_intro (fun h => nomatch h) (fun _ => num64 (by omega) (by omega) ⟨(i + 1, μ2), fin μ2 (hle1.trans hle2) (no (by rintro ⟨x, y, k, _⟩; first | cases k | (rw [e1] at k; cases k))), by dsimp only; omega, ⟨⟨rfl, rfl, rfl, rfl, trivial⟩, trivial, rfl, rfl⟩⟩)
  | some x1 =>
    refine if_intro (fun _ => ?_) (fun h => nomatch h)
    cases e2 : inst b.to.tm m with
    | none => exact if_intro (fun h => nomatch h) (fun _ => num64 (by omega) (by omega) ⟨(i + 1, μ2), fin μ2 (hle1.trans hle2) (no (by rintro ⟨x, y, _, k, _⟩; first | cases k | (rw [e2] at k; cases k))), by dsimp only; omega, ⟨⟨rfl, rfl, rfl, rfl, trivial⟩, trivial, rfl, rfl⟩⟩)
    | some x2 =>
      refine if_intro (fun _ => ?_) (fun h => nomatch h)
      rw [e1] at hf1
      rw [e2] at hf2
      refine call_gives (l02Same_spec x1 x2 (hf1.mono hle2) hf2) ?_
      refine ifnd (fun h9 => ?_) (fun h9 => ?_)
      · exact ret_plain (yes b (mem_at hb) ⟨x1, x2, e1, e2, h9⟩)
      · exact num64 (by omega) (by omega) ⟨(i + 1, μ2), fin μ2 (hle1.trans hle2) (no (by rintro ⟨x, y, k1, k2, k3⟩; first | cases k1 | (rw [e1] at k1; cases k1); first | cases k2 | (rw [e2] at k2; cases k2); exact k3 h9)), by dsimp only; omega, ⟨⟨rfl, rfl, rfl, rfl, trivial⟩, trivial, rfl, rfl⟩⟩
end
end Go.Vx

/- Contracts: reified terms, both sides. -/
namespace Go.Vx
open Go.Proofs Classical
/-! ### Plain -/
theorem T.good_subst {f : Int → Option T} (hf : ∀ n y, f n = some y → y.good) : ∀ {x : T}, x.good → (x.subst f).good
  | .var n, h => by
    simp only [T.subst]
    cases e : f n with
    | none => exact h
    | some y => exact hf n y e
  | .pair a b, h => ⟨T.good_subst hf h.1, T.good_subst hf h.2⟩
  | .nil, h => h
  | .sym _, h => h
  | .num _, h => h
theorem T.good_wd : ∀ {x : T}, x.good → x.tm.d.wd
  | .nil, _ => by
    rw [T.d_eq]
    exact ⟨⟨show (-9223372036854775808 : Int) ≤ 0 by decide, show (0 : Int) ≤ 9223372036854775807 by decide⟩, ⟨show (-9223372036854775808 : Int) ≤ 0 by decide, show (0 : Int) ≤ 9223372036854775807 by decide⟩, Nat.zero_le _, trivial, trivial⟩
  | .var n, h => var_wd h
  | .sym s, h => by
    rw [T.d_eq]
    exact ⟨⟨show (-9223372036854775808 : Int) ≤ 2 by decide, show (2 : Int) ≤ 9223372036854775807 by decide⟩, ⟨show (-9223372036854775808 : Int) ≤ 0 by decide, show (0 : Int) ≤ 9223372036854775807 by decide⟩, Nat.le_trans h.2.1 (by decide), trivial, trivial⟩
  | .num n, h => by
    have h1 : -1000000000 ≤ n ∧ n ≤ 1000000000 := h
    rw [T.d_eq]
    exact ⟨⟨show (-9223372036854775808 : Int) ≤ 3 by decide, show (3 : Int) ≤ 9223372036854775807 by decide⟩, ⟨show _ ≤ n by omega, show n ≤ _ by omega⟩, Nat.zero_le _, trivial, trivial⟩
  | .pair a b, h => by
    rw [T.d_eq]
    exact ⟨⟨show (-9223372036854775808 : Int) ≤ 4 by decide, show (4 : Int) ≤ 9223372036854775807 by decide⟩, ⟨show (-9223372036854775808 : Int) ≤ 0 by decide, show (0 : Int) ≤ 9223372036854775807 by decide⟩, Nat.zero_le _, ⟨T.good_wd h.1, T.good_wd h.2, trivial⟩, trivial⟩
theorem goods_wd : ∀ {l : List T}, (∀ x ∈ l, x.good) → D.wds ((l.map T.tm).map Tm.d)
  | [], _ => trivial
  | x :: l, h => ⟨T.good_wd (h x (by simp)), goods_wd fun y hy => h y (by simp [hy])⟩
noncomputable def fits (bs : List B) (x : T) : Option T := fit (x.subst (sub bs))
theorem fits_ok {bs : List B} (hb : ∀ b ∈ bs, b.to.ok) {x y : T} (hx : x.good) (h : fits bs x = some y) : y.ok := by
  obtain ⟨h1, rfl⟩ := fit_some.1 h
  exact ⟨T.good_subst (fun n y h => (sub_ok hb h).1) hx, h1⟩
theorem mapM_ok {f : T → Option T} {P : T → Prop} : ∀ {xs ys : List T}, (∀ x ∈ xs, ∀ y, f x = some y → P y) → xs.mapM f = some ys → (∀ y ∈ ys, P y) ∧ ys.length = xs.length
  | [], ys, _, h => by
    simp at h; subst h; simp
  | x :: xs, ys, hf, h => by
    simp only [List.mapM_cons, bind, Option.bind_eq_some_iff, pure, Option.some.injEq] at h
    obtain ⟨y, h1, zs, h2, rfl⟩ := h
    have ih := mapM_ok (fun x hx => hf x (by simp [hx])) h2
    exact ⟨fun z hz => by
      rcases List.mem_cons.1 hz with rfl | hz
      · exact hf x (by simp) _ h1
      · exact ih.1 z hz, by simp [ih.2]⟩
theorem mapM_snoc {α β : Type} {f : α → Option β} : ∀ {xs : List α} {i : Nat} {x : α} {ys : List β}, xs[i]? = some x → (xs.take i).mapM f = some ys →
    (xs.take (i + 1)).mapM f = (f x).map (ys ++ [·]) ∧ (f x = none → xs.mapM f = none)
  | [], i, x, ys, h, _ => by simp at h
  | a :: xs, 0, x, ys, h, e => by
    simp at h; subst h
    simp at e; subst e
    refine ⟨?_, fun k => by simp [List.mapM_cons, k]⟩
    cases hfa : f a <;> simp [List.mapM_cons, hfa]
  | a :: xs, i + 1, x, ys, h, e => by
    simp only [List.getElem?_cons_succ] at h
    simp only [List.take_succ_cons, List.mapM_cons, bind, Option.bind_eq_some_iff, pure, Option.some.injEq] at e
    obtain ⟨y, h1, zs, h2, rfl⟩ := e
    have ih := mapM_snoc h h2
    refine ⟨?_, fun k => ?_⟩
    · simp only [List.take_succ_cons, List.mapM_cons, bind, pure] at ih ⊢
      rw [h1, ih.1]
      cases f x <;> simp
    · simp only [List.mapM_cons, bind]
      rw [ih.2 k]
      cases f a <;> rfl
noncomputable def reif (l : List Bd) (ts : List Tm) : Option (List T) := if substOk l ∧ ∀ t ∈ ts, t.Ok then ((ts.map Tm.toT).mapM (fits (l.map Bd.b))).map canon else none
theorem reif_eq {bs : List B} {xs : List T} (h : substOk (bs.map B.bd)) (hx : ∀ x ∈ xs, x.ok) : reif (bs.map B.bd) (xs.map T.tm) = (xs.mapM (fits bs)).map canon := by
  rw [reif, if_pos ⟨h, fun t ht => by
    obtain ⟨x, hx', rfl⟩ := List.mem_map.1 ht
    exact (hx x hx').tm⟩, B.map_b]
  have : (xs.map T.tm).map Tm.toT = xs := by
    rw [List.map_map]
    exact (List.map_congr_left fun x _ => T.toT_tm x).trans (List.map_id _)
  rw [this]
/-- Terms and whether they are some. -/
def optL (P : List T → Value → Prop) (o : Option (List T)) (v : Value) : Prop := match o with
  | some y => ∃ tv, v = .tuple #[tv, .bool true] ∧ P y tv
  | none => v = .tuple #[.slice none 0 0, .bool false]
def resL (o : Option (List T)) : List Tm := (o.getD []).map T.tm
theorem optL_rep {μ : Mem} {o : Option (List T)} {v : Value} (h : optL (fun y tv => RepV μ (.sl 4 ((y.map T.tm).map Tm.d)) tv) o v) : ∃ tv, v = .tuple #[tv, .bool o.isSome] ∧ RepV μ (.sl 4 ((resL o).map Tm.d)) tv := by
  cases o with
  | some y => obtain ⟨tv, rfl, h⟩ := h; exact ⟨tv, rfl, h⟩
  | none => exact ⟨_, h, none, 0, rfl, ⟨Nat.zero_le _, Nat.zero_le _⟩, by simp [resL], .inl rfl⟩
theorem optL_fresh {μ μ' : Mem} {o : Option (List T)} {v : Value} (h : optL (fun y tv => Fresh μ μ' (.sl 4 ((y.map T.tm).map Tm.d)) tv) o v) : ∃ tv, v = .tuple #[tv, .bool o.isSome] ∧ Fresh μ μ' (.sl 4 ((resL o).map Tm.d)) tv := by
  cases o with
  | some y => obtain ⟨tv, rfl, h⟩ := h; exact ⟨tv, rfl, h⟩
  | none => exact ⟨_, h, Mem.nil, ⟨none, 0, rfl, ⟨Nat.zero_le _, Nat.zero_le _⟩, by simp [resL], .inl ⟨rfl, rfl⟩⟩, (fun _ _ h => nomatch h), fun _ h => absurd rfl h⟩
theorem canon_size {xs : List T} (h : ∀ x ∈ xs, x.size ≤ 5000) : ∀ y ∈ canon xs, y.size ≤ 5000 := fun y hy => by
  obtain ⟨x, hx, rfl⟩ := List.mem_map.1 hy
  rw [T.subst_vars_size (canonF_size _)]
  exact h x hx
theorem reif_size (l : List Bd) (ts : List Tm) : (∀ t ∈ resL (reif l ts), t.cnt ≤ 5000) ∧ (resL (reif l ts)).length ≤ ts.length := by
  unfold reif
  split
  · cases h : (ts.map Tm.toT).mapM (fits (l.map Bd.b)) with
    | none => simp [resL]
    | some ys =>
      obtain ⟨h1, h2⟩ := mapM_ok (P := fun y => y.size ≤ 5000) (fun x _ y hy => by
        obtain ⟨k, rfl⟩ := fit_some.1 hy
        exact k) h
      refine ⟨fun t ht => ?_, ?_⟩
      · obtain ⟨y, hy, rfl⟩ := List.mem_map.1 ht
        rw [T.cnt_tm]
        exact canon_size h1 y hy
      · simp only [resL, Option.map_some, Option.getD_some, List.length_map, canon] at h2 ⊢
        omega
  · simp [resL]
theorem tms_cnt : ∀ l : List Tm, D.cnts (l.map Tm.d) ≤ 3 * l.length + 3 * D.szs (l.map Tm.d)
  | [] => by simp [D.cnts, D.szs]
  | t :: l => by
    have h1 := tms_cnt l
    have h2 := tm_cnt_sz t
    simp only [List.map_cons, D.cnts, D.szs, List.length_cons]; omega
theorem tms_cnt2 : ∀ l : List Tm, (∀ t ∈ l, t.cnt ≤ 5000) → D.cnts (l.map Tm.d) ≤ 15000 * l.length
  | [], _ => by simp [D.cnts]
  | t :: l, h => by
    have h1 := tms_cnt2 l fun t ht => h t (by simp [ht])
    have h2 := tm_cnt t
    have h3 := h t (by simp)
    simp only [List.map_cons, D.cnts, List.length_cons]; omega
section
variable {μ : Mem}
theorem l07Apply_spec {bs : List B} {xs : List T} {b1 b2 : Option Addr} {c1 c2 : Nat} (hsl : Sl μ 5 b1 bs.length ((bs.map B.bd).map Bd.d)) (hts : Sl μ 4 b2 xs.length ((xs.map T.tm).map Tm.d)) (hn : xs.length ≤ 10000000) :
    Spec Try.prog 87 [.slice b1 bs.length c1, .slice b2 xs.length c2] μ fun v μ' => optL (fun y tv => RepV μ' (.sl 4 ((y.map T.tm).map Tm.d)) tv) (xs.mapM (fits bs)) v := by
  refine Spec.mk Try.func87 (by kernel_rfl) ?_
  intro r13
  refine loop_intro (fun p : Nat × List T × Option Nat × Nat × List Value × Mem => p.1 ≤ xs.length ∧ μ.Le p.2.2.2.2.2 ∧ (xs.take p.1).mapM (fits bs) = some p.2.1 ∧ Rows p.2.2.2.2.2 4 ((p.2.1.map T.tm).map Tm.d) p.2.2.2.2.1)
    (fun (i, _, b, c, ys, μ') => ⟨[(0, .val (.slice b1 bs.length c1)), (6, .row 0 b ys.length c), (12, .val (.slice b2 xs.length c2)), (13, .val (.int .i64 xs.length)), (14, .val (.int .i64 i))], [(0, some (.row b c 30 4 ys))], 1, μ', Mem.nil⟩) (fun p => xs.length - p.1)
    (0, [], some r13, 0, [], μ) ⟨by simp, Mem.Le.refl _, by simp, .nil⟩ (fun (_, _, _, _, _, _) => ⟨rfl, rfl⟩) ⟨⟨rfl, rfl, rfl, rfl, rfl, trivial⟩, ⟨rfl, trivial⟩, rfl, rfl⟩ ?_
  rintro ⟨i, zs, b, c, ys, μ'⟩ ⟨hi, hle, hmap, hrows⟩
  dsimp only at hi hle hmap hrows
  have hlen := hrows.len
  have hzl := (mapM_ok (P := fun _ => True) (fun _ _ _ _ => trivial) hmap).2
  simp only [List.length_map, List.length_take] at hlen hzl
  refine ifd (fun h => ?_) (fun h => ?_)
  · obtain ⟨x, hx'⟩ := at_some (l := xs) (i := i) (by omega)
    obtain ⟨ad, p, hel, hto⟩ := Tm.elem (i := i) (t := x.tm) (hts.mono hle) (by simp [hx'])
    obtain ⟨hs1, hs2⟩ := mapM_snoc hx' hmap
    refine elem_intro hel ?_
    intro r
    refine call_plain (l04Apply_spec x (hsl.mono hle) hto) fun v3 μ3 hle3 hR3 => ?_
    obtain ⟨tv, rfl, hR3⟩ := hR3
    obtain ⟨q, rfl⟩ := Tm.invV hR3
    intro r5
    refine ifnd (fun h => ret_plain (by rw [hs2 (by rw [fits, fit, if_neg h])]; rfl)) (fun h3 => ?_)
    rw [fits, fit, if_pos h3] at hs1
    intro r6
    refine grow_intro ?_ ?_ fun b' c' _ => ?_
    · show (ys.length + 1) * 56 ≤ _; omega
    · exact Nat.le_trans (m := 100000000) (show ys.length + 1 ≤ _ by omega) (by decide)
    refine num64 (by omega) (by omega) ⟨(i + 1, zs ++ [x.subst (sub bs)], b', c', _, μ3), ⟨by dsimp only; omega, hle.trans hle3, hs1, ?_⟩, by dsimp only; omega, ⟨⟨rfl, rfl, rfl, rfl, rfl, trivial⟩, ⟨rfl, trivial⟩, rfl, rfl⟩⟩
    dsimp only
    simp only [List.map_append, List.map_cons, List.map_nil]
    exact (hrows.mono hle3).append (Rows.one hR3 (Tm.d_n _))
  · obtain rfl : i = xs.length := by omega
    rw [List.take_length] at hmap
    refine ret_frz [0] fun μ' hle' hno hrow => .inl ?_
    rw [hmap]
    exact ⟨_, rfl, Rows.sl hrow (hrows.mono hle') (Nat.le_trans (m := 100000000) (by omega) (by decide))⟩
theorem spec_Reify_spec {l : List Bd} {ts : List Tm} {b1 b2 : Option Addr} {c1 c2 : Nat} (hsl : Sl μ 5 b1 l.length (l.map Bd.d)) (hwl : D.wds (l.map Bd.d)) (hts : Sl μ 4 b2 ts.length (ts.map Tm.d)) (hwt : D.wds (ts.map Tm.d)) (hn : ts.length ≤ 10000000) :
    Spec Try.prog 27 [.slice b1 l.length c1, .slice b2 ts.length c2] μ fun v μ' => optL (fun y tv => RepV μ' (.sl 4 ((y.map T.tm).map Tm.d)) tv) (reif l ts) v := by
  refine Spec.mk Try.func27 (by kernel_rfl) ?_
  refine call_gives (spec_SubstOk_spec hsl hwl) ?_
  refine ifnd (fun h => ret_plain (by rw [reif, if_neg fun k => h k.1]; rfl)) (fun h1 => ?_)
  refine call_gives (l02AllOk_spec hts hwt) ?_
  refine ifnd (fun h => ret_plain (by rw [reif, if_neg fun k => h k.2]; rfl)) (fun h2 => ?_)
  obtain ⟨xs, rfl, hxs⟩ := lift_ok h2
  obtain ⟨bs, rfl, hbs⟩ := h1.subst
  rw [reif_eq h1 hxs]
  simp only [List.length_map] at hsl hts hn ⊢
  refine call_plain (l07Apply_spec hsl hts hn) fun v1 μ1 hle1 hR => ?_
  cases e : xs.mapM (fits bs) with
  | none =>
    rw [e] at hR
    obtain rfl := hR
    exact if_intro (fun _ => ret_plain rfl) (fun h => absurd h (by simp))
  | some ys =>
    rw [e] at hR
    obtain ⟨tv, rfl, hR⟩ := hR
    obtain ⟨hok, hyl⟩ := mapM_ok (P := T.ok) (fun x hx y hy => fits_ok hbs.vals.tok (hxs x hx).1 hy) e
    obtain ⟨bb, cc, rfl, hs1⟩ := Rep.sl hR
    rw [List.length_map, List.length_map] at hs1 ⊢
    refine if_intro (fun h => absurd h (by simp)) (fun _ => ?_)
    refine call_plain (spec_Canonical_spec hs1 (goods_wd fun x hx => (hok x hx).1) hok (by omega)) fun v2 μ2 hle2 hR2 => ?_
    exact ret_plain ⟨_, rfl, hR2⟩
theorem impl_Reify_spec {l : List Bd} {ts : List Tm} {b1 b2 : Option Addr} {c1 c2 : Nat} (hsl : Sl μ 5 b1 l.length (l.map Bd.d)) (hts : Sl μ 4 b2 ts.length (ts.map Tm.d)) (hn : ts.length ≤ 10000000) :
    Spec Try.prog 29 [.slice b1 l.length c1, .slice b2 ts.length c2] μ fun v μ' => optL (fun y tv => Fresh μ μ' (.sl 4 ((y.map T.tm).map Tm.d)) tv) (reif l ts) v := by
  refine Spec.mk Try.func29 (by kernel_rfl) ?_
  refine call_gives (impl_SubstOk_spec hsl) ?_
  refine ifnd (fun h => ret_plain (by rw [reif, if_neg fun k => h k.1]; rfl)) (fun h1 => ?_)
  refine call_gives (termsOk_spec hts) ?_
  refine ifnd (fun h => ret_plain (by rw [reif, if_neg fun k => h k.2]; rfl)) (fun h2 => ?_)
  obtain ⟨xs, rfl, hxs⟩ := lift_ok h2
  obtain ⟨bs, rfl, hbs⟩ := h1.subst
  have hbl := hbs.vals.len
  rw [reif_eq h1 hxs]
  simp only [List.length_map] at hsl hts hn ⊢
  intro r19
  refine loop_intro (fun p : Nat × List T × Option Nat × Nat × List Value × Mem => p.1 ≤ xs.length ∧ μ.Le p.2.2.2.2.2 ∧ (xs.take p.1).mapM (fits bs) = some p.2.1 ∧ Rows p.2.2.2.2.2 4 ((p.2.1.map T.tm).map Tm.d) p.2.2.2.2.1)
    (fun (i, _, b, c, ys, μ') => ⟨[(0, .val (.slice b1 bs.length c1)), (6, .row 0 b ys.length c), (20, .val (.slice b2 xs.length c2)), (21, .val (.int .i64 xs.length)), (22, .val (.int .i64 i))], [(0, some (.row b c 30 4 ys))], 1, μ', Mem.nil⟩) (fun p => xs.length - p.1)
    (0, [], some r19, 0, [], μ) ⟨by simp, Mem.Le.refl _, by simp, .nil⟩ (fun (_, _, _, _, _, _) => ⟨rfl, rfl⟩) ⟨⟨rfl, rfl, rfl, rfl, rfl, trivial⟩, ⟨rfl, trivial⟩, rfl, rfl⟩ ?_
  rintro ⟨i, zs, b, c, ys, μ'⟩ ⟨hi, hle, hmap, hrows⟩
  dsimp only at hi hle hmap hrows
  have hlen := hrows.len
  have hzl := (mapM_ok (P := fun _ => True) (fun _ _ _ _ => trivial) hmap).2
  simp only [List.length_map, List.length_take] at hlen hzl
  refine ifd (fun h => ?_) (fun h => ?_)
  · obtain ⟨x, hx'⟩ := at_some (l := xs) (i := i) (by omega)
    obtain ⟨ad, p, hel, hto⟩ := Tm.elem (i := i) (t := x.tm) (hts.mono hle) (by simp [hx'])
    obtain ⟨hs1, hs2⟩ := mapM_snoc hx' hmap
    refine elem_intro hel ?_
    intro r
    refine call_plain (put_spec x hbs.vals.srt (by omega) hbs.vals.tok (hsl.mono hle) hto) fun v3 μ3 hle3 hR3 => ?_
    cases e : fits bs x with
    | none =>
      have e' : fit (x.subst (sub bs)) = none := e
      rw [e'] at hR3
      obtain rfl := hR3
      intro r5
      refine if_intro (fun _ => ?_) (fun h => absurd h (by simp))
      exact ret_plain (by rw [hs2 e]; rfl)
    | some y =>
      have e' : fit (x.subst (sub bs)) = some y := e
      rw [e'] at hR3
      obtain ⟨tv, rfl, hR3⟩ := hR3
      obtain ⟨q, rfl⟩ := Tm.invV hR3.rep
      rw [e] at hs1
      intro r5
      refine if_intro (fun h => absurd h (by simp)) (fun _ => ?_)
      intro r6
      refine grow_intro ?_ ?_ fun b' c' _ => ?_
      · show (ys.length + 1) * 56 ≤ _; omega
      · exact Nat.le_trans (m := 100000000) (show ys.length + 1 ≤ _ by omega) (by decide)
      refine num64 (by omega) (by omega) ⟨(i + 1, zs ++ [y], b', c', _, μ3), ⟨by dsimp only; omega, hle.trans hle3, hs1, ?_⟩, by dsimp only; omega, ⟨⟨rfl, rfl, rfl, rfl, rfl, trivial⟩, ⟨rfl, trivial⟩, rfl, rfl⟩⟩
      dsimp only
      simp only [List.map_append, List.map_cons, List.map_nil]
      exact (hrows.mono hle3).append (Rows.one hR3.rep (Tm.d_n _))
  · obtain rfl : i = xs.length := by omega
    rw [List.take_length] at hmap
    simp only [Nat.min_self] at hzl
    rw [hmap]
    obtain ⟨hok, hyl⟩ := mapM_ok (P := T.ok) (fun x hx y hy => fits_ok hbs.vals.tok (hxs x hx).1 hy) hmap
    refine call_frz [0] ?_
    intro μ1 hle1 hno1 hrow
    have hyl2 : ys.length = zs.length := by omega
    have hR := Rows.sl hrow (hrows.mono hle1) (Nat.le_trans (m := 100000000) (by omega) (by decide))
    obtain ⟨bb, cc, e1, hs1⟩ := Rep.sl hR
    rw [List.length_map, List.length_map] at hs1 e1
    rw [e1]
    refine call_go (impl_Canonical_spec (cap := cc) hs1 hok (by omega)) fun v2 μ2 hle2 hR2 => ?_
    exact ret_plain ⟨_, rfl, hR2.mono (hle.trans hle1) (Mem.Le.refl _)⟩
end
end Go.Vx

/- Contracts: goals copied and instantiated, the reference's side. -/
namespace Go.Vx
open Go.Proofs Classical
/-! ### Plain -/
mutual
noncomputable def Gl.put (f : Int → Option T) : Gl → Gl
  | .mk k s ts gs => .mk k s (ts.map fun t => (t.toT.subst f).tm) (Gl.puts f gs)
noncomputable def Gl.puts (f : Int → Option T) : List Gl → List Gl
  | [] => []
  | g :: r => g.put f :: Gl.puts f r
end
theorem Gl.puts_map (f : Int → Option T) : ∀ l : List Gl, Gl.puts f l = l.map (Gl.put f)
  | [] => rfl
  | t :: r => by simp [Gl.puts, Gl.puts_map f r]
theorem Gl.put_kind (f : Int → Option T) (g : Gl) : (g.put f).kind = g.kind := by cases g; rfl
theorem Gl.put_name (f : Int → Option T) (g : Gl) : (g.put f).name = g.name := by cases g; rfl
theorem Gl.put_terms (f : Int → Option T) (g : Gl) : (g.put f).terms = g.terms.map fun t => (t.toT.subst f).tm := by cases g; rfl
theorem Gl.put_goals (f : Int → Option T) (g : Gl) : (g.put f).goals = g.goals.map (Gl.put f) := by cases g; rw [Gl.put]; exact Gl.puts_map f _
theorem Gl.cnts_map {f : Gl → Gl} : ∀ {l : List Gl}, (∀ x ∈ l, (f x).cnt = x.cnt) → Gl.cnts (l.map f) = Gl.cnts l
  | [], _ => rfl
  | x :: l, h => by
    simp only [List.map_cons, Gl.cnts]
    rw [h x (by simp), Gl.cnts_map fun y hy => h y (by simp [hy])]
theorem Gl.cnt_put (f : Int → Option T) : ∀ g : Gl, (g.put f).cnt = g.cnt :=
  Gl.ind fun g ih => by rw [Gl.cnt_eq1, Gl.cnt_eq1, Gl.put_goals, Gl.cnts_map ih]
mutual
noncomputable def Gl.withO (F : T → Option T) : Gl → Option Gl
  | .mk k s ts gs => match (ts.map Tm.toT).mapM F with
    | none => none
    | some xs => match Gl.withOs F gs with
      | none => none
      | some gs' => some (.mk k s (xs.map T.tm) gs')
noncomputable def Gl.withOs (F : T → Option T) : List Gl → Option (List Gl)
  | [] => some []
  | g :: r => match g.withO F with
    | none => none
    | some y => match Gl.withOs F r with
      | none => none
      | some ys => some (y :: ys)
end
theorem Gl.withOs_map (F : T → Option T) : ∀ l : List Gl, Gl.withOs F l = l.mapM (Gl.withO F)
  | [] => rfl
  | t :: r => by
    simp only [Gl.withOs, List.mapM_cons, Gl.withOs_map F r, bind, pure]
    cases t.withO F with
    | none => rfl
    | some y => cases r.mapM (Gl.withO F) <;> rfl
theorem Gl.withO_eq (F : T → Option T) (g : Gl) : g.withO F = match (g.terms.map Tm.toT).mapM F with
    | none => none
    | some xs => match g.goals.mapM (Gl.withO F) with
      | none => none
      | some gs' => some (.mk g.kind g.name (xs.map T.tm) gs') := by
  cases g
  rw [Gl.withO, Gl.withOs_map]
  rfl
theorem mapM_all {α β : Type} {f : α → Option β} {h : α → β} : ∀ {l : List α}, (∀ x ∈ l, f x = some (h x)) → l.mapM f = some (l.map h)
  | [], _ => by simp
  | x :: l, k => by
    rw [List.mapM_cons, k x (by simp), mapM_all fun y hy => k y (by simp [hy])]
    rfl
theorem mapM_fails {α β : Type} {f : α → Option β} : ∀ {l : List α} {x : α}, x ∈ l → f x = none → l.mapM f = none
  | a :: l, x, hx, k => by
    rw [List.mapM_cons]
    rcases List.mem_cons.1 hx with rfl | hx
    · rw [k]; rfl
    · rw [mapM_fails hx k]
      cases f a <;> rfl
theorem T.subst_sym {f : Int → Option T} {x : T} (h : x.tm.kind = 2) : (x.subst f).tm.kind = 2 := by
  cases x <;> first | exact h | (cases h)
theorem toTs_tm {xs : List T} : (xs.map T.tm).map Tm.toT = xs := by
  rw [List.map_map]
  exact (List.map_congr_left fun x _ => T.toT_tm x).trans (List.map_id _)
/-- All terms fit, or not: what that says of the whole. -/
theorem Gl.with_put {bs : List B} (hb : ∀ b ∈ bs, b.to.ok) : ∀ g : Gl, g.Sh → ((g.put (sub bs)).Sh ∧ g.withO (fits bs) = some (g.put (sub bs))) ∨ (¬ (g.put (sub bs)).Sh ∧ g.withO (fits bs) = none) :=
  Gl.ind fun g ih h => by
    obtain ⟨xs, hxs, hok⟩ := lift_ok h.top.tm
    have e1 : (g.put (sub bs)).terms = (xs.map (T.subst (sub bs))).map T.tm := by
      rw [Gl.put_terms, hxs, List.map_map, List.map_map]
      exact List.map_congr_left fun x _ => by simp [T.toT_tm]
    have e2 := Gl.put_goals (sub bs) g
    have e3 := Gl.withO_eq (fits bs) g
    rw [hxs, toTs_tm] at e3
    by_cases hf : ∀ x ∈ xs, (x.subst (sub bs)).size ≤ 5000
    · have m1 : xs.mapM (fits bs) = some (xs.map (T.subst (sub bs))) := mapM_all fun x hx => by rw [fits, fit, if_pos (hf x hx)]
      rw [m1] at e3
      by_cases hg : ∀ y ∈ g.goals, (y.put (sub bs)).Sh
      · have m2 : g.goals.mapM (Gl.withO (fits bs)) = some (g.goals.map (Gl.put (sub bs))) := mapM_all fun y hy => by
          rcases ih y hy (h.sub y hy) with k | k
          · exact k.2
          · exact absurd (hg y hy) k.1
        rw [m2] at e3
        refine .inl ⟨.mk ?_ ?_, ?_⟩
        · have hl : (g.put (sub bs)).terms.length = g.terms.length := by rw [Gl.put_terms, List.length_map]
          have hgl : (g.put (sub bs)).goals.length = g.goals.length := by rw [e2, List.length_map]
          have tp := h.top
          have hk := Gl.put_kind (sub bs) g
          refine ⟨fun t ht => ?_, hk ▸ tp.k0, hk ▸ tp.k1, ?_, ?_, ?_, ?_, ?_, ?_, ?_, ?_, ?_, ?_, ?_⟩
          · rw [e1] at ht
            obtain ⟨y, hy, rfl⟩ := List.mem_map.1 ht
            obtain ⟨x, hx, rfl⟩ := List.mem_map.1 hy
            exact T.ok.tm ⟨T.good_subst (fun n y h => (sub_ok hb h).1) (hok x hx).1, hf x hx⟩
          · rw [hk, Gl.put_name]; exact tp.nm
          · rw [hk, Gl.put_name]; exact tp.rel
          · rw [hk, hl]; exact tp.ln9
          · rw [hk, hl]; exact tp.ln2
          · rw [hk, hl]; exact tp.ln1
          · rw [hk, hl]; exact tp.ln0
          · rw [hgl]; exact tp.gl
          · rw [hk, hgl]; exact tp.gl0
          · rw [hk, hgl]; exact tp.gl1
          · rw [hk, e1]
            intro h6 a ha
            have h7 := tp.sy h6
            rw [hxs] at h7
            rw [List.map_map, List.getElem?_map] at ha
            cases hx : xs[0]? with
            | none => rw [hx] at ha; cases ha
            | some x =>
              rw [hx] at ha
              cases ha
              exact T.subst_sym (h7 x.tm (by simp [hx]))
          · rw [hk, e2]
            intro h10 b hb'
            rw [List.getElem?_map] at hb'
            cases hx : g.goals[0]? with
            | none => rw [hx] at hb'; cases hb'
            | some x =>
              rw [hx] at hb'
              cases hb'
              rw [Gl.put_kind]
              exact tp.cl h10 x hx
        · rw [e2]
          intro y hy
          obtain ⟨x, hx, rfl⟩ := List.mem_map.1 hy
          exact hg x hx
        · rw [e3]
          show some _ = some _
          rw [← e1, ← e2, ← Gl.put_kind (sub bs) g, ← Gl.put_name (sub bs) g]
          cases g.put (sub bs); rfl
      · simp only [not_forall] at hg
        obtain ⟨y, hy, hny⟩ := hg
        refine .inr ⟨fun k => hny (k.sub _ (by rw [e2]; exact List.mem_map.2 ⟨y, hy, rfl⟩)), ?_⟩
        rw [e3, mapM_fails hy (by
          rcases ih y hy (h.sub y hy) with k | k
          · exact absurd k.1 hny
          · exact k.2)]
    · simp only [not_forall] at hf
      obtain ⟨x, hx, hnx⟩ := hf
      refine .inr ⟨fun k => hnx ?_, ?_⟩
      · have h1 := k.top.tm (x.subst (sub bs)).tm (by rw [e1]; exact List.mem_map.2 ⟨_, List.mem_map.2 ⟨x, hx, rfl⟩, rfl⟩)
        have h2 := h1.2
        rwa [T.cnt_tm] at h2
      · rw [e3, mapM_fails hx (by rw [fits, fit, if_neg hnx])]
/-- A goal and whether it is one. -/
def optG (P : Gl → Value → Prop) (o : Option Gl) (v : Value) : Prop := match o with
  | some y => ∃ tv, v = .tuple #[tv, .bool true] ∧ P y tv
  | none => v = .tuple #[.agg #[.int .i64 0, .string ⟨#[]⟩, .slice none 0 0, .slice none 0 0], .bool false]
noncomputable def instG (g : Gl) (l : List Bd) : Option Gl := if g.Ok ∧ valsOk l then g.withO (fits (l.map Bd.b)) else none
section
variable {μ : Mem}
theorem l02CopyAll_spec {xs : List T} {base : Option Addr} {cap : Nat} (hsl : Sl μ 4 base xs.length ((xs.map T.tm).map Tm.d)) (hn : xs.length ≤ 10000000) :
    Spec Try.prog 166 [.slice base xs.length cap] μ fun v μ' => RepV μ' (.sl 4 ((xs.map T.tm).map Tm.d)) v := by
  refine Spec.mk Try.func166 (by kernel_rfl) ?_
  intro r6
  refine loop_intro (fun p : Nat × Option Nat × Nat × List Value × Mem => p.1 ≤ xs.length ∧ μ.Le p.2.2.2.2 ∧ Rows p.2.2.2.2 4 (((xs.take p.1).map T.tm).map Tm.d) p.2.2.2.1)
    (fun (i, b, c, ys, μ') => ⟨[(3, .row 0 b ys.length c), (7, .val (.slice base xs.length cap)), (8, .val (.int .i64 xs.length)), (9, .val (.int .i64 i))], [(0, some (.row b c 30 4 ys))], 1, μ', Mem.nil⟩) (fun p => xs.length - p.1)
    (0, some r6, 0, [], μ) ⟨by simp, Mem.Le.refl _, .nil⟩ (fun (_, _, _, _, _) => ⟨rfl, rfl⟩) ⟨⟨rfl, rfl, rfl, rfl, trivial⟩, ⟨rfl, trivial⟩, rfl, rfl⟩ ?_
  rintro ⟨i, b, c, ys, μ'⟩ ⟨hi, hle, hrows⟩
  dsimp only at hi hle hrows
  have hlen := hrows.len
  simp only [List.length_map, List.length_take] at hlen
  refine ifd (fun h => ?_) (fun h => ?_)
  · obtain ⟨x, hx'⟩ := at_some (l := xs) (i := i) (by omega)
    obtain ⟨ad, p, hel, hto⟩ := Tm.elem (i := i) (t := x.tm) (hsl.mono hle) (by simp [hx'])
    refine elem_intro hel ?_
    intro r
    refine call_plain (l02Copy_spec _ hto) fun v4 μ4 hle4 hR4 => ?_
    obtain ⟨q, rfl⟩ := Tm.invV hR4
    intro r5
    refine grow_intro ?_ ?_ fun b' c' _ => ?_
    · show (ys.length + 1) * 56 ≤ _; omega
    · exact Nat.le_trans (m := 100000000) (show ys.length + 1 ≤ _ by omega) (by decide)
    refine num64 (by omega) (by omega) ⟨(i + 1, b', c', _, μ4), ⟨by dsimp only; omega, hle.trans hle4, ?_⟩, by dsimp only; omega, ⟨⟨rfl, rfl, rfl, rfl, trivial⟩, ⟨rfl, trivial⟩, rfl, rfl⟩⟩
    dsimp only
    rw [List.take_add_one, hx', Option.toList_some]
    simp only [List.map_append, List.map_cons, List.map_nil]
    exact (hrows.mono hle4).append (Rows.one hR4 (Tm.d_n _))
  · obtain rfl : i = xs.length := by omega
    rw [List.take_length] at hrows
    refine ret_frz [0] fun μ' hle' hno hrow => .inl ?_
    exact Rows.sl hrow (hrows.mono hle') (Nat.le_trans (m := 100000000) (by omega) (by decide))
theorem RepS.cons1 {d : D} {r : List D} {v : Value} {cs : List Value} (k1 : Rep μ d [v]) (k2 : RepS μ r cs) : RepS μ (d :: r) (v :: cs) := ⟨[v], cs, rfl, k1, k2⟩
theorem l13Copy_spec : ∀ (g : Gl) {μ : Mem} {v : Value}, RepV μ g.d v → g.Sh → Spec Try.prog 95 [v] μ fun v μ' => RepV μ' g.d v :=
  Gl.ind fun g ih μ v hv hS => by
    obtain ⟨p, rfl, hts, hgs⟩ := Gl.inv hv
    obtain ⟨xs, hxs, hok⟩ := lift_ok hS.top.tm
    have hg8 := hS.top.gl
    have hx4 : xs.length ≤ 4 := by
      have T := hS.top
      have e9 := T.ln9; have e2 := T.ln2; have e1 := T.ln1; have e0 := T.ln0; have k0 := T.k0; have k1 := T.k1
      have : g.terms.length = xs.length := by rw [hxs, List.length_map]
      omega
    rw [hxs, List.length_map] at hts ⊢
    refine Spec.mk Try.func95 (by kernel_rfl) ?_
    intro r1 r2
    refine call_plain (l02CopyAll_spec hts (by omega)) fun v1 μ1 hle1 hR1 => ?_
    obtain ⟨b1, c1, rfl, hs1⟩ := Rep.sl hR1
    intro r3
    have hgs1 := hgs.mono hle1
    refine loop_nil (fun p : Nat × Option Nat × Nat × List Value × Mem => p.1 ≤ g.goals.length ∧ μ1.Le p.2.2.2.2 ∧ Rows p.2.2.2.2 4 ((g.goals.take p.1).map Gl.d) p.2.2.2.1)
      (fun (i, b, c, ys, μ') => ⟨[(2, .loc 1 r2 0), (3, .loc 2 r3 0), (15, .val (.slice p.2.1 g.goals.length p.2.2)), (16, .val (.int .i64 g.goals.length)), (17, .val (.int .i64 i))],
        [(1, some (.cells r2 [.val (.int .i64 0), .val (.string ⟨#[]⟩), .val (.slice none 0 0), .val (.slice none 0 0)] 55)), (2, some (.cells r3 [.val (.int .i64 g.kind), .val (.string g.name), .val (.slice b1 ((xs.map T.tm).map Tm.d).length c1), .row 3 b ys.length c] 55)), (3, some (.row b c 55 4 ys))], 4, μ', Mem.nil⟩) (fun p => g.goals.length - p.1)
      (0, none, 0, [], μ1) ⟨by simp, Mem.Le.refl _, .nil⟩ (fun (_, _, _, _, _) => ⟨rfl, rfl⟩) ⟨⟨⟨_, rfl, .inl rfl⟩, ⟨_, rfl, .inl rfl⟩, ⟨_, rfl, .inl rfl⟩, ⟨_, rfl, .inl rfl⟩, ⟨_, rfl, .inl rfl⟩, trivial⟩, ⟨.inl rfl, .inr (.inr ⟨_, _, _, _, rfl, rfl, .inl rfl, .inl rfl, .inl rfl, .inr ⟨3, rfl, rfl, Nat.le_refl _⟩, trivial⟩), .inr (.inl ⟨_, _, rfl, Nat.le_refl _⟩), trivial⟩, rfl, rfl⟩ ?_
    rintro ⟨i, b, c, ys, μ'⟩ ⟨hi, hle, hrows⟩
    dsimp only at hi hle hrows
    have hlen := hrows.len
    simp only [List.length_map, List.length_take] at hlen
    refine ifd (fun h => ?_) (fun h => ?_)
    · obtain ⟨t, ht⟩ := at_some (l := g.goals) (i := i) (by omega)
      obtain ⟨ad, p3, hel, hr⟩ := Gl.elem (hgs1.mono hle) ht
      refine elem_intro hel ?_
      intro r4
      refine call_plain (ih t (mem_at ht) hr (hS.sub t (mem_at ht))) fun v' μ'' hle2 hR => ?_
      obtain ⟨q, rfl⟩ := Gl.invV hR
      intro r5
      refine grow_intro ?_ ?_ fun b' c' _ => ?_
      · show (ys.length + 1) * 72 ≤ _; omega
      · exact Nat.le_trans (m := 100000000) (show ys.length + 1 ≤ _ by omega) (by decide)
      have hsucc : (g.goals.take (i + 1)).map Gl.d = (g.goals.take i).map Gl.d ++ [t.d] := by
        rw [List.take_add_one, ht, Option.toList_some]; simp
      exact num64 (by omega) (by omega) ⟨(i + 1, b', c', _, μ''), ⟨by dsimp only; omega, hle.trans hle2, by rw [hsucc]; exact (hrows.mono hle2).append (Rows.one hR (Gl.d_n _))⟩, by dsimp only; omega, ⟨⟨rfl, rfl, rfl, rfl, rfl, trivial⟩, ⟨rfl, rfl, rfl, trivial⟩, rfl, rfl⟩⟩
    · obtain rfl : i = g.goals.length := by omega
      rw [List.take_length] at hrows
      refine ret_frz [3] fun μ2 hle2 hno hrow => .inl ?_
      rw [Gl.d_eq, hxs]
      exact ⟨_, rfl, RepS.int (RepS.str (RepS.cons1 ((hR1.mono hle).mono hle2) (RepS.last (Rows.sl hrow (hrows.mono hle2) (Nat.le_trans (m := 100000000) (by omega) (by decide))))))⟩
theorem l13Put_spec {bs : List B} {b0 : Option Addr} {c0 : Nat} : ∀ (g : Gl) {μ : Mem} {v : Value}, RepV μ g.d v → g.Sh → Sl μ 5 b0 bs.length ((bs.map B.bd).map Bd.d) → Spec Try.prog 94 [v, .slice b0 bs.length c0] μ fun v μ' => RepV μ' (g.put (sub bs)).d v :=
  Gl.ind fun g ih μ v hv hS hsl => by
    obtain ⟨p, rfl, hts, hgs⟩ := Gl.inv hv
    obtain ⟨xs, hxs, hok⟩ := lift_ok hS.top.tm
    have hg8 := hS.top.gl
    have hx4 : xs.length ≤ 4 := by
      have T := hS.top
      have e9 := T.ln9; have e2 := T.ln2; have e1 := T.ln1; have e0 := T.ln0; have k0 := T.k0; have k1 := T.k1
      have : g.terms.length = xs.length := by rw [hxs, List.length_map]
      omega
    have hput : (g.put (sub bs)).d = .st [.i g.kind, .s g.name, .sl 4 (((xs.map (T.subst (sub bs))).map T.tm).map Tm.d), .sl 4 ((g.goals.map (Gl.put (sub bs))).map Gl.d)] := by
      rw [Gl.d_eq, Gl.put_kind, Gl.put_name, Gl.put_goals, Gl.put_terms, hxs]
      simp [List.map_map, Function.comp_def, T.toT_tm]
    rw [hxs, List.length_map] at hts ⊢
    refine Spec.mk Try.func94 (by kernel_rfl) ?_
    intro r1 r2 r3
    refine loop_nil (fun p : Nat × Option Nat × Nat × List Value × Mem => p.1 ≤ xs.length ∧ μ.Le p.2.2.2.2 ∧ Rows p.2.2.2.2 4 ((((xs.take p.1).map (T.subst (sub bs))).map T.tm).map Tm.d) p.2.2.2.1)
      (fun (i, b, c, ys, μ') => ⟨[(1, .val (.slice b0 bs.length c0)), (2, .loc 0 r1 0), (4, .loc 1 r2 0), (5, .loc 2 r3 0), (16, .val (.slice p.1.1 xs.length p.1.2)), (17, .val (.int .i64 xs.length)), (18, .val (.int .i64 i))],
        [(0, some (.cells r1 [.val (.int .i64 g.kind), .val (.string g.name), .val (.slice p.1.1 xs.length p.1.2), .val (.slice p.2.1 g.goals.length p.2.2)] 55)), (1, some (.cells r2 [.val (.int .i64 0), .val (.string ⟨#[]⟩), .val (.slice none 0 0), .val (.slice none 0 0)] 55)), (2, some (.cells r3 [.val (.int .i64 g.kind), .val (.string g.name), .row 3 b ys.length c, .val (.slice none 0 0)] 55)), (3, some (.row b c 30 4 ys))], 4, μ', Mem.nil⟩) (fun p => xs.length - p.1)
      (0, none, 0, [], μ) ⟨by simp, Mem.Le.refl _, .nil⟩ (fun (_, _, _, _, _) => ⟨rfl, rfl⟩) ⟨⟨⟨_, rfl, .inl rfl⟩, ⟨_, rfl, .inl rfl⟩, ⟨_, rfl, .inl rfl⟩, ⟨_, rfl, .inl rfl⟩, ⟨_, rfl, .inl rfl⟩, ⟨_, rfl, .inl rfl⟩, ⟨_, rfl, .inl rfl⟩, trivial⟩, ⟨.inl rfl, .inl rfl, .inr (.inr ⟨_, _, _, _, rfl, rfl, .inl rfl, .inl rfl, .inr ⟨3, rfl, rfl, Nat.le_refl _⟩, .inl rfl, trivial⟩), .inr (.inl ⟨_, _, rfl, Nat.le_refl _⟩), trivial⟩, rfl, rfl⟩ ?_
    rintro ⟨i, b, c, ys, μ'⟩ ⟨hi, hle, hrows⟩
    dsimp only at hi hle hrows
    have hlen := hrows.len
    simp only [List.length_map, List.length_take] at hlen
    refine ifd (fun h => ?_) (fun h => ?_)
    · obtain ⟨t, ht⟩ := at_some (l := xs) (i := i) (by omega)
      have ht' : (xs.map T.tm)[i]? = some t.tm := by simp [ht]
      obtain ⟨ad, p3, hel, hr⟩ := Tm.elem (hts.mono hle) ht'
      refine elem_intro hel ?_
      intro r4
      refine call_plain (l04Put_spec t (hsl.mono hle) hr) fun v' μ'' hle2 hR => ?_
      obtain ⟨q, rfl⟩ := Tm.invV hR
      intro r5
      refine grow_intro ?_ ?_ fun b' c' _ => ?_
      · show (ys.length + 1) * 56 ≤ _; omega
      · exact Nat.le_trans (m := 100000000) (show ys.length + 1 ≤ _ by omega) (by decide)
      refine num64 (by omega) (by omega) ⟨(i + 1, b', c', _, μ''), ⟨by dsimp only; omega, hle.trans hle2, ?_⟩, by dsimp only; omega, ⟨⟨rfl, rfl, rfl, rfl, rfl, rfl, rfl, trivial⟩, ⟨rfl, rfl, rfl, rfl, trivial⟩, rfl, rfl⟩⟩
      dsimp only
      rw [List.take_add_one, ht, Option.toList_some]
      simp only [List.map_append, List.map_cons, List.map_nil]
      exact (hrows.mono hle2).append (Rows.one hR (Tm.d_n _))
    · obtain rfl : i = xs.length := by omega
      rw [List.take_length] at hrows
      have hgs1 := hgs.mono hle
      refine loop_nil (fun p : Nat × Option Nat × Nat × List Value × Mem => p.1 ≤ g.goals.length ∧ μ'.Le p.2.2.2.2 ∧ Rows p.2.2.2.2 4 (((g.goals.take p.1).map (Gl.put (sub bs))).map Gl.d) p.2.2.2.1)
        (fun (i, b2, c2, zs, μ'') => ⟨[(1, .val (.slice b0 bs.length c0)), (4, .loc 1 r2 0), (5, .loc 2 r3 0), (32, .val (.slice p.2.1 g.goals.length p.2.2)), (33, .val (.int .i64 g.goals.length)), (34, .val (.int .i64 i))],
          [(1, some (.cells r2 [.val (.int .i64 0), .val (.string ⟨#[]⟩), .val (.slice none 0 0), .val (.slice none 0 0)] 55)), (2, some (.cells r3 [.val (.int .i64 g.kind), .val (.string g.name), .row 3 b ys.length c, .row 4 b2 zs.length c2] 55)), (3, some (.row b c 30 4 ys)), (4, some (.row b2 c2 55 4 zs))], 5, μ'', Mem.nil⟩) (fun p => g.goals.length - p.1)
        (0, none, 0, [], μ') ⟨by simp, Mem.Le.refl _, .nil⟩ (fun (_, _, _, _, _) => ⟨rfl, rfl⟩) ⟨⟨⟨_, rfl, .inl rfl⟩, ⟨_, rfl, .inl rfl⟩, ⟨_, rfl, .inl rfl⟩, ⟨_, rfl, .inl rfl⟩, ⟨_, rfl, .inl rfl⟩, ⟨_, rfl, .inl rfl⟩, trivial⟩, ⟨.inl rfl, .inr (.inr ⟨_, _, _, _, rfl, rfl, .inl rfl, .inl rfl, .inl rfl, .inr ⟨4, rfl, rfl, Nat.le_refl _⟩, trivial⟩), .inl rfl, .inr (.inl ⟨_, _, rfl, Nat.le_refl _⟩), trivial⟩, rfl, rfl⟩ ?_
      rintro ⟨i, b2, c2, zs, μ''⟩ ⟨hi, hle3, hrows2⟩
      dsimp only at hi hle3 hrows2
      have hlen2 := hrows2.len
      simp only [List.length_map, List.length_take] at hlen2
      refine ifd (fun h => ?_) (fun h => ?_)
      · obtain ⟨t, ht⟩ := at_some (l := g.goals) (i := i) (by omega)
        obtain ⟨ad, p3, hel, hr⟩ := Gl.elem (hgs1.mono hle3) ht
        refine elem_intro hel ?_
        intro r4
        refine call_plain (ih t (mem_at ht) hr (hS.sub t (mem_at ht)) ((hsl.mono hle).mono hle3)) fun v' μ3 hle4 hR => ?_
        obtain ⟨q, rfl⟩ := Gl.invV hR
        intro r5
        refine grow_intro ?_ ?_ fun b' c' _ => ?_
        · show (zs.length + 1) * 72 ≤ _; omega
        · exact Nat.le_trans (m := 100000000) (show zs.length + 1 ≤ _ by omega) (by decide)
        refine num64 (by omega) (by omega) ⟨(i + 1, b', c', _, μ3), ⟨by dsimp only; omega, hle3.trans hle4, ?_⟩, by dsimp only; omega, ⟨⟨rfl, rfl, rfl, rfl, rfl, rfl, trivial⟩, ⟨rfl, rfl, rfl, rfl, trivial⟩, rfl, rfl⟩⟩
        dsimp only
        rw [List.take_add_one, ht, Option.toList_some]
        simp only [List.map_append, List.map_cons, List.map_nil]
        exact (hrows2.mono hle4).append (Rows.one hR (Gl.d_n _))
      · obtain rfl : i = g.goals.length := by omega
        rw [List.take_length] at hrows2
        refine ret_frz [3, 4] fun μ2 hle5 hno hrow => fun μ3 hle6 hno2 hrow2 => .inl ?_
        rw [hput]
        exact ⟨_, rfl, RepS.int (RepS.str (RepS.cons1 ((Rows.sl hrow (((hrows.mono hle3)).mono hle5) (Nat.le_trans (m := 100000000) (by omega) (by decide))).mono hle6) (RepS.last (Rows.sl hrow2 ((hrows2.mono hle5).mono hle6) (Nat.le_trans (m := 100000000) (by omega) (by decide))))))⟩
theorem Gl.put_Sh_wd {g : Gl} {f : Int → Option T} (hf : ∀ n y, f n = some y → y.good) : g.Sh → (g.put f).d.wd := fun h => by
  revert h
  refine Gl.ind (q := fun g => g.Sh → (g.put f).d.wd) (fun g ih h => ?_) g
  obtain ⟨xs, hxs, hok⟩ := lift_ok h.top.tm
  have hk0 := h.top.k0
  have hk1 := h.top.k1
  have hnm : g.name.size ≤ maxLen := by
    by_cases h9 : g.kind = 9
    · exact Nat.le_trans (h.top.rel h9).2.2.1 (by decide)
    · rw [h.top.nm h9]; exact Nat.zero_le _
  rw [Gl.d_eq, Gl.put_kind, Gl.put_name, Gl.put_goals, Gl.put_terms, hxs]
  have e : ((xs.map T.tm).map fun t => (t.toT.subst f).tm) = (xs.map (T.subst f)).map T.tm := by simp [List.map_map, Function.comp_def, T.toT_tm]
  rw [e]
  refine ⟨⟨show _ ≤ g.kind by omega, show g.kind ≤ _ by omega⟩, hnm, goods_wd fun y hy => ?_, D.wds_of fun d hd => ?_, trivial⟩
  · obtain ⟨x, hx, rfl⟩ := List.mem_map.1 hy
    exact T.good_subst hf (hok x hx).1
  · obtain ⟨y, hy, rfl⟩ := List.mem_map.1 hd
    obtain ⟨z, hz, rfl⟩ := List.mem_map.1 hy
    exact ih z hz (h.sub z hz)
theorem spec_InstantiateGoal_spec {g : Gl} {l : List Bd} {v : Value} {base : Option Addr} {cap : Nat} (hv : RepV μ g.d v) (hw : g.d.wd) (hsl : Sl μ 5 base l.length (l.map Bd.d)) (hwl : D.wds (l.map Bd.d)) :
    Spec Try.prog 34 [v, .slice base l.length cap] μ fun v μ' => optG (fun y tv => RepV μ' y.d tv) (instG g l) v := by
  obtain ⟨p, rfl⟩ := Gl.invV hv
  refine Spec.mk Try.func34 (by kernel_rfl) ?_
  intro r1 r2
  refine call_gives (spec_GoalOk_spec g hv hw) ?_
  refine ifnd (fun h => ret_plain (by rw [instG, if_neg fun k => h k.1]; rfl)) (fun h1 => ?_)
  refine call_gives (spec_ValuesOk_spec hsl hwl) ?_
  refine ifnd (fun h => ret_plain (by rw [instG, if_neg fun k => h k.2]; rfl)) (fun h2 => ?_)
  obtain ⟨bs, rfl, hbs⟩ := h2.vals
  rw [List.length_map] at hsl ⊢
  have e3 : instG g (bs.map B.bd) = g.withO (fits bs) := by rw [instG, if_pos ⟨h1, h2⟩, B.map_b]
  rw [e3]
  have hgood : ∀ n y, sub bs n = some y → y.good := fun n y h => (sub_ok hbs.tok h).1
  refine call_plain (l13Put_spec g hv h1.1 hsl) fun v1 μ1 hle1 hR => ?_
  obtain ⟨q, rfl⟩ := Gl.invV hR
  intro r3
  refine call_gives (spec_GoalOk_spec _ hR (Gl.put_Sh_wd hgood h1.1)) ?_
  rcases Gl.with_put hbs.tok g h1.1 with k | k
  · refine ifnd (fun h => absurd ⟨k.1, by rw [Gl.cnt_put]; exact h1.2⟩ h) (fun h3 => ?_)
    rw [k.2]
    refine call_plain (l13Copy_spec _ hR k.1) fun v2 μ2 hle2 hR2 => ?_
    obtain ⟨q2, rfl⟩ := Gl.invV hR2
    exact ret_plain ⟨_, rfl, hR2⟩
  · refine ifnd (fun h => ret_plain (by rw [k.2]; rfl)) (fun h3 => absurd h3.1 k.1)
end
end Go.Vx

/- Contracts: goals instantiated, the program's side. -/
namespace Go.Vx
open Go.Proofs Classical
theorem mapM_len {α β : Type} {f : α → Option β} : ∀ {l : List α} {ys : List β}, l.mapM f = some ys → ys.length = l.length
  | [], ys, h => by simp at h; subst h; rfl
  | x :: l, ys, h => by
    simp only [List.mapM_cons, bind, Option.bind_eq_some_iff, pure, Option.some.injEq] at h
    obtain ⟨y, h1, zs, h2, rfl⟩ := h
    simp [mapM_len h2]
theorem Mem.join_left {g k : Mem} {b : Nat} (h : g b ≠ none) : (g.join k) b ≠ none := by
  rw [Mem.join_get]
  cases hg : g b with
  | none => exact absurd hg h
  | some o => simp
theorem join_none {g k : Mem} {b : Nat} (h : (g.join k) b = none) : g b = none ∧ k b = none := by
  rw [Mem.join_get] at h
  cases hg : g b with
  | none => rw [hg] at h; exact ⟨rfl, h⟩
  | some o => rw [hg] at h; cases h
theorem Mem.Le.none {μ μ' : Mem} {b : Nat} (h : μ.Le μ') (k : μ' b = none) : μ b = none := by
  cases e : μ b with
  | none => rfl
  | some o => rw [h b o e] at k; cases k
theorem join_empty {g k : Mem} {b : Nat} (h1 : g b = none) (h2 : k b = none) : (g.join k) b = none := by
  rw [Mem.join_get, h1]; exact h2
/-- Two grown rows of a struct. -/
theorem Grown.two {es1 es2 : Nat} {μ μ1 μ2 μ3 μ4 : Mem} {ds1 ds2 : List D} {ys1 ys2 : List Value} {b1 b2 : Option Nat} {cap1 cap2 : Nat} (k1 : Grown es1 μ μ1 ds1 ys1) (k2 : Grown es2 μ1 μ2 ds2 ys2) (h0 : μ.Le μ1) (h1 : μ1.Le μ2) (h2 : μ2.Le μ3) (h3 : μ3.Le μ4)
    (hb1 : ∀ r, b1 = some r → μ2 r = none) (hr1 : RowAt μ3 b1 cap1 es1 ys1) (hm1 : ys1.length ≤ maxLen) (hb2 : ∀ r, b2 = some r → μ3 r = none) (hr2 : RowAt μ4 b2 cap2 es2 ys2) (hm2 : ys2.length ≤ maxLen) :
    FreshS μ μ4 [.sl es1 ds1, .sl es2 ds2] [.slice (b1.map fun r => ⟨r, 0, none⟩) ys1.length cap1, .slice (b2.map fun r => ⟨r, 0, none⟩) ys2.length cap2] := by
  obtain ⟨g1, a1, l1, f1⟩ := k1
  obtain ⟨g2, a2, l2, f2⟩ := k2
  have F1 := Fresh.ofRow (μ := μ.join g2) (μ1 := μ2) (μ' := μ3) a1 (l1.trans h1) (fun x hx => join_empty (f1 x hx) (by
    cases e : g2 x with
    | none => rfl
    | some o =>
      have h4 := f2 x (by simp [e])
      exact absurd (l1.none h4) hx)) (join_le (h0.trans h1) l2) h2 hb1 hr1 hm1
  obtain ⟨G1, A1, L1, N1⟩ := F1
  have F2 := Fresh.ofRow (μ := μ.join G1) (μ1 := μ3) (μ' := μ4) a2 (l2.trans h2) (fun x hx => join_empty (h0.none (f2 x hx)) (by
    cases e : G1 x with
    | none => rfl
    | some o => exact absurd (join_none (N1 x (by simp [e]))).2 hx)) (join_le ((h0.trans h1).trans h2) L1) h3 hb2 hr2 hm2
  obtain ⟨G2, A2, L2, N2⟩ := F2
  have ap : Apart G1 G2 := fun x hx => by
    cases e : G2 x with
    | none => rfl
    | some o => exact absurd (join_none (N2 x (by simp [e]))).2 hx
  refine ⟨G1.join G2, OwnS.cons (Parts.join ap) A1.cells (OwnS.last A2.cells), join_le (L1.trans h3) L2, fun x hx => ?_⟩
  rcases join_ne hx with h | h
  · exact (join_none (N1 x h)).1
  · exact (join_none (N2 x h)).1
/-- A closure that maps terms. -/
def Maps (k : FuncId) (caps : List Value) (μ : Mem) (F : T → Option T) : Prop := ∀ μ', μ.Le μ' → ∀ (x : T) (v : Value), x.ok → RepV μ' x.tm.d v →
  Spec Try.prog k (v :: caps) μ' fun v μ'' => optV (fun y tv => Fresh μ' μ'' y.tm.d tv) (F x) v
section
variable {μ : Mem}
theorem goalWith_spec {F : T → Option T} {k : FuncId} {caps : List Value} : ∀ (g : Gl) {μ : Mem} {v : Value}, Maps k caps μ F → RepV μ g.d v → g.Sh →
    Spec Try.prog 98 [v, .func (.func k) #[] caps.toArray] μ fun v μ' => optG (fun y tv => Fresh μ μ' y.d tv) (g.withO F) v :=
  Gl.ind fun g ih μ v hk hv hS => by
    obtain ⟨p, rfl, hts, hgs⟩ := Gl.inv hv
    obtain ⟨xs, hxs, hok⟩ := lift_ok hS.top.tm
    have hg8 := hS.top.gl
    have hx4 : xs.length ≤ 4 := by
      have T := hS.top
      have e9 := T.ln9; have e2 := T.ln2; have e1 := T.ln1; have e0 := T.ln0; have k0 := T.k0; have k1 := T.k1
      have : g.terms.length = xs.length := by rw [hxs, List.length_map]
      omega
    have e3 := Gl.withO_eq F g
    rw [hxs, toTs_tm] at e3
    rw [hxs, List.length_map] at hts ⊢
    refine Spec.mk Try.func98 (by kernel_rfl) ?_
    intro r1 r2 r3
    refine loop_nil (fun p : Nat × List T × Option Nat × Nat × List Value × Mem => p.1 ≤ xs.length ∧ μ.Le p.2.2.2.2.2 ∧ (xs.take p.1).mapM F = some p.2.1 ∧ Grown 4 μ p.2.2.2.2.2 ((p.2.1.map T.tm).map Tm.d) p.2.2.2.2.1)
      (fun (i, _, b, c, ys, μ') => ⟨[(1, .val (.func (.func k) #[] caps.toArray)), (2, .loc 0 r1 0), (4, .loc 1 r2 0), (6, .loc 2 r3 0), (21, .val (.slice p.1.1 xs.length p.1.2)), (22, .val (.int .i64 xs.length)), (23, .val (.int .i64 i))],
        [(0, some (.cells r1 [.val (.int .i64 g.kind), .val (.string g.name), .val (.slice p.1.1 xs.length p.1.2), .val (.slice p.2.1 g.goals.length p.2.2)] 55)), (1, some (.cells r2 [.val (.int .i64 0), .val (.string ⟨#[]⟩), .val (.slice none 0 0), .val (.slice none 0 0)] 55)), (2, some (.cells r3 [.val (.int .i64 g.kind), .val (.string g.name), .row 3 b ys.length c, .val (.slice none 0 0)] 55)), (3, some (.row b c 30 4 ys))], 4, μ', Mem.nil⟩) (fun p => xs.length - p.1)
      (0, [], none, 0, [], μ) ⟨by simp, Mem.Le.refl _, by simp, Grown.nil _ _ _⟩ (fun (_, _, _, _, _, _) => ⟨rfl, rfl⟩) ⟨⟨⟨_, rfl, .inl rfl⟩, ⟨_, rfl, .inl rfl⟩, ⟨_, rfl, .inl rfl⟩, ⟨_, rfl, .inl rfl⟩, ⟨_, rfl, .inl rfl⟩, ⟨_, rfl, .inl rfl⟩, ⟨_, rfl, .inl rfl⟩, trivial⟩, ⟨.inl rfl, .inl rfl, .inr (.inr ⟨_, _, _, _, rfl, rfl, .inl rfl, .inl rfl, .inr ⟨3, rfl, rfl, Nat.le_refl _⟩, .inl rfl, trivial⟩), .inr (.inl ⟨_, _, rfl, Nat.le_refl _⟩), trivial⟩, rfl, rfl⟩ ?_
    rintro ⟨i, zs, b, c, ys, μ'⟩ ⟨hi, hle, hmap, hrows⟩
    dsimp only at hi hle hmap hrows
    have hlen := hrows.len
    have hzl := mapM_len hmap
    simp only [List.length_map, List.length_take] at hlen hzl
    refine ifd (fun h => ?_) (fun h => ?_)
    · obtain ⟨t, ht⟩ := at_some (l := xs) (i := i) (by omega)
      have ht' : (xs.map T.tm)[i]? = some t.tm := by simp [ht]
      obtain ⟨ad, p3, hel, hr⟩ := Tm.elem (hts.mono hle) ht'
      obtain ⟨hs1, hs2⟩ := mapM_snoc ht hmap
      refine elem_intro hel ?_
      intro r4
      refine call_plain (hk μ' hle t _ (hok t (mem_at ht)) hr) fun v' μ'' hle2 hR => ?_
      cases hf : F t with
      | none =>
        rw [hf] at hR
        obtain rfl := hR
        intro r5
        refine if_intro (fun _ => ?_) (fun h => absurd h (by simp))
        exact ret_plain (by rw [e3, hs2 hf]; rfl)
      | some y =>
        rw [hf] at hR hs1
        obtain ⟨tv, rfl, hR⟩ := hR
        obtain ⟨q, rfl⟩ := Tm.invV hR.rep
        intro r5
        refine if_intro (fun h => absurd h (by simp)) (fun _ => ?_)
        intro r6
        refine grow_intro ?_ ?_ fun b' c' _ => ?_
        · show (ys.length + 1) * 56 ≤ _; omega
        · exact Nat.le_trans (m := 100000000) (show ys.length + 1 ≤ _ by omega) (by decide)
        refine num64 (by omega) (by omega) ⟨(i + 1, zs ++ [y], b', c', _, μ''), ⟨by dsimp only; omega, hle.trans hle2, hs1, ?_⟩, by dsimp only; omega, ⟨⟨rfl, rfl, rfl, rfl, rfl, rfl, rfl, trivial⟩, ⟨rfl, rfl, rfl, rfl, trivial⟩, rfl, rfl⟩⟩
        dsimp only
        simp only [List.map_append, List.map_cons, List.map_nil]
        exact hrows.snoc hle hR hle2 (Tm.d_n _)
    · obtain rfl : i = xs.length := by omega
      rw [List.take_length] at hmap
      rw [hmap] at e3
      dsimp only at e3
      have hgs1 := hgs.mono hle
      refine loop_nil (fun p : Nat × List Gl × Option Nat × Nat × List Value × Mem => p.1 ≤ g.goals.length ∧ μ'.Le p.2.2.2.2.2 ∧ (g.goals.take p.1).mapM (Gl.withO F) = some p.2.1 ∧ Grown 4 μ' p.2.2.2.2.2 (p.2.1.map Gl.d) p.2.2.2.2.1)
        (fun (i, _, b2, c2, us, μ'') => ⟨[(1, .val (.func (.func k) #[] caps.toArray)), (4, .loc 1 r2 0), (6, .loc 2 r3 0), (44, .val (.slice p.2.1 g.goals.length p.2.2)), (45, .val (.int .i64 g.goals.length)), (46, .val (.int .i64 i))],
          [(1, some (.cells r2 [.val (.int .i64 0), .val (.string ⟨#[]⟩), .val (.slice none 0 0), .val (.slice none 0 0)] 55)), (2, some (.cells r3 [.val (.int .i64 g.kind), .val (.string g.name), .row 3 b ys.length c, .row 4 b2 us.length c2] 55)), (3, some (.row b c 30 4 ys)), (4, some (.row b2 c2 55 4 us))], 5, μ'', Mem.nil⟩) (fun p => g.goals.length - p.1)
        (0, [], none, 0, [], μ') ⟨by simp, Mem.Le.refl _, by simp, Grown.nil _ _ _⟩ (fun (_, _, _, _, _, _) => ⟨rfl, rfl⟩) ⟨⟨⟨_, rfl, .inl rfl⟩, ⟨_, rfl, .inl rfl⟩, ⟨_, rfl, .inl rfl⟩, ⟨_, rfl, .inl rfl⟩, ⟨_, rfl, .inl rfl⟩, ⟨_, rfl, .inl rfl⟩, trivial⟩, ⟨.inl rfl, .inr (.inr ⟨_, _, _, _, rfl, rfl, .inl rfl, .inl rfl, .inl rfl, .inr ⟨4, rfl, rfl, Nat.le_refl _⟩, trivial⟩), .inl rfl, .inr (.inl ⟨_, _, rfl, Nat.le_refl _⟩), trivial⟩, rfl, rfl⟩ ?_
      rintro ⟨i, ws, b2, c2, us, μ''⟩ ⟨hi, hle3, hmap2, hrows2⟩
      dsimp only at hi hle3 hmap2 hrows2
      have hlen2 := hrows2.len
      have hwl := mapM_len hmap2
      simp only [List.length_map, List.length_take] at hlen2 hwl
      refine ifd (fun h => ?_) (fun h => ?_)
      · obtain ⟨t, ht⟩ := at_some (l := g.goals) (i := i) (by omega)
        obtain ⟨ad, p3, hel, hr⟩ := Gl.elem (hgs1.mono hle3) ht
        obtain ⟨hs1, hs2⟩ := mapM_snoc ht hmap2
        refine elem_intro hel ?_
        intro r4
        refine call_plain (ih t (mem_at ht) (fun m hm => hk m ((hle.trans hle3).trans hm)) hr (hS.sub t (mem_at ht))) fun v' μ3 hle4 hR => ?_
        cases hf : t.withO F with
        | none =>
          rw [hf] at hR
          obtain rfl := hR
          intro r5
          refine if_intro (fun _ => ?_) (fun h => absurd h (by simp))
          exact ret_plain (by rw [e3, hs2 hf]; rfl)
        | some y =>
          rw [hf] at hR hs1
          obtain ⟨tv, rfl, hR⟩ := hR
          obtain ⟨q, rfl⟩ := Gl.invV hR.rep
          intro r5
          refine if_intro (fun h => absurd h (by simp)) (fun _ => ?_)
          intro r6
          refine grow_intro ?_ ?_ fun b' c' _ => ?_
          · show (us.length + 1) * 72 ≤ _; omega
          · exact Nat.le_trans (m := 100000000) (show us.length + 1 ≤ _ by omega) (by decide)
          refine num64 (by omega) (by omega) ⟨(i + 1, ws ++ [y], b', c', _, μ3), ⟨by dsimp only; omega, hle3.trans hle4, hs1, ?_⟩, by dsimp only; omega, ⟨⟨rfl, rfl, rfl, rfl, rfl, rfl, trivial⟩, ⟨rfl, rfl, rfl, rfl, trivial⟩, rfl, rfl⟩⟩
          dsimp only
          simp only [List.map_append, List.map_cons, List.map_nil]
          exact hrows2.snoc hle3 hR hle4 (Gl.d_n _)
      · obtain rfl : i = g.goals.length := by omega
        rw [List.take_length] at hmap2
        rw [hmap2] at e3
        dsimp only at e3
        refine ret_frz [3, 4] fun μ2 hle5 hno hrow => fun μ3 hle6 hno2 hrow2 => .inl ?_
        rw [e3]
        refine ⟨_, rfl, ?_⟩
        show Fresh μ μ3 (Gl.mk g.kind g.name (zs.map T.tm) ws).d _
        rw [Gl.d_eq]
        exact FreshS.st (FreshS.int (FreshS.str (Grown.two hrows hrows2 hle hle3 hle5 hle6 hno hrow (Nat.le_trans (m := 100000000) (by omega) (by decide)) hno2 hrow2 (Nat.le_trans (m := 100000000) (by omega) (by decide)))))
theorem InstantiateGoal1_maps {bs : List B} {base : Option Addr} {cap rl : Nat} (hs : Srt bs) (hlen : bs.length ≤ 1000000000) (hk : ∀ b ∈ bs, b.to.ok) (hsl : Sl μ 5 base bs.length ((bs.map B.bd).map Bd.d)) (hat : μ rl = some (.cells #[.slice base bs.length cap] 33 (0, 0))) :
    Maps 99 [.pointer (some ⟨rl, 0, none⟩)] μ (fits bs) := fun μ' hle x v hx hv => by
  obtain ⟨p, rfl⟩ := Tm.invV hv
  refine Spec.mk Try.func99 (by kernel_rfl) ?_
  intro r1 r2
  refine ext_intro [.slice base bs.length cap] rfl (box_at (hle _ _ hat)) ?_
  refine call_plain (put_spec x hs hlen hk (hsl.mono hle) hv) fun v2 μ2 hle2 hR => ?_
  cases hf : fits bs x with
  | some y =>
    have e' : fit (x.subst (sub bs)) = some y := hf
    rw [e'] at hR
    obtain ⟨tv, rfl, htv⟩ := hR
    obtain ⟨q, rfl⟩ := Tm.invV htv.rep
    exact ret_plain ⟨_, rfl, htv⟩
  | none =>
    have e' : fit (x.subst (sub bs)) = none := hf
    rw [e'] at hR
    obtain rfl := hR
    exact ret_plain rfl
theorem impl_InstantiateGoal_spec {g : Gl} {l : List Bd} {v : Value} {base : Option Addr} {cap : Nat} (hv : RepV μ g.d v) (hsl : Sl μ 5 base l.length (l.map Bd.d)) :
    Spec Try.prog 36 [v, .slice base l.length cap] μ fun v μ' => optG (fun y tv => Fresh μ μ' y.d tv) (instG g l) v := by
  obtain ⟨p, rfl⟩ := Gl.invV hv
  refine Spec.mk Try.func36 (by kernel_rfl) ?_
  intro r1 r2 r3
  refine call_gives (impl_GoalOk_spec g hv) ?_
  refine ifnd (fun h => ret_plain (by rw [instG, if_neg fun k => h k.1]; rfl)) (fun h1 => ?_)
  refine call_gives (impl_ValuesOk_spec hsl) ?_
  refine ifnd (fun h => ret_plain (by rw [instG, if_neg fun k => h k.2]; rfl)) (fun h2 => ?_)
  obtain ⟨bs, rfl, hbs⟩ := h2.vals
  have hbl := hbs.len
  rw [List.length_map] at hsl ⊢
  have e3 : instG g (bs.map B.bd) = g.withO (fits bs) := by rw [instG, if_pos ⟨h1, h2⟩, B.map_b]
  rw [e3]
  refine call_frz [1] ?_
  intro μ1 hle1 hno1 hat1
  refine call_go (goalWith_spec g (InstantiateGoal1_maps hbs.srt (by omega) hbs.tok (hsl.mono hle1) hat1) (hv.mono hle1) h1.1) fun v μ2 hle2 hR => ?_
  cases hf : g.withO (fits bs) with
  | some y =>
    rw [hf] at hR
    obtain ⟨tv, rfl, htv⟩ := hR
    obtain ⟨q, rfl⟩ := Gl.invV htv.rep
    intro r4
    exact ret_plain ⟨_, rfl, htv.mono hle1 (Mem.Le.refl _)⟩
  | none =>
    rw [hf] at hR
    obtain rfl := hR
    intro r4
    exact ret_plain rfl
end
end Go.Vx
