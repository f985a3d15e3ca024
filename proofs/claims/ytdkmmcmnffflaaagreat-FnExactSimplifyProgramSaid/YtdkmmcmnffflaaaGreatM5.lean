/- Texts of the proof, part M5. -/
import Derived.Test.YtdkmmcmnffflaaaGreatM4
namespace Go.Vx
open Go.Proofs Classical
noncomputable def bv (val : Int → T) (l : List Int) : List Int := l.filter fun v => decide (val v ≠ .var v)
theorem valL_bv (val : Int → T) (l : List Int) : valL val l = (bv val l).map fun v => ⟨v, val v⟩ := by
 unfold valL bv
 induction l with
 | nil => rfl
 | cons v l ih =>
  by_cases h : val v = .var v
  ·rw [List.filterMap_cons, List.filter_cons, if_pos h, if_neg (by simp [h])]; exact ih
  ·rw [List.filterMap_cons, List.filter_cons, if_neg h, if_pos (by simp [h])]
   simp only [List.map_cons]
   rw [ih]
theorem bv_take {val : Int → T} {l : List Int} {i : Nat} {v : Int} (h : l[i]? = some v) : bv val (l.take (i + 1)) = bv val (l.take i) ++ (if val v = .var v then [] else [v]) := by
 unfold bv
 rw [List.take_add_one, h, Option.toList_some, List.filter_append]
 congr 1
 by_cases k : val v = .var v <;> simp [k]
theorem bv_sub {val : Int → T} {l : List Int} (i : Nat) : (bv val (l.take i)).length ≤ (bv val l).length := ((List.take_sublist i l).filter _).length_le
theorem bv_mem {val : Int → T} {l : List Int} {v : Int} : v ∈ bv val l ↔ v ∈ l ∧ val v ≠ .var v := by
 unfold bv
 rw [List.mem_filter, decide_eq_true_eq]
theorem fits_bv {val : Int → T} {l : List Int} : FitsL (valL val l) ↔ (∀ v ∈ bv val l, (val v).size ≤ 5000) ∧ (bv val l).length ≤ 400 := by
 unfold FitsL
 rw [valL_bv, List.length_map]
 constructor
 ·rintro ⟨h1, h2⟩
  exact ⟨fun v hv => h1 ⟨v, val v⟩ (List.mem_map.2 ⟨v, hv, rfl⟩), h2⟩
 ·rintro ⟨h1, h2⟩
  refine ⟨fun b hb => ?_, h2⟩
  have w_ := List.mem_map.1 hb
  obtain ⟨v, hv, rfl⟩ := w_
  exact h1 v hv
def zB (v : Int) : Value := .agg #[.int .i64 v, .int .i64 0, .int .i64 0, .string ⟨#[]⟩, .slice none 0 0]
theorem szc_gt {t : T} : szc t > 5000 ↔ ¬ t.size ≤ 5000 := by unfold szc; omega
section
variable {μ : Mem} {R : ClRefs} {c : Cl} {K : List Int} {Q : T → Prop} {rank : Int → Nat} {val : Int → T}
set_option maxHeartbeats 4000000 in
theorem solved_spec {h : Mem} (hok : c.Ok rank) (hval : c.IsVal val) (hin : c.In K (PK Q K)) (hK : ∀ n ∈ K, 0 ≤ n ∧ n ≤ 100000) (H : ClInv μ R c K [] [] [] h) :
  SpecH Tryz.prog 172 [.pointer (some ⟨R.c, 0, none⟩)] μ h fun r μ' h' => ∃ l : List Int, l.Pairwise (· < ·) ∧ (∀ n, n ∈ l ↔ n ∈ K) ∧ optB (fun y tv => RepV μ' (.sl 5 ((y.map B.bd).map Bd.d)) tv) (if FitsL (valL val l) then some (valL val l) else none) r := by
 have w_ := H.ex
 obtain ⟨lu, ls, ld, hat, hup, hs, hd, hsh⟩ := w_
 have w_ := keys_ints hup.ok
 obtain ⟨ks, hks, hnd⟩ := w_
 have hkK : ∀ n, n ∈ ks ↔ n ∈ K := fun n => by
  rw [← mget_keys hks n]
  have w_ := hup.at_
  obtain ⟨p, hp, hget, _⟩ := w_
  rw [hget]
  by_cases e : n ∈ K
  ·rw [if_pos e]; simp [e]
  ·rw [if_neg e]; simp [e]
 have hkl : ks.length = lu.length := by
  have := congrArg List.length hks
  simpa [ints] using this.symm
 have hkn : ks.length ≤ 100001 := nodup_range hnd fun n hn => by have := hK n ((hkK n).1 hn); omega
 refine SpecH.mk [12, 26] Tryz.func172 (by kernel_rfl) ?_
 intro ra hma hoa
 replace hoa : h ra = none := hoa
 have hra : ra ∉ R.l := fun e => hat.dom ra e hoa
 have H1 := H.off (L := [ra]) (h' := h.set ra (mapO [])) (Fr.set (by simp)) (by simpa using hra)
 have a1 := hat.off (L := [ra]) (h' := h.set ra (mapO [])) (Fr.set (by simp)) (by simpa using hra)
 have ea : (h.set ra (mapO [])) ra = some (mapO []) := Mem.set_at _ _ _
 generalize hh1 : h.set ra (mapO []) = h1 at *
 refine oIn [.map (some R.u)] rfl (fld_at a1.c rfl) ?_
 refine mlen_intro lu a1.u ?_
 intro ri hmi hoi
 replace hoi : h1 ri = none := hoi
 have hne : R.u ≠ ri := fun e => by subst e; rw [a1.u] at hoi; cases hoi
 have hai : ra ≠ ri := fun e => by subst e; rw [ea] at hoi; cases hoi
 have hri : ri ∉ R.l := fun e => a1.dom ri e hoi
 have hla0 : ∃ la, (h1.set ri (iterO R.u lu.length [] lu.length)) ra = some (mapO la) ∧ MapOk IntKey la ∧ (∀ n, (mget la (.int .i64 n)).isSome ↔ n ∈ ([] : List Nat).map fun j => ks.getD j 0) := ⟨[], by rw [Mem.set_ne hai]; exact ea, MapOk.nil, fun n => by simp [mget]⟩
 refine lIn (fun p : List Nat × Mem => p.1.Nodup ∧ (∀ j ∈ p.1, j < lu.length) ∧ p.2 ri = some (iterO R.u lu.length p.1 lu.length) ∧ (∃ la, p.2 ra = some (mapO la) ∧ MapOk IntKey la ∧ ∀ n, (mget la (.int .i64 n)).isSome ↔ n ∈ p.1.map fun j => ks.getD j 0) ∧ Fr [ra, ri] h1 p.2)
  (fun (seen, h') => ⟨[(0, .val (.pointer (some ⟨R.c, 0, none⟩))), (4, .val (.map (some ra))), (17, .val (.pointer (some ⟨ri, 0, none⟩)))], [], 0, μ, h'⟩) (fun p => lu.length - p.1.length)
  ([], _) ⟨by simp, by simp, Mem.set_at _ _ _, hla0, Fr.set (by simp)⟩ (fun (_, _) => ⟨rfl, rfl⟩) ⟨⟨rfl, rfl, rfl, trivial⟩, trivial, rfl, rfl⟩ ?_
 rintro ⟨seen, h2⟩ ⟨hsn, hsl, hit, ⟨la, hla, hka, hma2⟩, hfr⟩
 dsimp only at hsn hsl hit hla hma2 hfr
 have hslen := nodup_len hsn hsl
 have hat2 := a1.off hfr (by simpa using ⟨hra, hri⟩)
 refine next_intro R.u seen lu.length lu hit hat2.u (Nat.le_refl _) (fun hall => ?_) (fun j k v hj hns => ?_)
 rotate_left
 ·have hjl := (List.getElem?_eq_some_iff.1 hj).1
  have hkj : k = .int .i64 (ks.getD j 0) := by
   have h1 : (lu.map Prod.fst)[j]? = some k := by simp [hj]
   rw [hks, ints, List.getElem?_map] at h1
   have h2 : j < ks.length := by omega
   rw [List.getElem?_eq_getElem h2] at h1
   simp only [Option.map_some, Option.some.injEq] at h1
   rw [← h1, List.getD_eq_getElem?_getD, List.getElem?_eq_getElem h2]; rfl
  subst hkj
  refine iIn (fun _ => ?_) (fun h => nomatch h)
  refine ent_intro R.u lu.length seen j lu _ v (Mem.set_at _ _ _) ((Mem.set_ne hne).trans hat2.u) hj ?_
  refine upd_intro la ((Mem.set_ne hai).trans hla) (hka.weaken (by rintro _ ⟨n, rfl⟩; rfl)) rfl ?_
  have hsl2 : ∀ i ∈ seen ++ [j], i < lu.length := fun i hi => by
   rcases List.mem_append.1 hi with hi | hi
   ·exact hsl i hi
   ·rw [List.mem_singleton] at hi; subst hi; exact hjl
  have hsn2 : (seen ++ [j]).Nodup := by
   rw [List.nodup_append]
   refine ⟨hsn, by simp, fun a ha b hb e => ?_⟩
   rw [List.mem_singleton] at hb
   subst hb; subst e; exact hns ha
  have hs3 := nodup_len hsn2 hsl2
  rw [List.length_append, List.length_singleton] at hs3
  refine ⟨(seen ++ [j], _), ⟨hsn2, hsl2, ?_, ⟨_, Mem.set_at _ _ _, hka.int _, fun n => ?_⟩, (hfr.trans (Fr.set (by simp))).trans (Fr.set (by simp))⟩, by dsimp only; rw [List.length_append, List.length_singleton]; omega, ⟨⟨rfl, rfl, rfl, trivial⟩, trivial, rfl, rfl⟩⟩
  ·show (Mem.set (Mem.set h2 ri _) ra _) ri = _
   rw [Mem.set_ne hai.symm, Mem.set_at]
  ·rw [mget_int, List.map_append, List.mem_append]
   by_cases e : n = ks.getD j 0
   ·rw [if_pos e]; simp [e]
   ·rw [if_neg e, hma2]
    simp only [List.map_cons, List.map_nil, List.mem_singleton]
    exact ⟨.inl, fun k => k.elim id fun k => absurd k e⟩
 ·refine iIn (fun h => nomatch h) (fun _ => ?_)
  have hp := picked hnd hsn (by rw [hkl]; exact hsl)
  have hpm := picked_mem (by rw [hkl]; exact hsl) (by rw [hkl]; exact hall) (ks := ks) (seen := seen)
  have hn : la.length ≤ 1000000 := by
   have w_ := keys_ints hka
   obtain ⟨ka, h3, h4⟩ := w_
   have h5 : ka.length = la.length := by
    have := congrArg List.length h3
    simpa [ints] using this.symm
   have := nodup_range (N := 100001) h4 fun n hn => by
    have := hK n ((hkK n).1 ((hpm n).1 ((hma2 n).1 ((mget_keys h3 n).2 hn)))); omega
   omega
  refine cOw (sortedInts_spec hla hka hn) fun v μ1 h3 hle1 hap1 hR => ?_
  obtain ⟨e, xs, hxm, hxp, hxf⟩ := hR
  obtain rfl := e
  have hxK : ∀ n, n ∈ xs ↔ n ∈ K := fun n => by rw [hxm, hma2, hpm, hkK]
  replace hap1 : Apart μ1 h3 := hap1
  have w_ := Rep.sl hxf.rep
  obtain ⟨xb, xc, rfl, hsl1⟩ := w_
  rw [List.length_map] at hsl1 ⊢
  have hxl : xs.length ≤ 100001 := nodup_range (hxp.imp fun h e => by omega) fun n hn => by have := hK n ((hxK n).1 hn); omega
  have H3 : ClInv μ1 R c K [] [] [] h3 := (H1.off hfr (by simpa using ⟨hra, hri⟩)).mono hle1
  have a3 := a1.off hfr (by simpa using ⟨hra, hri⟩)
  intro rb hmb hob
  replace hob : h3 rb = none := hob
  replace hmb : μ1 rb = none := hmb
  have hrb : rb ∉ R.l := fun e => a3.dom rb e hob
  have H4 := H3.off (L := [rb]) (h' := h3.set rb (.cells #[] 98 (0, 0))) (Fr.set (by simp)) (by simpa using hrb)
  have I0 : ∃ col lk lz, ClInv μ1 R c K lk lz [] (h3.set rb (.cells #[] 98 (0, 0))) ∧ Wt val col lk lz ∧ ∀ z, col z ≠ 1 := ⟨_, _, _, H4, Wt.nil val, fun z => by decide⟩
  refine lIn (fun p : Nat × Nat × Nat × Mem × Mem => p.1 ≤ xs.length ∧ RowO p.2.2.2.2 p.2.1 p.2.2.1 98 5 ((bv val (xs.take p.1)).map zB) ∧ p.2.1 ∉ R.l ∧ Apart p.2.2.2.1 p.2.2.2.2 ∧ μ1.Le p.2.2.2.1 ∧ (∃ col lk lz, ClInv p.2.2.2.1 R c K lk lz [] p.2.2.2.2 ∧ Wt val col lk lz ∧ ∀ z, col z ≠ 1) ∧ (∀ v ∈ bv val (xs.take p.1), (val v).size ≤ 5000) ∧ (bv val (xs.take p.1)).length ≤ 400)
   (fun (i, b, cp, μ', h') => ⟨[(0, .val (.pointer (some ⟨R.c, 0, none⟩))), (7, .val (.slice (some ⟨b, 0, none⟩) (bv val (xs.take i)).length cp)), (27, .val (.slice xb xs.length xc)), (28, .val (.int .i64 xs.length)), (29, .val (.int .i64 i))], [], 0, μ', h'⟩) (fun p => xs.length - p.1)
   (0, rb, 0, μ1, _) ⟨by simp, RowO.mk_nil _ _ _ _, hrb, hap1.set hmb, Mem.Le.refl _, I0, by simp [bv], by simp [bv]⟩ (fun (_, _, _, _, _) => ⟨rfl, rfl⟩) ⟨⟨rfl, rfl, rfl, rfl, rfl, trivial⟩, trivial, rfl, rfl⟩ ?_
  clear I0 H4 hob hmb hap1 H3 a3 hrb
  rintro ⟨i, b, cp, μ2, h4⟩ ⟨hi, hrow, hb, hap2, hle2, ⟨col, lk, lz, H5, hw, hng⟩, hsz, hln⟩
  dsimp only at hi hrow hb hap2 hle2 H5 hsz hln
  refine ifd (fun hlt => ?_) (fun hlt => ?_)
  ·have w_ := aSo (l := xs) (i := i) (by omega)
   obtain ⟨w, hxi⟩ := w_
   have hwx := mAt hxi
   have hwK := (hxK w).1 hwx
   have w_ := Ints.elem (hsl1.mono hle2) hxi
   obtain ⟨ad, hel⟩ := w_
   have htk := bv_take (val := val) hxi
   refine eIn hel ?_
   refine cOw (root_spec w hok.le H5) fun r μ3 h5 hle3 hap3 hR => ?_
   obtain ⟨rfl, e, H6, fr6⟩ := hR
   obtain rfl := e.symm
   rw [ord_of_mem hwK] at H6
   replace H6 : ClInv μ2 R c K lk lz [] h5 := H6
   refine cOw (weigh_spec hok hval hin _ (Nat.lt_succ_self _) (hin.rep w hwK) (hok.idem w) (fun z hz => absurd hz (hng z)) hw H6) fun r μ3 h6 hle4 hap4 hR => ?_
   obtain ⟨rfl, col2, ⟨⟨lk2, lz2, H7, hw2⟩, k1, k2, fr7⟩, k3⟩ := hR
   replace H7 : ClInv μ3 R c K lk2 lz2 [] h6 := H7
   replace hap4 : Apart μ3 h6 := hap4
   have hle23 : μ2.Le μ3 := hle4
   have hng2 : ∀ z, col2 z ≠ 1 := fun z hz => hng z (k2 z hz)
   refine iIn (fun h => nomatch h) (fun _ => ?_)
   have hbu : b ≠ R.u := fun e => hb (by rw [e]; simp [ClRefs.l])
   have hbk : b ≠ R.k := fun e => hb (by rw [e]; simp [ClRefs.l])
   have hbz : b ≠ R.z := fun e => hb (by rw [e]; simp [ClRefs.l])
   have hrow2 : RowO h6 b cp 98 5 ((bv val (xs.take i)).map zB) := by
    obtain ⟨cs, hc, rest⟩ := hrow
    exact ⟨cs, fr7.at (fr6.at hc (by simpa using hbu)) (by simp [hbu, hbk, hbz]), rest⟩
   have w_ := H7.ex
   obtain ⟨lu7, ls7, ld7, a7, hup7, hs7, hd7, hsh7⟩ := w_
   have hself := Cl.val_self hok hval w
   have hlen2 : ((bv val (xs.take i)).map zB).length = (bv val (xs.take i)).length := List.length_map _
   refine ifd (fun hrw => ?_) (fun hrw => ?_)
   ·refine oIn [.map (some R.d)] rfl (fld_at a7.c rfl) ?_
    cases hsw : c.shp w with
    | none =>
     have hvw := hself.2 ⟨hrw, hsw⟩
     rw [if_pos hvw, List.append_nil] at htk
     refine look_intro ld7 none a7.d (hd7.weaken (by rintro _ ⟨n, rfl⟩; rfl)) rfl (by rw [hrw]; exact hsh7.none hrw hsw) ?_
     refine iIn (fun _ => ?_) (fun h => nomatch h)
     refine num64 (by omega) (by omega) ⟨(i + 1, b, cp, μ3, h6), ⟨by dsimp only; omega, by dsimp only; rw [htk]; exact hrow2, hb, hap4, hle2.trans hle23, ⟨col2, lk2, lz2, H7, hw2, hng2⟩, by dsimp only; rw [htk]; exact hsz, by dsimp only; rw [htk]; exact hln⟩, by dsimp only; omega, ?_⟩
     exact ⟨⟨rfl, by dsimp only; rw [htk]; rfl, rfl, rfl, rfl, trivial⟩, trivial, rfl, rfl⟩
    | some t =>
     have hvw : val w ≠ .var w := fun e => by rw [(hself.1 e).2] at hsw; cases hsw
     refine look_intro ld7 (some (.bool true)) a7.d (hd7.weaken (by rintro _ ⟨n, rfl⟩; rfl)) rfl (by rw [hrw]; exact (hsh7.some hrw hsw).1) ?_
     refine iIn (fun h => nomatch h) (fun _ => ?_)
     rw [if_neg hvw] at htk
     have hwb : w ∈ bv val xs := bv_mem.2 ⟨hwx, hvw⟩
     have hsub := bv_sub (val := val) (l := xs) (i + 1)
     rw [htk, List.length_append, List.length_singleton] at hsub
     intro r55
     refine app_intro ((bv val (xs.take i)).map zB) hlen2 hrow2 ?_ ?_ fun b' c' o hrow3 hor => ?_
     ·show ((bv val (xs.take i)).length + 1) * 64 ≤ _; omega
     ·exact Nat.le_trans (m := 100000000) (show (bv val (xs.take i)).length + 1 ≤ _ by omega) (by decide)
     have hb' : b' ∉ R.l := by
      rcases hor with e | ⟨e, _⟩
      ·rw [e]; exact hb
      ·exact fun k => a7.dom b' k e
     have hap5 := hap4.set (o := o) (apartO hrow2 hap4 hor)
     have a8 := a7.off (L := [b']) (h' := h6.set b' o) (Fr.set (by simp)) (by simpa using hb')
     have H8 := H7.off (L := [b']) (h' := h6.set b' o) (Fr.set (by simp)) (by simpa using hb')
     have hz := hw2.siz _ k3
     rw [hval.rep hok] at hz
     refine oIn [.map (some R.z)] rfl (fld_at a8.c rfl) ?_
     refine look_intro lz2 (some _) a8.z (hw2.okz.weaken (by rintro _ ⟨n, rfl⟩; rfl)) rfl hz ?_
     refine ifd (fun hgt => ?_) (fun hgt => ?_)
     ·refine rPl ⟨xs, hxp, hxK, ?_⟩
      rw [if_neg fun hf => szc_gt.1 hgt ((fits_bv.1 hf).1 w hwb)]
      rfl
     refine ifd (fun hgt2 => ?_) (fun hgt2 => ?_)
     ·replace hgt2 : (((bv val (xs.take i)).length + 1 : Nat) : Int) > 400 := hgt2
      refine rPl ⟨xs, hxp, hxK, ?_⟩
      rw [if_neg fun hf => by have := (fits_bv.1 hf).2; omega]
      rfl
     replace hgt2 : ¬ (((bv val (xs.take i)).length + 1 : Nat) : Int) > 400 := hgt2
     have hsize : (val w).size ≤ 5000 := Classical.byContradiction fun e => hgt (szc_gt.2 e)
     refine num64 (by omega) (by omega) ⟨(i + 1, b', c', μ3, h6.set b' o), ⟨by dsimp only; omega, ?_, hb', hap5, hle2.trans hle23, ⟨col2, lk2, lz2, H8, hw2, hng2⟩, ?_, ?_⟩, by dsimp only; omega, ?_⟩
     ·dsimp only
      rw [htk, List.map_append]
      exact hrow3
     ·dsimp only
      rw [htk]
      intro v hv
      rcases List.mem_append.1 hv with hv | hv
      ·exact hsz v hv
      ·rw [List.mem_singleton] at hv; subst hv; exact hsize
     ·dsimp only
      rw [htk, List.length_append, List.length_singleton]; omega
     ·exact ⟨⟨rfl, by dsimp only; rw [htk, List.length_append, List.length_singleton]; rfl, rfl, rfl, rfl, trivial⟩, trivial, rfl, rfl⟩
   ·have hvw : val w ≠ .var w := fun e => hrw (hself.1 e).1
    rw [if_neg hvw] at htk
    have hwb : w ∈ bv val xs := bv_mem.2 ⟨hwx, hvw⟩
    have hsub := bv_sub (val := val) (l := xs) (i + 1)
    rw [htk, List.length_append, List.length_singleton] at hsub
    intro r55
    refine app_intro ((bv val (xs.take i)).map zB) hlen2 hrow2 ?_ ?_ fun b' c' o hrow3 hor => ?_
    ·show ((bv val (xs.take i)).length + 1) * 64 ≤ _; omega
    ·exact Nat.le_trans (m := 100000000) (show (bv val (xs.take i)).length + 1 ≤ _ by omega) (by decide)
    have hb' : b' ∉ R.l := by
     rcases hor with e | ⟨e, _⟩
     ·rw [e]; exact hb
     ·exact fun k => a7.dom b' k e
    have hap5 := hap4.set (o := o) (apartO hrow2 hap4 hor)
    have a8 := a7.off (L := [b']) (h' := h6.set b' o) (Fr.set (by simp)) (by simpa using hb')
    have H8 := H7.off (L := [b']) (h' := h6.set b' o) (Fr.set (by simp)) (by simpa using hb')
    have hz := hw2.siz _ k3
    rw [hval.rep hok] at hz
    refine oIn [.map (some R.z)] rfl (fld_at a8.c rfl) ?_
    refine look_intro lz2 (some _) a8.z (hw2.okz.weaken (by rintro _ ⟨n, rfl⟩; rfl)) rfl hz ?_
    refine ifd (fun hgt => ?_) (fun hgt => ?_)
    ·refine rPl ⟨xs, hxp, hxK, ?_⟩
     rw [if_neg fun hf => szc_gt.1 hgt ((fits_bv.1 hf).1 w hwb)]
     rfl
    refine ifd (fun hgt2 => ?_) (fun hgt2 => ?_)
    ·replace hgt2 : (((bv val (xs.take i)).length + 1 : Nat) : Int) > 400 := hgt2
     refine rPl ⟨xs, hxp, hxK, ?_⟩
     rw [if_neg fun hf => by have := (fits_bv.1 hf).2; omega]
     rfl
    replace hgt2 : ¬ (((bv val (xs.take i)).length + 1 : Nat) : Int) > 400 := hgt2
    have hsize : (val w).size ≤ 5000 := Classical.byContradiction fun e => hgt (szc_gt.2 e)
    refine num64 (by omega) (by omega) ⟨(i + 1, b', c', μ3, h6.set b' o), ⟨by dsimp only; omega, ?_, hb', hap5, hle2.trans hle23, ⟨col2, lk2, lz2, H8, hw2, hng2⟩, ?_, ?_⟩, by dsimp only; omega, ?_⟩
    ·dsimp only
     rw [htk, List.map_append]
     exact hrow3
    ·dsimp only
     rw [htk]
     intro v hv
     rcases List.mem_append.1 hv with hv | hv
     ·exact hsz v hv
     ·rw [List.mem_singleton] at hv; subst hv; exact hsize
    ·dsimp only
     rw [htk, List.length_append, List.length_singleton]; omega
    ·exact ⟨⟨rfl, by dsimp only; rw [htk, List.length_append, List.length_singleton]; rfl, rfl, rfl, rfl, trivial⟩, trivial, rfl, rfl⟩
  ·obtain rfl : i = xs.length := by omega
   rw [List.take_length] at hrow hsz hln ⊢
   have hfit : FitsL (valL val xs) := fits_bv.2 ⟨hsz, hln⟩
   have hb0 : ∀ v ∈ bv val xs, v ∈ K := fun v hv => (hxK v).1 (bv_mem.1 hv).1
   generalize hL : bv val xs = L at hrow hln hb0
   have hLl : (L.map zB).length = L.length := List.length_map _
   refine lIn (fun p : Nat × List Value × Mem × Mem => p.1 ≤ L.length ∧ p.2.1.length = L.length ∧ RowO p.2.2.2 b cp 98 5 p.2.1 ∧ Apart p.2.2.1 p.2.2.2 ∧ μ1.Le p.2.2.1 ∧ (∃ lf, FAt p.2.2.1 val lf ∧ ClInv p.2.2.1 R c K lk lz lf p.2.2.2) ∧ ∀ (j : Nat) v, L[j]? = some v → (j < p.1 → ∃ w, p.2.1[j]? = some w ∧ RepV p.2.2.1 (B.bd ⟨v, val v⟩).d w) ∧ (p.1 ≤ j → p.2.1[j]? = some (zB v)))
    (fun (i, ys, μ', h') => ⟨[(0, .val (.pointer (some ⟨R.c, 0, none⟩))), (7, .val (.slice (some ⟨b, 0, none⟩) L.length cp)), (71, .val (.int .i64 L.length)), (72, .val (.int .i64 i))], [], 0, μ', h'⟩) (fun p => L.length - p.1)
    (0, L.map zB, μ2, h4) ⟨by simp, hLl, hrow, hap2, hle2, ⟨[], FAt.nil _ _, H5⟩, fun j v hj => ⟨fun h => absurd h (Nat.not_lt_zero _), fun _ => by simp [hj]⟩⟩ (fun (_, _, _, _) => ⟨rfl, rfl⟩) ⟨⟨rfl, rfl, rfl, rfl, trivial⟩, trivial, rfl, rfl⟩ ?_
   clear hrow hap2 H5 hw hle2
   rintro ⟨i, ys, μ3, h5⟩ ⟨hi, hyl, hrow, hap3, hle3, ⟨lf, hf, H6⟩, hel⟩
   dsimp only at hi hyl hrow hap3 hle3 hf H6 hel
   refine ifd (fun hlt => ?_) (fun hlt => ?_)
   ·have w_ := aSo (l := L) (i := i) (by omega)
    obtain ⟨v, hLi⟩ := w_
    have hvK := hb0 v (mAt hLi)
    have hyi := (hel i v hLi).2 (Nat.le_refl _)
    refine ptr_intro ⟨b, 0, none⟩ rfl (by omega) (by omega) ?_
    refine oIn [.int .i64 v] rfl (hrow.own1 (k := i) (j := 0) hyi rfl (by simp [Addr.add_lit'])) ?_
    refine cOw (root_spec v hok.le H6) fun r μ4 h6 hle4 hap4 hR => ?_
    obtain ⟨rfl, e, H7, fr7⟩ := hR
    obtain rfl := e.symm
    rw [ord_of_mem hvK] at H7
    replace H7 : ClInv μ3 R c K lk lz lf h6 := H7
    refine cOw (value_spec hok hval hin _ (Nat.lt_succ_self _) (hin.rep v hvK) (hok.idem v) hf H7) fun r μ4 h7 hle4 hap5 hR => ?_
    obtain ⟨hrv, lf2, hf2, H8, fr8⟩ := hR
    replace H8 : ClInv μ4 R c K lk lz lf2 h7 := H8
    replace hap5 : Apart μ4 h7 := hap5
    have hle34 : μ3.Le μ4 := hle4
    rw [hval.rep hok] at hrv
    have w_ := Tm.invV hrv
    obtain ⟨q, rfl⟩ := w_
    have hbu : b ≠ R.u := fun e => hb (by rw [e]; simp [ClRefs.l])
    have hbf : b ≠ R.f := fun e => hb (by rw [e]; simp [ClRefs.l])
    have hrow2 : RowO h7 b cp 98 5 ys := by
     obtain ⟨cs, hc, rest⟩ := hrow
     exact ⟨cs, fr8.at (fr7.at hc (by simpa using hbu)) (by simp [hbu, hbf]), rest⟩
    refine cDa hap5 (copyTerm_spec (val v) hrv) fun w μ5 hle5 hap6 hR => ?_
    have w_ := Tm.invV hR.rep
    obtain ⟨q2, rfl⟩ := w_
    refine ptr_intro ⟨b, 0, none⟩ rfl (by omega) (by omega) ?_
    refine sto_row (k := i) (j := 1) (x := zB v) (.agg (Value.int .i64 v :: (val v).tm.cs q2).toArray) hrow2 hyi (by simp [Addr.add_lit']) rfl (show 1 + 4 ≤ 5 by decide) (by simp [Value.oneCell']) fun o hrow3 => ?_
    have hle35 := hle34.trans hle5
    refine num64 (by omega) (by omega) ⟨(i + 1, ys.set i (.agg (Value.int .i64 v :: (val v).tm.cs q2).toArray), μ5, h7.set b o), ⟨by dsimp only; omega, by dsimp only; rw [List.length_set]; exact hyl, hrow3, hap6.set (apartO hrow2 hap6 (.inl rfl)), hle3.trans hle35, ⟨lf2, hf2.mono hle5, (H8.mono hle5).off (L := [b]) (Fr.set (by simp)) (by simpa using hb)⟩, fun j u hj => ⟨fun hji => ?_, fun hji => ?_⟩⟩, by dsimp only; omega, ⟨⟨rfl, rfl, rfl, rfl, trivial⟩, trivial, rfl, rfl⟩⟩
    ·dsimp only
     by_cases e : j = i
     ·subst e
      rw [hLi] at hj
      cases hj
      exact ⟨_, List.getElem?_set_self (by omega), RepV.bd hR.rep⟩
     ·have w_ := (hel j u hj).1 (by dsimp only at hji; omega)
      obtain ⟨w', hw1, hw2⟩ := w_
      exact ⟨w', by rw [List.getElem?_set_ne (fun k => e k.symm)]; exact hw1, hw2.mono hle35⟩
    ·dsimp only at hji ⊢
     rw [List.getElem?_set_ne (by omega)]
     exact (hel j u hj).2 (by omega)
   ·obtain rfl : i = L.length := by omega
    refine ret_own _ Mem.nil (Parts.nil_right _) ⟨xs, hxp, hxK, ?_⟩
    rw [if_pos hfit]
    refine ⟨_, rfl, ?_⟩
    have hrows : Rows μ3 5 (((valL val xs).map B.bd).map Bd.d) ys := by
     refine Rows.of_at' (by rw [List.length_map, List.length_map, valL_bv, hL, List.length_map]; exact hyl.symm) fun j d w hd hw' => ?_
     have hjl : j < L.length := by
      have := (List.getElem?_eq_some_iff.1 hw').1; omega
     have w_ := aSo (l := L) (i := j) hjl
     obtain ⟨v, hLj⟩ := w_
     have w_ := (hel j v hLj).1 hjl
     obtain ⟨w2, hw2, hw3⟩ := w_
     rw [hw'] at hw2
     cases hw2
     rw [valL_bv, hL] at hd
     simp only [List.map_map, List.getElem?_map, hLj, Option.map_some, Option.some.injEq] at hd
     subst hd
     exact ⟨hw3, Bd.d_n _⟩
    rw [← hyl]
    obtain ⟨cs, hcell, hlen0, hcap, hone, hcs, htake⟩ := hrow
    have hb2 : μ3 b = none := by
     cases e : μ3 b with
     | none => rfl
     | some o => have := hap3 b (by simp [e]); rw [hcell] at this; cases this
    have hrowA : RowAt (μ3.join h5) (some b) cp 5 ys := ⟨hlen0, hone, _, _, by rw [Mem.join_get, hb2]; exact hcell, by simpa using hcs, by simpa using htake⟩
    exact Rows.sl hrowA (hrows.mono (Mem.le_join _ _)) hcap
end
end Go.Vx
namespace Go.Vx
open Go.Proofs Classical
noncomputable def evars (E : List (T × T)) : List Int := E.flatMap fun e => e.1.vars ++ e.2.vars
theorem evars_append (E F : List (T × T)) : evars (E ++ F) = evars E ++ evars F := List.flatMap_append
def BuiltOf (Q : T → Prop) (y : List B) : Prop := ∀ n, (∃ m, asF y n = .var m) ∨ ∃ s, Q s ∧ (∀ m, s ≠ .var m) ∧ asF y n = s.ap (asF y)
structure SolI (Q : T → Prop) (E : List (T × T)) (y : List B) : Prop where
 sol : SolL y E
 built : BuiltOf Q y
 vars : ∀ b ∈ y, b.var ∈ evars E
 good : ∀ b ∈ y, b.to.good ∧ 0 ≤ b.var ∧ b.var ≤ 100000
def SolO (Q : T → Prop) (E : List (T × T)) : Option (List B) → Prop
 | some y => SolI Q E y ∧ FitsL y
 | none => (∀ θ, ¬ SolvesE θ E) ∨ ∃ y, SolI Q E y ∧ ¬ FitsL y
theorem SolO.unifL {Q : T → Prop} {E : List (T × T)} {o : Option (List B)} (h : SolO Q E o) : o = Go.Vx.unifL E := by
 cases o with
 | some y => exact (unifL_some h.1.sol h.2).symm
 | none =>
  rcases h with h | ⟨y, h1, h2⟩
  ·exact (unifL_never h).symm
  ·exact (unifL_none fun bs hb hf => h2 (by rw [h1.sol.uniq hb]; exact hf)).symm
theorem T.good_ap {s : Int → T} : ∀ {t : T}, (∀ n, t.occ n → (s n).good) → t.good → (t.ap s).good
 | .var n, h, _ => h n rfl
 | .pair _ _, h, k => ⟨T.good_ap (fun n hn => h n (.inl hn)) k.1, T.good_ap (fun n hn => h n (.inr hn)) k.2⟩
 | .nil, _, _ => trivial
 | .sym _, _, k => k
 | .num _, _, k => k
theorem Cl.val_good {c : Cl} {rank : Int → Nat} {val : Int → T} {K : List Int} {Q : T → Prop} (hok : c.Ok rank) (hval : c.IsVal val) (hin : c.In K (PK Q K)) (hK : ∀ n ∈ K, 0 ≤ n ∧ n ≤ 100000) (hQ : ∀ t, Q t → t.good) : ∀ (m : Nat) (n : Int), rank (c.rep n) < m → n ∈ K → (val n).good
 | 0, _, h, _ => absurd h (Nat.not_lt_zero _)
 | m + 1, n, h, hn => by
  cases e : c.shp (c.rep n) with
  | none => rw [hval.plain e]; exact hK _ (hin.rep n hn)
  | some t =>
   have ht := (hin.shp _ _ e).2
   rw [hval.shaped e]
   exact T.good_ap (fun u hu => Cl.val_good hok hval hin hK hQ m u (by have := hok.acy _ _ e u hu; omega) (ht.1 u hu)) (hQ t ht.2)
theorem Cl.solI {c : Cl} {rank : Int → Nat} {val : Int → T} {K l : List Int} {Q : T → Prop} {E : List (T × T)} (hok : c.Ok rank) (hval : c.IsVal val) (hin : c.In K (PK Q K)) (hK : ∀ n ∈ K, 0 ≤ n ∧ n ≤ 100000) (hQ : ∀ t, Q t → t.good) (hE : ∀ θ, c.Sol θ ↔ SolvesE θ E) (hKE : ∀ n, n ∈ K ↔ n ∈ evars E) (hl : l.Pairwise (· < ·)) (hlK : ∀ n, n ∈ l ↔ n ∈ K) : SolI Q E (valL val l) := by
 have hout : ∀ v, v ∉ l → val v = .var v := fun v hn => (Cl.val_self hok hval v).2 ⟨hin.out v fun k => hn ((hlK v).2 k), by
  cases e : c.shp v with
  | none => rfl
  | some t => exact absurd ((hlK v).2 (hin.shp _ _ e).1) hn⟩
 have hF := valL_asF hl hout
 refine ⟨valL_sol (hval.solved hok hE) hl hout, fun n => ?_, fun b hb => ?_, fun b hb => ?_⟩
 ·rw [hF]
  cases e : c.shp (c.rep n) with
  | none => exact .inl ⟨_, hval.plain e⟩
  | some t => exact .inr ⟨t, (hin.shp _ _ e).2.2, hok.nv _ _ e, hval.shaped e⟩
 ·have := mem_valL.1 hb
  exact (hKE _).1 ((hlK _).1 this.1)
 ·have w_ := mem_valL.1 hb
  obtain ⟨h1, h2, h3⟩ := w_
  have hbK := (hlK _).1 h1
  rw [h2]
  exact ⟨Cl.val_good hok hval hin hK hQ _ _ (Nat.lt_succ_self _) hbK, hK _ hbK⟩
section
variable {μ : Mem} {Q : T → Prop}
structure SolSt (Q : T → Prop) (R : ClRefs) (E : List (T × T)) (μ h : Mem) : Prop where
 ex : ∃ c K, ClInv μ R c K [] [] [] h ∧ c.Good ∧ c.In K (PK Q K) ∧ (∀ θ, c.Sol θ ↔ SolvesE θ E) ∧ (∀ n, n ∈ K ↔ n ∈ evars E) ∧ ∀ n ∈ K, 0 ≤ n ∧ n ≤ 100000
theorem equal_step {R : ClRefs} {E : List (T × T)} {h : Mem} {c : Cl} {K : List Int} {a b : T} {va vb : Value} (hQ : ∀ a b, Q (.pair a b) → Q a ∧ Q b) (hg : c.Good) (hin : c.In K (PK Q K)) (hE : ∀ θ, c.Sol θ ↔ SolvesE θ E) (hKE : ∀ n, n ∈ K ↔ n ∈ evars (E ++ [(a, b)])) (hK : ∀ n ∈ K, 0 ≤ n ∧ n ≤ 100000)
  (ha : Q a) (hb : Q b) (hva : RepV μ a.tm.d va) (hvb : RepV μ b.tm.d vb) (H : ClInv μ R c K [] [] [] h) :
  SpecH Tryz.prog 171 [.pointer (some ⟨R.c, 0, none⟩), va, vb] μ h fun r μ' h' => ∃ o, r = .bool o ∧ (o = true → SolSt Q R (E ++ [(a, b)]) μ' h') ∧ (o = false → ∀ θ, ¬ SolvesE θ (E ++ [(a, b)])) := by
 have w_ := hg
 obtain ⟨rank, hok⟩ := w_
 have w_ := hok.has_val
 obtain ⟨val, hval⟩ := w_
 have hKa : ∀ n, n ∈ K ↔ n ∈ evars E ∨ n ∈ a.vars ∨ n ∈ b.vars := fun n => by
  rw [hKE, evars_append]; simp [evars]
 have hE2 : ∀ θ, SolvesE θ (E ++ [(a, b)]) ↔ SolvesE θ E ∧ a.ap θ = b.ap θ := fun θ => by
  rw [solves_append, solves_cons]
  exact ⟨fun k => ⟨k.1, k.2.1⟩, fun k => ⟨k.1, k.2, fun e he => by simp at he⟩⟩
 refine (equal_all (P := PK Q K) (fun _ h => h.1) (fun a b h => PK.pair hQ a b h) _ _ (Nat.le_refl _) hval (Nat.le_refl _) hg hin ⟨fun n hn => (hKa n).2 (.inr (.inl (T.occ_vars.1 hn))), ha⟩ ⟨fun n hn => (hKa n).2 (.inr (.inr (T.occ_vars.1 hn))), hb⟩ hva hvb H).weaken fun r μ' h' _ _ hR => ?_
 obtain ⟨o, c', rfl, k1, k2⟩ := hR
 refine ⟨o, rfl, fun e => ?_, fun e θ k => ?_⟩
 ·subst e
  exact ⟨c', K, k2 rfl, k1.1, k1.2.1, fun θ => by rw [k1.2.2.1 θ, hE2, hE], hKE, hK⟩
 ·subst e
  have := (hE2 θ).1 k
  exact k1 θ ⟨(hE θ).2 this.1, this.2⟩
set_option maxHeartbeats 4000000 in
theorem solution_spec {bs : List B} {xs ys : List T} {b0 b1 b2 : Option Addr} {c0 c1 c2 : Nat} (hQ : ∀ a b, Q (.pair a b) → Q a ∧ Q b) (hQg : ∀ t, Q t → t.good) (hb : ∀ b ∈ bs, Q (.var b.var) ∧ Q b.to) (hx : ∀ x ∈ xs, Q x) (hy : ∀ y ∈ ys, Q y) (hl : xs.length = ys.length)
  (hsb : Sl μ 5 b0 bs.length ((bs.map B.bd).map Bd.d)) (hsx : Sl μ 4 b1 xs.length ((xs.map T.tm).map Tm.d)) (hsy : Sl μ 4 b2 ys.length ((ys.map T.tm).map Tm.d)) (hbl : bs.length ≤ 1000000000) (hxl : xs.length ≤ 1000000000) :
  Spec Tryz.prog 119 [.slice b0 bs.length c0, .slice b1 xs.length c1, .slice b2 ys.length c2] μ fun r μ' => ∃ o, optB (fun y tv => RepV μ' (.sl 5 ((y.map B.bd).map Bd.d)) tv) o r ∧ SolO Q (eqsB bs ++ xs.zip ys) o := by
 refine Spec.mk Tryz.func119 (by kernel_rfl) ?_
 refine cOw newClasses_spec fun r μ1 h1 hle1 hap1 hR => ?_
 obtain ⟨R, rfl, e, H1⟩ := hR
 obtain rfl := e.symm
 have S0 : SolSt Q R (eqsB (bs.take 0)) μ h1 := ⟨Cl.start, [], H1, ⟨_, Cl.start_ok⟩, Cl.start_in Q, fun θ => Cl.start_sol θ, fun n => by simp [eqsB, evars], fun n hn => by simp at hn⟩
 have hrange : ∀ t, Q t → ∀ n ∈ t.vars, 0 ≤ n ∧ n ≤ 100000 := fun t ht n hn => T.vars_range (hQg t ht) n hn
 refine lIn (fun p : Nat × Mem × Mem => p.1 ≤ bs.length ∧ μ.Le p.2.1 ∧ SolSt Q R (eqsB (bs.take p.1)) p.2.1 p.2.2)
  (fun (i, μ', h') => ⟨[(1, .val (.slice b1 xs.length c1)), (2, .val (.slice b2 ys.length c2)), (8, .val (.pointer (some ⟨R.c, 0, none⟩))), (13, .val (.slice b0 bs.length c0)), (14, .val (.int .i64 bs.length)), (15, .val (.int .i64 i))], [], 0, μ', h'⟩) (fun p => bs.length - p.1)
  (0, μ, h1) ⟨by simp, Mem.Le.refl _, S0⟩ (fun (_, _, _) => ⟨rfl, rfl⟩) ⟨⟨rfl, rfl, rfl, rfl, rfl, rfl, trivial⟩, trivial, rfl, rfl⟩ ?_
 clear S0 H1 hap1
 rintro ⟨i, μ2, h2⟩ ⟨hi, hle2, ⟨c, K, H2, hg, hin, hE, hKE, hK⟩⟩
 dsimp only at hi hle2 H2 hE hKE
 refine ifd (fun hlt => ?_) (fun hlt => ?_)
 ·have w_ := aSo (l := bs) (i := i) (by omega)
  obtain ⟨b, hbi⟩ := w_
  have hbm := hb b (mAt hbi)
  have w_ := B.elem (hsb.mono hle2) hbi
  obtain ⟨ad, p, hel, hto⟩ := w_
  have hg0 := hg
  obtain ⟨rank, hok⟩ := hg0
  have htk : eqsB (bs.take (i + 1)) = eqsB (bs.take i) ++ [(.var b.var, b.to)] := by
   unfold eqsB
   rw [List.take_add_one, hbi, Option.toList_some, List.map_append]; rfl
  refine eIn hel ?_
  intro r10
  refine cOw (root_spec b.var hok.le H2) fun r μ3 h3 hle3 hap3 hR => ?_
  obtain ⟨rfl, e, H3, fr3⟩ := hR
  obtain rfl := e.symm
  replace H3 : ClInv μ2 R c (ord K b.var) [] [] [] h3 := H3
  refine cOw (meet_spec hok.le hto H3) fun r μ3 h4 hle4 hap4 hR => ?_
  obtain ⟨rfl, H4⟩ := hR
  replace H4 : ClInv μ3 R c (ordAll (ord K b.var) b.to.vars) [] [] [] h4 := H4
  have hle23 : μ2.Le μ3 := hle4
  have hKm : ∀ n, n ∈ ordAll (ord K b.var) b.to.vars ↔ n ∈ b.to.vars ∨ n = b.var ∨ n ∈ K := fun n => by rw [ordAll_mem, ord_mem]
  have hin4 : c.In (ordAll (ord K b.var) b.to.vars) (PK Q (ordAll (ord K b.var) b.to.vars)) := hin.mono fun n hn => (hKm n).2 (.inr (.inr hn))
  refine cGv (variable_spec b.var) ?_
  refine cOw (equal_step hQ hg hin4 hE (fun n => ?_) (fun n hn => ?_) hbm.1 hbm.2 (varV_rep b.var) (hto.mono hle23) H4) fun r μ4 h5 hle5 hap5 hR => ?_
  ·rw [hKm, evars_append, List.mem_append, ← hKE]
   simp only [evars, List.flatMap_cons, List.flatMap_nil, List.append_nil, T.vars, List.mem_append, List.mem_singleton]
   exact ⟨fun k => k.elim (fun k => .inr (.inr k)) fun k => k.elim (fun k => .inr (.inl k)) .inl, fun k => k.elim (fun k => .inr (.inr k)) fun k => k.elim (fun k => .inr (.inl k)) .inl⟩
  ·rcases (hKm n).1 hn with k | k | k
   ·exact hrange _ hbm.2 n k
   ·subst k; exact hQg _ hbm.1
   ·exact hK n k
  obtain ⟨o, rfl, k1, k2⟩ := hR
  cases o with
  | false =>
   refine iIn (fun _ => ?_) (fun h => nomatch h)
   refine rPl ⟨none, rfl, .inl fun θ k => k2 rfl θ ?_⟩
   rw [← htk]
   exact fun e he => k e (List.mem_append_left _ (by
    unfold eqsB at he ⊢
    have w_ := List.mem_map.1 he
    obtain ⟨b', hb', rfl⟩ := w_
    exact List.mem_map.2 ⟨b', List.mem_of_mem_take hb', rfl⟩))
  | true =>
   refine iIn (fun h => nomatch h) (fun _ => ?_)
   refine num64 (by omega) (by omega) ⟨(i + 1, μ4, h5), ⟨by dsimp only; omega, (hle2.trans hle23).trans hle5, by dsimp only; rw [htk]; exact k1 rfl⟩, by dsimp only; omega, ⟨⟨rfl, rfl, rfl, rfl, rfl, rfl, trivial⟩, trivial, rfl, rfl⟩⟩
 ·obtain rfl : i = bs.length := by omega
  rw [List.take_length] at hE hKE
  have htk0 : (xs.zip ys).take 0 = [] := rfl
  have S0 : SolSt Q R (eqsB bs ++ (xs.zip ys).take 0) μ2 h2 := ⟨c, K, H2, hg, hin, by rw [htk0, List.append_nil]; exact hE, by rw [htk0, List.append_nil]; exact hKE, hK⟩
  have hzl : (xs.zip ys).length = xs.length := by rw [List.length_zip]; omega
  refine lIn (fun p : Nat × Mem × Mem => p.1 ≤ xs.length ∧ μ.Le p.2.1 ∧ SolSt Q R (eqsB bs ++ (xs.zip ys).take p.1) p.2.1 p.2.2)
   (fun (i, μ', h') => ⟨[(1, .val (.slice b1 xs.length c1)), (2, .val (.slice b2 ys.length c2)), (8, .val (.pointer (some ⟨R.c, 0, none⟩))), (37, .val (.int .i64 xs.length)), (38, .val (.int .i64 i))], [], 0, μ', h'⟩) (fun p => xs.length - p.1)
   (0, μ2, h2) ⟨by simp, hle2, S0⟩ (fun (_, _, _) => ⟨rfl, rfl⟩) ⟨⟨rfl, rfl, rfl, rfl, rfl, trivial⟩, trivial, rfl, rfl⟩ ?_
  clear S0 H2 hE hKE hK hin hg hlt hle2
  rintro ⟨i, μ3, h3⟩ ⟨hi, hle3, ⟨c, K, H3, hg, hin, hE, hKE, hK⟩⟩
  dsimp only at hi hle3 H3 hE hKE
  have hg0 := hg
  obtain ⟨rank, hok⟩ := hg0
  refine ifd (fun hlt => ?_) (fun hlt => ?_)
  ·have w_ := aSo (l := xs) (i := i) (by omega)
   obtain ⟨x, hxi⟩ := w_
   have w_ := aSo (l := ys) (i := i) (by omega)
   obtain ⟨y, hyi⟩ := w_
   have hQx := hx x (mAt hxi)
   have hQy := hy y (mAt hyi)
   have w_ := Tm.elem (i := i) (t := x.tm) hsx (by simp [hxi])
   obtain ⟨ad, p, hel, hto⟩ := w_
   have w_ := Tm.elem (i := i) (t := y.tm) hsy (by simp [hyi])
   obtain ⟨ad2, p2, hel2, hto2⟩ := w_
   have htk : (xs.zip ys).take (i + 1) = (xs.zip ys).take i ++ [(x, y)] := by
    rw [List.take_add_one, show (xs.zip ys)[i]? = some (x, y) from List.getElem?_zip_eq_some.2 ⟨hxi, hyi⟩]; rfl
   refine eIn (hel.mono hle3) ?_
   refine cOw (meet_spec hok.le (hto.mono hle3) H3) fun r μ4 h4 hle4 hap4 hR => ?_
   obtain ⟨rfl, H4⟩ := hR
   replace H4 : ClInv μ4 R c (ordAll K x.vars) [] [] [] h4 := H4
   have hle34 : μ3.Le μ4 := hle4
   refine eIn (hel2.mono (hle3.trans hle34)) ?_
   refine cOw (meet_spec hok.le (hto2.mono (hle3.trans hle34)) H4) fun r μ5 h5 hle5 hap5 hR => ?_
   obtain ⟨rfl, H5⟩ := hR
   replace H5 : ClInv μ5 R c (ordAll (ordAll K x.vars) y.vars) [] [] [] h5 := H5
   have hle45 : μ4.Le μ5 := hle5
   have hle05 := hle3.trans (hle34.trans hle45)
   have hKm : ∀ n, n ∈ ordAll (ordAll K x.vars) y.vars ↔ n ∈ y.vars ∨ n ∈ x.vars ∨ n ∈ K := fun n => by rw [ordAll_mem, ordAll_mem]
   have hin5 : c.In (ordAll (ordAll K x.vars) y.vars) (PK Q (ordAll (ordAll K x.vars) y.vars)) := hin.mono fun n hn => (hKm n).2 (.inr (.inr hn))
   refine eIn (hel.mono hle05) ?_
   refine eIn (hel2.mono hle05) ?_
   refine cOw (equal_step hQ hg hin5 hE (fun n => ?_) (fun n hn => ?_) hQx hQy (hto.mono hle05) (hto2.mono hle05) H5) fun r μ6 h6 hle6 hap6 hR => ?_
   ·rw [hKm, evars_append, List.mem_append, ← hKE]
    simp only [evars, List.flatMap_cons, List.flatMap_nil, List.append_nil, List.mem_append]
    exact ⟨fun k => k.elim (fun k => .inr (.inr k)) fun k => k.elim (fun k => .inr (.inl k)) .inl, fun k => k.elim (fun k => .inr (.inr k)) fun k => k.elim (fun k => .inr (.inl k)) .inl⟩
   ·rcases (hKm n).1 hn with k | k | k
    ·exact hrange _ hQy n k
    ·exact hrange _ hQx n k
    ·exact hK n k
   obtain ⟨o, rfl, k1, k2⟩ := hR
   rw [List.append_assoc, ← htk] at k1 k2
   cases o with
   | false =>
    refine iIn (fun _ => ?_) (fun h => nomatch h)
    refine rPl ⟨none, rfl, .inl fun θ k => k2 rfl θ ?_⟩
    rw [solves_append] at k ⊢
    exact ⟨k.1, fun e he => k.2 e (List.mem_of_mem_take he)⟩
   | true =>
    refine iIn (fun h => nomatch h) (fun _ => ?_)
    refine num64 (by omega) (by omega) ⟨(i + 1, μ6, h6), ⟨by dsimp only; omega, hle05.trans hle6, k1 rfl⟩, by dsimp only; omega, ⟨⟨rfl, rfl, rfl, rfl, rfl, trivial⟩, trivial, rfl, rfl⟩⟩
  ·obtain rfl : i = xs.length := by omega
   rw [← hzl, List.take_length] at hE hKE
   have w_ := hok.has_val
   obtain ⟨val, hval⟩ := w_
   refine cOw (solved_spec hok hval hin hK H3) fun r μ4 h4 hle4 hap4 hR => ?_
   obtain ⟨l, hl1, hl2, hR⟩ := hR
   have hI := Cl.solI hok hval hin hK hQg hE hKE hl1 hl2
   by_cases hf : FitsL (valL val l)
   ·rw [if_pos hf] at hR
    obtain ⟨tv, rfl, htv⟩ := hR
    exact rPl ⟨some _, ⟨tv, rfl, htv⟩, hI, hf⟩
   ·rw [if_neg hf] at hR
    obtain rfl := hR
    exact rPl ⟨none, rfl, .inr ⟨_, hI, hf⟩⟩
end
end Go.Vx
namespace Go.Vx
open Go.Proofs Classical
theorem T.occ_args (n : Int) (x : T) : x.occ n ↔ (x.tm.kind = 1 ∧ x.tm.num = n) ∨ ∃ y ∈ x.args, y.occ n := by
 cases x <;> simp [T.occ, T.tm, Tm.kind, Tm.num, T.args]
noncomputable def walkT (bs : List B) : T → T
 | .var n => asF bs n
 | x => x
theorem walkT_nv {bs : List B} {x : T} (h : ∀ m, x ≠ .var m) : walkT bs x = x := by
 cases x with
 | var n => exact absurd rfl (h n)
 | _ => rfl
theorem T.var_or' (a : T) : (∃ n, a = .var n) ∨ ∀ m, a ≠ .var m := by
 cases a with
 | var n => exact .inl ⟨n, rfl⟩
 | _ => exact .inr (fun m h => nomatch h)
theorem T.kind_nv' {a : T} (h : ∀ m, a ≠ .var m) : a.tm.kind ≠ 1 := by
 cases a with
 | var n => exact absurd rfl (h n)
 | _ => simp [T.tm, Tm.kind]
section
variable {μ : Mem}
theorem l02Occurs_spec (n : Int) : ∀ (x : T) {v : Value}, RepV μ x.tm.d v → Gives Tryz.prog 209 [.int .i64 n, v] μ (.bool (decide (x.occ n))) :=
 T.ind fun x ih v hv => by
  have w_ := T.inv hv
  obtain ⟨base, cap, rfl, hsl⟩ := w_
  have hn := maxLen_le hsl.max
  refine Spec.mk Tryz.func209 (by kernel_rfl) ?_
  intro r
  refine lIn (fun i : Nat => i ≤ x.args.length ∧ ∀ j y, j < i → x.args[j]? = some y → ¬ y.occ n)
   (fun i => ⟨[(0, .val (.int .i64 n)), (3, .loc 0 r 0), (8, .val (.slice base x.args.length cap)), (9, .val (.int .i64 x.args.length)), (10, .val (.int .i64 i))], [(0, some (.cells r [.val (.int .i64 x.tm.kind), .val (.int .i64 x.tm.num), .val (.string x.tm.name), .val (.slice base x.args.length cap)] 50))], 1, μ, Mem.nil⟩) (fun i => x.args.length - i)
   0 ⟨by omega, fun j y hj => by omega⟩ (fun _ => ⟨rfl, rfl⟩) ⟨⟨rfl, rfl, rfl, rfl, rfl, trivial⟩, ⟨rfl, trivial⟩, rfl, rfl⟩ ?_
  rintro i ⟨hi, hno⟩
  refine ifd (fun h => ?_) (fun h => ?_)
  ·have w_ := aSo (l := x.args) (i := i) (by omega)
   obtain ⟨t, ht⟩ := w_
   have w_ := T.arg hsl ht
   obtain ⟨ad, p, hel, hto⟩ := w_
   refine eIn hel ?_
   intro r2
   refine cGv (ih t (mAt ht) hto) ?_
   refine ifd (fun hy => rGv (isT ((T.occ_args n x).2 (.inr ⟨t, mAt ht, hy⟩))) rfl) (fun hy => ?_)
   refine num64 (by omega) (by omega) ⟨i + 1, ⟨by omega, fun j y hj hy2 => ?_⟩, by omega, ⟨⟨rfl, rfl, rfl, rfl, rfl, trivial⟩, ⟨rfl, trivial⟩, rfl, rfl⟩⟩
   rcases Nat.lt_or_ge j i with h6 | h6
   ·exact hno j y h6 hy2
   ·obtain rfl : j = i := by omega
    rw [ht] at hy2; cases hy2; exact hy
  ·obtain rfl : i = x.args.length := by omega
   have hn2 : ¬ ∃ y ∈ x.args, y.occ n := fun ⟨y, hy, h2⟩ => by
    have w_ := List.mem_iff_getElem?.1 hy
    obtain ⟨j, hj⟩ := w_
    exact hno j y (List.getElem?_eq_some_iff.1 hj).1 hj h2
   refine ifd (fun h2 => ?_) (fun h2 => rGv (isF fun k => ((T.occ_args n x).1 k).elim (fun k => h2 k.1) hn2) rfl)
   refine rGv ?_ rfl
   congr 1
   rw [Bool.eq_iff_iff, decide_eq_true_eq, decide_eq_true_eq]
   exact ⟨fun k => (T.occ_args n x).2 (.inl ⟨h2, k⟩), fun k => ((T.occ_args n x).1 k).elim (fun k => k.2) fun k => absurd k hn2⟩
theorem l02Put_spec {n : Int} {y : T} {vy : Value} : ∀ (x : T) {μ : Mem} {v : Value}, RepV μ y.tm.d vy → RepV μ x.tm.d v →
  Spec Tryz.prog 210 [v, .int .i64 n, vy] μ fun v μ' => RepV μ' (x.ap (T.one n y)).tm.d v := by
 intro x
 induction x with
 | var m =>
  intro μ v hy hv
  have w_ := Tm.invV hv
  obtain ⟨p, rfl⟩ := w_
  have w_ := Tm.invV hy
  obtain ⟨q, rfl⟩ := w_
  refine Spec.mk Tryz.func210 (by kernel_rfl) ?_
  intro r1 r2 r3
  refine ifd (fun _ => ?_) (fun h => absurd rfl h)
  refine ifd (fun h => ?_) (fun h => ?_)
  ·have h : m = n := h
   have e : (T.var m).ap (T.one n y) = y := by rw [T.ap, T.one, if_pos h]
   rw [e]; exact rPl hy
  ·refine ifd (fun h => absurd h (by simp [T.tm, Tm.kind])) (fun _ => ?_)
   have h : ¬ m = n := h
   have e : (T.var m).ap (T.one n y) = .var m := by rw [T.ap, T.one, if_neg h]
   rw [e]; exact rPl hv
 | pair a b iha ihb =>
  intro μ v hy hv
  have w_ := Tm.inv hv
  obtain ⟨base', cap', rfl, hsa⟩ := w_
  have w_ := T.parts hsa
  obtain ⟨ad, ad', p, p', h1, h2, hra, hrb⟩ := w_
  have w_ := Tm.invV hy
  obtain ⟨q, rfl⟩ := w_
  refine Spec.mk Tryz.func210 (by kernel_rfl) ?_
  intro r1 r2 r3
  refine ifd (fun h => absurd h (by simp)) (fun _ => ?_)
  refine ifd (fun _ => ?_) (fun h => absurd rfl h)
  refine eIn h1 ?_
  refine eIn h2 ?_
  refine cPl (iha hy hra) fun v1 μ1 hle1 hR1 => ?_
  refine cPl (ihb (hy.mono hle1) (hrb.mono hle1)) fun v2 μ2 hle2 hR2 => ?_
  refine cPl (l02Pair_spec (hR1.mono hle2) hR2) fun v3 μ3 hle3 hR3 => ?_
  have w_ := Tm.invV hR3
  obtain ⟨q, rfl⟩ := w_
  exact rPl hR3
 | _ =>
  intro μ v hy hv
  have w_ := Tm.invV hv
  obtain ⟨p, rfl⟩ := w_
  have w_ := Tm.invV hy
  obtain ⟨q, rfl⟩ := w_
  refine Spec.mk Tryz.func210 (by kernel_rfl) ?_
  intro r1 r2 r3
  refine ifd (fun h => absurd h (by simp [T.tm, Tm.kind])) (fun _ => ?_)
  refine ifd (fun h => absurd h (by simp [T.tm, Tm.kind])) (fun _ => ?_)
  exact rPl hv
theorem l05Walk_any {bs : List B} {base : Option Addr} {cap : Nat} {x : T} {v : Value} (hsl : Sl μ 5 base bs.length ((bs.map B.bd).map Bd.d)) (hv : RepV μ x.tm.d v) :
  Spec Tryz.prog 163 [.slice base bs.length cap, v] μ fun v μ' => RepV μ' (walkT bs x).tm.d v ∧ μ' = μ := by
 have w_ := Tm.invV hv
 obtain ⟨p, rfl⟩ := w_
 refine Spec.mk Tryz.func163 (by kernel_rfl) ?_
 intro r1 r2
 rcases T.var_or' x with ⟨n, rfl⟩ | hx
 ·refine ifd (fun _ => ?_) (fun h => absurd rfl h)
  refine cPl (l04Get_spec hsl) fun v' μ' hle hR => ?_
  obtain ⟨hR, e2⟩ := hR
  obtain rfl := e2.symm
  have hR : optV (fun y tv => RepV μ y.tm.d tv) (sub bs n) v' := hR
  cases hs : sub bs n with
  | some y =>
   rw [hs] at hR
   obtain ⟨tv, rfl, htv⟩ := hR
   have w_ := Tm.invV htv
   obtain ⟨q, rfl⟩ := w_
   intro r3
   refine iIn (fun _ => rPl ⟨?_, rfl⟩) (fun h => nomatch h)
   rw [walkT, asF, hs]; exact htv
  | none =>
   rw [hs] at hR
   obtain rfl := hR
   intro r3
   refine iIn (fun h => nomatch h) (fun _ => rPl ⟨?_, rfl⟩)
   rw [walkT, asF, hs]; exact hv
 ·refine ifd (fun h => absurd h (T.kind_nv' hx)) (fun _ => rPl ⟨?_, rfl⟩)
  rw [walkT_nv hx]; exact hv
theorem InsPos.place {bs : List B} {n : Int} {k : Nat} (h : InsPos bs n k) (hs : Srt bs) (hn : ∀ b ∈ bs, b.var ≠ n) : PlaceOf bs n k where
 lo b hb := by
  have w_ := List.mem_iff_getElem?.1 hb
  obtain ⟨i, hi⟩ := w_
  have hik : i < k := by
   have := (List.getElem?_eq_some_iff.1 hi).1
   rw [List.length_take] at this; omega
  rw [List.getElem?_take_of_lt hik] at hi
  have hne := hn b (mAt hi)
  have w_ := aSo (l := bs) (i := k - 1) (by have := h.1; omega)
  obtain ⟨c, hc⟩ := w_
  have h2 := h.2.1 c hc (by omega)
  rcases Nat.lt_or_ge i (k - 1) with h3 | h3
  ·have := hs i (k - 1) b c h3 hi hc; omega
  ·obtain rfl : i = k - 1 := by omega
   rw [hi] at hc; cases hc; omega
 hi b hb := by
  have w_ := List.mem_iff_getElem?.1 hb
  obtain ⟨i, hi⟩ := w_
  rw [List.getElem?_drop] at hi
  exact h.2.2 (k + i) b (by omega) hi
noncomputable def bindO (bs : List B) (v : Int) (x : T) (k : Nat) : Option (List B) := if ¬ x.occ v ∧ FitsL (bindL bs v x k) then some (bindL bs v x k) else none
set_option maxHeartbeats 1000000 in
theorem l05Bind_spec {bs : List B} {base : Option Addr} {cap : Nat} {v : Int} {t : T} {tv : Value} (hs : Srt bs) (hn : ∀ b ∈ bs, b.var ≠ v) (hl : bs.length ≤ 1000000) (hsl : Sl μ 5 base bs.length ((bs.map B.bd).map Bd.d)) (ht : RepV μ t.tm.d tv) :
  Spec Tryz.prog 164 [.slice base bs.length cap, .int .i64 v, tv] μ fun r μ' => ∃ k, PlaceOf bs v k ∧ optB (fun y w => RepV μ' (.sl 5 ((y.map B.bd).map Bd.d)) w) (bindO bs v (t.ap (asF bs)) k) r := by
 have w_ := Tm.invV ht
 obtain ⟨p, rfl⟩ := w_
 have w_ := exists_place hs hn
 obtain ⟨k0, _, hk0⟩ := w_
 refine Spec.mk Tryz.func164 (by kernel_rfl) ?_
 intro r5
 refine cPl (l04Apply_spec t hsl ht) fun v1 μ1 hle1 hR => ?_
 obtain ⟨xv, rfl, hxv⟩ := hR
 rw [subst_asF] at hxv ⊢
 generalize t.ap (asF bs) = x at *
 have w_ := Tm.invV hxv
 obtain ⟨q, rfl⟩ := w_
 replace hle1 : μ.Le μ1 := hle1
 intro r8
 refine ifnd (fun h1 => ?_) (fun h1 => ?_)
 ·refine rPl ⟨k0, hk0, ?_⟩
  rw [bindO, if_neg fun h => h1 (fits_bindL.1 h.2).1]; rfl
 refine cGv (l02Occurs_spec v x hxv) ?_
 refine ifd (fun h2 => ?_) (fun h2 => ?_)
 ·refine rPl ⟨k0, hk0, ?_⟩
  rw [bindO, if_neg fun h => h.1 h2]; rfl
 refine ifd (fun h3 => ?_) (fun h3 => ?_)
 ·refine rPl ⟨k0, hk0, ?_⟩
  rw [bindO, if_neg fun h => by have := (fits_bindL.1 h.2).2.2; omega]; rfl
 intro r32
 refine lIn (fun p : Nat × Option Nat × Nat × List Value × Mem => p.1 ≤ bs.length ∧ μ1.Le p.2.2.2.2 ∧ Rows p.2.2.2.2 5 ((((bs.take p.1).map fun b => B.mk b.var (b.to.ap (T.one v x))).map B.bd).map Bd.d) p.2.2.2.1 ∧ ∀ b ∈ bs.take p.1, (b.to.ap (T.one v x)).size ≤ 5000)
  (fun (i, b, c, ys, μ') => ⟨[(1, .val (.int .i64 v)), (8, .loc 1 r8 0), (10, .row 2 b ys.length c), (33, .val (.slice base bs.length cap)), (34, .val (.int .i64 bs.length)), (35, .val (.int .i64 i))], [(1, some (.cells r8 [.val (.int .i64 x.tm.kind), .val (.int .i64 x.tm.num), .val (.string x.tm.name), .val (.slice q.1 x.tm.args.length q.2)] 50)), (2, some (.row b c 98 5 ys))], 3, μ', Mem.nil⟩) (fun p => bs.length - p.1)
  (0, some r32, 0, [], μ1) ⟨by simp, Mem.Le.refl _, .nil, by simp⟩ (fun (_, _, _, _, _) => ⟨rfl, rfl⟩) ⟨⟨rfl, rfl, rfl, rfl, rfl, rfl, trivial⟩, ⟨rfl, rfl, trivial⟩, rfl, rfl⟩ ?_
 rintro ⟨i, b, c, ys, μ'⟩ ⟨hi, hle, hgr, hsz⟩
 dsimp only at hi hle hgr hsz
 have hyl := hgr.len
 simp only [List.length_map, List.length_take] at hyl
 refine ifd (fun hlt => ?_) (fun hlt => ?_)
 ·have w_ := aSo (l := bs) (i := i) (by omega)
  obtain ⟨z, hz⟩ := w_
  have w_ := B.elem (hsl.mono (hle1.trans hle)) hz
  obtain ⟨ad, pz, hel, hto⟩ := w_
  refine eIn hel ?_
  intro r12
  refine cPl (l02Put_spec (n := v) (y := x) z.to (hxv.mono hle) hto) fun v2 μ2 hle2 hR => ?_
  have w_ := Tm.invV hR
  obtain ⟨q2, rfl⟩ := w_
  intro r13
  refine cGv (l02Fits_spec _ hR) ?_
  refine ifnd (fun h4 => ?_) (fun h4 => ?_)
  ·refine rPl ⟨k0, hk0, ?_⟩
   rw [bindO, if_neg fun h => h4 ((fits_bindL.1 h.2).2.1 z (mAt hz))]; rfl
  intro r52
  refine gIn ?_ ?_ fun b' c' hb' => ?_
  ·show (ys.length + 1) * 64 ≤ _; omega
  ·exact Nat.le_trans (m := 100000000) (show ys.length + 1 ≤ _ by omega) (by decide)
  refine num64 (by omega) (by omega) ⟨(i + 1, b', c', _, μ2), ⟨by dsimp only; omega, hle.trans hle2, ?_, ?_⟩, by dsimp only; omega, ⟨⟨rfl, rfl, rfl, rfl, rfl, rfl, trivial⟩, ⟨rfl, rfl, trivial⟩, rfl, rfl⟩⟩
  ·dsimp only
   rw [List.take_add_one, hz, Option.toList_some]
   simp only [List.map_append, List.map_cons, List.map_nil] at hgr ⊢
   exact (hgr.mono hle2).append (Rows.one (RepV.bd hR) (Bd.d_n _))
  ·dsimp only
   intro y hy
   rw [List.take_add_one, hz, Option.toList_some] at hy
   rcases List.mem_append.1 hy with hy | hy
   ·exact hsz y hy
   ·rw [List.mem_singleton] at hy; subst hy; exact h4
 ·obtain rfl : i = bs.length := by omega
  rw [List.take_length] at hgr hsz
  refine call_frz [2] ?_
  intro μ2 hle2 _ hat
  replace hle2 : μ'.Le μ2 := hle2
  have hbig : ys.length ≤ maxLen := Nat.le_trans (m := 100000000) (by omega) (by decide)
  have hrep := Rows.sl hat (hgr.mono hle2) hbig
  have hb : RepV μ2 (B.bd ⟨v, x⟩).d (.agg (Value.int .i64 v :: x.tm.cs q).toArray) := RepV.bd (hxv.mono (hle.trans hle2))
  have hlen : (bs.map fun b => B.mk b.var (b.to.ap (T.one v x))).length = bs.length := List.length_map _
  refine call_go (l04Insert_spec hrep hb (by rw [hlen]; omega)) fun v3 μ3 hle3 hR => ?_
  obtain ⟨k, hk, hR⟩ := hR
  have hk2 : InsPos bs v k := by
   refine ⟨by have := hk.1; rw [hlen] at this; exact this, fun c hc h0 => ?_, fun j c hj hc => ?_⟩
   ·exact hk.2.1 ⟨c.var, c.to.ap (T.one v x)⟩ (by rw [List.getElem?_map, hc]; rfl) h0
   ·exact hk.2.2 j ⟨c.var, c.to.ap (T.one v x)⟩ hj (by rw [List.getElem?_map, hc]; rfl)
  have hpl := hk2.place hs hn
  have hfit : FitsL (bindL bs v x k) := fits_bindL.2 ⟨h1, hsz, by omega⟩
  refine rPl ⟨k, hpl, ?_⟩
  rw [bindO, if_pos ⟨h2, hfit⟩]
  exact ⟨_, rfl, hR⟩
end
end Go.Vx
namespace Go.Vx
open Go.Proofs Classical
theorem walkT_ap {bs : List B} {E : List (T × T)} (h : SolL bs E) (x : T) : (walkT bs x).ap (asF bs) = x.ap (asF bs) := by
 rcases T.var_or' x with ⟨n, rfl⟩ | hx
 ·exact h.sol.idem n
 ·rw [walkT_nv hx]
theorem walkT_var {bs : List B} {E : List (T × T)} (h : SolL bs E) {x : T} {n : Int} (e : walkT bs x = .var n) : asF bs n = .var n := by
 rcases T.var_or' x with ⟨m, rfl⟩ | hx
 ·have e : asF bs m = .var n := e
  exact h.sol.self (n := m) (by rw [e]; rfl)
 ·rw [walkT_nv hx] at e; exact absurd e (hx n)
theorem walkT_in {N : List Int} {bs : List B} (h : InN N bs) {x : T} (hx : x.inN N) : (walkT bs x).inN N := by
 rcases T.var_or' x with ⟨m, rfl⟩ | hv
 ·exact fun n hn => h.asF (hx m rfl) hn
 ·rw [walkT_nv hv]; exact hx
theorem asF_free {bs : List B} {n : Int} (h : Proper bs) (e : asF bs n = .var n) : ∀ b ∈ bs, b.var ≠ n := fun b hb k => by
 subst k
 cases k : sub bs b.var with
 | none => exact sub_mem hb k
 | some x =>
  rw [asF, k] at e
  exact h _ (sub_in k) e
def UniR (N : List Int) (_bs : List B) (E : List (T × T)) (a b : T) (o : Option (List B)) : Prop := Out ((a, b) :: E) o ∧ ∀ y, o = some y → FitsL y ∧ InN N y
theorem UniR.swap {N : List Int} {bs : List B} {E : List (T × T)} {a b : T} {o : Option (List B)} (h : UniR N bs E a b o) : UniR N bs E b a o := ⟨h.1.same fun _ => solvesE_swap, h.2⟩
theorem UniR.bind {N : List Int} {bs : List B} {E : List (T × T)} {a b : T} {v : Int} {x : T} {k : Nat} (h : SolL bs E) (hi : InN N bs) (ha : a.ap (asF bs) = .var v) (hb : b.ap (asF bs) = x) (hne : x ≠ .var v) (hl : ∀ m, x = .var m → m < v) (hk : PlaceOf bs v k) (hv : asF bs v = .var v) (hvN : v ∈ N) (hxN : x.inN N) :
  UniR N bs E a b (bindO bs v x k) := by
 unfold bindO
 by_cases ho : x.occ v
 ·rw [if_neg fun k => k.1 ho]
  exact ⟨h.occ_out ha hb hne ho, fun y e => nomatch e⟩
 ·have hB := h.bind_out ha hb ho hl hk hv
  by_cases hf : FitsL (bindL bs v x k)
  ·rw [if_pos hf] at hB
   rw [if_pos ⟨ho, hf⟩]
   exact ⟨hB, fun y e => by cases e; exact ⟨hf, hi.bind hvN hxN⟩⟩
  ·rw [if_neg hf] at hB
   rw [if_neg fun k => hf k.2]
   exact ⟨hB, fun y e => nomatch e⟩
theorem UniR.same {N : List Int} {bs : List B} {E : List (T × T)} {a b a' b' : T} {o : Option (List B)} (h : UniR N bs E a' b' o) (hs : SolL bs E) (ha : a.ap (asF bs) = a'.ap (asF bs)) (hb : b.ap (asF bs) = b'.ap (asF bs)) : UniR N bs E a b o :=
 ⟨h.1.same fun t => (hs.sol.walk ha hb t).symm, h.2⟩
theorem T.size_arg {x y : T} (s : Int → T) (h : y ∈ x.args) : (y.ap s).size < (x.ap s).size := by
 cases x with
 | pair a b =>
  simp only [T.args, List.mem_cons, List.not_mem_nil, or_false] at h
  have h1 := T.size_pos1 (a.ap s)
  have h2 := T.size_pos1 (b.ap s)
  simp only [T.ap, T.size]
  rcases h with rfl | rfl <;> omega
 | _ => simp [T.args] at h
theorem T.inN_arg {N : List Int} {x y : T} (h : x.inN N) (hy : y ∈ x.args) : y.inN N := by
 cases x with
 | pair a b =>
  simp only [T.args, List.mem_cons, List.not_mem_nil, or_false] at hy
  rcases hy with rfl | rfl
  ·exact (T.inN_pair.1 h).1
  ·exact (T.inN_pair.1 h).2
 | _ => simp [T.args] at hy
theorem solves_args {a b : T} {E : List (T × T)} (ha : ∀ m, a ≠ .var m) (hb : ∀ m, b ≠ .var m) (h1 : a.tm.kind = b.tm.kind) (h2 : a.tm.num = b.tm.num) (h3 : a.tm.name = b.tm.name) (t : Int → T) : SolvesE t ((a.args.zip b.args).reverse ++ E) ↔ SolvesE t ((a, b) :: E) := by
 cases a with
 | var n => exact absurd rfl (ha n)
 | pair p q =>
  cases b with
  | pair r s => exact solvesE_pair.symm
  | _ => simp [T.tm, Tm.kind] at h1
 | nil =>
  cases b with
  | nil => simp [T.args, SolvesE]
  | _ => simp [T.tm, Tm.kind] at h1
 | sym x =>
  cases b with
  | sym y =>
   have h3 : x = y := h3
   subst h3
   simp [T.args, SolvesE]
  | var n => exact absurd rfl (hb n)
  | _ => simp [T.tm, Tm.kind] at h1
 | num x =>
  cases b with
  | num y =>
   have h2 : x = y := h2
   subst h2
   simp [T.args, SolvesE]
  | var n => exact absurd rfl (hb n)
  | _ => simp [T.tm, Tm.kind] at h1
theorem nv_ap' {t : T} (h : ∀ m, t ≠ .var m) (s : Int → T) : ∀ m, t.ap s ≠ .var m := fun m => by
 cases t with
 | var n => exact absurd rfl (h n)
 | _ => exact (fun k => nomatch k)
theorem args_len {a b : T} (h1 : a.tm.kind = b.tm.kind) : a.args.length = b.args.length := by
 cases a <;> cases b <;> simp_all [T.tm, Tm.kind, T.args]
section
variable {N : List Int}
def UniSpec (N : List Int) (F s : Nat) : Prop :=
 ∀ ⦃μ : Mem⦄ ⦃bs : List B⦄ ⦃E : List (T × T)⦄ ⦃a b : T⦄ ⦃vs va vb : Value⦄, SolL bs E → FitsL bs → InN N bs → a.inN N → b.inN N → freeN N (asF bs) ≤ F → (a.ap (asF bs)).size ≤ s → RepV μ (.sl 5 ((bs.map B.bd).map Bd.d)) vs → RepV μ a.tm.d va → RepV μ b.tm.d vb →
  Spec Tryz.prog 111 [vs, va, vb] μ fun r μ' => ∃ o, optB (fun y w => RepV μ' (.sl 5 ((y.map B.bd).map Bd.d)) w) o r ∧ UniR N bs E a b o
set_option maxHeartbeats 4000000 in
theorem l05Unify_all : ∀ F s, UniSpec N F s := by
 intro F
 induction F using Nat.strongRecOn with
 | _ F ihF =>
 intro s
 induction s using Nat.strongRecOn with
 | _ s ihs =>
 intro μ bs E a b vs va vb hS hf hi haN hbN hF hs hrep hva hvb
 have hrep0 := hrep
 have w_ := Rep.sl hrep
 obtain ⟨base, cap, rfl, hsl⟩ := w_
 rw [List.length_map, List.length_map] at hsl hrep0 ⊢
 have w_ := Tm.invV hva
 obtain ⟨qa, rfl⟩ := w_
 have w_ := Tm.invV hvb
 obtain ⟨qb, rfl⟩ := w_
 have hbl := hf.2
 refine Spec.mk Tryz.func111 (by kernel_rfl) ?_
 intro r4 r5
 refine cPl (l05Walk_any hsl hva) fun v1 μ1 hle1 hR => ?_
 obtain ⟨hwa, e⟩ := hR
 obtain rfl := e.symm
 replace hwa : RepV μ (walkT bs a).tm.d v1 := hwa
 have w_ := T.inv hwa
 obtain ⟨ba, ca, rfl, hsa⟩ := w_
 refine cPl (l05Walk_any hsl hvb) fun v2 μ1 hle1 hR => ?_
 obtain ⟨hwb, e⟩ := hR
 obtain rfl := e.symm
 replace hwb : RepV μ (walkT bs b).tm.d v2 := hwb
 have ea := walkT_ap hS a
 have eb := walkT_ap hS b
 have haN2 := walkT_in hi haN
 have hbN2 := walkT_in hi hbN
 rcases T.var_or' (walkT bs a) with ⟨n, hn⟩ | han
 ·have hfn := walkT_var hS hn
  rcases T.var_or' (walkT bs b) with ⟨m, hm⟩ | hbn
  ·have hfm := walkT_var hS hm
   have w_ := Tm.invV hwb
   obtain ⟨qb2, rfl⟩ := w_
   rw [hn] at hwa ea haN2 hsa ⊢
   rw [hm] at hwb eb hbN2 ⊢
   have ea2 : a.ap (asF bs) = .var n := ea.symm.trans hfn
   have eb2 : b.ap (asF bs) = .var m := eb.symm.trans hfm
   refine ifd (fun _ => ?_) (fun h => absurd rfl h)
   refine ifd (fun _ => ?_) (fun h => absurd rfl h)
   refine ifd (fun hlt => ?_) (fun hlt => ?_)
   ·replace hlt : n < m := hlt
    refine cPl (l05Bind_spec hS.srt (asF_free hS.proper hfm) (by omega) hsl hwa) fun r μ1 hle1 hR => ?_
    obtain ⟨k, hk, hR⟩ := hR
    have hU := (UniR.bind (E := E) (a := b) (b := a) hS hi eb2 ea2 (fun e => by cases e; omega) (fun m' e => by cases e; exact hlt) hk hfm (hbN2 m rfl) haN2).swap
    have hx' := (show (T.var n).ap (asF bs) = .var n from hfn)
    replace hR : optB (fun y w => RepV μ1 (.sl 5 ((y.map B.bd).map Bd.d)) w) (bindO bs m (.var n) k) r := by
     rw [← hx']; exact hR
    cases ho : bindO bs m (.var n) k with
    | none =>
     rw [ho] at hR hU
     obtain rfl := hR
     exact rPl ⟨none, rfl, hU⟩
    | some y =>
     rw [ho] at hR hU
     obtain ⟨w, rfl, hw⟩ := hR
     exact rPl ⟨some y, ⟨w, rfl, hw⟩, hU⟩
   replace hlt : ¬ n < m := hlt
   refine ifd (fun _ => ?_) (fun h => absurd rfl h)
   refine ifd (fun _ => ?_) (fun h => absurd rfl h)
   refine ifd (fun he => ?_) (fun he => ?_)
   ·replace he : n = m := he
    refine rPl ⟨some bs, ⟨_, rfl, hrep0⟩, hS.again (by rw [ea2, eb2, he]), fun y e => by cases e; exact ⟨hf, hi⟩⟩
   replace he : ¬ n = m := he
   refine ifd (fun _ => ?_) (fun h => absurd rfl h)
   refine cPl (l05Bind_spec hS.srt (asF_free hS.proper hfn) (by omega) hsl hwb) fun r μ1 hle1 hR => ?_
   obtain ⟨k, hk, hR⟩ := hR
   have hU := UniR.bind (E := E) (a := a) (b := b) hS hi ea2 eb2 (fun e => by cases e; omega) (fun m' e => by cases e; omega) hk hfn (haN2 n rfl) hbN2
   have hx' := (show (T.var m).ap (asF bs) = .var m from hfm)
   replace hR : optB (fun y w => RepV μ1 (.sl 5 ((y.map B.bd).map Bd.d)) w) (bindO bs n (.var m) k) r := by
    rw [← hx']; exact hR
   cases ho : bindO bs n (.var m) k with
   | none =>
    rw [ho] at hR hU
    obtain rfl := hR
    exact rPl ⟨none, rfl, hU⟩
   | some y =>
    rw [ho] at hR hU
    obtain ⟨w, rfl, hw⟩ := hR
    exact rPl ⟨some y, ⟨w, rfl, hw⟩, hU⟩
  ·have hbk := T.kind_nv' hbn
   rw [hn] at hwa ea haN2 hsa ⊢
   generalize walkT bs b = b' at *
   have w_ := Tm.invV hwb
   obtain ⟨qb2, rfl⟩ := w_
   have ea2 : a.ap (asF bs) = .var n := ea.symm.trans hfn
   refine ifd (fun _ => ?_) (fun h => absurd rfl h)
   refine ifd (fun h => absurd h hbk) (fun _ => ?_)
   refine ifd (fun _ => ?_) (fun h => absurd rfl h)
   refine ifd (fun h => absurd h hbk) (fun _ => ?_)
   refine ifd (fun _ => ?_) (fun h => absurd rfl h)
   refine cPl (l05Bind_spec hS.srt (asF_free hS.proper hfn) (by omega) hsl hwb) fun r μ1 hle1 hR => ?_
   obtain ⟨k, hk, hR⟩ := hR
   have hx : (∀ m, b'.ap (asF bs) ≠ .var m) := nv_ap' hbn _
   have hU := UniR.bind (E := E) (a := a) (b := b) hS hi ea2 eb.symm (hx n) (fun m' e => absurd e (hx m')) hk hfn (haN2 n rfl) (hi.ap hbN2)
   have hx' := (rfl : b'.ap (asF bs) = b'.ap (asF bs))
   replace hR : optB (fun y w => RepV μ1 (.sl 5 ((y.map B.bd).map Bd.d)) w) (bindO bs n (b'.ap (asF bs)) k) r := by
    rw [← hx']; exact hR
   cases ho : bindO bs n (b'.ap (asF bs)) k with
   | none =>
    rw [ho] at hR hU
    obtain rfl := hR
    exact rPl ⟨none, rfl, hU⟩
   | some y =>
    rw [ho] at hR hU
    obtain ⟨w, rfl, hw⟩ := hR
    exact rPl ⟨some y, ⟨w, rfl, hw⟩, hU⟩
 ·have hak := T.kind_nv' han
  rcases T.var_or' (walkT bs b) with ⟨m, hm⟩ | hbn
  ·have hfm := walkT_var hS hm
   generalize walkT bs a = a' at *
   have w_ := Tm.invV hwb
   obtain ⟨qb2, rfl⟩ := w_
   rw [hm] at hwb eb hbN2 ⊢
   have eb2 : b.ap (asF bs) = .var m := eb.symm.trans hfm
   refine ifd (fun h => absurd h hak) (fun _ => ?_)
   refine ifd (fun h => absurd h hak) (fun _ => ?_)
   refine ifd (fun h => absurd h hak) (fun _ => ?_)
   refine ifd (fun _ => ?_) (fun h => absurd rfl h)
   refine cPl (l05Bind_spec hS.srt (asF_free hS.proper hfm) (by omega) hsl hwa) fun r μ1 hle1 hR => ?_
   obtain ⟨k, hk, hR⟩ := hR
   have hx : (∀ m, a'.ap (asF bs) ≠ .var m) := nv_ap' han _
   have hU := (UniR.bind (E := E) (a := b) (b := a) hS hi eb2 ea.symm (hx m) (fun m' e => absurd e (hx m')) hk hfm (hbN2 m rfl) (hi.ap haN2)).swap
   have hx' := (rfl : a'.ap (asF bs) = a'.ap (asF bs))
   replace hR : optB (fun y w => RepV μ1 (.sl 5 ((y.map B.bd).map Bd.d)) w) (bindO bs m (a'.ap (asF bs)) k) r := by
    rw [← hx']; exact hR
   cases ho : bindO bs m (a'.ap (asF bs)) k with
   | none =>
    rw [ho] at hR hU
    obtain rfl := hR
    exact rPl ⟨none, rfl, hU⟩
   | some y =>
    rw [ho] at hR hU
    obtain ⟨w, rfl, hw⟩ := hR
    exact rPl ⟨some y, ⟨w, rfl, hw⟩, hU⟩
  ·have hbk := T.kind_nv' hbn
   generalize walkT bs a = a' at *
   generalize walkT bs b = b' at *
   have w_ := T.inv hwb
   obtain ⟨bb, cb, rfl, hsb⟩ := w_
   refine ifd (fun h => absurd h hak) (fun _ => ?_)
   refine ifd (fun h => absurd h hak) (fun _ => ?_)
   refine ifd (fun h => absurd h hak) (fun _ => ?_)
   refine ifd (fun h => absurd h hbk) (fun _ => ?_)
   refine ifnd (fun h => ?_) (fun h1 => ?_)
   ·exact rPl ⟨none, rfl, UniR.same ⟨top_out (.inl h) hak hbk, fun y e => nomatch e⟩ hS ea.symm eb.symm⟩
   refine ifnd (fun h => ?_) (fun h2 => ?_)
   ·exact rPl ⟨none, rfl, UniR.same ⟨top_out (.inr (.inl h)) hak hbk, fun y e => nomatch e⟩ hS ea.symm eb.symm⟩
   refine ifnd (fun h => ?_) (fun h3 => ?_)
   ·exact rPl ⟨none, rfl, UniR.same ⟨top_out (.inr (.inr h)) hak hbk, fun y e => nomatch e⟩ hS ea.symm eb.symm⟩
   have hlen := args_len h1
   have hargs := solves_args (E := E) han hbn h1 h2 h3
   have hn := maxLen_le hsa.max
   have hzl : (a'.args.zip b'.args).length = a'.args.length := by rw [List.length_zip]; omega
   refine lIn (fun p : Nat × List B × Value × Mem => p.1 ≤ a'.args.length ∧ μ.Le p.2.2.2 ∧ RepV p.2.2.2 (.sl 5 ((p.2.1.map B.bd).map Bd.d)) p.2.2.1 ∧ SolL p.2.1 (((a'.args.zip b'.args).take p.1).reverse ++ E) ∧ FitsL p.2.1 ∧ InN N p.2.1)
    (fun (i, y, w, μ') => ⟨[(0, .val w), (5, .loc 1 r5 0), (96, .val (.slice ba a'.args.length ca)), (97, .val (.int .i64 a'.args.length)), (98, .val (.int .i64 i))], [(1, some (.cells r5 [.val (.int .i64 b'.tm.kind), .val (.int .i64 b'.tm.num), .val (.string b'.tm.name), .val (.slice bb b'.args.length cb)] 50))], 2, μ', Mem.nil⟩) (fun p => a'.args.length - p.1)
    (0, bs, .slice base bs.length cap, μ) ⟨by simp, Mem.Le.refl _, hrep0, by simpa using hS, hf, hi⟩ (fun (_, _, _, _) => ⟨rfl, rfl⟩) ⟨⟨rfl, rfl, rfl, rfl, rfl, trivial⟩, ⟨rfl, trivial⟩, rfl, rfl⟩ ?_
   rintro ⟨i, y, w, μ'⟩ ⟨hi', hle, hyr, hyS, hyf, hyN⟩
   dsimp only at hi' hle hyr hyS hyf hyN
   refine ifd (fun hlt => ?_) (fun hlt => ?_)
   ·have w_ := aSo (l := a'.args) (i := i) (by omega)
    obtain ⟨u, hu⟩ := w_
    have w_ := aSo (l := b'.args) (i := i) (by omega)
    obtain ⟨z, hz⟩ := w_
    have w_ := T.arg hsa hu
    obtain ⟨ad, p, hel, hto⟩ := w_
    have w_ := T.arg hsb hz
    obtain ⟨ad2, p2, hel2, hto2⟩ := w_
    have htk : ((a'.args.zip b'.args).take (i + 1)).reverse = (u, z) :: ((a'.args.zip b'.args).take i).reverse := by
     rw [List.take_add_one, show (a'.args.zip b'.args)[i]? = some (u, z) from List.getElem?_zip_eq_some.2 ⟨hu, hz⟩]
     simp
    refine eIn (hel.mono hle) ?_
    intro r9
    refine eIn (hel2.mono hle) ?_
    have hst := hS.step hyS (fun e he => List.mem_append_right _ he) hyN
    have key : Spec Tryz.prog 111 [w, .agg (u.tm.cs p).toArray, .agg (z.tm.cs p2).toArray] μ' fun r μ'' => ∃ o, optB (fun y w => RepV μ'' (.sl 5 ((y.map B.bd).map Bd.d)) w) o r ∧ UniR N y (((a'.args.zip b'.args).take i).reverse ++ E) u z o := by
     rcases hst with h4 | h4
     ·exact ihF _ (Nat.lt_of_lt_of_le h4 hF) _ hyS hyf hyN (T.inN_arg haN2 (mAt hu)) (T.inN_arg hbN2 (mAt hz)) (Nat.le_refl _) (Nat.le_refl _) hyr (hto.mono hle) (hto2.mono hle)
     ·subst h4
      have h5 := T.size_arg (asF y) (mAt hu)
      exact ihs _ (by rw [ea] at h5; omega) hyS hyf hyN (T.inN_arg haN2 (mAt hu)) (T.inN_arg hbN2 (mAt hz)) hF (Nat.le_refl _) hyr (hto.mono hle) (hto2.mono hle)
    refine cPl key fun r μ2 hle2 hR => ?_
    obtain ⟨o, hR, hU⟩ := hR
    cases o with
    | none =>
     obtain rfl := hR
     refine iIn (fun _ => ?_) (fun h => nomatch h)
     refine rPl ⟨none, rfl, UniR.same ⟨hU.1.none_mono fun t ht => ?_, fun y e => nomatch e⟩ hS ea.symm eb.symm⟩
     have h6 := (hargs t).2 ht
     rw [← List.cons_append, ← htk]
     exact fun e he => h6 e ((List.mem_append.1 he).elim (fun k => List.mem_append_left _ (List.mem_reverse.2 (List.mem_of_mem_take (List.mem_reverse.1 k)))) fun k => List.mem_append_right _ k)
    | some y2 =>
     obtain ⟨w2, rfl, hw2⟩ := hR
     refine iIn (fun h => nomatch h) (fun _ => ?_)
     have hU2 := hU.2 y2 rfl
     refine num64 (by omega) (by omega) ⟨(i + 1, y2, w2, μ2), ⟨by dsimp only; omega, hle.trans hle2, hw2, ?_, hU2.1, hU2.2⟩, by dsimp only; omega, ⟨⟨rfl, rfl, rfl, rfl, rfl, trivial⟩, ⟨rfl, trivial⟩, rfl, rfl⟩⟩
     dsimp only
     rw [htk]; exact hU.1
   ·obtain rfl : i = a'.args.length := by omega
    rw [← hzl, List.take_length] at hyS
    exact rPl ⟨some y, ⟨w, rfl, hyr⟩, UniR.same ⟨Out.same (o := some y) hyS hargs, fun y' e => by cases e; exact ⟨hyf, hyN⟩⟩ hS ea.symm eb.symm⟩
end
end Go.Vx
namespace Go.Vx
open Go.Proofs Classical
noncomputable def flagG (b : Bool) : Gl := .mk (if b then 0 else 1) ⟨#[]⟩ [] []
def keptG (k : Int) (ys : List Gl) : List Gl := ys.filter fun y => decide (¬ (k = 7 ∧ y.kind = 0 ∨ k = 8 ∧ y.kind = 1))
def flatG (k : Int) (ys : List Gl) : List Gl := ys.flatMap fun y => if y.kind = k then y.goals else [y]
def selG (k : Int) (ys : List Gl) : List Gl := if (flatG k ys).length ≤ 8 then flatG k ys else ys
def wrapG (k : Int) : List Gl → Gl
 | [] => .mk (if k = 7 then 0 else 1) ⟨#[]⟩ [] []
 | [x] => x
 | l => .mk k ⟨#[]⟩ [] l
noncomputable def partsG (k : Int) (ys : List Gl) : Gl := if k = 7 ∧ ∃ y ∈ ys, y.kind = 1 then flagG false else wrapG k (selG k (keptG k ys))
noncomputable def topG (k : Int) (s : ByteArray) (ts : List Tm) (gs ys : List Gl) : Gl :=
 match ts with
 | [a, b] =>
  if k = 2 ∨ k = 3 then
   (if unifL [(a.toT, b.toT)] = none then flagG (decide (k = 3)) else if a.toT = b.toT then flagG (decide (k = 2)) else .mk k s ts gs)
  else if k = 6 then
   (if b.toT.hasSym a.name then flagG false else if b.toT.vars = [] then flagG true else .mk k s ts gs)
  else .mk k s ts gs
 | [a] => if (k = 4 ∨ k = 5) ∧ a.kind ≠ 1 then flagG (decide (a.kind = k - 2)) else .mk k s ts gs
 | [] => if k = 7 ∨ k = 8 then partsG k ys else .mk k s ts gs
 | _ => .mk k s ts gs
mutual
noncomputable def Gl.simp : Gl → Gl
 | .mk k s ts gs => topG k s ts gs (Gl.simps gs)
noncomputable def Gl.simps : List Gl → List Gl
 | [] => []
 | g :: r => g.simp :: Gl.simps r
end
theorem Gl.simps_map : ∀ l : List Gl, Gl.simps l = l.map Gl.simp
 | [] => rfl
 | g :: r => by rw [Gl.simps, List.map_cons, Gl.simps_map r]
theorem Gl.simp_eq (g : Gl) : g.simp = topG g.kind g.name g.terms g.goals (g.goals.map Gl.simp) := by
 cases g; rw [Gl.simp, Gl.simps_map]; rfl
theorem flagG_sh (b : Bool) : (flagG b).Sh := by
 refine ⟨⟨by simp [flagG, Gl.terms], ?_, ?_, fun _ => rfl, ?_, ?_, ?_, ?_, fun _ => rfl, by simp [flagG, Gl.goals], fun _ => rfl, ?_, ?_, ?_⟩, by simp [flagG, Gl.goals]⟩ <;> cases b <;> simp [flagG, Gl.kind]
theorem flagG_cnt (b : Bool) : (flagG b).cnt = 1 := by simp [flagG, Gl.cnt, Gl.cnts]
theorem mem_keptG {k : Int} {ys : List Gl} {y : Gl} : y ∈ keptG k ys → y ∈ ys := fun h => (List.mem_filter.1 h).1
theorem keptG_len (k : Int) (ys : List Gl) : (keptG k ys).length ≤ ys.length := List.length_filter_le _ _
theorem flatG_sh {k : Int} {ys : List Gl} (h : ∀ y ∈ ys, y.Sh) : ∀ y ∈ flatG k ys, y.Sh := fun y hy => by
 have w_ := List.mem_flatMap.1 hy
 obtain ⟨z, hz, hy⟩ := w_
 split at hy
 ·exact (h z hz).sub y hy
 ·rw [List.mem_singleton] at hy; subst hy; exact h y hz
theorem selG_sh {k : Int} {ys : List Gl} (h : ∀ y ∈ ys, y.Sh) (hl : ys.length ≤ 8) : (∀ y ∈ selG k ys, y.Sh) ∧ (selG k ys).length ≤ 8 := by
 unfold selG
 split
 ·rename_i h2; exact ⟨flatG_sh h, h2⟩
 ·exact ⟨h, hl⟩
theorem wrapG_sh {k : Int} (hk : k = 7 ∨ k = 8) : ∀ {l : List Gl}, (∀ y ∈ l, y.Sh) → l.length ≤ 8 → (wrapG k l).Sh
 | [], _, _ => by
  rcases hk with rfl | rfl
  ·exact flagG_sh true
  ·exact flagG_sh false
 | [x], h, _ => h x (by simp)
 | a :: b :: r, h, hl => by
  refine ⟨⟨by simp [wrapG, Gl.terms], ?_, ?_, fun _ => rfl, ?_, ?_, ?_, ?_, fun _ => rfl, hl, ?_, ?_, ?_, ?_⟩, h⟩ <;> rcases hk with rfl | rfl <;> simp [wrapG, Gl.kind]
theorem partsG_sh {k : Int} {ys : List Gl} (hk : k = 7 ∨ k = 8) (h : ∀ y ∈ ys, y.Sh) (hl : ys.length ≤ 8) : (partsG k ys).Sh := by
 unfold partsG
 split
 ·exact flagG_sh false
 ·have h2 := selG_sh (k := k) (ys := keptG k ys) (fun y hy => h y (mem_keptG hy)) (Nat.le_trans (keptG_len k ys) hl)
  exact wrapG_sh hk h2.1 h2.2
theorem topG_sh {g : Gl} {ys : List Gl} (hg : g.Sh) (h : ∀ y ∈ ys, y.Sh) (hl : ys.length ≤ 8) : (topG g.kind g.name g.terms g.goals ys).Sh := by
 have e : Gl.mk g.kind g.name g.terms g.goals = g := by cases g; rfl
 unfold topG
 split
 ·rw [e]
  split
  ·split
   ·exact flagG_sh _
   ·split
    ·exact flagG_sh _
    ·exact hg
  ·split
   ·split
    ·exact flagG_sh _
    ·split
     ·exact flagG_sh _
     ·exact hg
   ·exact hg
 ·rw [e]
  split
  ·exact flagG_sh _
  ·exact hg
 ·rw [e]
  split
  ·rename_i hk; exact partsG_sh hk h hl
  ·exact hg
 ·rw [e]; exact hg
theorem Gl.simp_sh : ∀ g : Gl, g.Sh → g.simp.Sh :=
 Gl.ind fun g ih hg => by
  rw [Gl.simp_eq]
  refine topG_sh hg (fun y hy => ?_) (by rw [List.length_map]; exact hg.top.gl)
  have w_ := List.mem_map.1 hy
  obtain ⟨x, hx, rfl⟩ := w_
  exact ih x hx (hg.sub x hx)
theorem Gl.Sh.fail {g : Gl} (h : g.Sh) (hk : g.kind = 1) : g = flagG false := by
 have T := h.top
 have h1 := T.nm (by omega)
 have h2 := T.ln0 (by omega)
 have h3 := T.gl0 (by omega)
 cases g with
 | mk k s ts gs =>
  simp only [Gl.kind, Gl.name, Gl.terms, Gl.goals] at *
  subst hk; subst h1
  rw [List.length_eq_zero_iff.1 h2, List.length_eq_zero_iff.1 h3]
  rfl
theorem cnts_append (a b : List Gl) : Gl.cnts (a ++ b) = Gl.cnts a + Gl.cnts b := by
 induction a with
 | nil => simp [Gl.cnts]
 | cons x a ih => simp only [List.cons_append, Gl.cnts, ih]; omega
theorem cnts_filter (p : Gl → Bool) : ∀ l : List Gl, Gl.cnts (l.filter p) ≤ Gl.cnts l
 | [] => Nat.le_refl _
 | x :: l => by
  have := cnts_filter p l
  cases h : p x with
  | true => rw [List.filter_cons_of_pos h]; simp only [Gl.cnts]; omega
  | false => rw [List.filter_cons_of_neg (by simp [h])]; simp only [Gl.cnts]; omega
theorem cnts_flat (k : Int) : ∀ l : List Gl, Gl.cnts (flatG k l) ≤ Gl.cnts l
 | [] => Nat.le_refl _
 | x :: l => by
  have ih := cnts_flat k l
  have e : flatG k (x :: l) = (if x.kind = k then x.goals else [x]) ++ flatG k l := by simp [flatG]
  rw [e, cnts_append]
  have h1 : Gl.cnts (if x.kind = k then x.goals else [x]) ≤ x.cnt := by
   split
   ·cases x; simp only [Gl.goals, Gl.cnt]; omega
   ·simp [Gl.cnts]
  simp only [Gl.cnts]
  omega
theorem cnts_sel (k : Int) (l : List Gl) : Gl.cnts (selG k l) ≤ Gl.cnts l := by
 unfold selG
 split
 ·exact cnts_flat k l
 ·exact Nat.le_refl _
theorem wrapG_cnt (k : Int) : ∀ l : List Gl, (wrapG k l).cnt ≤ 1 + Gl.cnts l
 | [] => by simp [wrapG, Gl.cnt, Gl.cnts]
 | [x] => by simp [wrapG, Gl.cnts]
 | a :: b :: r => by simp [wrapG, Gl.cnt]
theorem partsG_cnt (k : Int) (ys : List Gl) : (partsG k ys).cnt ≤ 1 + Gl.cnts ys := by
 unfold partsG
 split
 ·rw [flagG_cnt]; omega
 ·have h1 := wrapG_cnt k (selG k (keptG k ys))
  have h2 := cnts_sel k (keptG k ys)
  have h3 : Gl.cnts (keptG k ys) ≤ Gl.cnts ys := cnts_filter _ ys
  omega
theorem Gl.cnt_eq0 (g : Gl) : g.cnt = 1 + Gl.cnts g.goals := by cases g; simp [Gl.cnt, Gl.goals]
theorem topG_cnt {g : Gl} {ys : List Gl} (h : Gl.cnts ys ≤ Gl.cnts g.goals) : (topG g.kind g.name g.terms g.goals ys).cnt ≤ g.cnt := by
 have e : Gl.mk g.kind g.name g.terms g.goals = g := by cases g; rfl
 have e1 := Gl.cnt_eq0 g
 have e2 : ∀ b, (flagG b).cnt ≤ g.cnt := fun b => by rw [flagG_cnt]; omega
 unfold topG
 split
 ·rw [e]
  split
  ·split
   ·exact e2 _
   ·split
    ·exact e2 _
    ·exact Nat.le_refl _
  ·split
   ·split
    ·exact e2 _
    ·split
     ·exact e2 _
     ·exact Nat.le_refl _
   ·exact Nat.le_refl _
 ·rw [e]
  split
  ·exact e2 _
  ·exact Nat.le_refl _
 ·rw [e]
  split
  ·have := partsG_cnt g.kind ys; omega
  ·exact Nat.le_refl _
 ·rw [e]; exact Nat.le_refl _
theorem cnts_simps {l : List Gl} (h : ∀ x ∈ l, x.simp.cnt ≤ x.cnt) : Gl.cnts (l.map Gl.simp) ≤ Gl.cnts l := by
 induction l with
 | nil => exact Nat.le_refl _
 | cons x l ih =>
  have h1 := h x (by simp)
  have h2 := ih fun y hy => h y (by simp [hy])
  simp only [List.map_cons, Gl.cnts]
  omega
theorem Gl.simp_cnt : ∀ g : Gl, g.simp.cnt ≤ g.cnt :=
 Gl.ind fun g ih => by
  rw [Gl.simp_eq]
  exact topG_cnt (cnts_simps ih)
theorem Gl.Ok.simp {g : Gl} (h : g.Ok) : g.simp.Ok := ⟨Gl.simp_sh g h.1, Nat.le_trans (Gl.simp_cnt g) h.2⟩
end Go.Vx
namespace Go.Vx
open Go.Proofs Classical
section
variable {μ : Mem}
theorem Gl.reps {x : Gl} {v : Value} (h : RepV μ x.d v) : ∃ p : Gl.P, v = .agg #[.int .i64 x.kind, .string x.name, .slice p.1.1 x.terms.length p.1.2, .slice p.2.1 x.goals.length p.2.2] ∧ Gl.At μ x p ∧ RepV μ (.sl 4 (x.terms.map Tm.d)) (.slice p.1.1 x.terms.length p.1.2) ∧ RepV μ (.sl 4 (x.goals.map Gl.d)) (.slice p.2.1 x.goals.length p.2.2) := by
 have h2 : ∃ cs, v = .agg (List.toArray cs) ∧ Rep μ x.d cs := by rw [Gl.d_eq] at h ⊢; exact h
 clear h
 obtain ⟨cs, rfl, h⟩ := h2
 rw [Gl.d_eq] at h
 obtain ⟨a0, t0, rfl, h0, h⟩ := h
 have h0 : a0 = [.int .i64 x.kind] := h0
 subst h0
 obtain ⟨a1, t1, rfl, h1, h⟩ := h
 have h1 : a1 = [.string x.name] := h1
 subst h1
 obtain ⟨a2, t2, rfl, h2, h⟩ := h
 have w_ := one_of (Rep.len _ _ h2)
 obtain ⟨v2, rfl⟩ := w_
 have h2' := h2
 have w_ := Rep.sl h2
 obtain ⟨b2, c2, rfl, s2⟩ := w_
 rw [List.length_map] at s2
 obtain ⟨a3, t3, rfl, h3, h⟩ := h
 have w_ := one_of (Rep.len _ _ h3)
 obtain ⟨v3, rfl⟩ := w_
 have h3' := h3
 have w_ := Rep.sl h3
 obtain ⟨b3, c3, rfl, s3⟩ := w_
 rw [List.length_map] at s3
 obtain rfl : t3 = [] := h
 rw [List.length_map] at h2' h3'
 exact ⟨((b2, c2), (b3, c3)), by simp, ⟨s2, s3⟩, h2', h3'⟩
theorem flagG_rep (b : Bool) : RepV μ (flagG b).d (.agg #[.int .i64 (if b then 0 else 1), .string ⟨#[]⟩, .slice none 0 0, .slice none 0 0]) := by
 rw [Gl.d_eq]
 exact ⟨_, rfl, RepS.int (RepS.str ⟨[_], [_], rfl, Rep.nilSl 4, RepS.last (Rep.nilSl 4)⟩)⟩
theorem l32Flag_spec (b : Bool) : Spec Tryz.prog 112 [.bool b] μ fun v μ' => RepV μ' (flagG b).d v := by
 refine Spec.mk Tryz.func112 (by kernel_rfl) ?_
 intro r2
 refine iIn (fun h => ?_) (fun h => ?_)
 ·subst h; exact rPl (flagG_rep true)
 ·subst h; exact rPl (flagG_rep false)
theorem Rows.val' {es : Nat} {ds : List D} {ys : List Value} (h : Rows μ es ds ys) {i : Nat} {d : D} (hd : ds[i]? = some d) : ∃ v, ys[i]? = some v ∧ RepV μ d v := by
 induction h generalizing i with
 | nil => simp at hd
 | cons h1 h2 h3 ih =>
  match i, hd with
  | 0, hd => cases hd; exact ⟨_, rfl, h1⟩
  | i + 1, hd => exact ih (i := i) (by simpa using hd)
theorem wrapG_two {k : Int} {l : List Gl} (h0 : l.length ≠ 0) (h1 : l.length ≠ 1) : wrapG k l = .mk k ⟨#[]⟩ [] l := by
 match l with
 | [] => simp at h0
 | [x] => simp at h1
 | a :: b :: r => rfl
theorem wrapG_one {k : Int} {l : List Gl} {x : Gl} (h : l = [x]) : wrapG k l = x := by subst h; rfl
theorem mkG_rep {k : Int} {l : List Gl} {v : Value} (h : RepV μ (.sl 4 (l.map Gl.d)) v) : RepV μ (Gl.mk k ⟨#[]⟩ [] l).d (.agg #[.int .i64 k, .string ⟨#[]⟩, .slice none 0 0, v]) := by
 rw [Gl.d_eq]
 exact ⟨_, rfl, RepS.int (RepS.str ⟨[_], [_], rfl, Rep.nilSl 4, RepS.last h⟩)⟩
theorem kept_snoc (k : Int) (ys : List Gl) (y : Gl) : keptG k (ys ++ [y]) = keptG k ys ++ (if k = 7 ∧ y.kind = 0 ∨ k = 8 ∧ y.kind = 1 then [] else [y]) := by
 unfold keptG
 rw [List.filter_append]
 congr 1
 by_cases h : k = 7 ∧ y.kind = 0 ∨ k = 8 ∧ y.kind = 1
 ·rw [if_pos h, List.filter_cons_of_neg (by simp [h])]; rfl
 ·rw [if_neg h]; exact List.filter_cons_of_pos (p := fun y : Gl => decide (¬ (k = 7 ∧ y.kind = 0 ∨ k = 8 ∧ y.kind = 1))) (decide_eq_true h)
theorem flat_snoc (k : Int) (ys : List Gl) (y : Gl) : flatG k (ys ++ [y]) = flatG k ys ++ (if y.kind = k then y.goals else [y]) := by
 unfold flatG
 rw [List.flatMap_append]; simp
theorem flatG_len (k : Int) : ∀ {ys : List Gl}, (∀ y ∈ ys, y.goals.length ≤ 8) → (flatG k ys).length ≤ 8 * ys.length
 | [], _ => by simp [flatG]
 | y :: r, h => by
  have ih := flatG_len k (ys := r) fun z hz => h z (by simp [hz])
  have h1 := h y (by simp)
  have e : flatG k (y :: r) = (if y.kind = k then y.goals else [y]) ++ flatG k r := by simp [flatG]
  rw [e, List.length_append, List.length_cons]
  have : (if y.kind = k then y.goals else [y]).length ≤ 8 := by split; exact h1; simp
  omega
set_option maxHeartbeats 4000000 in
theorem l32Parts_spec {g : Gl} {v : Value} (hk : g.kind = 7 ∨ g.kind = 8) (hS : g.Sh) (ih : ∀ x ∈ g.goals, ∀ {μ : Mem} {v : Value}, RepV μ x.d v → x.Sh → Spec Tryz.prog 50 [v] μ fun v μ' => RepV μ' x.simp.d v) (hv : RepV μ g.d v) :
  Spec Tryz.prog 115 [v] μ fun v μ' => RepV μ' (partsG g.kind (g.goals.map Gl.simp)).d v := by
 have w_ := Gl.inv hv
 obtain ⟨p, rfl, hts, hgs⟩ := w_
 have hg8 := hS.top.gl
 refine Spec.mk Tryz.func115 (by kernel_rfl) ?_
 intro r1 r2 r8 r9
 refine lIn (fun q : Nat × Option Nat × Nat × List Value × Option Nat × Nat × List Value × Mem => q.1 ≤ g.goals.length ∧ μ.Le q.2.2.2.2.2.2.2 ∧ Rows q.2.2.2.2.2.2.2 4 ((keptG g.kind ((g.goals.take q.1).map Gl.simp)).map Gl.d) q.2.2.2.1 ∧ Rows q.2.2.2.2.2.2.2 4 ((flatG g.kind (keptG g.kind ((g.goals.take q.1).map Gl.simp))).map Gl.d) q.2.2.2.2.2.2.1 ∧ ∀ y ∈ (g.goals.take q.1).map Gl.simp, ¬ (g.kind = 7 ∧ y.kind = 1))
  (fun (i, b1, c1, ys1, b2, c2, ys2, μ') => ⟨[(1, .loc 0 r1 0), (2, .loc 1 r2 0), (3, .row 2 b1 ys1.length c1), (4, .row 3 b2 ys2.length c2), (11, .val (.slice p.2.1 g.goals.length p.2.2)), (12, .val (.int .i64 g.goals.length)), (13, .val (.int .i64 i))],
   [(0, some (.cells r1 [.val (.int .i64 g.kind), .val (.string g.name), .val (.slice p.1.1 g.terms.length p.1.2), .val (.slice p.2.1 g.goals.length p.2.2)] 30)), (1, some (.cells r2 [.val (.int .i64 0), .val (.string ⟨#[]⟩), .val (.slice none 0 0), .val (.slice none 0 0)] 30)), (2, some (.row b1 c1 30 4 ys1)), (3, some (.row b2 c2 30 4 ys2))], 4, μ', Mem.nil⟩) (fun q => g.goals.length - q.1)
  (0, some r8, 0, [], some r9, 0, [], μ) ⟨by simp, Mem.Le.refl _, .nil, .nil, by simp⟩ (fun (_, _, _, _, _, _, _, _) => ⟨rfl, rfl⟩) ⟨⟨rfl, rfl, rfl, rfl, rfl, rfl, rfl, trivial⟩, ⟨rfl, rfl, rfl, rfl, trivial⟩, rfl, rfl⟩ ?_
 rintro ⟨i, b1, c1, ys1, b2, c2, ys2, μ'⟩ ⟨hi, hle, hr1, hr2, hno⟩
 dsimp only at hi hle hr1 hr2 hno
 have hl1 := hr1.len
 have hl2 := hr2.len
 have hys : ∀ y ∈ (g.goals.take i).map Gl.simp, y.Sh := fun y hy => by
  have w_ := List.mem_map.1 hy
  obtain ⟨x, hx, rfl⟩ := w_
  exact Gl.simp_sh x (hS.sub x (List.mem_of_mem_take hx))
 have hk1 := keptG_len g.kind ((g.goals.take i).map Gl.simp)
 have hk2 := flatG_len g.kind (ys := keptG g.kind ((g.goals.take i).map Gl.simp)) fun y hy => (hys y (mem_keptG hy)).top.gl
 simp only [List.length_map, List.length_take] at hl1 hl2 hk1 hk2
 refine ifd (fun hlt => ?_) (fun hlt => ?_)
 ·have w_ := aSo (l := g.goals) (i := i) (by omega)
  obtain ⟨x, hx⟩ := w_
  have hxS := hS.sub x (mAt hx)
  have w_ := Gl.elem (hgs.mono hle) hx
  obtain ⟨ad, p3, hel, hr⟩ := w_
  have htk : (g.goals.take (i + 1)).map Gl.simp = (g.goals.take i).map Gl.simp ++ [x.simp] := by
   rw [List.take_add_one, hx, Option.toList_some, List.map_append]; rfl
  refine eIn hel ?_
  intro r6
  refine cPl (ih x (mAt hx) hr hxS) fun v1 μ1 hle1 hR => ?_
  have hyS := Gl.simp_sh x hxS
  have w_ := Gl.reps hR
  obtain ⟨q, rfl, hA, hRt, hRg⟩ := w_
  intro r7
  have hy8 := hyS.top.gl
  have hyin : x.simp ∈ g.goals.map Gl.simp := List.mem_map.2 ⟨x, mAt hx, rfl⟩
  generalize hy : x.simp = y at *
  have w_ := Rep.srcAll hRg
  obtain ⟨us, hus, hul, husrc⟩ := w_
  refine ifd (fun h7 => ?_) (fun h7 => ?_)
  ·refine ifd (fun hy1 => ?_) (fun hy1 => ?_)
   ·have e1 : partsG g.kind (g.goals.map Gl.simp) = y := by
     rw [partsG, if_pos ⟨h7, y, hyin, hy1⟩, ← hyS.fail hy1]
    rw [e1]
    exact rPl hR
   ·refine ifd (fun _ => ?_) (fun h => absurd h7 h)
    refine ifd (fun hy0 => ?_) (fun hy0 => ?_)
    ·have hsk : g.kind = 7 ∧ y.kind = 0 ∨ g.kind = 8 ∧ y.kind = 1 := .inl ⟨h7, hy0⟩
     have ek := kept_snoc g.kind ((g.goals.take i).map Gl.simp) y
     rw [if_pos hsk, List.append_nil, ← htk] at ek
     refine num64 (by omega) (by omega) ⟨(i + 1, b1, c1, ys1, b2, c2, ys2, μ1), ⟨by dsimp only; omega, hle.trans hle1, by dsimp only; rw [ek]; exact hr1.mono hle1, by dsimp only; rw [ek]; exact hr2.mono hle1, fun z hz => ?_⟩, by dsimp only; omega, ⟨⟨rfl, rfl, rfl, rfl, rfl, rfl, rfl, trivial⟩, ⟨rfl, rfl, rfl, rfl, trivial⟩, rfl, rfl⟩⟩
     rw [htk] at hz
     rcases List.mem_append.1 hz with hz | hz
     ·exact hno z hz
     ·rw [List.mem_singleton] at hz; subst hz; exact fun h => by omega
    ·have hsk : ¬ (g.kind = 7 ∧ y.kind = 0 ∨ g.kind = 8 ∧ y.kind = 1) := fun h => h.elim (fun h => hy0 h.2) fun h => by omega
     have hny : ¬ (g.kind = 7 ∧ y.kind = 1) := fun h => hy1 h.2
     refine ifd (fun h => absurd h (by omega)) (fun _ => ?_)
     have ek := kept_snoc g.kind ((g.goals.take i).map Gl.simp) y
     rw [if_neg hsk, ← htk] at ek
     have ef := flat_snoc g.kind (keptG g.kind ((g.goals.take i).map Gl.simp)) y
     rw [← ek] at ef
     intro r48
     refine gIn ?_ ?_ fun b1' c1' hb1' => ?_
     ·show (ys1.length + 1) * 72 ≤ _; omega
     ·exact Nat.le_trans (m := 100000000) (show ys1.length + 1 ≤ _ by omega) (by decide)
     have hr1' := (hr1.mono hle1).append (Rows.one hR (Gl.d_n _))
     have hnz : ∀ z ∈ (g.goals.take (i + 1)).map Gl.simp, ¬ (g.kind = 7 ∧ z.kind = 1) := fun z hz => by
      rw [htk] at hz
      rcases List.mem_append.1 hz with hz | hz
      ·exact hno z hz
      ·rw [List.mem_singleton] at hz; subst hz; exact hny
     refine ifd (fun hyk => ?_) (fun hyk => ?_)
     ·rw [if_pos hyk] at ef
      refine src_intro _ husrc ?_
      refine gIn ?_ ?_ fun b2' c2' hb2' => ?_
      ·show (ys2.length + us.length) * 72 ≤ _; omega
      ·exact Nat.le_trans (m := 100000000) (show ys2.length + us.length ≤ _ by omega) (by decide)
      have hr2' := (hr2.mono hle1).append hus
      refine num64 (by omega) (by omega) ⟨(i + 1, b1', c1', _, b2', c2', _, μ1), ⟨by dsimp only; omega, hle.trans hle1, by dsimp only; rw [ek, List.map_append]; exact hr1', by dsimp only; rw [ef, List.map_append]; exact hr2', hnz⟩, by dsimp only; omega, ⟨⟨rfl, rfl, rfl, rfl, rfl, rfl, rfl, trivial⟩, ⟨rfl, rfl, rfl, rfl, trivial⟩, rfl, rfl⟩⟩
     ·rw [if_neg hyk] at ef
      intro r61
      refine gIn ?_ ?_ fun b2' c2' hb2' => ?_
      ·show (ys2.length + 1) * 72 ≤ _; omega
      ·exact Nat.le_trans (m := 100000000) (show ys2.length + 1 ≤ _ by omega) (by decide)
      have hr2' := (hr2.mono hle1).append (Rows.one hR (Gl.d_n _))
      refine num64 (by omega) (by omega) ⟨(i + 1, b1', c1', _, b2', c2', _, μ1), ⟨by dsimp only; omega, hle.trans hle1, by dsimp only; rw [ek, List.map_append]; exact hr1', by dsimp only; rw [ef, List.map_append]; exact hr2', hnz⟩, by dsimp only; omega, ⟨⟨rfl, rfl, rfl, rfl, rfl, rfl, rfl, trivial⟩, ⟨rfl, rfl, rfl, rfl, trivial⟩, rfl, rfl⟩⟩
  ·have h8 : g.kind = 8 := by omega
   have hny : ¬ (g.kind = 7 ∧ y.kind = 1) := fun h => h7 h.1
   refine ifd (fun h => absurd h h7) (fun _ => ?_)
   refine ifd (fun _ => ?_) (fun h => absurd h8 h)
   refine ifd (fun hy1 => ?_) (fun hy1 => ?_)
   ·have hsk : g.kind = 7 ∧ y.kind = 0 ∨ g.kind = 8 ∧ y.kind = 1 := .inr ⟨h8, hy1⟩
    have ek := kept_snoc g.kind ((g.goals.take i).map Gl.simp) y
    rw [if_pos hsk, List.append_nil, ← htk] at ek
    refine num64 (by omega) (by omega) ⟨(i + 1, b1, c1, ys1, b2, c2, ys2, μ1), ⟨by dsimp only; omega, hle.trans hle1, by dsimp only; rw [ek]; exact hr1.mono hle1, by dsimp only; rw [ek]; exact hr2.mono hle1, fun z hz => ?_⟩, by dsimp only; omega, ⟨⟨rfl, rfl, rfl, rfl, rfl, rfl, rfl, trivial⟩, ⟨rfl, rfl, rfl, rfl, trivial⟩, rfl, rfl⟩⟩
    rw [htk] at hz
    rcases List.mem_append.1 hz with hz | hz
    ·exact hno z hz
    ·rw [List.mem_singleton] at hz; subst hz; exact fun h => by omega
   ·have hsk : ¬ (g.kind = 7 ∧ y.kind = 0 ∨ g.kind = 8 ∧ y.kind = 1) := fun h => h.elim (fun h => h7 h.1) fun h => hy1 h.2
    have ek := kept_snoc g.kind ((g.goals.take i).map Gl.simp) y
    rw [if_neg hsk, ← htk] at ek
    have ef := flat_snoc g.kind (keptG g.kind ((g.goals.take i).map Gl.simp)) y
    rw [← ek] at ef
    intro r48
    refine gIn ?_ ?_ fun b1' c1' hb1' => ?_
    ·show (ys1.length + 1) * 72 ≤ _; omega
    ·exact Nat.le_trans (m := 100000000) (show ys1.length + 1 ≤ _ by omega) (by decide)
    have hr1' := (hr1.mono hle1).append (Rows.one hR (Gl.d_n _))
    have hnz : ∀ z ∈ (g.goals.take (i + 1)).map Gl.simp, ¬ (g.kind = 7 ∧ z.kind = 1) := fun z hz => by
     rw [htk] at hz
     rcases List.mem_append.1 hz with hz | hz
     ·exact hno z hz
     ·rw [List.mem_singleton] at hz; subst hz; exact hny
    refine ifd (fun hyk => ?_) (fun hyk => ?_)
    ·rw [if_pos hyk] at ef
     refine src_intro _ husrc ?_
     refine gIn ?_ ?_ fun b2' c2' hb2' => ?_
     ·show (ys2.length + us.length) * 72 ≤ _; omega
     ·exact Nat.le_trans (m := 100000000) (show ys2.length + us.length ≤ _ by omega) (by decide)
     have hr2' := (hr2.mono hle1).append hus
     refine num64 (by omega) (by omega) ⟨(i + 1, b1', c1', _, b2', c2', _, μ1), ⟨by dsimp only; omega, hle.trans hle1, by dsimp only; rw [ek, List.map_append]; exact hr1', by dsimp only; rw [ef, List.map_append]; exact hr2', hnz⟩, by dsimp only; omega, ⟨⟨rfl, rfl, rfl, rfl, rfl, rfl, rfl, trivial⟩, ⟨rfl, rfl, rfl, rfl, trivial⟩, rfl, rfl⟩⟩
    ·rw [if_neg hyk] at ef
     intro r61
     refine gIn ?_ ?_ fun b2' c2' hb2' => ?_
     ·show (ys2.length + 1) * 72 ≤ _; omega
     ·exact Nat.le_trans (m := 100000000) (show ys2.length + 1 ≤ _ by omega) (by decide)
     have hr2' := (hr2.mono hle1).append (Rows.one hR (Gl.d_n _))
     refine num64 (by omega) (by omega) ⟨(i + 1, b1', c1', _, b2', c2', _, μ1), ⟨by dsimp only; omega, hle.trans hle1, by dsimp only; rw [ek, List.map_append]; exact hr1', by dsimp only; rw [ef, List.map_append]; exact hr2', hnz⟩, by dsimp only; omega, ⟨⟨rfl, rfl, rfl, rfl, rfl, rfl, rfl, trivial⟩, ⟨rfl, rfl, rfl, rfl, trivial⟩, rfl, rfl⟩⟩
 ·obtain rfl : i = g.goals.length := by omega
  rw [List.take_length] at hr1 hr2 hno hys
  have e1 : partsG g.kind (g.goals.map Gl.simp) = wrapG g.kind (selG g.kind (keptG g.kind (g.goals.map Gl.simp))) := by
   rw [partsG, if_neg fun h => ?_]
   obtain ⟨h7, y, hy, hy1⟩ := h
   exact hno y hy ⟨h7, hy1⟩
  have hf2 := hr2.len
  have hf1 := hr1.len
  rw [List.length_map] at hf1 hf2
  refine ifd (fun h8 => ?_) (fun h8 => ?_)
  ·have e2 : selG g.kind (keptG g.kind (g.goals.map Gl.simp)) = flatG g.kind (keptG g.kind (g.goals.map Gl.simp)) := by
    rw [selG, if_pos (by rw [hf2]; omega)]
   rw [e1, e2]
   generalize flatG g.kind (keptG g.kind (g.goals.map Gl.simp)) = L at *
   refine ifd (fun h0 => ?_) (fun h0 => ?_)
   ·have hL : L = [] := List.length_eq_zero_iff.1 (by omega)
    subst hL
    refine cPl (l32Flag_spec (decide (g.kind = 7))) fun v1 μ1 hle1 hR => ?_
    have e3 : wrapG g.kind [] = flagG (decide (g.kind = 7)) := by
     unfold wrapG flagG
     by_cases h : g.kind = 7 <;> simp [h]
    rw [e3]
    have w_ := Gl.invV hR
    obtain ⟨q, rfl⟩ := w_
    exact rPl hR
   refine ifd (fun h1 => ?_) (fun h1 => ?_)
   ·have w_ := aSo (l := L) (i := 0) (by omega)
    obtain ⟨x, hx⟩ := w_
    have w_ := Rows.val' hr2 (i := 0) (d := x.d) (by rw [List.getElem?_map, hx]; rfl)
    obtain ⟨w, hw, hxr⟩ := w_
    have w_ := Gl.invV hxr
    obtain ⟨q, rfl⟩ := w_
    have hL : L = [x] := by
     match L, hx, (show L.length = 1 by omega) with
     | [y], hx, _ => cases hx; rfl
    rw [wrapG_one hL]
    refine rel_intro 0 rfl (by omega) (get_intro _ hw ?_)
    exact rPl hxr
   ·have hL := wrapG_two (k := g.kind) (l := L) (by omega) (by omega)
    rw [hL]
    refine rFz [3] fun μ2 hle2 hno2 hrow => .inl ?_
    exact mkG_rep (Rows.sl hrow (Rows.mono hle2 hr2) (Nat.le_trans (m := 100000000) (by omega) (by decide)))
  ·have e2 : selG g.kind (keptG g.kind (g.goals.map Gl.simp)) = keptG g.kind (g.goals.map Gl.simp) := by
    rw [selG, if_neg (by rw [hf2]; omega)]
   rw [e1, e2]
   generalize keptG g.kind (g.goals.map Gl.simp) = L at *
   refine ifd (fun h0 => ?_) (fun h0 => ?_)
   ·have hL : L = [] := List.length_eq_zero_iff.1 (by omega)
    subst hL
    refine cPl (l32Flag_spec (decide (g.kind = 7))) fun v1 μ1 hle1 hR => ?_
    have e3 : wrapG g.kind [] = flagG (decide (g.kind = 7)) := by
     unfold wrapG flagG
     by_cases h : g.kind = 7 <;> simp [h]
    rw [e3]
    have w_ := Gl.invV hR
    obtain ⟨q, rfl⟩ := w_
    exact rPl hR
   refine ifd (fun h1 => ?_) (fun h1 => ?_)
   ·have w_ := aSo (l := L) (i := 0) (by omega)
    obtain ⟨x, hx⟩ := w_
    have w_ := Rows.val' hr1 (i := 0) (d := x.d) (by rw [List.getElem?_map, hx]; rfl)
    obtain ⟨w, hw, hxr⟩ := w_
    have w_ := Gl.invV hxr
    obtain ⟨q, rfl⟩ := w_
    have hL : L = [x] := by
     match L, hx, (show L.length = 1 by omega) with
     | [y], hx, _ => cases hx; rfl
    rw [wrapG_one hL]
    refine rel_intro 0 rfl (by omega) (get_intro _ hw ?_)
    exact rPl hxr
   ·have hL := wrapG_two (k := g.kind) (l := L) (by omega) (by omega)
    rw [hL]
    refine rFz [2] fun μ2 hle2 hno2 hrow => .inl ?_
    exact mkG_rep (Rows.sl hrow (Rows.mono hle2 hr1) (Nat.le_trans (m := 100000000) (by omega) (by decide)))
theorem topG_two {g : Gl} {a b : Tm} {ys : List Gl} (h : g.terms = [a, b]) (h23 : g.kind = 2 ∨ g.kind = 3) : topG g.kind g.name g.terms g.goals ys = (if unifL [(a.toT, b.toT)] = none then flagG (decide (g.kind = 3)) else if a.toT = b.toT then flagG (decide (g.kind = 2)) else g) := by
 have e : Gl.mk g.kind g.name g.terms g.goals = g := by cases g; rfl
 unfold topG
 rw [h] at e ⊢
 simp only
 rw [if_pos h23, e]
theorem topG_six {g : Gl} {a b : Tm} {ys : List Gl} (h : g.terms = [a, b]) (h6 : g.kind = 6) : topG g.kind g.name g.terms g.goals ys = (if b.toT.hasSym a.name then flagG false else if b.toT.vars = [] then flagG true else g) := by
 have e : Gl.mk g.kind g.name g.terms g.goals = g := by cases g; rfl
 unfold topG
 rw [h] at e ⊢
 simp only
 rw [if_neg (by omega), if_pos h6, e]
theorem topG_one {g : Gl} {a : Tm} {ys : List Gl} (h : g.terms = [a]) (h45 : g.kind = 4 ∨ g.kind = 5) : topG g.kind g.name g.terms g.goals ys = (if a.kind ≠ 1 then flagG (decide (a.kind = g.kind - 2)) else g) := by
 have e : Gl.mk g.kind g.name g.terms g.goals = g := by cases g; rfl
 unfold topG
 rw [h] at e ⊢
 simp only
 rw [e]
 by_cases k : a.kind = 1
 ·rw [if_neg (fun h => h.2 k), if_neg (fun h => h k)]
 ·rw [if_pos ⟨h45, k⟩, if_pos k]
theorem topG_parts {g : Gl} {ys : List Gl} (h : g.terms = []) (h78 : g.kind = 7 ∨ g.kind = 8) : topG g.kind g.name g.terms g.goals ys = partsG g.kind ys := by
 unfold topG
 rw [h]
 simp only
 rw [if_pos h78]
theorem topG_rest {g : Gl} {ys : List Gl} (h : g.kind < 2 ∨ 8 < g.kind) : topG g.kind g.name g.terms g.goals ys = g := by
 have e : Gl.mk g.kind g.name g.terms g.goals = g := by cases g; rfl
 unfold topG
 split
 ·rw [if_neg (by omega), if_neg (by omega), e]
 ·rw [if_neg (by omega), e]
 ·rw [if_neg (by omega), e]
 ·exact e
theorem two_terms {g : Gl} (hS : g.Sh) (h : g.kind = 2 ∨ g.kind = 3 ∨ g.kind = 6) : ∃ x y : T, g.terms = [x.tm, y.tm] ∧ x.ok ∧ y.ok := by
 have hl := hS.top.ln2 h
 match ht : g.terms, hl with
 | [a, b], _ =>
  have w_ := (hS.top.tm a (by rw [ht]; simp)).lift
  obtain ⟨x, hx, rfl⟩ := w_
  have w_ := (hS.top.tm b (by rw [ht]; simp)).lift
  obtain ⟨y, hy, rfl⟩ := w_
  exact ⟨x, y, rfl, hx, hy⟩
theorem one_term {g : Gl} (hS : g.Sh) (h : g.kind = 4 ∨ g.kind = 5) : ∃ x : T, g.terms = [x.tm] ∧ x.ok := by
 have hl := hS.top.ln1 h
 match ht : g.terms, hl with
 | [a], _ =>
  have w_ := (hS.top.tm a (by rw [ht]; simp)).lift
  obtain ⟨x, hx, rfl⟩ := w_
  exact ⟨x, rfl, hx⟩
theorem ContainsSymbol_spec (s : ByteArray) (x : T) {v : Value} (hv : RepV μ x.tm.d v) (hx : x.ok) (hw : x.tm.d.wd) : Gives Tryz.prog 114 [v, .string s] μ (.bool (decide (x.hasSym s))) := by
 have w_ := Tm.invV hv
 obtain ⟨p, rfl⟩ := w_
 refine Spec.mk Tryz.func114 (by kernel_rfl) ?_
 intro r2
 refine cGv (spec_TermOk_spec x.tm hv hw) ?_
 refine ifd (fun _ => ?_) (fun h => absurd hx.tm h)
 refine cGv (l10Contains_spec s x hv) ?_
 exact rGv rfl rfl
theorem unify0_spec {x y : T} {v w : Value} (hv : RepV μ x.tm.d v) (hw : RepV μ y.tm.d w) : Spec Tryz.prog 111 [.slice none 0 0, v, w] μ fun r μ' => ∃ o, optB (fun y w => RepV μ' (.sl 5 ((y.map B.bd).map Bd.d)) w) o r ∧ o = unifL [(x, y)] := by
 have hN1 : x.inN (x.vars ++ y.vars) := fun n hn => List.mem_append_left _ (T.occ_vars.1 hn)
 have hN2 : y.inN (x.vars ++ y.vars) := fun n hn => List.mem_append_right _ (T.occ_vars.1 hn)
 refine (l05Unify_all (N := x.vars ++ y.vars) _ _ SolL.nil ⟨by simp, by simp⟩ (fun b hb => by simp at hb) hN1 hN2 (Nat.le_refl _) (Nat.le_refl _) (Rep.nilSl 5) hv hw).weaken fun r μ' _ hR => ?_
 obtain ⟨o, h1, h2⟩ := hR
 exact ⟨o, h1, h2.1.unifL fun bs e => (h2.2 bs e).1⟩
set_option maxHeartbeats 4000000 in
theorem l32Goal_spec : ∀ (g : Gl) {μ : Mem} {v : Value}, RepV μ g.d v → g.Sh → Spec Tryz.prog 50 [v] μ fun v μ' => RepV μ' g.simp.d v :=
 Gl.ind fun g ih μ v hv hS => by
  have w_ := Gl.inv hv
  obtain ⟨p, rfl, hts, hgs⟩ := w_
  rw [Gl.simp_eq]
  refine Spec.mk Tryz.func50 (by kernel_rfl) ?_
  intro r1 r2
  refine ifd (fun h2 => ?_) (fun h2 => ?_)
  ·have h23 : g.kind = 2 ∨ g.kind = 3 := .inl h2
   refine ifd (fun _ => ?_) (fun h => absurd h2 h)
   have w_ := two_terms hS (by omega)
   obtain ⟨x, y, ht, hx, hy⟩ := w_
   rw [topG_two ht h23, T.toT_tm, T.toT_tm]
   rw [ht] at hts
   have w_ := Tm.elem (i := 0) (t := x.tm) hts rfl
   obtain ⟨ad, q, hel, hto⟩ := w_
   have w_ := Tm.elem (i := 1) (t := y.tm) hts rfl
   obtain ⟨ad2, q2, hel2, hto2⟩ := w_
   rw [← ht] at hel hel2
   refine eIn hel ?_
   refine eIn hel2 ?_
   refine cPl (unify0_spec hto hto2) fun v1 μ1 hle1 hR => ?_
   obtain ⟨o, hR, ho⟩ := hR
   cases o with
   | none =>
    obtain rfl := hR
    refine iIn (fun _ => ?_) (fun h => nomatch h)
    rw [if_pos ho.symm]
    refine cPl (l32Flag_spec (decide (g.kind = 3))) fun v2 μ2 hle2 hR2 => ?_
    have w_ := Gl.invV hR2
    obtain ⟨q3, rfl⟩ := w_
    exact rPl hR2
   | some z =>
    obtain ⟨w, rfl, hw⟩ := hR
    refine iIn (fun h => nomatch h) (fun _ => ?_)
    rw [if_neg (by rw [← ho]; exact fun k => nomatch k)]
    refine eIn (hel.mono hle1) ?_
    refine eIn (hel2.mono hle1) ?_
    refine cGv (l02Same_spec x y (hto.mono hle1) (hto2.mono hle1)) ?_
    refine ifd (fun he => ?_) (fun he => ?_)
    ·rw [if_pos he]
     refine cPl (l32Flag_spec (decide (g.kind = 2))) fun v2 μ2 hle2 hR2 => ?_
     have w_ := Gl.invV hR2
     obtain ⟨q3, rfl⟩ := w_
     exact rPl hR2
    ·rw [if_neg he]
     exact rPl (hv.mono hle1)
  refine ifd (fun h3 => ?_) (fun h3 => ?_)
  ·have h23 : g.kind = 2 ∨ g.kind = 3 := .inr h3
   have w_ := two_terms hS (by omega)
   obtain ⟨x, y, ht, hx, hy⟩ := w_
   rw [topG_two ht h23, T.toT_tm, T.toT_tm]
   rw [ht] at hts
   have w_ := Tm.elem (i := 0) (t := x.tm) hts rfl
   obtain ⟨ad, q, hel, hto⟩ := w_
   have w_ := Tm.elem (i := 1) (t := y.tm) hts rfl
   obtain ⟨ad2, q2, hel2, hto2⟩ := w_
   rw [← ht] at hel hel2
   refine eIn hel ?_
   refine eIn hel2 ?_
   refine cPl (unify0_spec hto hto2) fun v1 μ1 hle1 hR => ?_
   obtain ⟨o, hR, ho⟩ := hR
   cases o with
   | none =>
    obtain rfl := hR
    refine iIn (fun _ => ?_) (fun h => nomatch h)
    rw [if_pos ho.symm]
    refine cPl (l32Flag_spec (decide (g.kind = 3))) fun v2 μ2 hle2 hR2 => ?_
    have w_ := Gl.invV hR2
    obtain ⟨q3, rfl⟩ := w_
    exact rPl hR2
   | some z =>
    obtain ⟨w, rfl, hw⟩ := hR
    refine iIn (fun h => nomatch h) (fun _ => ?_)
    rw [if_neg (by rw [← ho]; exact fun k => nomatch k)]
    refine eIn (hel.mono hle1) ?_
    refine eIn (hel2.mono hle1) ?_
    refine cGv (l02Same_spec x y (hto.mono hle1) (hto2.mono hle1)) ?_
    refine ifd (fun he => ?_) (fun he => ?_)
    ·rw [if_pos he]
     refine cPl (l32Flag_spec (decide (g.kind = 2))) fun v2 μ2 hle2 hR2 => ?_
     have w_ := Gl.invV hR2
     obtain ⟨q3, rfl⟩ := w_
     exact rPl hR2
    ·rw [if_neg he]
     exact rPl (hv.mono hle1)
  refine ifd (fun h4 => ?_) (fun h4 => ?_)
  ·have h45 : g.kind = 4 ∨ g.kind = 5 := .inl h4
   refine ifd (fun _ => ?_) (fun h => absurd h4 h)
   have w_ := one_term hS h45
   obtain ⟨x, ht, hx⟩ := w_
   rw [topG_one ht h45]
   rw [ht] at hts
   have w_ := Tm.elem (i := 0) (t := x.tm) hts rfl
   obtain ⟨ad, q, hel, hto⟩ := w_
   rw [← ht] at hel
   refine eIn hel ?_
   refine ifnd (fun hn => ?_) (fun hn => ?_)
   ·rw [if_pos hn]
    refine eIn hel ?_
    refine num64 (by omega) (by omega) ?_
    refine num64 (by omega) (by omega) ?_
    have e3 : (decide (x.tm.kind = g.kind - 2)) = decide (x.tm.kind = 2 + g.kind - 4) := by
     rw [show 2 + g.kind - 4 = g.kind - 2 by omega]
    rw [e3]
    refine cPl (l32Flag_spec (decide (x.tm.kind = 2 + g.kind - 4))) fun v2 μ2 hle2 hR2 => ?_
    have w_ := Gl.invV hR2
    obtain ⟨q3, rfl⟩ := w_
    exact rPl hR2
   ·rw [if_neg (fun h => h hn)]
    exact rPl hv
  refine ifd (fun h5 => ?_) (fun h5 => ?_)
  ·have h45 : g.kind = 4 ∨ g.kind = 5 := .inr h5
   have w_ := one_term hS h45
   obtain ⟨x, ht, hx⟩ := w_
   rw [topG_one ht h45]
   rw [ht] at hts
   have w_ := Tm.elem (i := 0) (t := x.tm) hts rfl
   obtain ⟨ad, q, hel, hto⟩ := w_
   rw [← ht] at hel
   refine eIn hel ?_
   refine ifnd (fun hn => ?_) (fun hn => ?_)
   ·rw [if_pos hn]
    refine eIn hel ?_
    refine num64 (by omega) (by omega) ?_
    refine num64 (by omega) (by omega) ?_
    have e3 : (decide (x.tm.kind = g.kind - 2)) = decide (x.tm.kind = 2 + g.kind - 4) := by
     rw [show 2 + g.kind - 4 = g.kind - 2 by omega]
    rw [e3]
    refine cPl (l32Flag_spec (decide (x.tm.kind = 2 + g.kind - 4))) fun v2 μ2 hle2 hR2 => ?_
    have w_ := Gl.invV hR2
    obtain ⟨q3, rfl⟩ := w_
    exact rPl hR2
   ·rw [if_neg (fun h => h hn)]
    exact rPl hv
  refine ifd (fun h6 => ?_) (fun h6 => ?_)
  ·have w_ := two_terms hS (by omega)
   obtain ⟨x, y, ht, hx, hy⟩ := w_
   rw [topG_six ht h6, T.toT_tm]
   have hwy := T.good_wd hy.1
   rw [ht] at hts
   have w_ := Tm.elem (i := 0) (t := x.tm) hts rfl
   obtain ⟨ad, q, hel, hto⟩ := w_
   have w_ := Tm.elem (i := 1) (t := y.tm) hts rfl
   obtain ⟨ad2, q2, hel2, hto2⟩ := w_
   rw [← ht] at hel hel2
   refine eIn hel2 ?_
   refine eIn hel ?_
   refine cGv (ContainsSymbol_spec x.tm.name y hto2 hy hwy) ?_
   refine ifd (fun hc => ?_) (fun hc => ?_)
   ·rw [if_pos hc]
    refine cPl (l32Flag_spec false) fun v2 μ2 hle2 hR2 => ?_
    have w_ := Gl.invV hR2
    obtain ⟨q3, rfl⟩ := w_
    exact rPl hR2
   rw [if_neg hc]
   refine eIn hel2 ?_
   refine cGv (spec_IsGround_spec y hto2 hy hwy) ?_
   refine ifd (fun hc => ?_) (fun hc => ?_)
   ·rw [if_pos hc]
    refine cPl (l32Flag_spec true) fun v2 μ2 hle2 hR2 => ?_
    have w_ := Gl.invV hR2
    obtain ⟨q3, rfl⟩ := w_
    exact rPl hR2
   ·rw [if_neg hc]
    exact rPl hv
  refine ifd (fun h7 => ?_) (fun h7 => ?_)
  ·refine ifd (fun _ => ?_) (fun h => absurd h7 h)
   have ht0 : g.terms = [] := List.length_eq_zero_iff.1 (hS.top.ln0 (by omega))
   rw [topG_parts ht0 (by omega)]
   refine cPl (l32Parts_spec (by omega) hS (fun x hx μ v => ih x hx) hv) fun v2 μ2 hle2 hR2 => ?_
   have w_ := Gl.invV hR2
   obtain ⟨q3, rfl⟩ := w_
   exact rPl hR2
  refine ifd (fun h8 => ?_) (fun h8 => ?_)
  ·have ht0 : g.terms = [] := List.length_eq_zero_iff.1 (hS.top.ln0 (by omega))
   rw [topG_parts ht0 (by omega)]
   refine cPl (l32Parts_spec (by omega) hS (fun x hx μ v => ih x hx) hv) fun v2 μ2 hle2 hR2 => ?_
   have w_ := Gl.invV hR2
   obtain ⟨q3, rfl⟩ := w_
   exact rPl hR2
  ·rw [topG_rest (by have := hS.top.k0; omega)]
   exact rPl hv
noncomputable def simpO (g : Gl) : Gl := if g.Ok then g.simp else .mk 0 ⟨#[]⟩ [] []
theorem spec_SimplifyGoal_spec {g : Gl} {v : Value} (hv : RepV μ g.d v) (hw : g.d.wd) : Spec Tryz.prog 10 [v] μ fun v μ' => RepV μ' (simpO g).d v := by
 have w_ := Gl.invV hv
 obtain ⟨p, rfl⟩ := w_
 refine Spec.mk Tryz.func10 (by kernel_rfl) ?_
 intro r1 r2
 refine cGv (spec_GoalOk_spec g hv hw) ?_
 refine ifnd (fun h => ?_) (fun h => ?_)
 ·rw [simpO, if_neg h]; exact rPl (flagG_rep true)
 ·rw [simpO, if_pos h]
  refine cPl (l32Goal_spec g hv h.1) fun v2 μ2 hle2 hR2 => ?_
  refine cPl (l13Copy_spec _ hR2 (Gl.simp_sh g h.1)) fun v3 μ3 hle3 hR3 => ?_
  have w_ := Gl.invV hR3
  obtain ⟨q3, rfl⟩ := w_
  exact rPl hR3
end
end Go.Vx
namespace Go.Vx
open Go.Proofs Classical
theorem Sl.headL {μ : Mem} {es n c i : Nat} {base : Option Addr} {xs : List D} (h : Sl μ es base n xs) (hi : i ≤ n) : Sl μ es (if c = 0 then base else base.map (·.add (0 * es))) (i - 0) (xs.take i) := by
 have e : (if c = 0 then base else base.map (·.add (0 * es))) = base := by
  split
  ·rfl
  ·cases base with
   | none => rfl
   | some a => simp [Addr.add]
 rw [e]
 have hl := h.len
 refine ⟨by rw [List.length_take]; omega, Nat.le_trans (by omega) h.max, fun j x hx => ?_⟩
 have hj := (List.getElem?_eq_some_iff.1 hx).1
 rw [List.length_take] at hj
 rw [List.getElem?_take, if_pos (by omega)] at hx
 have w_ := h.get j x hx
 obtain ⟨a, cs, he, hr⟩ := w_
 exact ⟨a, cs, ⟨he.lo, by omega, he.addr, he.len, he.cell⟩, hr⟩
theorem Sl.tailL {μ : Mem} {es n c i : Nat} {base : Option Addr} {xs : List D} (h : Sl μ es base n xs) (hi : i ≤ n) (hc : n ≤ c) : Sl μ es (if c = i then base else base.map (·.add (i * es))) (n - i) (xs.drop i) := by
 have hl := h.len
 refine ⟨by rw [List.length_drop]; omega, Nat.le_trans (Nat.sub_le _ _) h.max, fun j x hx => ?_⟩
 have hj := (List.getElem?_eq_some_iff.1 hx).1
 rw [List.length_drop] at hj
 rw [List.getElem?_drop] at hx
 have w_ := h.get (i + j) x hx
 obtain ⟨a, cs, he, hr⟩ := w_
 rw [if_neg (by omega)]
 obtain ⟨a0, h1, h2⟩ := he.addr
 refine ⟨a, cs, ⟨by omega, by omega, ⟨a0.add (i * es), by rw [h1]; rfl, ?_⟩, he.len, he.cell⟩, hr⟩
 rw [h2, add_add]
 congr 1
 rw [Int.toNat_natCast, Int.toNat_natCast, Nat.add_mul]
section
variable {μ : Mem}
theorem truth_spec (b : Bool) : Spec Tryz.prog 118 [.bool b] μ fun v μ' => RepV μ' (flagG b).d v := by
 refine Spec.mk Tryz.func118 (by kernel_rfl) ?_
 intro r2
 refine iIn (fun h => ?_) (fun h => ?_)
 ·subst h; exact rPl (flagG_rep true)
 ·subst h; exact rPl (flagG_rep false)
theorem solution0_spec {x y : T} {b1 b2 : Option Addr} {c1 c2 : Nat} (hx : x.good) (hy : y.good) (hs1 : Sl μ 4 b1 1 ([x.tm].map Tm.d)) (hs2 : Sl μ 4 b2 1 ([y.tm].map Tm.d)) : Spec Tryz.prog 119 [.slice none 0 0, .slice b1 1 c1, .slice b2 1 c2] μ fun r μ' => ∃ o, optB (fun y w => RepV μ' (.sl 5 ((y.map B.bd).map Bd.d)) w) o r ∧ o = unifL [(x, y)] := by
 refine (solution_spec (Q := T.good) (bs := []) (xs := [x]) (ys := [y]) (fun a b h => h) (fun t h => h) (by simp) (by simpa using hx) (by simpa using hy) rfl ⟨rfl, Nat.zero_le _, fun i x h => by simp at h⟩ hs1 hs2 (by simp) (by simp)).weaken fun r μ' _ hR => ?_
 obtain ⟨o, h1, h2⟩ := hR
 exact ⟨o, h1, h2.unifL⟩
set_option maxHeartbeats 4000000 in
theorem simplify_spec : ∀ (g : Gl) {μ : Mem} {v : Value}, RepV μ g.d v → g.Sh → Spec Tryz.prog 54 [v] μ fun v μ' => RepV μ' g.simp.d v :=
 Gl.ind fun g ih μ v hv hS => by
  have w_ := Gl.reps hv
  obtain ⟨p, rfl, ⟨hts, hgs⟩, hrt, hrg⟩ := w_
  have hg8 := hS.top.gl
  have hcapt := Rep.lens hrt
  rw [Gl.simp_eq]
  refine Spec.mk Tryz.func54 (by kernel_rfl) ?_
  intro r1 r2
  refine ifd (fun h2 => ?_) (fun h2 => ?_)
  ·have h23 : g.kind = 2 ∨ g.kind = 3 := .inl h2
   refine ifd (fun _ => ?_) (fun h => absurd h2 h)
   have w_ := two_terms hS (by omega)
   obtain ⟨x, y, ht, hx, hy⟩ := w_
   rw [topG_two ht h23, T.toT_tm, T.toT_tm]
   have hlen : g.terms.length = 2 := by rw [ht]; rfl
   have hts' := hts
   rw [ht] at hts'
   have w_ := Tm.elem (i := 0) (t := x.tm) hts' rfl
   obtain ⟨ad, q, hel, hto⟩ := w_
   have w_ := Tm.elem (i := 1) (t := y.tm) hts' rfl
   obtain ⟨ad2, q2, hel2, hto2⟩ := w_
   rw [← ht] at hel hel2
   refine eIn hel ?_
   refine eIn hel2 ?_
   refine cGv (equalTerms_spec x y hto hto2) ?_
   refine ifd (fun he => ?_) (fun he => ?_)
   ·have hne : unifL [(x, y)] ≠ none := by
     subst he
     rw [unifL_some (SolL.nil.again rfl) ⟨by simp, by simp⟩]
     exact fun k => nomatch k
    rw [if_neg hne, if_pos he]
    refine cPl (truth_spec (decide (g.kind = 2))) fun v2 μ2 hle2 hR2 => ?_
    have w_ := Gl.invV hR2
    obtain ⟨q3, rfl⟩ := w_
    exact rPl hR2
   have hh := Sl.headL (c := p.1.2) (i := 1) hts (by omega)
   have hl := Sl.tailL (c := p.1.2) (i := 1) hts (by omega) hcapt
   rw [ht] at hh hl
   refine cut_intro 0 1 rfl rfl (by omega) (by omega) ?_
   refine cut_intro 1 g.terms.length rfl rfl (by omega) (by omega) ?_
   have e21 : g.terms.length - 1 = 1 := by omega
   rw [e21]
   refine cPl (solution0_spec hx.1 hy.1 hh hl) fun v1 μ1 hle1 hR => ?_
   obtain ⟨o, hR, ho⟩ := hR
   cases o with
   | none =>
    obtain rfl := hR
    refine iIn (fun _ => ?_) (fun h => nomatch h)
    rw [if_pos ho.symm]
    refine cPl (truth_spec (decide (g.kind = 3))) fun v2 μ2 hle2 hR2 => ?_
    have w_ := Gl.invV hR2
    obtain ⟨q3, rfl⟩ := w_
    exact rPl hR2
   | some z =>
    obtain ⟨w, rfl, hw⟩ := hR
    refine iIn (fun h => nomatch h) (fun _ => ?_)
    have e5 : (if unifL [(x, y)] = none then flagG (decide (g.kind = 3)) else if x = y then flagG (decide (g.kind = 2)) else g) = g := by
     rw [if_neg (by rw [← ho]; exact fun k => nomatch k), if_neg he]
    rw [e5]
    refine cPl (copyGoal_spec g (hv.mono hle1) hS) fun v2 μ2 hle2 hR2 => ?_
    have w_ := Gl.invV hR2.rep
    obtain ⟨q3, rfl⟩ := w_
    exact rPl hR2.rep
  refine ifd (fun h3 => ?_) (fun h3 => ?_)
  ·have h23 : g.kind = 2 ∨ g.kind = 3 := .inr h3
   have w_ := two_terms hS (by omega)
   obtain ⟨x, y, ht, hx, hy⟩ := w_
   rw [topG_two ht h23, T.toT_tm, T.toT_tm]
   have hlen : g.terms.length = 2 := by rw [ht]; rfl
   have hts' := hts
   rw [ht] at hts'
   have w_ := Tm.elem (i := 0) (t := x.tm) hts' rfl
   obtain ⟨ad, q, hel, hto⟩ := w_
   have w_ := Tm.elem (i := 1) (t := y.tm) hts' rfl
   obtain ⟨ad2, q2, hel2, hto2⟩ := w_
   rw [← ht] at hel hel2
   refine eIn hel ?_
   refine eIn hel2 ?_
   refine cGv (equalTerms_spec x y hto hto2) ?_
   refine ifd (fun he => ?_) (fun he => ?_)
   ·have hne : unifL [(x, y)] ≠ none := by
     subst he
     rw [unifL_some (SolL.nil.again rfl) ⟨by simp, by simp⟩]
     exact fun k => nomatch k
    rw [if_neg hne, if_pos he]
    refine cPl (truth_spec (decide (g.kind = 2))) fun v2 μ2 hle2 hR2 => ?_
    have w_ := Gl.invV hR2
    obtain ⟨q3, rfl⟩ := w_
    exact rPl hR2
   have hh := Sl.headL (c := p.1.2) (i := 1) hts (by omega)
   have hl := Sl.tailL (c := p.1.2) (i := 1) hts (by omega) hcapt
   rw [ht] at hh hl
   refine cut_intro 0 1 rfl rfl (by omega) (by omega) ?_
   refine cut_intro 1 g.terms.length rfl rfl (by omega) (by omega) ?_
   have e21 : g.terms.length - 1 = 1 := by omega
   rw [e21]
   refine cPl (solution0_spec hx.1 hy.1 hh hl) fun v1 μ1 hle1 hR => ?_
   obtain ⟨o, hR, ho⟩ := hR
   cases o with
   | none =>
    obtain rfl := hR
    refine iIn (fun _ => ?_) (fun h => nomatch h)
    rw [if_pos ho.symm]
    refine cPl (truth_spec (decide (g.kind = 3))) fun v2 μ2 hle2 hR2 => ?_
    have w_ := Gl.invV hR2
    obtain ⟨q3, rfl⟩ := w_
    exact rPl hR2
   | some z =>
    obtain ⟨w, rfl, hw⟩ := hR
    refine iIn (fun h => nomatch h) (fun _ => ?_)
    have e5 : (if unifL [(x, y)] = none then flagG (decide (g.kind = 3)) else if x = y then flagG (decide (g.kind = 2)) else g) = g := by
     rw [if_neg (by rw [← ho]; exact fun k => nomatch k), if_neg he]
    rw [e5]
    refine cPl (copyGoal_spec g (hv.mono hle1) hS) fun v2 μ2 hle2 hR2 => ?_
    have w_ := Gl.invV hR2.rep
    obtain ⟨q3, rfl⟩ := w_
    exact rPl hR2.rep
  refine ifd (fun h4 => ?_) (fun h4 => ?_)
  ·have h45 : g.kind = 4 ∨ g.kind = 5 := .inl h4
   refine ifd (fun _ => ?_) (fun h => absurd h4 h)
   have w_ := one_term hS h45
   obtain ⟨x, ht, hx⟩ := w_
   rw [topG_one ht h45]
   rw [ht] at hts
   have w_ := Tm.elem (i := 0) (t := x.tm) hts rfl
   obtain ⟨ad, q, hel, hto⟩ := w_
   rw [← ht] at hel
   refine eIn hel ?_
   have hle1 := Mem.Le.refl μ
   refine ifnd (fun hn => ?_) (fun hn => ?_)
   rotate_left
   ·rw [if_neg (fun h => h hn)]
    refine cPl (copyGoal_spec g (hv.mono hle1) hS) fun v2 μ2 hle2 hR2 => ?_
    have w_ := Gl.invV hR2.rep
    obtain ⟨q3, rfl⟩ := w_
    exact rPl hR2.rep
   rw [if_pos hn]
   refine ifd (fun _ => ?_) (fun h => absurd h4 h)
   refine eIn hel ?_
   have e3 : decide (x.tm.kind = g.kind - 2) = decide (x.tm.kind = 2) := by rw [h4]; rfl
   rw [e3]
   refine ifd (fun h2 => ?_) (fun h2 => ?_)
   ·rw [decide_eq_true h2]
    refine cPl (truth_spec true) fun v2 μ2 hle2 hR2 => ?_
    have w_ := Gl.invV hR2
    obtain ⟨q3, rfl⟩ := w_
    exact rPl hR2
   ·refine ifd (fun h => absurd h (by omega)) (fun _ => ?_)
    rw [decide_eq_false h2]
    refine cPl (truth_spec false) fun v2 μ2 hle2 hR2 => ?_
    have w_ := Gl.invV hR2
    obtain ⟨q3, rfl⟩ := w_
    exact rPl hR2
  refine ifd (fun h5 => ?_) (fun h5 => ?_)
  ·have h45 : g.kind = 4 ∨ g.kind = 5 := .inr h5
   have w_ := one_term hS h45
   obtain ⟨x, ht, hx⟩ := w_
   rw [topG_one ht h45]
   rw [ht] at hts
   have w_ := Tm.elem (i := 0) (t := x.tm) hts rfl
   obtain ⟨ad, q, hel, hto⟩ := w_
   rw [← ht] at hel
   refine eIn hel ?_
   have hle1 := Mem.Le.refl μ
   refine ifnd (fun hn => ?_) (fun hn => ?_)
   rotate_left
   ·rw [if_neg (fun h => h hn)]
    refine cPl (copyGoal_spec g (hv.mono hle1) hS) fun v2 μ2 hle2 hR2 => ?_
    have w_ := Gl.invV hR2.rep
    obtain ⟨q3, rfl⟩ := w_
    exact rPl hR2.rep
   rw [if_pos hn]
   refine ifd (fun h => absurd h h4) (fun _ => ?_)
   refine ifd (fun _ => ?_) (fun h => absurd h5 h)
   refine eIn hel ?_
   have e3 : decide (x.tm.kind = g.kind - 2) = decide (x.tm.kind = 3) := by rw [h5]; rfl
   rw [e3]
   refine cPl (truth_spec (decide (x.tm.kind = 3))) fun v2 μ2 hle2 hR2 => ?_
   have w_ := Gl.invV hR2
   obtain ⟨q3, rfl⟩ := w_
   exact rPl hR2
  refine ifd (fun h6 => ?_) (fun h6 => ?_)
  ·have w_ := two_terms hS (by omega)
   obtain ⟨x, y, ht, hx, hy⟩ := w_
   rw [topG_six ht h6, T.toT_tm]
   rw [ht] at hts
   have w_ := Tm.elem (i := 0) (t := x.tm) hts rfl
   obtain ⟨ad, q, hel, hto⟩ := w_
   have w_ := Tm.elem (i := 1) (t := y.tm) hts rfl
   obtain ⟨ad2, q2, hel2, hto2⟩ := w_
   rw [← ht] at hel hel2
   refine eIn hel2 ?_
   refine eIn hel ?_
   refine cGv (hasSymbol_spec x.tm.name y hto2) ?_
   refine ifd (fun hc => ?_) (fun hc => ?_)
   ·rw [if_pos hc]
    refine cPl (truth_spec false) fun v2 μ2 hle2 hR2 => ?_
    have w_ := Gl.invV hR2
    obtain ⟨q3, rfl⟩ := w_
    exact rPl hR2
   rw [if_neg hc]
   refine eIn hel2 ?_
   refine cGv (isGround_spec y hto2) ?_
   have hle1 := Mem.Le.refl μ
   refine ifd (fun hc => ?_) (fun hc => ?_)
   ·rw [if_pos hc]
    refine cPl (truth_spec true) fun v2 μ2 hle2 hR2 => ?_
    have w_ := Gl.invV hR2
    obtain ⟨q3, rfl⟩ := w_
    exact rPl hR2
   ·rw [if_neg hc]
    refine cPl (copyGoal_spec g (hv.mono hle1) hS) fun v2 μ2 hle2 hR2 => ?_
    have w_ := Gl.invV hR2.rep
    obtain ⟨q3, rfl⟩ := w_
    exact rPl hR2.rep
  have hle1 := Mem.Le.refl μ
  refine ifd (fun h7 => ?_) (fun h7 => ?_)
  ·refine ifd (fun _ => ?_) (fun h => absurd h7 h)
   refine ifd (fun h => absurd h (by omega)) (fun _ => ?_)
   have hN : ∀ y : Gl, (g.kind = 7 ∧ y.kind = 0 ∨ g.kind = 8 ∧ y.kind = 1) ↔ y.kind = 0 := fun y => ⟨fun h => h.elim (fun h => h.2) fun h => by omega, fun h => .inl ⟨h7, h⟩⟩
   have hW : wrapG g.kind [] = .mk 0 ⟨#[]⟩ [] [] := by rw [h7]; rfl
   have ht0 : g.terms = [] := List.length_eq_zero_iff.1 (hS.top.ln0 (by omega))
   rw [topG_parts ht0 (by omega)]
   intro r6
   refine lIn (fun q : Nat × Option Nat × Nat × List Value × Mem => q.1 ≤ g.goals.length ∧ μ.Le q.2.2.2.2 ∧ Rows q.2.2.2.2 4 ((keptG g.kind ((g.goals.take q.1).map Gl.simp)).map Gl.d) q.2.2.2.1 ∧ ∀ y ∈ (g.goals.take q.1).map Gl.simp, ¬ (g.kind = 7 ∧ y.kind = 1))
    (fun (i, b1, c1, ys1, μ') => ⟨[(1, .loc 0 r1 0), (2, .loc 1 r2 0), (5, .val (.int .i64 0)), (6, .row 2 b1 ys1.length c1), (7, .val (.int .i64 (flatG g.kind (keptG g.kind ((g.goals.take i).map Gl.simp))).length)), (109, .val (.slice p.2.1 g.goals.length p.2.2)), (110, .val (.int .i64 g.goals.length)), (111, .val (.int .i64 i))],
     [(0, some (.cells r1 [.val (.int .i64 g.kind), .val (.string g.name), .val (.slice p.1.1 g.terms.length p.1.2), .val (.slice p.2.1 g.goals.length p.2.2)] 30)), (1, some (.cells r2 [.val (.int .i64 0), .val (.string ⟨#[]⟩), .val (.slice none 0 0), .val (.slice none 0 0)] 30)), (2, some (.row b1 c1 30 4 ys1))], 3, μ', Mem.nil⟩) (fun q => g.goals.length - q.1)
    (0, some r6, 0, [], μ) ⟨by simp, Mem.Le.refl _, .nil, by simp⟩ (fun (_, _, _, _, _) => ⟨rfl, rfl⟩) ⟨⟨rfl, rfl, rfl, rfl, rfl, rfl, rfl, rfl, trivial⟩, ⟨rfl, rfl, rfl, trivial⟩, rfl, rfl⟩ ?_
   rintro ⟨i, b1, c1, ys1, μ'⟩ ⟨hi, hle, hr1, hno⟩
   dsimp only at hi hle hr1 hno
   have hl1 := hr1.len
   have hys : ∀ y ∈ (g.goals.take i).map Gl.simp, y.Sh := fun y hy => by
    have w_ := List.mem_map.1 hy
    obtain ⟨x, hx, rfl⟩ := w_
    exact Gl.simp_sh x (hS.sub x (List.mem_of_mem_take hx))
   have hk1 := keptG_len g.kind ((g.goals.take i).map Gl.simp)
   have hk2 := flatG_len g.kind (ys := keptG g.kind ((g.goals.take i).map Gl.simp)) fun y hy => (hys y (mem_keptG hy)).top.gl
   simp only [List.length_map, List.length_take] at hl1 hk1
   refine ifd (fun hlt => ?_) (fun hlt => ?_)
   ·have w_ := aSo (l := g.goals) (i := i) (by omega)
    obtain ⟨x, hx⟩ := w_
    have hxS := hS.sub x (mAt hx)
    have w_ := Gl.elem (hgs.mono hle) hx
    obtain ⟨ad, p3, hel, hr⟩ := w_
    have htk : (g.goals.take (i + 1)).map Gl.simp = (g.goals.take i).map Gl.simp ++ [x.simp] := by
     rw [List.take_add_one, hx, Option.toList_some, List.map_append]; rfl
    refine eIn hel ?_
    intro r9
    refine cPl (ih x (mAt hx) hr hxS) fun v1 μ1 hle1 hR => ?_
    have hyS := Gl.simp_sh x hxS
    have w_ := Gl.invV hR
    obtain ⟨q, rfl⟩ := w_
    intro r10
    have hy8 := hyS.top.gl
    have hyin : x.simp ∈ g.goals.map Gl.simp := List.mem_map.2 ⟨x, mAt hx, rfl⟩
    generalize hy : x.simp = y at *
    refine ifd (fun h7' => ?_) (fun h7' => ?_)
    ·refine ifd (fun hy1 => ?_) (fun hy1 => ?_)
     ·have e1 : partsG g.kind (g.goals.map Gl.simp) = flagG false := by rw [partsG, if_pos ⟨h7', y, hyin, hy1⟩]
      rw [e1]
      refine cPl (truth_spec false) fun v2 μ2 hle2 hR2 => ?_
      have w_ := Gl.invV hR2
      obtain ⟨q3, rfl⟩ := w_
      exact rPl hR2
     ·have hny : ¬ (g.kind = 7 ∧ y.kind = 1) := fun h => hy1 h.2
      refine ifd (fun hyn => ?_) (fun hyn => ?_)
      ·have ek := kept_snoc g.kind ((g.goals.take i).map Gl.simp) y
       rw [if_pos ((hN y).2 hyn), List.append_nil, ← htk] at ek
       refine num64 (by omega) (by omega) ⟨(i + 1, b1, c1, ys1, μ1), ⟨by dsimp only; omega, hle.trans hle1, by dsimp only; rw [ek]; exact hr1.mono hle1, fun z hz => ?_⟩, by dsimp only; omega, ⟨⟨rfl, rfl, rfl, rfl, by dsimp only; rw [ek]; rfl, rfl, rfl, rfl, trivial⟩, ⟨rfl, rfl, rfl, trivial⟩, rfl, rfl⟩⟩
       rw [htk] at hz
       rcases List.mem_append.1 hz with hz | hz
       ·exact hno z hz
       ·rw [List.mem_singleton] at hz; subst hz; exact hny
      have ek := kept_snoc g.kind ((g.goals.take i).map Gl.simp) y
      rw [if_neg (fun h => hyn ((hN y).1 h)), ← htk] at ek
      have ef := flat_snoc g.kind (keptG g.kind ((g.goals.take i).map Gl.simp)) y
      rw [← ek] at ef
      intro r132
      refine gIn ?_ ?_ fun b1' c1' hb1' => ?_
      ·show (ys1.length + 1) * 72 ≤ _; omega
      ·exact Nat.le_trans (m := 100000000) (show ys1.length + 1 ≤ _ by omega) (by decide)
      have hr1' := (hr1.mono hle1).append (Rows.one hR (Gl.d_n _))
      have hnz : ∀ z ∈ (g.goals.take (i + 1)).map Gl.simp, ¬ (g.kind = 7 ∧ z.kind = 1) := fun z hz => by
       rw [htk] at hz
       rcases List.mem_append.1 hz with hz | hz
       ·exact hno z hz
       ·rw [List.mem_singleton] at hz; subst hz; exact hny
      refine ifd (fun hyk => ?_) (fun hyk => ?_)
      ·rw [if_pos hyk] at ef
       have el : (((flatG g.kind (keptG g.kind ((g.goals.take (i + 1)).map Gl.simp))).length : Nat) : Int) = ((flatG g.kind (keptG g.kind ((g.goals.take i).map Gl.simp))).length : Int) + (y.goals.length : Int) := by
        rw [ef, List.length_append]; omega
       refine num64 (by omega) (by omega) ?_
       refine num64 (by omega) (by omega) ⟨(i + 1, b1', c1', _, μ1), ⟨by dsimp only; omega, hle.trans hle1, by dsimp only; rw [ek, List.map_append]; exact hr1', hnz⟩, by dsimp only; omega, ⟨⟨rfl, rfl, rfl, rfl, by dsimp only; rw [el]; rfl, rfl, rfl, rfl, trivial⟩, ⟨rfl, rfl, rfl, trivial⟩, rfl, rfl⟩⟩
      ·rw [if_neg hyk] at ef
       have el : (((flatG g.kind (keptG g.kind ((g.goals.take (i + 1)).map Gl.simp))).length : Nat) : Int) = ((flatG g.kind (keptG g.kind ((g.goals.take i).map Gl.simp))).length : Int) + 1 := by
        rw [ef, List.length_append, List.length_singleton]; omega
       refine num64 (by omega) (by omega) ?_
       refine num64 (by omega) (by omega) ⟨(i + 1, b1', c1', _, μ1), ⟨by dsimp only; omega, hle.trans hle1, by dsimp only; rw [ek, List.map_append]; exact hr1', hnz⟩, by dsimp only; omega, ⟨⟨rfl, rfl, rfl, rfl, by dsimp only; rw [el]; rfl, rfl, rfl, rfl, trivial⟩, ⟨rfl, rfl, rfl, trivial⟩, rfl, rfl⟩⟩
    ·have hny : ¬ (g.kind = 7 ∧ y.kind = 1) := fun h => h7' h.1
     refine ifd (fun hyn => ?_) (fun hyn => ?_)
     ·have ek := kept_snoc g.kind ((g.goals.take i).map Gl.simp) y
      rw [if_pos ((hN y).2 hyn), List.append_nil, ← htk] at ek
      refine num64 (by omega) (by omega) ⟨(i + 1, b1, c1, ys1, μ1), ⟨by dsimp only; omega, hle.trans hle1, by dsimp only; rw [ek]; exact hr1.mono hle1, fun z hz => ?_⟩, by dsimp only; omega, ⟨⟨rfl, rfl, rfl, rfl, by dsimp only; rw [ek]; rfl, rfl, rfl, rfl, trivial⟩, ⟨rfl, rfl, rfl, trivial⟩, rfl, rfl⟩⟩
      rw [htk] at hz
      rcases List.mem_append.1 hz with hz | hz
      ·exact hno z hz
      ·rw [List.mem_singleton] at hz; subst hz; exact hny
     have ek := kept_snoc g.kind ((g.goals.take i).map Gl.simp) y
     rw [if_neg (fun h => hyn ((hN y).1 h)), ← htk] at ek
     have ef := flat_snoc g.kind (keptG g.kind ((g.goals.take i).map Gl.simp)) y
     rw [← ek] at ef
     intro r132
     refine gIn ?_ ?_ fun b1' c1' hb1' => ?_
     ·show (ys1.length + 1) * 72 ≤ _; omega
     ·exact Nat.le_trans (m := 100000000) (show ys1.length + 1 ≤ _ by omega) (by decide)
     have hr1' := (hr1.mono hle1).append (Rows.one hR (Gl.d_n _))
     have hnz : ∀ z ∈ (g.goals.take (i + 1)).map Gl.simp, ¬ (g.kind = 7 ∧ z.kind = 1) := fun z hz => by
      rw [htk] at hz
      rcases List.mem_append.1 hz with hz | hz
      ·exact hno z hz
      ·rw [List.mem_singleton] at hz; subst hz; exact hny
     refine ifd (fun hyk => ?_) (fun hyk => ?_)
     ·rw [if_pos hyk] at ef
      have el : (((flatG g.kind (keptG g.kind ((g.goals.take (i + 1)).map Gl.simp))).length : Nat) : Int) = ((flatG g.kind (keptG g.kind ((g.goals.take i).map Gl.simp))).length : Int) + (y.goals.length : Int) := by
       rw [ef, List.length_append]; omega
      refine num64 (by omega) (by omega) ?_
      refine num64 (by omega) (by omega) ⟨(i + 1, b1', c1', _, μ1), ⟨by dsimp only; omega, hle.trans hle1, by dsimp only; rw [ek, List.map_append]; exact hr1', hnz⟩, by dsimp only; omega, ⟨⟨rfl, rfl, rfl, rfl, by dsimp only; rw [el]; rfl, rfl, rfl, rfl, trivial⟩, ⟨rfl, rfl, rfl, trivial⟩, rfl, rfl⟩⟩
     ·rw [if_neg hyk] at ef
      have el : (((flatG g.kind (keptG g.kind ((g.goals.take (i + 1)).map Gl.simp))).length : Nat) : Int) = ((flatG g.kind (keptG g.kind ((g.goals.take i).map Gl.simp))).length : Int) + 1 := by
       rw [ef, List.length_append, List.length_singleton]; omega
      refine num64 (by omega) (by omega) ?_
      refine num64 (by omega) (by omega) ⟨(i + 1, b1', c1', _, μ1), ⟨by dsimp only; omega, hle.trans hle1, by dsimp only; rw [ek, List.map_append]; exact hr1', hnz⟩, by dsimp only; omega, ⟨⟨rfl, rfl, rfl, rfl, by dsimp only; rw [el]; rfl, rfl, rfl, rfl, trivial⟩, ⟨rfl, rfl, rfl, trivial⟩, rfl, rfl⟩⟩
   ·obtain rfl : i = g.goals.length := by omega
    rw [List.take_length] at hr1 hno hys hk2 ⊢
    have e1 : partsG g.kind (g.goals.map Gl.simp) = wrapG g.kind (selG g.kind (keptG g.kind (g.goals.map Gl.simp))) := by
     rw [partsG, if_neg fun h => ?_]
     obtain ⟨h7, y, hy, hy1⟩ := h
     exact hno y hy ⟨h7, hy1⟩
    have hf1 := hr1.len
    rw [List.length_map] at hf1
    have hkept : ∀ y ∈ keptG g.kind (g.goals.map Gl.simp), y.Sh := fun y hy => hys y (mem_keptG hy)
    rw [e1]
    have hkl := keptG_len g.kind (g.goals.map Gl.simp)
    rw [List.length_map] at hkl
    refine ifd (fun h8 => ?_) (fun h8 => ?_)
    ·have e2 : selG g.kind (keptG g.kind (g.goals.map Gl.simp)) = flatG g.kind (keptG g.kind (g.goals.map Gl.simp)) := by
      rw [selG, if_pos (by omega)]
     rw [e2]
     generalize keptG g.kind (g.goals.map Gl.simp) = L at *
     intro r149
     refine lIn (fun q : Nat × Option Nat × Nat × List Value => q.1 ≤ L.length ∧ Rows μ' 4 ((flatG g.kind (L.take q.1)).map Gl.d) q.2.2.2)
      (fun (j, b2, c2, ys2) => ⟨[(1, .loc 0 r1 0), (2, .loc 1 r2 0), (5, .val (.int .i64 0)), (11, .row 3 b2 ys2.length c2), (150, .row 2 b1 ys1.length c1), (151, .val (.int .i64 ys1.length)), (152, .val (.int .i64 j))],
       [(0, some (.cells r1 [.val (.int .i64 g.kind), .val (.string g.name), .val (.slice p.1.1 g.terms.length p.1.2), .val (.slice p.2.1 g.goals.length p.2.2)] 30)), (1, some (.cells r2 [.val (.int .i64 0), .val (.string ⟨#[]⟩), .val (.slice none 0 0), .val (.slice none 0 0)] 30)), (2, some (.row b1 c1 30 4 ys1)), (3, some (.row b2 c2 30 4 ys2))], 4, μ', Mem.nil⟩) (fun q => L.length - q.1)
      (0, some r149, 0, []) ⟨by simp, .nil⟩ (fun (_, _, _, _) => ⟨rfl, rfl⟩) ⟨⟨rfl, rfl, rfl, rfl, rfl, rfl, rfl, trivial⟩, ⟨rfl, rfl, rfl, rfl, trivial⟩, rfl, rfl⟩ ?_
     rintro ⟨j, b2, c2, ys2⟩ ⟨hj, hr2⟩
     dsimp only at hj hr2
     have hf2 := hr2.len
     rw [List.length_map] at hf2
     have hf3 := flatG_len g.kind (ys := L.take j) fun y hy => (hkept y (List.mem_of_mem_take hy)).top.gl
     rw [List.length_take] at hf3
     refine ifd (fun hlt2 => ?_) (fun hlt2 => ?_)
     ·have w_ := aSo (l := L) (i := j) (by omega)
      obtain ⟨y, hyj⟩ := w_
      have w_ := Rows.val' hr1 (i := j) (d := y.d) (by rw [List.getElem?_map, hyj]; rfl)
      obtain ⟨w, hw, hyr⟩ := w_
      have w_ := Gl.reps hyr
      obtain ⟨q, rfl, hA, hRt, hRg⟩ := w_
      have w_ := Rep.srcAll hRg
      obtain ⟨us, hus, hul, husrc⟩ := w_
      have hy8 := (hkept y (mAt hyj)).top.gl
      have ef := flat_snoc g.kind (L.take j) y
      have htk : L.take (j + 1) = L.take j ++ [y] := by rw [List.take_add_one, hyj]; rfl
      rw [← htk] at ef
      refine rel_intro j rfl (by omega) (get_intro _ hw ?_)
      intro r13
      refine ifd (fun hyk => ?_) (fun hyk => ?_)
      ·rw [if_pos hyk] at ef
       refine src_intro _ husrc ?_
       refine gIn ?_ ?_ fun b2' c2' hb2' => ?_
       ·show (ys2.length + us.length) * 72 ≤ _; omega
       ·exact Nat.le_trans (m := 100000000) (show ys2.length + us.length ≤ _ by omega) (by decide)
       have hr2' := hr2.append hus
       refine num64 (by omega) (by omega) ⟨(j + 1, b2', c2', _), ⟨by dsimp only; omega, by dsimp only; rw [ef, List.map_append]; exact hr2'⟩, by dsimp only; omega, ⟨⟨rfl, rfl, rfl, rfl, rfl, rfl, rfl, trivial⟩, ⟨rfl, rfl, rfl, rfl, trivial⟩, rfl, rfl⟩⟩
      ·rw [if_neg hyk] at ef
       intro r167
       refine gIn ?_ ?_ fun b2' c2' hb2' => ?_
       ·show (ys2.length + 1) * 72 ≤ _; omega
       ·exact Nat.le_trans (m := 100000000) (show ys2.length + 1 ≤ _ by omega) (by decide)
       have hr2' := hr2.append (Rows.one hyr (Gl.d_n _))
       refine num64 (by omega) (by omega) ⟨(j + 1, b2', c2', _), ⟨by dsimp only; omega, by dsimp only; rw [ef, List.map_append]; exact hr2'⟩, by dsimp only; omega, ⟨⟨rfl, rfl, rfl, rfl, rfl, rfl, rfl, trivial⟩, ⟨rfl, rfl, rfl, rfl, trivial⟩, rfl, rfl⟩⟩
     ·obtain rfl : j = L.length := by omega
      rw [List.take_length] at hr2 hf2
      generalize flatG g.kind L = L2 at *
      refine ifd (fun h0 => ?_) (fun h0 => ?_)
      ·have hL : L2 = [] := List.length_eq_zero_iff.1 (by omega)
       rw [hL, hW]
       exact rPl (mkG_rep (k := 0) (l := []) (Rep.nilSl 4))
      refine ifd (fun h1 => ?_) (fun h1 => ?_)
      ·have w_ := aSo (l := L2) (i := 0) (by omega)
       obtain ⟨x, hx⟩ := w_
       have w_ := Rows.val' hr2 (i := 0) (d := x.d) (by rw [List.getElem?_map, hx]; rfl)
       obtain ⟨w, hw, hxr⟩ := w_
       have w_ := Gl.invV hxr
       obtain ⟨q, rfl⟩ := w_
       have hL : L2 = [x] := by
        match L2, hx, (show (L2).length = 1 by omega) with
        | [y], hx, _ => cases hx; rfl
       rw [wrapG_one hL]
       refine rel_intro 0 rfl (by omega) (get_intro _ hw ?_)
       exact rPl hxr
      ·have hL := wrapG_two (k := g.kind) (l := L2) (by omega) (by omega)
       rw [hL]
       refine rFz [3] fun μ2 hle2 hno2 hrow => .inl ?_
       exact mkG_rep (Rows.sl hrow (Rows.mono hle2 hr2) (Nat.le_trans (m := 100000000) (by omega) (by decide)))
    ·have e2 : selG g.kind (keptG g.kind (g.goals.map Gl.simp)) = keptG g.kind (g.goals.map Gl.simp) := by
      rw [selG, if_neg (by omega)]
     rw [e2]
     generalize keptG g.kind (g.goals.map Gl.simp) = L at *
     refine ifd (fun h0 => ?_) (fun h0 => ?_)
     ·have hL : L = [] := List.length_eq_zero_iff.1 (by omega)
      rw [hL, hW]
      exact rPl (mkG_rep (k := 0) (l := []) (Rep.nilSl 4))
     refine ifd (fun h1 => ?_) (fun h1 => ?_)
     ·have w_ := aSo (l := L) (i := 0) (by omega)
      obtain ⟨x, hx⟩ := w_
      have w_ := Rows.val' hr1 (i := 0) (d := x.d) (by rw [List.getElem?_map, hx]; rfl)
      obtain ⟨w, hw, hxr⟩ := w_
      have w_ := Gl.invV hxr
      obtain ⟨q, rfl⟩ := w_
      have hL : L = [x] := by
       match L, hx, (show (L).length = 1 by omega) with
       | [y], hx, _ => cases hx; rfl
      rw [wrapG_one hL]
      refine rel_intro 0 rfl (by omega) (get_intro _ hw ?_)
      exact rPl hxr
     ·have hL := wrapG_two (k := g.kind) (l := L) (by omega) (by omega)
      rw [hL]
      refine rFz [2] fun μ2 hle2 hno2 hrow => .inl ?_
      exact mkG_rep (Rows.sl hrow (Rows.mono hle2 hr1) (Nat.le_trans (m := 100000000) (by omega) (by decide)))
  refine ifd (fun h8 => ?_) (fun h8 => ?_)
  ·refine ifd (fun _ => ?_) (fun h => absurd h8 h)
   have hN : ∀ y : Gl, (g.kind = 7 ∧ y.kind = 0 ∨ g.kind = 8 ∧ y.kind = 1) ↔ y.kind = 1 := fun y => ⟨fun h => h.elim (fun h => by omega) fun h => h.2, fun h => .inr ⟨h8, h⟩⟩
   have hW : wrapG g.kind [] = .mk 1 ⟨#[]⟩ [] [] := by rw [h8]; rfl
   have ht0 : g.terms = [] := List.length_eq_zero_iff.1 (hS.top.ln0 (by omega))
   rw [topG_parts ht0 (by omega)]
   intro r6
   refine lIn (fun q : Nat × Option Nat × Nat × List Value × Mem => q.1 ≤ g.goals.length ∧ μ.Le q.2.2.2.2 ∧ Rows q.2.2.2.2 4 ((keptG g.kind ((g.goals.take q.1).map Gl.simp)).map Gl.d) q.2.2.2.1 ∧ ∀ y ∈ (g.goals.take q.1).map Gl.simp, ¬ (g.kind = 7 ∧ y.kind = 1))
    (fun (i, b1, c1, ys1, μ') => ⟨[(1, .loc 0 r1 0), (2, .loc 1 r2 0), (5, .val (.int .i64 1)), (6, .row 2 b1 ys1.length c1), (7, .val (.int .i64 (flatG g.kind (keptG g.kind ((g.goals.take i).map Gl.simp))).length)), (109, .val (.slice p.2.1 g.goals.length p.2.2)), (110, .val (.int .i64 g.goals.length)), (111, .val (.int .i64 i))],
     [(0, some (.cells r1 [.val (.int .i64 g.kind), .val (.string g.name), .val (.slice p.1.1 g.terms.length p.1.2), .val (.slice p.2.1 g.goals.length p.2.2)] 30)), (1, some (.cells r2 [.val (.int .i64 0), .val (.string ⟨#[]⟩), .val (.slice none 0 0), .val (.slice none 0 0)] 30)), (2, some (.row b1 c1 30 4 ys1))], 3, μ', Mem.nil⟩) (fun q => g.goals.length - q.1)
    (0, some r6, 0, [], μ) ⟨by simp, Mem.Le.refl _, .nil, by simp⟩ (fun (_, _, _, _, _) => ⟨rfl, rfl⟩) ⟨⟨rfl, rfl, rfl, rfl, rfl, rfl, rfl, rfl, trivial⟩, ⟨rfl, rfl, rfl, trivial⟩, rfl, rfl⟩ ?_
   rintro ⟨i, b1, c1, ys1, μ'⟩ ⟨hi, hle, hr1, hno⟩
   dsimp only at hi hle hr1 hno
   have hl1 := hr1.len
   have hys : ∀ y ∈ (g.goals.take i).map Gl.simp, y.Sh := fun y hy => by
    have w_ := List.mem_map.1 hy
    obtain ⟨x, hx, rfl⟩ := w_
    exact Gl.simp_sh x (hS.sub x (List.mem_of_mem_take hx))
   have hk1 := keptG_len g.kind ((g.goals.take i).map Gl.simp)
   have hk2 := flatG_len g.kind (ys := keptG g.kind ((g.goals.take i).map Gl.simp)) fun y hy => (hys y (mem_keptG hy)).top.gl
   simp only [List.length_map, List.length_take] at hl1 hk1
   refine ifd (fun hlt => ?_) (fun hlt => ?_)
   ·have w_ := aSo (l := g.goals) (i := i) (by omega)
    obtain ⟨x, hx⟩ := w_
    have hxS := hS.sub x (mAt hx)
    have w_ := Gl.elem (hgs.mono hle) hx
    obtain ⟨ad, p3, hel, hr⟩ := w_
    have htk : (g.goals.take (i + 1)).map Gl.simp = (g.goals.take i).map Gl.simp ++ [x.simp] := by
     rw [List.take_add_one, hx, Option.toList_some, List.map_append]; rfl
    refine eIn hel ?_
    intro r9
    refine cPl (ih x (mAt hx) hr hxS) fun v1 μ1 hle1 hR => ?_
    have hyS := Gl.simp_sh x hxS
    have w_ := Gl.invV hR
    obtain ⟨q, rfl⟩ := w_
    intro r10
    have hy8 := hyS.top.gl
    have hyin : x.simp ∈ g.goals.map Gl.simp := List.mem_map.2 ⟨x, mAt hx, rfl⟩
    generalize hy : x.simp = y at *
    refine ifd (fun h7' => ?_) (fun h7' => ?_)
    ·refine ifd (fun hy1 => ?_) (fun hy1 => ?_)
     ·have e1 : partsG g.kind (g.goals.map Gl.simp) = flagG false := by rw [partsG, if_pos ⟨h7', y, hyin, hy1⟩]
      rw [e1]
      refine cPl (truth_spec false) fun v2 μ2 hle2 hR2 => ?_
      have w_ := Gl.invV hR2
      obtain ⟨q3, rfl⟩ := w_
      exact rPl hR2
     ·have hny : ¬ (g.kind = 7 ∧ y.kind = 1) := fun h => hy1 h.2
      refine ifd (fun hyn => ?_) (fun hyn => ?_)
      ·have ek := kept_snoc g.kind ((g.goals.take i).map Gl.simp) y
       rw [if_pos ((hN y).2 hyn), List.append_nil, ← htk] at ek
       refine num64 (by omega) (by omega) ⟨(i + 1, b1, c1, ys1, μ1), ⟨by dsimp only; omega, hle.trans hle1, by dsimp only; rw [ek]; exact hr1.mono hle1, fun z hz => ?_⟩, by dsimp only; omega, ⟨⟨rfl, rfl, rfl, rfl, by dsimp only; rw [ek]; rfl, rfl, rfl, rfl, trivial⟩, ⟨rfl, rfl, rfl, trivial⟩, rfl, rfl⟩⟩
       rw [htk] at hz
       rcases List.mem_append.1 hz with hz | hz
       ·exact hno z hz
       ·rw [List.mem_singleton] at hz; subst hz; exact hny
      have ek := kept_snoc g.kind ((g.goals.take i).map Gl.simp) y
      rw [if_neg (fun h => hyn ((hN y).1 h)), ← htk] at ek
      have ef := flat_snoc g.kind (keptG g.kind ((g.goals.take i).map Gl.simp)) y
      rw [← ek] at ef
      intro r132
      refine gIn ?_ ?_ fun b1' c1' hb1' => ?_
      ·show (ys1.length + 1) * 72 ≤ _; omega
      ·exact Nat.le_trans (m := 100000000) (show ys1.length + 1 ≤ _ by omega) (by decide)
      have hr1' := (hr1.mono hle1).append (Rows.one hR (Gl.d_n _))
      have hnz : ∀ z ∈ (g.goals.take (i + 1)).map Gl.simp, ¬ (g.kind = 7 ∧ z.kind = 1) := fun z hz => by
       rw [htk] at hz
       rcases List.mem_append.1 hz with hz | hz
       ·exact hno z hz
       ·rw [List.mem_singleton] at hz; subst hz; exact hny
      refine ifd (fun hyk => ?_) (fun hyk => ?_)
      ·rw [if_pos hyk] at ef
       have el : (((flatG g.kind (keptG g.kind ((g.goals.take (i + 1)).map Gl.simp))).length : Nat) : Int) = ((flatG g.kind (keptG g.kind ((g.goals.take i).map Gl.simp))).length : Int) + (y.goals.length : Int) := by
        rw [ef, List.length_append]; omega
       refine num64 (by omega) (by omega) ?_
       refine num64 (by omega) (by omega) ⟨(i + 1, b1', c1', _, μ1), ⟨by dsimp only; omega, hle.trans hle1, by dsimp only; rw [ek, List.map_append]; exact hr1', hnz⟩, by dsimp only; omega, ⟨⟨rfl, rfl, rfl, rfl, by dsimp only; rw [el]; rfl, rfl, rfl, rfl, trivial⟩, ⟨rfl, rfl, rfl, trivial⟩, rfl, rfl⟩⟩
      ·rw [if_neg hyk] at ef
       have el : (((flatG g.kind (keptG g.kind ((g.goals.take (i + 1)).map Gl.simp))).length : Nat) : Int) = ((flatG g.kind (keptG g.kind ((g.goals.take i).map Gl.simp))).length : Int) + 1 := by
        rw [ef, List.length_append, List.length_singleton]; omega
       refine num64 (by omega) (by omega) ?_
       refine num64 (by omega) (by omega) ⟨(i + 1, b1', c1', _, μ1), ⟨by dsimp only; omega, hle.trans hle1, by dsimp only; rw [ek, List.map_append]; exact hr1', hnz⟩, by dsimp only; omega, ⟨⟨rfl, rfl, rfl, rfl, by dsimp only; rw [el]; rfl, rfl, rfl, rfl, trivial⟩, ⟨rfl, rfl, rfl, trivial⟩, rfl, rfl⟩⟩
    ·have hny : ¬ (g.kind = 7 ∧ y.kind = 1) := fun h => h7' h.1
     refine ifd (fun hyn => ?_) (fun hyn => ?_)
     ·have ek := kept_snoc g.kind ((g.goals.take i).map Gl.simp) y
      rw [if_pos ((hN y).2 hyn), List.append_nil, ← htk] at ek
      refine num64 (by omega) (by omega) ⟨(i + 1, b1, c1, ys1, μ1), ⟨by dsimp only; omega, hle.trans hle1, by dsimp only; rw [ek]; exact hr1.mono hle1, fun z hz => ?_⟩, by dsimp only; omega, ⟨⟨rfl, rfl, rfl, rfl, by dsimp only; rw [ek]; rfl, rfl, rfl, rfl, trivial⟩, ⟨rfl, rfl, rfl, trivial⟩, rfl, rfl⟩⟩
      rw [htk] at hz
      rcases List.mem_append.1 hz with hz | hz
      ·exact hno z hz
      ·rw [List.mem_singleton] at hz; subst hz; exact hny
     have ek := kept_snoc g.kind ((g.goals.take i).map Gl.simp) y
     rw [if_neg (fun h => hyn ((hN y).1 h)), ← htk] at ek
     have ef := flat_snoc g.kind (keptG g.kind ((g.goals.take i).map Gl.simp)) y
     rw [← ek] at ef
     intro r132
     refine gIn ?_ ?_ fun b1' c1' hb1' => ?_
     ·show (ys1.length + 1) * 72 ≤ _; omega
     ·exact Nat.le_trans (m := 100000000) (show ys1.length + 1 ≤ _ by omega) (by decide)
     have hr1' := (hr1.mono hle1).append (Rows.one hR (Gl.d_n _))
     have hnz : ∀ z ∈ (g.goals.take (i + 1)).map Gl.simp, ¬ (g.kind = 7 ∧ z.kind = 1) := fun z hz => by
      rw [htk] at hz
      rcases List.mem_append.1 hz with hz | hz
      ·exact hno z hz
      ·rw [List.mem_singleton] at hz; subst hz; exact hny
     refine ifd (fun hyk => ?_) (fun hyk => ?_)
     ·rw [if_pos hyk] at ef
      have el : (((flatG g.kind (keptG g.kind ((g.goals.take (i + 1)).map Gl.simp))).length : Nat) : Int) = ((flatG g.kind (keptG g.kind ((g.goals.take i).map Gl.simp))).length : Int) + (y.goals.length : Int) := by
       rw [ef, List.length_append]; omega
      refine num64 (by omega) (by omega) ?_
      refine num64 (by omega) (by omega) ⟨(i + 1, b1', c1', _, μ1), ⟨by dsimp only; omega, hle.trans hle1, by dsimp only; rw [ek, List.map_append]; exact hr1', hnz⟩, by dsimp only; omega, ⟨⟨rfl, rfl, rfl, rfl, by dsimp only; rw [el]; rfl, rfl, rfl, rfl, trivial⟩, ⟨rfl, rfl, rfl, trivial⟩, rfl, rfl⟩⟩
     ·rw [if_neg hyk] at ef
      have el : (((flatG g.kind (keptG g.kind ((g.goals.take (i + 1)).map Gl.simp))).length : Nat) : Int) = ((flatG g.kind (keptG g.kind ((g.goals.take i).map Gl.simp))).length : Int) + 1 := by
       rw [ef, List.length_append, List.length_singleton]; omega
      refine num64 (by omega) (by omega) ?_
      refine num64 (by omega) (by omega) ⟨(i + 1, b1', c1', _, μ1), ⟨by dsimp only; omega, hle.trans hle1, by dsimp only; rw [ek, List.map_append]; exact hr1', hnz⟩, by dsimp only; omega, ⟨⟨rfl, rfl, rfl, rfl, by dsimp only; rw [el]; rfl, rfl, rfl, rfl, trivial⟩, ⟨rfl, rfl, rfl, trivial⟩, rfl, rfl⟩⟩
   ·obtain rfl : i = g.goals.length := by omega
    rw [List.take_length] at hr1 hno hys hk2 ⊢
    have e1 : partsG g.kind (g.goals.map Gl.simp) = wrapG g.kind (selG g.kind (keptG g.kind (g.goals.map Gl.simp))) := by
     rw [partsG, if_neg fun h => ?_]
     obtain ⟨h7, y, hy, hy1⟩ := h
     exact hno y hy ⟨h7, hy1⟩
    have hf1 := hr1.len
    rw [List.length_map] at hf1
    have hkept : ∀ y ∈ keptG g.kind (g.goals.map Gl.simp), y.Sh := fun y hy => hys y (mem_keptG hy)
    rw [e1]
    have hkl := keptG_len g.kind (g.goals.map Gl.simp)
    rw [List.length_map] at hkl
    refine ifd (fun h8 => ?_) (fun h8 => ?_)
    ·have e2 : selG g.kind (keptG g.kind (g.goals.map Gl.simp)) = flatG g.kind (keptG g.kind (g.goals.map Gl.simp)) := by
      rw [selG, if_pos (by omega)]
     rw [e2]
     generalize keptG g.kind (g.goals.map Gl.simp) = L at *
     intro r149
     refine lIn (fun q : Nat × Option Nat × Nat × List Value => q.1 ≤ L.length ∧ Rows μ' 4 ((flatG g.kind (L.take q.1)).map Gl.d) q.2.2.2)
      (fun (j, b2, c2, ys2) => ⟨[(1, .loc 0 r1 0), (2, .loc 1 r2 0), (5, .val (.int .i64 1)), (11, .row 3 b2 ys2.length c2), (150, .row 2 b1 ys1.length c1), (151, .val (.int .i64 ys1.length)), (152, .val (.int .i64 j))],
       [(0, some (.cells r1 [.val (.int .i64 g.kind), .val (.string g.name), .val (.slice p.1.1 g.terms.length p.1.2), .val (.slice p.2.1 g.goals.length p.2.2)] 30)), (1, some (.cells r2 [.val (.int .i64 0), .val (.string ⟨#[]⟩), .val (.slice none 0 0), .val (.slice none 0 0)] 30)), (2, some (.row b1 c1 30 4 ys1)), (3, some (.row b2 c2 30 4 ys2))], 4, μ', Mem.nil⟩) (fun q => L.length - q.1)
      (0, some r149, 0, []) ⟨by simp, .nil⟩ (fun (_, _, _, _) => ⟨rfl, rfl⟩) ⟨⟨rfl, rfl, rfl, rfl, rfl, rfl, rfl, trivial⟩, ⟨rfl, rfl, rfl, rfl, trivial⟩, rfl, rfl⟩ ?_
     rintro ⟨j, b2, c2, ys2⟩ ⟨hj, hr2⟩
     dsimp only at hj hr2
     have hf2 := hr2.len
     rw [List.length_map] at hf2
     have hf3 := flatG_len g.kind (ys := L.take j) fun y hy => (hkept y (List.mem_of_mem_take hy)).top.gl
     rw [List.length_take] at hf3
     refine ifd (fun hlt2 => ?_) (fun hlt2 => ?_)
     ·have w_ := aSo (l := L) (i := j) (by omega)
      obtain ⟨y, hyj⟩ := w_
      have w_ := Rows.val' hr1 (i := j) (d := y.d) (by rw [List.getElem?_map, hyj]; rfl)
      obtain ⟨w, hw, hyr⟩ := w_
      have w_ := Gl.reps hyr
      obtain ⟨q, rfl, hA, hRt, hRg⟩ := w_
      have w_ := Rep.srcAll hRg
      obtain ⟨us, hus, hul, husrc⟩ := w_
      have hy8 := (hkept y (mAt hyj)).top.gl
      have ef := flat_snoc g.kind (L.take j) y
      have htk : L.take (j + 1) = L.take j ++ [y] := by rw [List.take_add_one, hyj]; rfl
      rw [← htk] at ef
      refine rel_intro j rfl (by omega) (get_intro _ hw ?_)
      intro r13
      refine ifd (fun hyk => ?_) (fun hyk => ?_)
      ·rw [if_pos hyk] at ef
       refine src_intro _ husrc ?_
       refine gIn ?_ ?_ fun b2' c2' hb2' => ?_
       ·show (ys2.length + us.length) * 72 ≤ _; omega
       ·exact Nat.le_trans (m := 100000000) (show ys2.length + us.length ≤ _ by omega) (by decide)
       have hr2' := hr2.append hus
       refine num64 (by omega) (by omega) ⟨(j + 1, b2', c2', _), ⟨by dsimp only; omega, by dsimp only; rw [ef, List.map_append]; exact hr2'⟩, by dsimp only; omega, ⟨⟨rfl, rfl, rfl, rfl, rfl, rfl, rfl, trivial⟩, ⟨rfl, rfl, rfl, rfl, trivial⟩, rfl, rfl⟩⟩
      ·rw [if_neg hyk] at ef
       intro r167
       refine gIn ?_ ?_ fun b2' c2' hb2' => ?_
       ·show (ys2.length + 1) * 72 ≤ _; omega
       ·exact Nat.le_trans (m := 100000000) (show ys2.length + 1 ≤ _ by omega) (by decide)
       have hr2' := hr2.append (Rows.one hyr (Gl.d_n _))
       refine num64 (by omega) (by omega) ⟨(j + 1, b2', c2', _), ⟨by dsimp only; omega, by dsimp only; rw [ef, List.map_append]; exact hr2'⟩, by dsimp only; omega, ⟨⟨rfl, rfl, rfl, rfl, rfl, rfl, rfl, trivial⟩, ⟨rfl, rfl, rfl, rfl, trivial⟩, rfl, rfl⟩⟩
     ·obtain rfl : j = L.length := by omega
      rw [List.take_length] at hr2 hf2
      generalize flatG g.kind L = L2 at *
      refine ifd (fun h0 => ?_) (fun h0 => ?_)
      ·have hL : L2 = [] := List.length_eq_zero_iff.1 (by omega)
       rw [hL, hW]
       exact rPl (mkG_rep (k := 1) (l := []) (Rep.nilSl 4))
      refine ifd (fun h1 => ?_) (fun h1 => ?_)
      ·have w_ := aSo (l := L2) (i := 0) (by omega)
       obtain ⟨x, hx⟩ := w_
       have w_ := Rows.val' hr2 (i := 0) (d := x.d) (by rw [List.getElem?_map, hx]; rfl)
       obtain ⟨w, hw, hxr⟩ := w_
       have w_ := Gl.invV hxr
       obtain ⟨q, rfl⟩ := w_
       have hL : L2 = [x] := by
        match L2, hx, (show (L2).length = 1 by omega) with
        | [y], hx, _ => cases hx; rfl
       rw [wrapG_one hL]
       refine rel_intro 0 rfl (by omega) (get_intro _ hw ?_)
       exact rPl hxr
      ·have hL := wrapG_two (k := g.kind) (l := L2) (by omega) (by omega)
       rw [hL]
       refine rFz [3] fun μ2 hle2 hno2 hrow => .inl ?_
       exact mkG_rep (Rows.sl hrow (Rows.mono hle2 hr2) (Nat.le_trans (m := 100000000) (by omega) (by decide)))
    ·have e2 : selG g.kind (keptG g.kind (g.goals.map Gl.simp)) = keptG g.kind (g.goals.map Gl.simp) := by
      rw [selG, if_neg (by omega)]
     rw [e2]
     generalize keptG g.kind (g.goals.map Gl.simp) = L at *
     refine ifd (fun h0 => ?_) (fun h0 => ?_)
     ·have hL : L = [] := List.length_eq_zero_iff.1 (by omega)
      rw [hL, hW]
      exact rPl (mkG_rep (k := 1) (l := []) (Rep.nilSl 4))
     refine ifd (fun h1 => ?_) (fun h1 => ?_)
     ·have w_ := aSo (l := L) (i := 0) (by omega)
      obtain ⟨x, hx⟩ := w_
      have w_ := Rows.val' hr1 (i := 0) (d := x.d) (by rw [List.getElem?_map, hx]; rfl)
      obtain ⟨w, hw, hxr⟩ := w_
      have w_ := Gl.invV hxr
      obtain ⟨q, rfl⟩ := w_
      have hL : L = [x] := by
       match L, hx, (show (L).length = 1 by omega) with
       | [y], hx, _ => cases hx; rfl
      rw [wrapG_one hL]
      refine rel_intro 0 rfl (by omega) (get_intro _ hw ?_)
      exact rPl hxr
     ·have hL := wrapG_two (k := g.kind) (l := L) (by omega) (by omega)
      rw [hL]
      refine rFz [2] fun μ2 hle2 hno2 hrow => .inl ?_
      exact mkG_rep (Rows.sl hrow (Rows.mono hle2 hr1) (Nat.le_trans (m := 100000000) (by omega) (by decide)))
  ·rw [topG_rest (by have := hS.top.k0; omega)]
   refine cPl (copyGoal_spec g (hv.mono hle1) hS) fun v2 μ2 hle2 hR2 => ?_
   have w_ := Gl.invV hR2.rep
   obtain ⟨q3, rfl⟩ := w_
   exact rPl hR2.rep
theorem flag0_own : OwnV (Gl.mk 0 ⟨#[]⟩ [] []).d Mem.nil (.agg #[.int .i64 0, .string ⟨#[]⟩, .slice none 0 0, .slice none 0 0]) := by
 rw [Gl.d_eq]
 exact ⟨_, rfl, OwnS.int (OwnS.str (OwnS.cons (c1 := [_]) (Parts.nil_left _) (Own.nilSl 4) (OwnS.last (Own.nilSl 4))))⟩
theorem impl_SimplifyGoal_spec {g : Gl} {v : Value} (hv : RepV μ g.d v) : Spec Tryz.prog 12 [v] μ fun v μ' => Fresh μ μ' (simpO g).d v := by
 have w_ := Gl.invV hv
 obtain ⟨p, rfl⟩ := w_
 refine Spec.mk Tryz.func12 (by kernel_rfl) ?_
 intro r1 r2
 refine cGv (impl_GoalOk_spec g hv) ?_
 refine ifnd (fun h => ?_) (fun h => ?_)
 ·rw [simpO, if_neg h]; exact rPl ⟨Mem.nil, flag0_own, (fun _ _ h => nomatch h), fun _ h => absurd rfl h⟩
 ·rw [simpO, if_pos h]
  refine cPl (simplify_spec g hv h.1) fun v2 μ2 hle2 hR2 => ?_
  refine cPl (copyGoal_spec _ hR2 (Gl.simp_sh g h.1)) fun v3 μ3 hle3 hR3 => ?_
  have w_ := Gl.invV hR3.rep
  obtain ⟨q3, rfl⟩ := w_
  exact rPl (hR3.mono hle2 (Mem.Le.refl _))
end
end Go.Vx
