import Derived.Test.YtmhmbmogodofeaaCSh
set_option autoImplicit false
set_option linter.unusedVariables false
set_option linter.unusedSimpArgs false
set_option maxRecDepth 100000
namespace Go.Proofs.Ytmhmbmogodofeaa.S
open Go.FS Go.RowKit
attribute [local congr] bind_cg cond_cg gd_cg
section cut
variable {G : Nat → Option (Array Value)} {P : Program}
theorem cutL_none {s s' : St (FG G)} : ∀ (l : List Value) (fl : List (Option Nat)) (st : St (FG G)), (∀ x ∈ fl, x = none) → (∀ c ∈ l, Bel s.n (stripN 8 s.n c)) → cutL s s' fl l st = some (l.map (stripN 8 s.n), st)
  | [], fl, st, _, _ => rfl
  | c :: l, fl, st, hf, hb => by
    have e : fl.headD none = none := by cases fl with
      | nil => rfl
      | cons a _ => exact hf a (List.mem_cons_self ..)
    unfold cutL
    rw [e]
    have e2 : cutC s s' st none c = some (stripN 8 s.n c, st) := by
      unfold cutC
      simp only
      rw [if_pos (hb c (List.mem_cons_self ..))]
    rw [e2]
    show ((cutL s s' fl.tail l st).map _) = _
    rw [cutL_none l fl.tail st (fun x hx => hf x (List.mem_of_mem_tail hx)) fun x hx => hb x (List.mem_cons_of_mem _ hx)]
    rfl
theorem cut_tup {s s' s2 : St (FG G)} {a : Array Value} {l : List Value} (hf : frzL (frz2 s.n) a.toList s' = (l, s2)) (h : Ext s s2) (hb : ∀ c ∈ l, Bel s.n (stripN 8 s.n c)) : cutJ [none] s [(.tuple a, s')] = some [(.tuple (l.map (stripN 8 s.n)).toArray, s)] := by
  have hc : s.n ≤ s2.n ∧ (∀ i, i < s.n → (FG G).get s2.h i = (FG G).get s.h i ∨ BelO s.n ((FG G).get s2.h i)) ∧ (([none] : List (Option Nat)).filter Option.isSome).length ≤ 1 := ⟨h.1, fun i hi => .inl (h.2 i hi), by decide⟩
  have e0 : frzT s.n s' (.tuple a) = (.tuple l.toArray, s2) := by
    show (Value.tuple (frzL (frz2 s.n) a.toList s').1.toArray, (frzL (frz2 s.n) a.toList s').2) = _
    rw [hf]
  have e : cutD [none] s (.tuple a) s' = some (.tuple (l.map (stripN 8 s.n)).toArray, s) := by
    unfold cutD
    rw [e0]
    show cutD0 [none] s (.tuple l.toArray) s2 = _
    unfold cutD0
    rw [if_pos hc]
    show ((cutL s s2 [none] l.toArray.toList (mrg s s2)).map _) = _
    rw [mrg_same h, cutL_none l [none] s (fun x hx => by simpa using hx) hb]
    rfl
  unfold cutJ
  simp only [List.map_cons, List.map_nil, e, Option.map_some, joinO, List.append_nil, merge_one]
theorem cutT_call {A : Ann (FG G)} {n : Nat} {f : FuncId} {fn : Func} (hI : A.i f = none) (hc : A.cut f = some [none]) (hf : P.funcs[f]? = some fn) {args : List Value} {s : St (FG G)} {l : List Value} (hb : ∀ c ∈ l, Bel s.n (stripN 8 s.n c))
    (h : One (bodyD P (A.row f) (callD P A n) A.N f fn args s) fun v' s' => ∃ a, v' = .tuple a ∧ ∃ s2, frzL (frz2 s.n) a.toList s' = (l, s2) ∧ Ext s s2) : callD P A (n + 1) (.fn f) args s = some [(.tuple (l.map (stripN 8 s.n)).toArray, s)] := by
  obtain ⟨v', s', e, a, rfl, s2, h1, h2⟩ := h
  rw [call_cut hI hc hf, e, bindS, cut_tup h1 h2 hb]
end cut
theorem lab_bel (n : Nat) (x : Lab) : ∀ v ∈ lab x, Bel n v := fun v hv => by
  simp only [lab, List.mem_cons, List.not_mem_nil, or_false] at hv
  rcases hv with rfl | rfl <;> exact .string _
theorem strip_labs (n m : Nat) (l : List Lab) (hm : m < 3) : stripN 8 n (sl lab m l) = sl lab m l := by
  have := strip_nest (k := 6) (n := n) (enc := lab) (f := id) (fun x => rfl) m l
  rw [List.map_id] at this
  rw [this]
  have : Nat.blt m (n + 3) = true := by rw [blt_dec, decide_eq_true]; omega
  rw [this]; rfl
theorem chunk_labs : ∀ (l : List Lab), chunkL 2 l.length (rowL l) = (l.map lab).map fun e => Value.agg e.toArray := fun l => by
  refine List.ext_getElem (by simp [chunkL]) fun i h1 h2 => ?_
  simp only [chunkL_len] at h1
  have := take_one (l := l) h1
  simp only [chunkL, List.getElem_map, List.getElem_range]
  rw [this]
theorem frz_rl {s : SH} {lo id q c : Nat} {R : List Lab} (hid : lo ≤ id) (hc : c / 2 = 2) (hq : q ≤ R.length) (h : LR id s R) : frz1 lo s (rl id q c) = (sl lab 0 (R.take q), delD s id) := by
  unfold frz1
  simp only
  rw [if_pos ⟨hid, by omega⟩, hc, take_rl h hq]
  simp only
  rw [if_pos (rowL_one _)]
  congr 1
  have hl : q = (R.take q).length := by rw [List.length_take]; omega
  show fzV 0 (chunkL 2 q (rowL (R.take q))).toArray = _
  have : chunkL 2 q (rowL (R.take q)) = chunkL 2 (R.take q).length (rowL (R.take q)) := by rw [← hl]
  rw [this, chunk_labs]; rfl
theorem bop_seqB (t : TypeId) (x y : ByteArray) (ht : t = 9) : bopD Try.prog .eql t (.string x) (.string y) = some (.bool (x.toList == y.toList)) := by
  subst ht; rfl

/-- Sort: what stays of the sorted ones, if it may be. -/
theorem c19 {n : Nat} {s : SH} {v : Value} {l : List Lab} (h : LbIn s v l) (hl : l.length ≤ 40) (Q : List Lab → Prop)
    (hsort : ∀ (id c : Nat) (s1 : SH), LR id s1 l → ∃ s' R, callD Try.prog AB (n + 51) (.fn 65) [rl id l.length c, cmpF] s1 = some [(.tuple #[], s')] ∧ LR id s' R ∧ R.length = l.length ∧ AllS R ∧ Q R ∧ Upd id s1 s') :
    ∃ R, Q R ∧ R.length = l.length ∧ callD Try.prog AB (n + 52) (.fn 19) [v] s = some [(resL (kept R R.length), s)] := by
  obtain ⟨w, s1, e1, ⟨id, c, rfl, r1, r2, r3, r4⟩, k1⟩ := c64 (n := n + 50) h (by omega)
  simp only [Nat.add_assoc, Nat.reduceAdd] at e1
  obtain ⟨s2, R, e2, t1, t2, t3, t4, t5⟩ := hsort id c s1 r4
  refine ⟨R, t4, t2, ?_⟩
  have hkl := kept_len R R.length
  have hka := kept_all t3 R.length (Nat.le_refl _)
  have hsm2 : Sm s.n s s2 := k1.trans ⟨by have := t5.1; omega, fun j hj => t5.2 j (by omega)⟩
  have main : One (bodyD Try.prog (AB.row 19) (callD Try.prog AB (n + 51)) AB.N 19 Try.f19 [v] s) fun v' s' => ∃ a, v' = .tuple a ∧ ∃ A B s2, resL (kept R R.length) = .tuple #[A, B] ∧ (stripN 8 s.n A = A ∧ Bel s.n A) ∧ (∃ z, B = .int .i64 z) ∧ frzL (frz2 s.n) a.toList s' = ([A, B], s2) ∧ Ext s s2 := by
    show One (bodyD Try.prog false _ _ 19 Try.f19 _ s) _
    rw [f19_r]
    have hid2 : id < s2.n := by have := t5.1; omega
    have hlen : lenOfD Try.prog s2 23 (rl id l.length c) = some (.int .i64 (l.length : Int)) := lenr s2
    simp only [f19, o_bool, o_alloc, o_box, o_build, o_buildSlice, o_load, o_store, o_nilCheck, o_bop, o_uop, o_conv, o_slc, o_fieldAddr, o_field, o_indexAddr, o_index, o_extract, o_lookup, o_mapUpdate, o_makeSlice, o_clear, o_makeMap, o_mapEntry, o_entryStore, o_delete, o_len, o_append, o_min, o_max, o_tgt, bindS, many1, jnE, boolS, gdB, fst', snd', e1, e2, hlen]
    have hkR : l.length = R.length := t2.symm
    rw [hkR]
    have hlenN : ∀ s : SH, lenOfD Try.prog s 23 (rl id R.length c) = some (.int .i64 (R.length : Int)) := fun s => lenr s
    refine list_one R (fun i (x : Value × Value × Value) (s' : SH) => ∃ R1, x.1 = .int .i64 ((kept R i).length : Int) ∧ x.2.2 = .int .i64 (i : Int) ∧ LR id s' R1 ∧ R1.length = R.length ∧ R1.take (kept R i).length = kept R i ∧ R1.drop i = R.drop i ∧ Sm s.n s s' ∧ id < s'.n) ?_ ?_ ⟨R, rfl, rfl, t1, rfl, rfl, rfl, hsm2, hid2⟩ (by show R.length < 2 ^ 64; omega)
    · rintro i hi ⟨x1, x2, x3⟩ s' ⟨R1, f1, f2, g1, g2, g3, g4, hsm, hid⟩ nx hnx
      simp only at f1 f2
      subst f1 f2
      have hlt : (i : Int) < R.length := by omega
      have hki := kept_len R i
      have hw : IntKind.i64.wrap ((i : Int) + 1) = ((i + 1 : Nat) : Int) := by rw [wrap_i64 (by omega) (by omega)]; rfl
      have hwq : IntKind.i64.wrap (((kept R i).length : Int) + 1) = (((kept R i).length + 1 : Nat) : Int) := by rw [wrap_i64 (by omega) (by omega)]; rfl
      have hgr : ∀ j (h1 : j < R1.length) (h2 : j < R.length), i ≤ j → R1[j] = R[j] := fun j h1 h2 hij => by
        have := congrArg (fun z : List Lab => z[j - i]?) g4
        simp only [List.getElem?_drop] at this
        rw [show i + (j - i) = j from by omega, List.getElem?_eq_getElem h1, List.getElem?_eq_getElem h2] at this
        injection this
      have hi1 : i < R1.length := by omega
      have eRi := hgr i hi1 hi (Nat.le_refl _)
      have ld0 := ldr g1 hi1
      rw [eRi] at ld0
      have hst : storeD Try.prog (newD s' (.row (lab lz))) 106 (.pointer (some ⟨s'.n, 0, none⟩)) (.agg (lab R[i]).toArray) = some (putD (newD s' (.row (lab lz))) s'.n (.row (lab R[i]))) := st106 (get_new rfl)
      have ha : HP.get (putD (newD s' (.row (lab lz))) s'.n (.row (lab R[i]))).h s'.n = some (.row (lab R[i])) := get_put_same _
      have hsm2 : Sm s.n s (putD (newD s' (.row (lab lz))) s'.n (.row (lab R[i]))) := (hsm.new (by have := hsm.1; omega) _).put (by have := hsm.1; omega) _
      have hn2 : (putD (newD s' (.row (lab lz))) s'.n (.row (lab R[i]))).n = s'.n + 1 := rfl
      have g1' : LR id (putD (newD s' (.row (lab lz))) s'.n (.row (lab R[i]))) R1 := by
        unfold LR; rw [get_put_other (by omega), get_old (by omega)]; exact g1
      have hkeep : keepAt R i = !((decide (i + 1 < R.length) && ((R.getD (i + 1) lz).1.toList == R[i].1.toList)) || (R[i].2.toList == ByteArray.toList ⟨#[]⟩)) := by unfold keepAt; rw [getD_lt hi]
      have hk1 : kept R (i + 1) = if keepAt R i then kept R i ++ [R[i]] else kept R i := by
        show (if keepAt R i then kept R i ++ [R.getD i lz] else kept R i) = _
        rw [getD_lt hi]
      have hdr : R1.drop (i + 1) = R.drop (i + 1) := by rw [← List.drop_drop, ← List.drop_drop, g4]
      -- what goes on
      have hixn := ix23 (id := id) (n := R.length) (c := c) (i := i) (k := .i64) hi
      simp only [f19_l0, o_bool, o_alloc, o_box, o_build, o_buildSlice, o_load, o_store, o_nilCheck, o_bop, o_uop, o_conv, o_slc, o_fieldAddr, o_field, o_indexAddr, o_index, o_extract, o_len, o_append, o_tgt, bindS, many1, boolS, gdB, fst', snd', bop_lss, hlt, decide_true, condT, hixn, ld0, al106, hst]
      generalize putD (newD s' (.row (lab lz))) s'.n (.row (lab R[i])) = s3 at ha hsm2 hn2 g1' 
      refine jn_rule (fun f => ∀ bv : Bool, bv = !keepAt R i → One (f (.bool bv)) fun v' s' => ∃ a, v' = .tuple a ∧ ∃ A B s2, resL (kept R R.length) = .tuple #[A, B] ∧ (stripN 8 s.n A = A ∧ Bel s.n A) ∧ (∃ z, B = .int .i64 z) ∧ frzL (frz2 s.n) a.toList s' = ([A, B], s2) ∧ Ext s s2) (fun r => One r fun v' s' => ∃ a, v' = .tuple a ∧ ∃ A B s2, resL (kept R R.length) = .tuple #[A, B] ∧ (stripN 8 s.n A = A ∧ Bel s.n A) ∧ (∃ z, B = .int .i64 z) ∧ frzL (frz2 s.n) a.toList s' = ([A, B], s2) ∧ Ext s s2) ?_ ?_
      · intro bv hbv
        cases hkp : keepAt R i with
        | true =>
          rw [hkp] at hbv hk1
          subst hbv
          rw [if_pos rfl] at hk1
          have hst2 := str_ R[i] g1' (show (kept R i).length < R1.length by omega)
          simp only [o_bool, o_alloc, o_box, o_build, o_buildSlice, o_load, o_store, o_nilCheck, o_bop, o_uop, o_conv, o_slc, o_fieldAddr, o_field, o_indexAddr, o_index, o_extract, o_len, o_append, o_tgt, bindS, many1, boolS, gdB, fst', snd', Bool.not_true, condF, ld106 ha, ix23 (show (kept R i).length < R.length by omega), hst2, bop_add, hw, hwq]
          refine hnx (_, _, _) _ ⟨R1.set (kept R i).length R[i], by rw [hk1, List.length_append]; rfl, rfl, get_put_same _, by rw [List.length_set, g2], ?_, ?_, hsm2.put (by omega) _, by rw [putD_n]; omega⟩
          · rw [hk1, List.length_append, List.length_singleton, List.set_eq_take_append_cons_drop, if_pos (by omega), g3]
            rw [List.take_append, List.take_of_length_le (by omega), show (kept R i).length + 1 - (kept R i).length = 1 from by omega]
            rfl
          · rw [List.drop_set_of_lt (by omega), hdr]
        | false =>
          rw [hkp] at hbv hk1
          subst hbv
          rw [if_neg (by simp)] at hk1
          simp only [o_bool, o_alloc, o_box, o_build, o_buildSlice, o_load, o_store, o_nilCheck, o_bop, o_uop, o_conv, o_slc, o_fieldAddr, o_field, o_indexAddr, o_index, o_extract, o_len, o_append, o_tgt, bindS, many1, boolS, gdB, fst', snd', Bool.not_false, condT, bop_add, hw]
          exact hnx (_, _, _) _ ⟨R1, by rw [hk1], rfl, g1', g2, by rw [hk1]; exact g3, hdr, hsm2, by omega⟩
      · intro f hf
        by_cases hi2 : i + 1 < R.length
        · have hi2' : ((i + 1 : Nat) : Int) < (R.length : Int) := by omega
          have ldn := ldr0 g1' (show i + 1 < R1.length by omega)
          rw [hgr (i + 1) (by omega) hi2 (by omega)] at ldn
          rw [decide_eq_true hi2, Bool.true_and, getD_lt hi2] at hkeep
          have ixn1 := ix23 (id := id) (n := R.length) (c := c) (i := i + 1) (k := .i64) hi2
          simp only [bop_add, hw, bindS, hlenN, bop_lss, hi2', decide_true, gdB, condT, ixn1, fldr0, ldn, fld106_0, lds0 ha, bop_seqB 9 _ _ rfl]
          cases heq : (R[i + 1].1.toList == R[i].1.toList) with
          | true =>
            rw [heq, Bool.true_or, Bool.not_true] at hkeep
            simp only [condT]
            exact hf true (by rw [hkeep]; rfl)
          | false =>
            rw [heq, Bool.false_or] at hkeep
            simp only [condF, fld106_1, lds1 ha, bindS, bop_seqB 9 _ _ rfl]
            exact hf _ (by rw [hkeep, Bool.not_not])
        · have hi2' : ¬ ((i + 1 : Nat) : Int) < (R.length : Int) := by omega
          rw [decide_eq_false hi2, Bool.false_and, Bool.false_or] at hkeep
          simp only [bop_add, hw, bindS, hlenN, bop_lss, hi2', decide_false, gdB, condF, fld106_1, lds1 ha, bop_seqB 9 _ _ rfl]
          exact hf _ (by rw [hkeep, Bool.not_not])
    · rintro ⟨x1, x2, x3⟩ s' ⟨R1, f1, f2, g1, g2, g3, g4, hsm, hid⟩ nx
      simp only at f1 f2
      subst f1 f2
      have hnlt : ¬ ((R.length : Int) < R.length) := by omega
      obtain ⟨c', hc', es⟩ := slc_rl (k := .i64) s' (id := id) (n := R.length) (c := c) r3 hkl
      have h22 := c22r (n := n + 48) (c := c') hid g1 (show (kept R R.length).length ≤ R1.length by omega) (kept R R.length) g3.symm ⟨by omega, hka⟩
      simp only [Nat.add_assoc, Nat.reduceAdd] at h22
      have hfz := frz_rl (lo := s.n) (c := c') r1 hc' (show (kept R R.length).length ≤ R1.length by omega) g1
      rw [g3] at hfz
      by_cases hok : okL (kept R R.length) = true
      · rw [if_pos hok] at h22
        simp only [f19_l0, o_bool, o_alloc, o_box, o_build, o_buildSlice, o_load, o_store, o_nilCheck, o_bop, o_uop, o_conv, o_slc, o_fieldAddr, o_field, o_indexAddr, o_index, o_extract, o_lookup, o_mapUpdate, o_makeSlice, o_clear, o_makeMap, o_mapEntry, o_entryStore, o_delete, o_len, o_append, o_min, o_max, o_tgt, bindS, many1, jnE, boolS, gdB, fst', snd', bop_lss, hnlt, decide_false, condF, beq_yes, condT, es, h22, b_neq, decide_true, Bool.not_true]
        refine One.ret ⟨_, rfl, sl lab 0 (kept R R.length), .int .i64 0, delD s' id, by unfold resL; rw [if_pos hok], ⟨strip_labs _ _ _ (by omega), bel_slm (by omega) fun x _ => lab_bel _ x⟩, ⟨_, rfl⟩, ?_, ⟨hsm.1, fun j hj => by rw [get_del (by omega), hsm.2 j hj]⟩⟩
        show ((frz1 s.n s' (rl id (kept R R.length).length c')).1 :: [Value.int .i64 0], (frz1 s.n s' (rl id (kept R R.length).length c')).2) = _
        rw [hfz]
      · rw [if_neg hok] at h22
        simp only [f19_l0, o_bool, o_alloc, o_box, o_build, o_buildSlice, o_load, o_store, o_nilCheck, o_bop, o_uop, o_conv, o_slc, o_fieldAddr, o_field, o_indexAddr, o_index, o_extract, o_lookup, o_mapUpdate, o_makeSlice, o_clear, o_makeMap, o_mapEntry, o_entryStore, o_delete, o_len, o_append, o_min, o_max, o_tgt, bindS, many1, jnE, boolS, gdB, fst', snd', bop_lss, hnlt, decide_false, condF, beq_yes, condT, es, h22, b_neq, show ¬ ((40 : Int) = 0) from by decide, Bool.not_false]
        exact One.ret ⟨_, rfl, sl lab 2 [], .int .i64 40, s', by unfold resL; rw [if_neg hok], ⟨strip_labs _ _ _ (by omega), bel_slm (by omega) fun x _ => lab_bel _ x⟩, ⟨_, rfl⟩, rfl, hsm⟩
  obtain ⟨v', s', e, a, rfl, A, B, s5, hres, ⟨hA1, hA2⟩, ⟨z, rfl⟩, hf, hx⟩ := main
  have hc := cutT_call (A := AB) (n := n + 51) (f := 19) (fn := Try.f19) (args := [v]) (s := s) (l := [A, .int .i64 z]) rfl rfl (by kernel_rfl) (fun c hc => by
    simp only [List.mem_cons, List.not_mem_nil, or_false] at hc
    rcases hc with rfl | rfl
    · rw [hA1]; exact hA2
    · exact .int _ _) ⟨_, _, e, a, rfl, s5, hf, hx⟩
  rw [hc, hres]
  simp only [List.map_cons, List.map_nil, hA1]
  rfl
end Go.Proofs.Ytmhmbmogodofeaa.S
