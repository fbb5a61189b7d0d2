import Derived.Test.YtmhmbmogodofeaaCSi
set_option autoImplicit false
set_option linter.unusedVariables false
set_option linter.unusedSimpArgs false
set_option maxRecDepth 100000
namespace Go.Proofs.Ytmhmbmogodofeaa.S
open Go.FS Go.RowKit
attribute [local congr] bind_cg cond_cg gd_cg
theorem lab_neq (a b : Lab) : bopD Try.prog .neq 106 (.agg (lab a).toArray) (.agg (lab b).toArray) = some (.bool (!decide (a = b))) := by
  refine (bop_agg (P := Try.prog) (d := 4) (t := 106) (a := (lab a).toArray) (b := (lab b).toArray) (r := decide (a = b)) (by decide) (by kernel_rfl) rfl rfl ?_).2
  have : eqS Try.prog 4 106 (.agg #[.string a.1, .string a.2]) (.agg #[.string b.1, .string b.2]) = cond (a.1 == b.1) (cond (a.2 == b.2) (some true) (some false)) (some false) := by kernel_rfl
  refine Eq.trans this ?_
  rw [ba_beq, ba_beq]
  have e : (a = b) ↔ a.1 = b.1 ∧ a.2 = b.2 := Prod.ext_iff
  by_cases h1 : a.1 = b.1 <;> by_cases h2 : a.2 = b.2 <;> simp [e, h1, h2]
theorem c21 {n m m' : Nat} {s : SH} (xs ys : List Lab) (hl : xs.length < 2 ^ 62) : callD Try.prog AB (n + 1) (.fn 21) [sl lab m xs, sl lab m' ys] s = some [(.bool (decide (xs = ys)), s)] := by
  refine cut_call (fn := Try.f21) rfl rfl (by kernel_rfl) (v := .bool (decide (xs = ys))) (fun _ h => by cases h) (.bool _) ?_
  show One (bodyD Try.prog false _ _ 21 Try.f21 _ s) _
  rw [f21_r]
  simp only [f21, o_bool, o_alloc, o_box, o_build, o_buildSlice, o_load, o_store, o_nilCheck, o_bop, o_uop, o_conv, o_slc, o_fieldAddr, o_field, o_indexAddr, o_index, o_extract, o_lookup, o_mapUpdate, o_makeSlice, o_clear, o_makeMap, o_mapEntry, o_entryStore, o_delete, o_len, o_append, o_min, o_max, o_tgt, bindS, many1, jnE, boolS, gdB, fst', snd', len_sl u23, b_neq]
  by_cases h : xs.length = ys.length
  · have e : ((xs.length : Int) = ys.length) := by omega
    simp only [e, decide_true, Bool.not_true, condF]
    try rw [← e]
    refine list_one xs (fun i (x : Value × Value) (s' : SH) => s = s' ∧ x.1 = .bool false ∧ x.2 = .int .i64 i ∧ xs.take i = ys.take i) ?_ ?_ ⟨rfl, rfl, rfl, rfl⟩ (by show xs.length < 2 ^ 64; omega)
    · rintro i hi ⟨x1, x2⟩ s' ⟨rfl, h1, h2, h3⟩ nx hnx
      simp only at h1 h2
      subst h1 h2
      have hlt : (i : Int) < xs.length := by omega
      have hi' : i < ys.length := by omega
      have hw : IntKind.i64.wrap ((i : Int) + 1) = ((i + 1 : Nat) : Int) := by rw [wrap_i64 (by omega) (by omega)]; rfl
      simp only [f21_l0, o_bool, o_alloc, o_box, o_build, o_buildSlice, o_load, o_store, o_nilCheck, o_bop, o_uop, o_conv, o_slc, o_fieldAddr, o_field, o_indexAddr, o_index, o_extract, o_lookup, o_mapUpdate, o_makeSlice, o_clear, o_makeMap, o_mapEntry, o_entryStore, o_delete, o_len, o_append, o_min, o_max, o_tgt, bindS, many1, jnE, boolS, gdB, fst', snd', len_sl u23, bop_lss, hlt, decide_true, condT, ixs23 lab_len hi, ixs23 lab_len hi', ld_lab, lab_neq, bop_add, hw]
      by_cases hq : xs[i] = ys[i]
      · simp only [hq, decide_true, Bool.not_true, condF]
        refine hnx (_, _) _ ⟨rfl, rfl, rfl, ?_⟩
        rw [List.take_succ_eq_append_getElem hi, List.take_succ_eq_append_getElem hi', h3, hq]
      · simp only [hq, decide_false, Bool.not_false, condT]
        have hne : xs ≠ ys := fun e => hq (by simp only [e])
        exact One.ret ⟨by rw [decide_eq_false hne], .refl s⟩
    · rintro ⟨x1, x2⟩ s' ⟨rfl, h1, h2, h3⟩ nx
      simp only at h1 h2
      subst h1 h2
      have hnlt : ¬ ((xs.length : Int) < xs.length) := by omega
      have hxy : xs = ys := by rw [List.take_length, h, List.take_length] at h3; exact h3
      simp only [f21_l0, o_bool, o_alloc, o_box, o_build, o_buildSlice, o_load, o_store, o_nilCheck, o_bop, o_uop, o_conv, o_slc, o_fieldAddr, o_field, o_indexAddr, o_index, o_extract, o_lookup, o_mapUpdate, o_makeSlice, o_clear, o_makeMap, o_mapEntry, o_entryStore, o_delete, o_len, o_append, o_min, o_max, o_tgt, bindS, many1, jnE, boolS, gdB, fst', snd', len_sl u23, bop_lss, hnlt, decide_false, condF, beq_yes, condT]
      exact One.ret ⟨by rw [decide_eq_true hxy], .refl s⟩
  · have e : ¬ ((xs.length : Int) = ys.length) := by omega
    have hne : xs ≠ ys := fun e => h (by rw [e])
    simp only [e, decide_false, Bool.not_false, condT]
    exact One.ret ⟨by rw [decide_eq_false hne], .refl s⟩

theorem gapp23 {lo : Nat} {s : SH} {v : Value} {m2 : Nat} {xs ys : List Lab} (h : Grow lo 2 lab s v xs) (hlo : lo ≤ s.n) (hb : (xs.length + ys.length) * 32 ≤ 140737488355328) :
    ∃ v' s', appD Try.prog false s 23 23 v (sl lab m2 ys) = some (v', s') ∧ Grow lo 2 lab s' v' (xs ++ ys) ∧ Sm lo s s' ∧ (∀ j, j < s.n → HP.get s.h j ≠ some (.tok xs.length 2) → HP.get s'.h j = HP.get s.h j) :=
  h.app (i := Try.t106) hlo u23 u23 (by kernel_rfl) zr106 rfl (by kernel_rfl) (by kernel_rfl) (by decide) lab_len hb (by omega)
def amongI (b : Int) (m : Nat) : Nat := (b % 2 ^ 64).toNat % m
theorem c20 {n : Nat} {s : SH} (b : Int) (m : Nat) (h0 : 1 ≤ m) (h1 : m < 2 ^ 62) : callD Try.prog AB (n + 1) (.fn 20) [.int .i64 b, .int .i64 (m : Int)] s = some [(.int .i64 (amongI b m : Int), s)] := by
  refine cut_call (fn := Try.f20) rfl rfl (by kernel_rfl) (v := .int .i64 (amongI b m : Int)) (fun _ h => by cases h) (.int _ _) ?_
  show One (bodyD Try.prog false _ _ 20 Try.f20 _ s) _
  rw [f20_r]
  have hng : ¬ ((m : Int) < 1) := by omega
  have hwm : IntKind.u64.wrap (m : Int) = (m : Int) := wrap_u64 (by omega) (by omega)
  have hwb : IntKind.u64.wrap b = (((b % 2 ^ 64).toNat : Nat) : Int) := by
    have e : IntKind.u64.wrap b = b % 2 ^ 64 := by
      simp only [IntKind.wrap, IntKind.signed, IntKind.bits, Bool.false_and, Bool.false_eq_true, if_false]
    rw [e]; omega
  have ht : Int.tmod (((b % 2 ^ 64).toNat : Nat) : Int) (m : Int) = (amongI b m : Int) := rfl
  have hlt : amongI b m < m := Nat.mod_lt _ (by omega)
  have hwa : IntKind.i64.wrap (amongI b m : Int) = (amongI b m : Int) := wrap_i64 (by omega) (by omega)
  simp only [f20, o_bool, o_alloc, o_box, o_build, o_buildSlice, o_load, o_store, o_nilCheck, o_bop, o_uop, o_conv, o_slc, o_fieldAddr, o_field, o_indexAddr, o_index, o_extract, o_lookup, o_mapUpdate, o_makeSlice, o_clear, o_makeMap, o_mapEntry, o_entryStore, o_delete, o_len, o_append, o_min, o_max, o_tgt, bindS, many1, jnE, boolS, gdB, fst', snd', bop_lss, hng, decide_false, condF, conv_int u3 u70, conv_int u70 u3, hwm, hwb, b_rem _ _ _ _ (show (m : Int) ≠ 0 by omega), ht, hwa]
  exact One.ret ⟨rfl, .refl s⟩
theorem among_lt (b : Int) {m : Nat} (h : 1 ≤ m) : amongI b m < m := Nat.mod_lt _ (by omega)
theorem chk_size : ∀ {l : List Lab} {last : ByteArray}, chk last l = true → ∀ a ∈ l, a.1.size ≤ 64 ∧ a.2.size ≤ 256
  | [], _, _, a, h => absurd h List.not_mem_nil
  | b :: l, last, h, a, ha => by
    simp only [chk, Bool.and_eq_true, Bool.not_eq_true', decide_eq_false_iff_not] at h
    rcases List.mem_cons.1 ha with rfl | ha
    · refine ⟨?_, by have := h.2.2.2.1; omega⟩
      have := h.1
      simp only [namedB, Bool.and_eq_true, decide_eq_true_eq] at this
      exact this.2.2
    · exact chk_size h.2.2.2.2 a ha
theorem okL_size {l : List Lab} (h : okL l = true) : 0 < l.length ∧ l.length ≤ 16 ∧ ∀ a ∈ l, a.1.size ≤ 64 ∧ a.2.size ≤ 256 := by
  simp only [okL, Bool.and_eq_true, Bool.not_eq_true', decide_eq_false_iff_not] at h
  exact ⟨by omega, by omega, chk_size h.2.2⟩
theorem c17 {n : Nat} {s : SH} : callD Try.prog AB (n + 1) (.fn 17) [] s = some [(.bool true, s)] := by
  rw [call_i (i := yes) rfl]; rfl
theorem bsf23 (s : SH) : buildSliceD Try.prog false s 23 0 [] = some (sl lab 1 [], s) := by kernel_rfl
/-! A set that may be is what its labels are sorted to, in whatever order they come. -/
theorem okL_chk {l : List Lab} (h : okL l = true) : chk ⟨#[]⟩ l = true := by
  unfold okL at h
  rw [Bool.and_eq_true, Bool.and_eq_true] at h
  exact h.2.2
theorem okL_S {l : List Lab} (h : okL l = true) : SmallL l ∧ AllS l := by
  obtain ⟨_, h1, h2⟩ := okL_size h
  exact ⟨⟨by omega, fun a ha => by have := h2 a ha; omega⟩, fun a ha => by have := h2 a ha; exact ⟨by omega, by omega⟩⟩
theorem sorted_eq {X R : List Lab} (hX : okL X = true) (hp : R.Perm X) (hs : R.Pairwise leL) : R = X := by
  obtain ⟨_, hr⟩ := chk_ris (okL_chk hX)
  refine List.Perm.eq_of_pairwise (le := leL) (fun a b ha hb h k => ?_) hs (hr.imp fun {a b} h => le_of_lt' h) hp
  have hb : b ∈ X := hb
  have ha : a ∈ X := hp.mem_iff.1 ha
  have he : a.1.toList = b.1.toList := le_anti' (x := a.1.toList) (y := b.1.toList) h k
  obtain ⟨i, hi, rfl⟩ := List.mem_iff_getElem.1 ha
  obtain ⟨j, hj, rfl⟩ := List.mem_iff_getElem.1 hb
  have hpp := List.pairwise_iff_getElem.1 hr
  rcases Nat.lt_trichotomy i j with q | q | q
  · exact absurd he (lt_ne (hpp i j hi hj q))
  · subst q; rfl
  · exact absurd he.symm (lt_ne (hpp j i hj hi q))
theorem kept_ok {X : List Lab} (hX : okL X = true) : ∀ i, i ≤ X.length → kept X i = X.take i
  | 0, _ => rfl
  | i + 1, hi => by
    have ih := kept_ok hX i (by omega)
    obtain ⟨hv, hr⟩ := chk_ris (okL_chk hX)
    have hil : i < X.length := by omega
    have hk : keepAt X i = true := by
      unfold keepAt
      rw [getD_lt hil, (hv _ (List.getElem_mem hil)).2, Bool.or_false]
      by_cases h2 : i + 1 < X.length
      · rw [getD_lt h2]
        have := lt_ne (List.pairwise_iff_getElem.1 hr i (i + 1) hil h2 (by omega))
        have e : (X[i + 1].1.toList == X[i].1.toList) = false := by
          rw [Bool.eq_false_iff]
          intro h
          have h : X[i + 1].1.toList = X[i].1.toList := by simpa using h
          exact this h.symm
        rw [e, Bool.and_false]; rfl
      · rw [decide_eq_false h2]; rfl
    show (if keepAt X i then kept X i ++ [X.getD i lz] else kept X i) = _
    rw [hk, if_pos rfl, ih, getD_lt hil, List.take_succ_eq_append_getElem hil]
theorem c19X {n : Nat} {s : SH} {v : Value} {Y X : List Lab} (hX : okL X = true) (hp : Y.Perm X) (h : LbIn s v Y) : callD Try.prog AB (n + 52) (.fn 19) [v] s = some [(.tuple #[sl lab 0 X, .int .i64 0], s)] := by
  obtain ⟨_, h1, h2⟩ := okL_size hX
  have hl := hp.length_eq
  obtain ⟨R, rfl, hR, e⟩ := c19 (n := n) h (by omega) (fun R => R = X) fun id c s1 hs1 => by
    obtain ⟨s', R', e, t1, t2, t3, t4, t5⟩ := c65x (n := n) (c := c) rfl (by omega) hs1
    have := sorted_eq hX (t3.trans hp) t4
    exact ⟨s', R', e, t1, t2, by rw [this]; exact (okL_S hX).2, this, t5⟩
  rw [e, kept_ok hX _ (Nat.le_refl _), List.take_length]
  unfold resL
  rw [if_pos hX]
/-! The statement LabelSorts. -/
theorem run3 {n m : Nat} (s : SH) (l : List Lab) (by_ : Int) : ∃ s', callD Try.prog AB (n + 54) (.fn 3) [sl lab m l, .int .i64 by_] s = some [(.bool true, s')] := by
  rw [call_fn (fn := Try.f3) rfl rfl (by kernel_rfl)]
  show ∃ s', bodyD Try.prog false _ _ 3 Try.f3 _ s = _
  rw [f3_r]
  obtain ⟨w, s1, e1, r1, k1⟩ := c18 (n := n + 52) (m := m) (s := s) l
  obtain ⟨hL1, hL2⟩ := few4_small l
  generalize few4 l = L at e1 r1 hL1 hL2
  obtain ⟨R, _, hR, e2⟩ := c19 (n := n + 1) (s := s1) (.inl ⟨_, r1⟩ : LbIn s1 w L) hL1 (fun _ => True) fun id c s1 hs1 => by
    obtain ⟨s', e, ⟨R, t1, t2, t3⟩, t4⟩ := c65s (n := n + 1) (c := c) rfl hL1 hs1 hL2
    exact ⟨s', R, e, t1, t2, t3, trivial, t4⟩
  generalize kept R R.length = X at e2
  have e1 : callD Try.prog AB (n + 53) (.fn 18) [sl lab m l] s = some [(w, s1)] := e1
  have h17 := c17 (n := n + 52) (s := s)
  have h17 : callD Try.prog AB (n + 53) (.fn 17) [] s = some [(.bool true, s)] := h17
  have e2 : callD Try.prog AB (n + 53) (.fn 19) [w] s1 = some [(resL X, s1)] := by rw [show n + 53 = n + 1 + 52 from by omega]; exact e2
  by_cases hX : okL X = true
  · have hr : resL X = .tuple #[sl lab 0 X, .int .i64 0] := by unfold resL; rw [if_pos hX]
    rw [hr] at e2
    obtain ⟨h0, h16, _⟩ := okL_size hX
    have hne : X ≠ [] := fun e => by rw [e] at h0; exact absurd h0 (by simp)
    have e3 : callD Try.prog AB (n + 53) (.fn 19) [sl lab 0 X] s1 = some [(.tuple #[sl lab 0 X, .int .i64 0], s1)] := by
      rw [show n + 53 = n + 1 + 52 from by omega]; exact c19X hX (.refl _) (.inr ⟨0, rfl, hne⟩)
    have h20 := c20 (n := n + 52) (s := s1) by_ X.length (by omega) (by omega)
    have h20 : callD Try.prog AB (n + 53) (.fn 20) [.int .i64 by_, .int .i64 (X.length : Int)] s1 = some [(.int .i64 (amongI by_ X.length : Int), s1)] := h20
    have hk := among_lt by_ (m := X.length) h0
    generalize amongI by_ X.length = k at h20 hk
    obtain ⟨ma, ea⟩ := slc_from (P := Try.prog) (s := s1) (t := 23) (m := 0) (k := .i64) (j := k) (xs := X) u23 z106 lab_len (by omega)
    obtain ⟨v1, t1, a1, g1, f1, _⟩ := gapp23 (lo := s1.n) (s := s1) (m2 := ma) (xs := []) (ys := X.drop k) (.inl ⟨rfl, .inr rfl⟩) (Nat.le_refl _) (by simp only [List.length_nil, List.length_drop]; omega)
    have eb := slc_sl (P := Try.prog) (s := t1) (t := 23) (m := 0) (k := .i64) (j := k) (xs := X) u23 z106 lab_len (by omega)
    obtain ⟨v2, t2, a2, g2, f2, _⟩ := gapp23 (m2 := bif Nat.beq 0 2 then 2 else 0) (ys := X.take k) g1 f1.1 (by simp only [List.nil_append, List.length_take, List.length_drop]; omega)
    obtain ⟨m2, rfl⟩ := Grow.form g2
    have hp : ([] ++ X.drop k ++ X.take k).Perm X := by
      rw [List.nil_append]
      exact List.perm_append_comm.trans (List.Perm.of_eq (List.take_append_drop k X))
    have hne2 : ([] ++ X.drop k ++ X.take k) ≠ [] := fun e => by
      have := hp.length_eq
      rw [e] at this
      simp at this; omega
    have e4 : callD Try.prog AB (n + 53) (.fn 19) [sl lab m2 ([] ++ X.drop k ++ X.take k)] t2 = some [(.tuple #[sl lab 0 X, .int .i64 0], t2)] := by
      rw [show n + 53 = n + 1 + 52 from by omega]; exact c19X hX hp (.inr ⟨m2, rfl, hne2⟩)
    have e4 := oneS e4
    have h21 := c21 (n := n + 52) (m := 0) (m' := 0) (s := t2) X X (by omega)
    have h21 : callD Try.prog AB (n + 53) (.fn 21) [sl lab 0 X, sl lab 0 X] t2 = some [(.bool (decide (X = X)), t2)] := h21
    have h22 := c22 (n := n + 50) (m := 0) (s := t2) X (okL_S hX).1
    rw [if_pos hX] at h22
    have h22 : callD Try.prog AB (n + 53) (.fn 22) [sl lab 0 X] t2 = some [(.int .i64 0, t2)] := h22
    have hlen : ∀ s : SH, lenOfD Try.prog s 23 (sl lab 0 X) = some (.int .i64 (X.length : Int)) := fun s => len_sl u23
    simp only [f3, o_bool, o_alloc, o_box, o_build, o_buildSlice, o_load, o_store, o_nilCheck, o_bop, o_uop, o_conv, o_slc, o_fieldAddr, o_field, o_indexAddr, o_index, o_extract, o_lookup, o_mapUpdate, o_makeSlice, o_clear, o_makeMap, o_mapEntry, o_entryStore, o_delete, o_len, o_append, o_min, o_max, o_tgt, bindS, many1, jnE, boolS, gdB, fst', snd', h17, uop_not, Bool.not_true, condF, e1, e2, (ext2 _ _).1, (ext2 _ _).2, b_neq, decide_true, e3, hlen, h20, bsf23, ea, a1, eb, a2, e4, bop_eql, condT, h21, h22]
    exact ⟨_, rfl⟩
  · have hr : resL X = .tuple #[sl lab 2 [], .int .i64 40] := by unfold resL; rw [if_neg hX]
    rw [hr] at e2
    have hlen : lenOfD Try.prog s1 23 (sl lab 2 []) = some (.int .i64 (([] : List Lab).length : Int)) := len_sl u23
    simp only [f3, o_bool, o_alloc, o_box, o_build, o_buildSlice, o_load, o_store, o_nilCheck, o_bop, o_uop, o_conv, o_slc, o_fieldAddr, o_field, o_indexAddr, o_index, o_extract, o_lookup, o_mapUpdate, o_makeSlice, o_clear, o_makeMap, o_mapEntry, o_entryStore, o_delete, o_len, o_append, o_min, o_max, o_tgt, bindS, many1, jnE, boolS, gdB, fst', snd', h17, uop_not, Bool.not_true, condF, e1, e2, (ext2 _ _).1, (ext2 _ _).2, b_neq, show ¬ ((40 : Int) = 0) from by decide, decide_false, Bool.not_false, condT, hlen, bop_eql]
    exact ⟨_, rfl⟩
end Go.Proofs.Ytmhmbmogodofeaa.S
