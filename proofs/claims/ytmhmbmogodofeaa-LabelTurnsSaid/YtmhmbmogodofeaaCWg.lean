import Derived.Test.YtmhmbmogodofeaaCWf
set_option autoImplicit false
set_option linter.unusedVariables false
set_option linter.unusedSimpArgs false
set_option maxRecDepth 100000
namespace Go.Proofs.Ytmhmbmogodofeaa.S
open Go.FS Go.RowKit
attribute [local congr] bind_cg cond_cg gd_cg
/-! The reference's Check and With. -/
theorem le_notB (x y : ByteArray) : sle x y = !Op.bytesLess y.toList x.toList := by
  have key : ∀ x y : Str, (Op.bytesLess x y || (x == y)) = !Op.bytesLess y x := by
    intro x y
    have h1 := lt_cmp (x := x) (y := y)
    have h2 := lt_cmp (x := y) (y := x)
    have h3 := cmpB_good.anti x y
    have h4 := cmpB_good.eq x y
    have h5 := cmpB_good.rng x y
    by_cases he : x = y
    · subst he
      rw [beq_self_eq_true, Bool.or_true]
      cases e : Op.bytesLess x x with
      | false => rfl
      | true => exact absurd rfl (lt_ne e)
    · have hb : (x == y) = false := by simpa using he
      rw [hb, Bool.or_false]
      have h6 : ¬ cmpB x y = 0 := fun e => he (h4.1 e)
      cases e1 : Op.bytesLess x y <;> cases e2 : Op.bytesLess y x <;> first | rfl | skip
      · exfalso
        have q1 : ¬ cmpB x y = -1 := fun k => by have := h1.2 k; unfold lt' at this; rw [e1] at this; cases this
        have q2 : ¬ cmpB y x = -1 := fun k => by have := h2.2 k; unfold lt' at this; rw [e2] at this; cases this
        omega
      · exfalso
        have q1 := h1.1 e1
        have q2 := h2.1 e2
        omega
  exact key _ _
theorem named_pos {b : ByteArray} (h : namedB b = true) : sle b ⟨#[]⟩ = false := by
  have hnb : namedB b = (okN b.data.toList true && (!emp b && decide (b.size ≤ 64))) := rfl
  rw [hnb, Bool.and_eq_true, Bool.and_eq_true] at h
  have he : emp b = false := by simpa using h.2.1
  unfold sle
  have h1 : Op.bytesLess b.toList (⟨#[]⟩ : ByteArray).toList = false := by
    have : (⟨#[]⟩ : ByteArray).toList = [] := by rw [ba_toList]
    rw [this]
    cases b.toList <;> rfl
  rw [h1, Bool.false_or]
  exact he
theorem c79 {n m : Nat} {s : SH} (l : List Lab) (hl : SmallL l) : callD Try.prog AB (n + 2) (.fn 79) [sl lab m l] s = some [(.int .i64 (if okL l then 0 else 40), s)] := by
  refine cut_call (fn := Try.f79) rfl rfl (by kernel_rfl) (v := .int .i64 (if okL l then 0 else 40)) (fun _ h => by cases h) (.int _ _) ?_
  show One (bodyD Try.prog false _ _ 79 Try.f79 _ s) _
  rw [f79_r]
  have hlen : ∀ s : SH, lenOfD Try.prog s 23 (sl lab m l) = some (.int .i64 (l.length : Int)) := fun s => len_sl u23
  by_cases h0 : l.length = 0
  · have h0' : (l.length : Int) < 1 := by omega
    simp only [f79, o_bool, o_alloc, o_box, o_build, o_buildSlice, o_load, o_store, o_nilCheck, o_bop, o_uop, o_conv, o_slc, o_fieldAddr, o_field, o_indexAddr, o_index, o_extract, o_lookup, o_mapUpdate, o_makeSlice, o_clear, o_makeMap, o_mapEntry, o_entryStore, o_delete, o_len, o_append, o_min, o_max, o_tgt, bindS, many1, jnE, boolS, gdB, fst', snd', hlen, bop_lss, h0', decide_true, condT]
    exact One.ret ⟨by unfold okL; rw [decide_eq_true h0]; rfl, .refl s⟩
  · have h0' : ¬ ((l.length : Int) < 1) := by omega
    by_cases h16 : 16 < l.length
    · have h16' : (l.length : Int) > 16 := by omega
      simp only [f79, o_bool, o_alloc, o_box, o_build, o_buildSlice, o_load, o_store, o_nilCheck, o_bop, o_uop, o_conv, o_slc, o_fieldAddr, o_field, o_indexAddr, o_index, o_extract, o_lookup, o_mapUpdate, o_makeSlice, o_clear, o_makeMap, o_mapEntry, o_entryStore, o_delete, o_len, o_append, o_min, o_max, o_tgt, bindS, many1, jnE, boolS, gdB, fst', snd', hlen, bop_lss, h0', decide_false, condF, bop_gtr, h16', decide_true, condT]
      exact One.ret ⟨by unfold okL; rw [decide_eq_false h0, decide_eq_true h16]; rfl, .refl s⟩
    · have h16' : ¬ ((l.length : Int) > 16) := by omega
      have hok : okL l = chk ⟨#[]⟩ l := by unfold okL; rw [decide_eq_false h0, decide_eq_false h16]; rfl
      simp only [f79, o_bool, o_alloc, o_box, o_build, o_buildSlice, o_load, o_store, o_nilCheck, o_bop, o_uop, o_conv, o_slc, o_fieldAddr, o_field, o_indexAddr, o_index, o_extract, o_lookup, o_mapUpdate, o_makeSlice, o_clear, o_makeMap, o_mapEntry, o_entryStore, o_delete, o_len, o_append, o_min, o_max, o_tgt, bindS, many1, jnE, boolS, gdB, fst', snd', hlen, bop_lss, h0', decide_false, condF, bop_gtr, h16']
      rw [hok]
      refine list_one l (fun i (x : Value × Value) (s' : SH) => s = s' ∧ x.2 = .int .i64 (i : Int) ∧ chk ⟨#[]⟩ l = chk (if h : 0 < i ∧ i - 1 < l.length then (l[i - 1]'h.2).1 else ⟨#[]⟩) (l.drop i)) ?_ ?_ ⟨rfl, rfl, rfl⟩ (by show l.length < 2 ^ 64; have := hl.1; omega)
      · rintro i hi ⟨x1, x2⟩ s' ⟨rfl, h2, hch⟩ nx hnx
        simp only at h2
        subst h2
        have hlt : (i : Int) < (l.length : Int) := by omega
        have hw : IntKind.i64.wrap ((i : Int) + 1) = ((i + 1 : Nat) : Int) := by rw [wrap_i64 (by omega) (by omega)]; rfl
        have hsz := hl.2 _ (List.getElem_mem hi)
        rw [List.drop_eq_getElem_cons hi, chk_cons] at hch
        have hnext : (if h : 0 < i + 1 ∧ i + 1 - 1 < l.length then (l[i + 1 - 1]'h.2).1 else ⟨#[]⟩) = l[i].1 := by
          rw [dif_pos ⟨by omega, by omega⟩]
          simp only [Nat.add_sub_cancel]
        have hev : bopD Try.prog .eql 9 (.string l[i].2) (.string ⟨#[]⟩) = some (.bool (l[i].2.toList == ByteArray.toList ⟨#[]⟩)) := rfl
        have h129 := oneS (c129 (n := n) (s := s) l[i].1 (by omega))
        have ix := ixs23 (m := m) (k := .i64) lab_len hi
        cases q1 : namedB l[i].1 with
        | false =>
          rw [q1] at h129 hch
          simp only [f79_l0, o_bool, o_alloc, o_box, o_build, o_buildSlice, o_load, o_store, o_nilCheck, o_bop, o_uop, o_conv, o_slc, o_fieldAddr, o_field, o_indexAddr, o_index, o_extract, o_lookup, o_mapUpdate, o_makeSlice, o_clear, o_makeMap, o_mapEntry, o_entryStore, o_delete, o_len, o_append, o_min, o_max, o_tgt, bindS, many1, jnE, boolS, gdB, fst', snd', hlen, bop_lss, hlt, decide_true, condT, ix, flf106_0, ldf_l0, h129, uop_not, Bool.not_false]
          exact One.ret ⟨by rw [hch]; rfl, .refl s⟩
        | true =>
          rw [q1, Bool.true_and] at hch
          rw [q1] at h129
          cases q3 : (l[i].2.toList == ByteArray.toList ⟨#[]⟩) with
          | true =>
            rw [q3] at hev hch
            simp only [f79_l0, o_bool, o_alloc, o_box, o_build, o_buildSlice, o_load, o_store, o_nilCheck, o_bop, o_uop, o_conv, o_slc, o_fieldAddr, o_field, o_indexAddr, o_index, o_extract, o_lookup, o_mapUpdate, o_makeSlice, o_clear, o_makeMap, o_mapEntry, o_entryStore, o_delete, o_len, o_append, o_min, o_max, o_tgt, bindS, many1, jnE, boolS, gdB, fst', snd', hlen, bop_lss, hlt, decide_true, condT, ix, flf106_0, ldf_l0, h129, uop_not, Bool.not_true, condF, flf106_1, ldf_l1, hev]
            exact One.ret ⟨by rw [hch]; simp, .refl s⟩
          | false =>
            rw [q3, Bool.not_false, Bool.true_and] at hch
            rw [q3] at hev
            by_cases q4 : 256 < l[i].2.size
            · have q4' : (l[i].2.size : Int) > 256 := by omega
              rw [decide_eq_true q4] at hch
              simp only [f79_l0, o_bool, o_alloc, o_box, o_build, o_buildSlice, o_load, o_store, o_nilCheck, o_bop, o_uop, o_conv, o_slc, o_fieldAddr, o_field, o_indexAddr, o_index, o_extract, o_lookup, o_mapUpdate, o_makeSlice, o_clear, o_makeMap, o_mapEntry, o_entryStore, o_delete, o_len, o_append, o_min, o_max, o_tgt, bindS, many1, jnE, boolS, gdB, fst', snd', hlen, bop_lss, hlt, decide_true, condT, ix, flf106_0, ldf_l0, h129, uop_not, Bool.not_true, condF, flf106_1, ldf_l1, hev, len_str u9, bop_gtr, q4']
              exact One.ret ⟨by rw [hch]; simp, .refl s⟩
            · have q4' : ¬ (l[i].2.size : Int) > 256 := by omega
              rw [decide_eq_false q4, Bool.not_false, Bool.true_and] at hch
              by_cases hi0 : i = 0
              · have hi0' : ¬ ((i : Int) > 0) := by omega
                rw [dif_neg (by omega), named_pos q1, Bool.not_false, Bool.true_and] at hch
                simp only [f79_l0, o_bool, o_alloc, o_box, o_build, o_buildSlice, o_load, o_store, o_nilCheck, o_bop, o_uop, o_conv, o_slc, o_fieldAddr, o_field, o_indexAddr, o_index, o_extract, o_lookup, o_mapUpdate, o_makeSlice, o_clear, o_makeMap, o_mapEntry, o_entryStore, o_delete, o_len, o_append, o_min, o_max, o_tgt, bindS, many1, jnE, boolS, gdB, fst', snd', hlen, bop_lss, hlt, decide_true, decide_false, condT, ix, flf106_0, ldf_l0, h129, uop_not, Bool.not_true, condF, flf106_1, ldf_l1, hev, len_str u9, bop_gtr, q4', hi0', bop_add, hw]
                exact hnx (_, _) _ ⟨rfl, rfl, by rw [hnext]; exact hch⟩
              · have hi0' : ((i : Int) > 0) := by omega
                have hi1 : i - 1 < l.length := by omega
                have hwm : IntKind.i64.wrap ((i : Int) - 1) = ((i - 1 : Nat) : Int) := by rw [wrap_i64 (by omega) (by omega)]; omega
                have ix1 := ixs23 (m := m) (k := .i64) lab_len hi1
                rw [dif_pos ⟨by omega, hi1⟩] at hch
                have hge : bopD Try.prog .geq 9 (.string l[i - 1].1) (.string l[i].1) = some (.bool (sle l[i].1 l[i - 1].1)) := by rw [le_notB]; rfl
                cases q2 : sle l[i].1 l[i - 1].1 with
                | true =>
                  rw [q2] at hge hch
                  simp only [f79_l0, o_bool, o_alloc, o_box, o_build, o_buildSlice, o_load, o_store, o_nilCheck, o_bop, o_uop, o_conv, o_slc, o_fieldAddr, o_field, o_indexAddr, o_index, o_extract, o_lookup, o_mapUpdate, o_makeSlice, o_clear, o_makeMap, o_mapEntry, o_entryStore, o_delete, o_len, o_append, o_min, o_max, o_tgt, bindS, many1, jnE, boolS, gdB, fst', snd', hlen, bop_lss, hlt, decide_true, decide_false, condT, ix, flf106_0, ldf_l0, h129, uop_not, Bool.not_true, condF, flf106_1, ldf_l1, hev, len_str u9, bop_gtr, q4', hi0', b_sub, hwm, ix1, hge]
                  exact One.ret ⟨by rw [hch]; rfl, .refl s⟩
                | false =>
                  rw [q2, Bool.not_false, Bool.true_and] at hch
                  rw [q2] at hge
                  simp only [f79_l0, o_bool, o_alloc, o_box, o_build, o_buildSlice, o_load, o_store, o_nilCheck, o_bop, o_uop, o_conv, o_slc, o_fieldAddr, o_field, o_indexAddr, o_index, o_extract, o_lookup, o_mapUpdate, o_makeSlice, o_clear, o_makeMap, o_mapEntry, o_entryStore, o_delete, o_len, o_append, o_min, o_max, o_tgt, bindS, many1, jnE, boolS, gdB, fst', snd', hlen, bop_lss, hlt, decide_true, decide_false, condT, ix, flf106_0, ldf_l0, h129, uop_not, Bool.not_true, condF, flf106_1, ldf_l1, hev, len_str u9, bop_gtr, q4', hi0', b_sub, hwm, ix1, hge, bop_add, hw]
                  exact hnx (_, _) _ ⟨rfl, rfl, by rw [hnext]; exact hch⟩
      · rintro ⟨x1, x2⟩ s' ⟨rfl, h2, hch⟩ nx
        simp only at h2
        subst h2
        have hnlt : ¬ ((l.length : Int) < l.length) := by omega
        rw [List.drop_length] at hch
        simp only [f79_l0, o_bool, o_alloc, o_box, o_build, o_buildSlice, o_load, o_store, o_nilCheck, o_bop, o_uop, o_conv, o_slc, o_fieldAddr, o_field, o_indexAddr, o_index, o_extract, o_lookup, o_mapUpdate, o_makeSlice, o_clear, o_makeMap, o_mapEntry, o_entryStore, o_delete, o_len, o_append, o_min, o_max, o_tgt, bindS, many1, jnE, boolS, gdB, fst', snd', hlen, bop_lss, hnlt, decide_false, condF, beq_yes, condT]
        exact One.ret ⟨by rw [hch]; rfl, .refl s⟩
/-- What the loop has put so far: with what is left it is the whole. -/
theorem goW_cons (name value : ByteArray) (a : Lab) (l : List Lab) (put : Bool) : goW name value (a :: l) put = (if !put && !ltN name a then [(name, value)] else []) ++ ((if keepN name a then [a] else []) ++ goW name value l (put || !ltN name a)) := rfl
theorem goW_len (name value : ByteArray) : ∀ (l : List Lab) (put : Bool), (goW name value l put).length ≤ l.length + 1
  | [], put => by cases put <;> simp [goW]
  | a :: l, put => by
    rw [goW_cons]
    by_cases hp : (!put && !ltN name a) = true
    · have e1 : put = false := by cases put <;> simp_all
      have e2 : ltN name a = false := by cases h : ltN name a <;> simp_all
      rw [if_pos hp, e1, e2]
      have h3 : (goW name value l (false || !false)).length ≤ l.length := by
        rw [show (false || !false) = true from rfl, goW_true]; exact List.length_filter_le _ _
      simp only [List.length_append, List.length_cons, List.length_nil]
      split <;> simp only [List.length_cons, List.length_nil] <;> omega
    · rw [if_neg hp]
      have := goW_len name value l (put || !ltN name a)
      simp only [List.length_append, List.length_cons, List.length_nil]
      split <;> simp only [List.length_cons, List.length_nil] <;> omega
theorem c28 {n m : Nat} {s : SH} (l : List Lab) (name value : ByteArray) (hl : SmallL l) (h1 : name.size < 2 ^ 46) (h2 : value.size < 2 ^ 46) :
    ∃ m', callD Try.prog AB (n + 3) (.fn 28) [sl lab m l, .string name, .string value] s = some [(if okW l name value then .tuple #[sl lab m' (outM l name value), .int .i64 0] else .tuple #[sl lab 2 [], .int .i64 40], s)] := by
  have main : One (bodyD Try.prog (AB.row 28) (callD Try.prog AB (n + 2)) AB.N 28 Try.f28 [sl lab m l, .string name, .string value] s) fun v' s' => ∃ mm, v' = (if okW l name value then Value.tuple #[sl lab mm (outM l name value), .int .i64 0] else .tuple #[sl lab 2 [], .int .i64 40]) ∧ Ext s s' := by
    show One (bodyD Try.prog false _ _ 28 Try.f28 _ s) _
    rw [f28_r]
    have h79 := c79 (n := n) (m := m) (s := s) l hl
    have hlen : ∀ s : SH, lenOfD Try.prog s 23 (sl lab m l) = some (.int .i64 (l.length : Int)) := fun s => len_sl u23
    by_cases hok : okL l = true
    · rw [if_pos hok] at h79
      obtain ⟨hl0, hl16, _⟩ := okL_size hok
      have hr := (chk_ris (okL_chk hok)).2
      have hev : bopD Try.prog .eql 9 (.string value) (.string ⟨#[]⟩) = some (.bool (emp value)) := rfl
      have hgo := goW_out name value hr
      have hgl := goW_len name value l (emp value)
      obtain ⟨hso, _⟩ := outM_small (name := name) (value := value) hl (by omega) h1 h2
      simp only [f28, o_bool, o_alloc, o_box, o_build, o_buildSlice, o_load, o_store, o_nilCheck, o_bop, o_uop, o_conv, o_slc, o_fieldAddr, o_field, o_indexAddr, o_index, o_extract, o_len, o_append, o_clear, o_tgt, bindS, many1, boolS, gdB, fst', snd', h79, b_neq, decide_true, Bool.not_true, condF, bsf23, hev]
      have okW_eq : okW l name value = okL (outM l name value) := by unfold okW; rw [hok]; rfl
      -- the end
      have fin : ∀ (v : Value) (s4 : SH), Grow s.n 2 lab s4 v (outM l name value) → Sm s.n s s4 → One ((callD Try.prog AB (n + 2) (.fn 79) [v] s4).bind fun L76 => manyK L76 fun v77 s78 => (bopD Try.prog .neq 26 v77 (.int .i64 0)).bind fun v79 => (boolD v79).bind fun b80 => cond b80 (some [((.tuple #[fzV 2 #[], .int .i64 40] : Value), s78)]) (some [(.tuple #[v, .int .i64 0], s78)])) fun v' s' => ∃ mm, v' = (if okW l name value then Value.tuple #[sl lab mm (outM l name value), .int .i64 0] else .tuple #[sl lab 2 [], .int .i64 40]) ∧ Ext s s' := fun v s4 hg hsm => by
        obtain ⟨mm, rfl⟩ := Grow.form hg
        have h79b := c79 (n := n) (m := mm) (s := s4) (outM l name value) hso
        by_cases hok2 : okL (outM l name value) = true
        · rw [if_pos hok2] at h79b
          simp only [h79b, bindS, many1, b_neq, decide_true, Bool.not_true, boolS, condF]
          exact One.ret ⟨mm, by rw [okW_eq, if_pos hok2], hsm⟩
        · rw [if_neg hok2] at h79b
          simp only [h79b, bindS, many1, b_neq, show ¬ ((40 : Int) = 0) from by decide, decide_false, Bool.not_false, boolS, condT]
          exact One.ret ⟨2, by rw [okW_eq, if_neg hok2]; rfl, hsm⟩
      refine list_one l (fun i (x : Value × Value × Value) (s' : SH) => ∃ (put : Bool) (out : List Lab), Sm s.n s s' ∧ x.2.2 = .int .i64 (i : Int) ∧ x.2.1 = .bool put ∧ Grow s.n 2 lab s' x.1 out ∧ out ++ goW name value (l.drop i) put = outM l name value ∧ out.length + (goW name value (l.drop i) put).length ≤ 20) ?_ ?_ ⟨emp value, [], .refl _ _, rfl, rfl, .inl ⟨rfl, .inr rfl⟩, hgo, by simp only [List.length_nil, List.drop_zero]; omega⟩ (by show l.length < 2 ^ 64; omega)
      · rintro i hi ⟨x1, x2, x3⟩ s' ⟨put, out, hsm, e2, e3, hg, hout, hol⟩ nx hnx
        simp only at e2 e3 hg
        subst e2 e3
        have hlt : (i : Int) < (l.length : Int) := by omega
        have hw : IntKind.i64.wrap ((i : Int) + 1) = ((i + 1 : Nat) : Int) := by rw [wrap_i64 (by omega) (by omega)]; rfl
        have ix := ixs23 (m := m) (k := .i64) lab_len hi
        rw [List.drop_eq_getElem_cons hi, goW_cons] at hout hol
        have hge : bopD Try.prog .geq 9 (.string l[i].1) (.string name) = some (.bool (!ltN name l[i])) := rfl
        have hne : bopD Try.prog .neq 9 (.string l[i].1) (.string name) = some (.bool (keepN name l[i])) := rfl
        generalize l[i] = a at hout hol hge hne ix
        have hrest : (put || !ltN name a) = (put || !ltN name a) := rfl
        -- what is kept of it
        have keep : ∀ (v : Value) (s5 : SH) (out2 : List Lab) (put2 : Bool), Grow s.n 2 lab s5 v out2 → Sm s.n s s5 → out2 ++ ((if keepN name a then [a] else []) ++ goW name value (l.drop (i + 1)) put2) = outM l name value → out2.length + ((if keepN name a then [a] else []) ++ goW name value (l.drop (i + 1)) put2).length ≤ 20 →
            One (jn (fun (j223_8 : Value) (js223 : SH) => nx (j223_8, .bool put2, .int .i64 ((i + 1 : Nat) : Int)) js223) fun k223 => cond (keepN name a) ((appD Try.prog false s5 23 23 v (sl lab 1 [a])).bind fun p59 => k223 p59.1 p59.2) (k223 v s5)) fun v' s' => ∃ mm, v' = (if okW l name value then Value.tuple #[sl lab mm (outM l name value), .int .i64 0] else .tuple #[sl lab 2 [], .int .i64 40]) ∧ Ext s s' := fun v s5 out2 put2 hg2 hsm2 ho2 hol2 => by
          rw [jnE]
          cases hk : keepN name a with
          | true =>
            rw [hk, if_pos rfl] at ho2 hol2
            simp only [List.length_append, List.length_cons, List.length_nil] at hol2
            obtain ⟨v6, s6, e6, g6, f6, _⟩ := gapp23 (m2 := 1) (ys := [a]) hg2 hsm2.1 (by simp only [List.length_cons, List.length_nil]; omega)
            simp only [condT, e6, bindS]
            exact hnx (_, _, _) _ ⟨put2, out2 ++ [a], hsm2.trans f6, rfl, rfl, g6, by rw [List.append_assoc]; exact ho2, by rw [List.length_append, List.length_cons, List.length_nil]; omega⟩
          | false =>
            rw [hk, if_neg (by simp), List.nil_append] at ho2 hol2
            simp only [condF]
            exact hnx (_, _, _) _ ⟨put2, out2, hsm2, rfl, rfl, hg2, ho2, hol2⟩
        simp only [f28_l0, o_bool, o_alloc, o_box, o_build, o_buildSlice, o_load, o_store, o_nilCheck, o_bop, o_uop, o_conv, o_slc, o_fieldAddr, o_field, o_indexAddr, o_index, o_extract, o_len, o_append, o_clear, o_tgt, bindS, many1, boolS, gdB, fst', snd', hlen, bop_lss, hlt, decide_true, condT, ix, flf106_0, ldf_l0, hge, hne, ld_lab, bs23, uop_not, bld106, bop_add, hw]
        refine jn_rule (fun f => One (f (.bool (!put && !ltN name a))) fun v' s' => ∃ mm, v' = (if okW l name value then Value.tuple #[sl lab mm (outM l name value), .int .i64 0] else .tuple #[sl lab 2 [], .int .i64 40]) ∧ Ext s s') (fun r => One r fun v' s' => ∃ mm, v' = (if okW l name value then Value.tuple #[sl lab mm (outM l name value), .int .i64 0] else .tuple #[sl lab 2 [], .int .i64 40]) ∧ Ext s s') ?_ ?_
        · simp only [o_bool, o_alloc, o_box, o_build, o_buildSlice, o_load, o_store, o_nilCheck, o_bop, o_uop, o_conv, o_slc, o_fieldAddr, o_field, o_indexAddr, o_index, o_extract, o_len, o_append, o_clear, o_tgt, bindS, many1, boolS, gdB, fst', snd']
          refine jn_rule (fun f => ∀ (v : Value) (s5 : SH) (out2 : List Lab) (put2 : Bool), Grow s.n 2 lab s5 v out2 → Sm s.n s s5 → out2 ++ ((if keepN name a then [a] else []) ++ goW name value (l.drop (i + 1)) put2) = outM l name value → out2.length + ((if keepN name a then [a] else []) ++ goW name value (l.drop (i + 1)) put2).length ≤ 20 → One (f v (.bool put2) s5) fun v' s' => ∃ mm, v' = (if okW l name value then Value.tuple #[sl lab mm (outM l name value), .int .i64 0] else .tuple #[sl lab 2 [], .int .i64 40]) ∧ Ext s s') (fun r => One r fun v' s' => ∃ mm, v' = (if okW l name value then Value.tuple #[sl lab mm (outM l name value), .int .i64 0] else .tuple #[sl lab 2 [], .int .i64 40]) ∧ Ext s s') (fun v s5 out2 put2 q1 q2 q3 q4 => keep v s5 out2 put2 q1 q2 q3 q4) ?_
          intro f hf
          cases hpl : (!put && !ltN name a) with
          | true =>
            rw [hpl, if_pos rfl] at hout hol
            have hp2 : (put || !ltN name a) = true := by cases put <;> cases h : ltN name a <;> simp_all
            rw [hp2] at hout hol
            have hol2 := hol
            simp only [List.length_append, List.length_cons, List.length_nil] at hol2
            obtain ⟨v6, s6, e6, g6, f6, _⟩ := gapp23 (m2 := 1) (ys := [(name, value)]) hg hsm.1 (by simp only [List.length_cons, List.length_nil]; omega)
            have hbs : buildSliceD Try.prog false s' 23 1 [(0, .agg (lab (name, value)).toArray)] = some (sl lab 1 [(name, value)], s') := bs23 s' (name, value)
            simp only [condT, hbs, bindS, e6]
            exact hf v6 s6 (out ++ [(name, value)]) true g6 (hsm.trans f6) (by rw [List.append_assoc]; exact hout) (by simp only [List.length_append, List.length_cons, List.length_nil]; omega)
          | false =>
            rw [hpl, if_neg (by simp), List.nil_append] at hout hol
            have hp2 : (put || !ltN name a) = put := by cases put <;> cases h : ltN name a <;> simp_all
            rw [hp2] at hout hol
            simp only [condF]
            exact hf x1 s' out put hg hsm hout hol
        · intro f hf
          cases put with
          | true =>
            simp only [Bool.not_true, gdB, condF]
            exact hf
          | false =>
            simp only [Bool.not_false, gdB, condT, bindS]
            exact hf
      · rintro ⟨x1, x2, x3⟩ s' ⟨put, out, hsm, e2, e3, hg, hout, hol⟩ nx
        simp only at e2 e3 hg
        subst e2 e3
        have hnlt : ¬ ((l.length : Int) < (l.length : Int)) := by omega
        rw [List.drop_length] at hout hol
        simp only [f28_l0, o_bool, o_alloc, o_box, o_build, o_buildSlice, o_load, o_store, o_nilCheck, o_bop, o_uop, o_conv, o_slc, o_fieldAddr, o_field, o_indexAddr, o_index, o_extract, o_len, o_append, o_clear, o_tgt, bindS, many1, boolS, gdB, fst', snd', hlen, bop_lss, hnlt, decide_false, condF, beq_yes, condT, uop_not]
        refine jn_rule (fun f => ∀ v s4, Grow s.n 2 lab s4 v (outM l name value) → Sm s.n s s4 → One (f v s4) fun v' s' => ∃ mm, v' = (if okW l name value then Value.tuple #[sl lab mm (outM l name value), .int .i64 0] else .tuple #[sl lab 2 [], .int .i64 40]) ∧ Ext s s') (fun r => One r fun v' s' => ∃ mm, v' = (if okW l name value then Value.tuple #[sl lab mm (outM l name value), .int .i64 0] else .tuple #[sl lab 2 [], .int .i64 40]) ∧ Ext s s') (fun v s4 q1 q2 => fin v s4 q1 q2) ?_
        intro f hf
        cases put with
        | true =>
          have hout : out = outM l name value := by rw [← hout]; show out = out ++ []; rw [List.append_nil]
          simp only [Bool.not_true, condF]
          exact hf _ _ (by rw [← hout]; exact hg) hsm
        | false =>
          have hout : out ++ [(name, value)] = outM l name value := hout
          obtain ⟨v6, s6, e6, g6, f6, _⟩ := gapp23 (m2 := 1) (ys := [(name, value)]) hg hsm.1 (by simp only [List.length_cons, List.length_nil]; omega)
          have hbs : buildSliceD Try.prog false s' 23 1 [(0, .agg (lab (name, value)).toArray)] = some (sl lab 1 [(name, value)], s') := bs23 s' (name, value)
          simp only [Bool.not_false, condT, bld106, hbs, bindS, e6]
          exact hf _ _ (by rw [← hout]; exact g6) (hsm.trans f6)
    · rw [if_neg hok] at h79
      simp only [f28, o_bool, o_alloc, o_box, o_build, o_buildSlice, o_load, o_store, o_nilCheck, o_bop, o_uop, o_conv, o_slc, o_fieldAddr, o_field, o_indexAddr, o_index, o_extract, o_lookup, o_mapUpdate, o_makeSlice, o_clear, o_makeMap, o_mapEntry, o_entryStore, o_delete, o_len, o_append, o_min, o_max, o_tgt, bindS, many1, jnE, boolS, gdB, fst', snd', h79, b_neq, show ¬ ((40 : Int) = 0) from by decide, decide_false, Bool.not_false, condT]
      have : okW l name value = false := by unfold okW; rw [Bool.eq_false_iff.2 hok]; rfl
      exact One.ret ⟨2, by rw [this]; rfl, .refl s⟩
  obtain ⟨v', s', e, mm, rfl, hx⟩ := main
  have hst : ∀ mm (X : List Lab), ∃ m', stripN 8 s.n (sl lab mm X) = sl lab m' X ∧ Bel s.n (sl lab m' X) := fun mm X => by
    have := strip_nest (k := 6) (n := s.n) (enc := lab) (f := id) (fun x => rfl) mm X
    rw [List.map_id] at this
    exact ⟨_, this, bel_slm (blt_lt mm s.n) fun x _ => lab_bel _ x⟩
  by_cases hok : okW l name value = true
  · rw [if_pos hok] at e
    obtain ⟨m', q1, q2⟩ := hst mm (outM l name value)
    refine ⟨m', ?_⟩
    have hc := cutT_call (A := AB) (n := n + 2) (f := 28) (fn := Try.f28) (args := [sl lab m l, .string name, .string value]) (s := s) (l := [sl lab mm (outM l name value), .int .i64 0]) rfl rfl (by kernel_rfl) (fun c hc => by
      simp only [List.mem_cons, List.not_mem_nil, or_false] at hc
      rcases hc with rfl | rfl
      · rw [q1]; exact q2
      · exact .int _ _) ⟨_, _, e, _, rfl, s', rfl, hx⟩
    rw [hc, if_pos hok]
    simp only [List.map_cons, List.map_nil, q1]
    rfl
  · rw [if_neg hok] at e
    obtain ⟨m', q1, q2⟩ := hst 2 []
    refine ⟨0, ?_⟩
    have q3 : stripN 8 s.n (sl lab 2 []) = sl lab 2 [] := strip_labs _ _ _ (by omega)
    have hc := cutT_call (A := AB) (n := n + 2) (f := 28) (fn := Try.f28) (args := [sl lab m l, .string name, .string value]) (s := s) (l := [sl lab 2 [], .int .i64 40]) rfl rfl (by kernel_rfl) (fun c hc => by
      simp only [List.mem_cons, List.not_mem_nil, or_false] at hc
      rcases hc with rfl | rfl
      · rw [q3]; exact bel_slm (by omega) fun x _ => lab_bel _ x
      · exact .int _ _) ⟨_, _, e, _, rfl, s', rfl, hx⟩
    rw [hc, if_neg hok]
    simp only [List.map_cons, List.map_nil, q3]
    rfl
end Go.Proofs.Ytmhmbmogodofeaa.S
