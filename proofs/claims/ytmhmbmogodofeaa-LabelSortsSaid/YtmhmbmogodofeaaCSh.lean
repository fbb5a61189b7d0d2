import Derived.Test.YtmhmbmogodofeaaCSg
set_option autoImplicit false
set_option linter.unusedVariables false
set_option linter.unusedSimpArgs false
set_option maxRecDepth 100000
namespace Go.Proofs.Ytmhmbmogodofeaa.S
open Go.FS Go.RowKit
attribute [local congr] bind_cg cond_cg gd_cg
/-! Check of a row; Sort. -/
theorem c22r {n id q c : Nat} {s : SH} {R : List Lab} (hid : id < s.n) (hR : LR id s R) (hq : q ≤ R.length) (l : List Lab) (hlR : l = R.take q) (hl : SmallL l) : callD Try.prog AB (n + 3) (.fn 22) [rl id q c] s = some [(.int .i64 (if okL l then 0 else 40), s)] := by
  have hql : q = l.length := by rw [hlR, List.length_take]; omega
  have hgi : ∀ i (h : i < l.length), R[i]'(by omega) = l[i] := fun i h => by simp only [hlR, List.getElem_take]
  subst hql
  refine cut_call (fn := Try.f22) rfl rfl (by kernel_rfl) (v := .int .i64 (if okL l then 0 else 40)) (fun _ h => by cases h) (.int _ _) ?_
  show One (bodyD Try.prog false _ _ 22 Try.f22 _ s) _
  rw [f22_r]
  simp only [f22, o_bool, o_alloc, o_box, o_build, o_buildSlice, o_load, o_store, o_nilCheck, o_bop, o_uop, o_conv, o_slc, o_fieldAddr, o_field, o_indexAddr, o_index, o_extract, o_lookup, o_mapUpdate, o_makeSlice, o_clear, o_makeMap, o_mapEntry, o_entryStore, o_delete, o_len, o_append, o_min, o_max, o_tgt, bindS, many1, jnE, boolS, gdB, fst', snd', lenr, bop_eql, bop_gtr]
  by_cases h0 : l.length = 0
  · have h0' : (l.length : Int) = 0 := by omega
    simp only [h0', decide_true, condT]
    exact One.ret ⟨by unfold okL; rw [decide_eq_true h0]; rfl, .refl s⟩
  · have h0' : ¬ ((l.length : Int) = 0) := by omega
    by_cases h16 : 16 < l.length
    · have h16' : (l.length : Int) > 16 := by omega
      simp only [h0', h16', decide_true, decide_false, condT, condF, o_bool, o_alloc, o_box, o_build, o_buildSlice, o_load, o_store, o_nilCheck, o_bop, o_uop, o_conv, o_slc, o_fieldAddr, o_field, o_indexAddr, o_index, o_extract, o_lookup, o_mapUpdate, o_makeSlice, o_clear, o_makeMap, o_mapEntry, o_entryStore, o_delete, o_len, o_append, o_min, o_max, o_tgt, bindS, many1, jnE, boolS, gdB, fst', snd', lenr, bop_gtr]
      exact One.ret ⟨by unfold okL; rw [decide_eq_false h0, decide_eq_true h16]; rfl, .refl s⟩
    · have h16' : ¬ ((l.length : Int) > 16) := by omega
      simp only [h0', h16', decide_false, condF, o_bool, o_alloc, o_box, o_build, o_buildSlice, o_load, o_store, o_nilCheck, o_bop, o_uop, o_conv, o_slc, o_fieldAddr, o_field, o_indexAddr, o_index, o_extract, o_lookup, o_mapUpdate, o_makeSlice, o_clear, o_makeMap, o_mapEntry, o_entryStore, o_delete, o_len, o_append, o_min, o_max, o_tgt, bindS, many1, jnE, boolS, gdB, fst', snd', lenr, bop_gtr]
      have hok : okL l = chk ⟨#[]⟩ l := by unfold okL; rw [decide_eq_false h0, decide_eq_false h16]; rfl
      rw [hok]
      refine list_one l (fun i (x : Value × Value × Value) (s' : SH) => Sm s.n s s' ∧ x.1 = .int .i64 0 ∧ x.2.2 = .int .i64 i ∧ ∃ last, x.2.1 = .string last ∧ chk ⟨#[]⟩ l = chk last (l.drop i)) ?_ ?_ ⟨.refl _ _, rfl, rfl, _, rfl, rfl⟩ (by show l.length < 2 ^ 64; have := hl.1; omega)
      · rintro i hi ⟨x1, x2, x3⟩ s' ⟨hsm, h1, h2, last, h3, h4⟩ nx hnx
        simp only at h1 h2 h3
        subst h1 h2 h3
        have hlt : (i : Int) < l.length := by omega
        have hw : IntKind.i64.wrap ((i : Int) + 1) = ((i + 1 : Nat) : Int) := by rw [wrap_i64 (by omega) (by omega)]; rfl
        have hsz := hl.2 _ (List.getElem_mem hi)
        rw [List.drop_eq_getElem_cons hi] at h4
        have hldr : loadD Try.prog s' 106 (.pointer (some ⟨id, i * 2, none⟩)) = some (.agg (lab l[i]).toArray) := by rw [← hgi i hi]; exact ldr (by unfold LR at hR; rw [hsm.2 _ hid]; exact hR) (by omega)
        have ha : HP.get (putD (newD s' (.row (lab lz))) s'.n (.row (lab l[i]))).h s'.n = some (.row (lab l[i])) := get_put_same _
        have hsm2 : Sm s.n s (putD (newD s' (.row (lab lz))) s'.n (.row (lab l[i]))) := (hsm.new (by have := hsm.1; omega) _).put (by have := hsm.1; omega) _
        have hst : storeD Try.prog (newD s' (.row (lab lz))) 106 (.pointer (some ⟨s'.n, 0, none⟩)) (.agg (lab l[i]).toArray) = some (putD (newD s' (.row (lab lz))) s'.n (.row (lab l[i]))) := st106 (get_new rfl)
        simp only [f22_l0, o_bool, o_alloc, o_box, o_build, o_buildSlice, o_load, o_store, o_nilCheck, o_bop, o_uop, o_conv, o_slc, o_fieldAddr, o_field, o_indexAddr, o_index, o_extract, o_lookup, o_mapUpdate, o_makeSlice, o_clear, o_makeMap, o_mapEntry, o_entryStore, o_delete, o_len, o_append, o_min, o_max, o_tgt, bindS, many1, jnE, boolS, gdB, fst', snd', bop_lss, hlt, decide_true, condT, ix23 hi, hldr, al106, hst]
        generalize putD (newD s' (.row (lab lz))) s'.n (.row (lab l[i])) = s2 at ha hsm2
        generalize l[i] = a at ha h4 hsz
        simp only [fld106_0, fld106_1, lds0 ha, lds1 ha, o_bool, o_alloc, o_box, o_build, o_buildSlice, o_load, o_store, o_nilCheck, o_bop, o_uop, o_conv, o_slc, o_fieldAddr, o_field, o_indexAddr, o_index, o_extract, o_lookup, o_mapUpdate, o_makeSlice, o_clear, o_makeMap, o_mapEntry, o_entryStore, o_delete, o_len, o_append, o_min, o_max, o_tgt, bindS, many1, jnE, boolS, gdB, fst', snd', c68 (n := n) a.1 (by omega), uop_not]
        rw [chk_cons] at h4
        cases q1 : namedB a.1 with
        | false =>
          simp only [Bool.not_false, condT]
          exact One.ret ⟨by rw [h4, q1]; rfl, hsm2⟩
        | true =>
          simp only [Bool.not_true, condF, o_bool, o_alloc, o_box, o_build, o_buildSlice, o_load, o_store, o_nilCheck, o_bop, o_uop, o_conv, o_slc, o_fieldAddr, o_field, o_indexAddr, o_index, o_extract, o_lookup, o_mapUpdate, o_makeSlice, o_clear, o_makeMap, o_mapEntry, o_entryStore, o_delete, o_len, o_append, o_min, o_max, o_tgt, bindS, many1, jnE, boolS, gdB, fst', snd', fld106_0, lds0 ha, bop_sle]
          cases q2 : sle a.1 last with
          | true =>
            simp only [condT]
            exact One.ret ⟨by rw [h4, q1, q2]; rfl, hsm2⟩
          | false =>
            simp only [condF, o_bool, o_alloc, o_box, o_build, o_buildSlice, o_load, o_store, o_nilCheck, o_bop, o_uop, o_conv, o_slc, o_fieldAddr, o_field, o_indexAddr, o_index, o_extract, o_lookup, o_mapUpdate, o_makeSlice, o_clear, o_makeMap, o_mapEntry, o_entryStore, o_delete, o_len, o_append, o_min, o_max, o_tgt, bindS, many1, jnE, boolS, gdB, fst', snd', fld106_1, lds1 ha, bop_seq]
            cases q3 : (a.2.toList == ByteArray.toList ⟨#[]⟩) with
            | true =>
              simp only [condT]
              exact One.ret ⟨by rw [h4, q1, q2, q3]; rfl, hsm2⟩
            | false =>
              simp only [condF, o_bool, o_alloc, o_box, o_build, o_buildSlice, o_load, o_store, o_nilCheck, o_bop, o_uop, o_conv, o_slc, o_fieldAddr, o_field, o_indexAddr, o_index, o_extract, o_lookup, o_mapUpdate, o_makeSlice, o_clear, o_makeMap, o_mapEntry, o_entryStore, o_delete, o_len, o_append, o_min, o_max, o_tgt, bindS, many1, jnE, boolS, gdB, fst', snd', fld106_1, lds1 ha, len_str u9, bop_gtr]
              by_cases q4 : 256 < a.2.size
              · have q4' : (a.2.size : Int) > 256 := by omega
                simp only [q4', decide_true, condT]
                exact One.ret ⟨by rw [h4, q1, q2, q3, decide_eq_true q4]; rfl, hsm2⟩
              · have q4' : ¬ ((a.2.size : Int) > 256) := by omega
                simp only [q4', decide_false, condF, o_bool, o_alloc, o_box, o_build, o_buildSlice, o_load, o_store, o_nilCheck, o_bop, o_uop, o_conv, o_slc, o_fieldAddr, o_field, o_indexAddr, o_index, o_extract, o_lookup, o_mapUpdate, o_makeSlice, o_clear, o_makeMap, o_mapEntry, o_entryStore, o_delete, o_len, o_append, o_min, o_max, o_tgt, bindS, many1, jnE, boolS, gdB, fst', snd', fld106_0, lds0 ha, bop_add, hw]
                exact hnx (_, _, _) _ ⟨hsm2, rfl, rfl, a.1, rfl, by rw [h4, q1, q2, q3, decide_eq_false q4]; rfl⟩
      · rintro ⟨x1, x2, x3⟩ s' ⟨hsm, h1, h2, last, h3, h4⟩ nx
        simp only at h1 h2 h3
        subst h1 h2 h3
        have hnlt : ¬ ((l.length : Int) < l.length) := by omega
        rw [List.drop_length] at h4
        simp only [f22_l0, o_bool, o_alloc, o_box, o_build, o_buildSlice, o_load, o_store, o_nilCheck, o_bop, o_uop, o_conv, o_slc, o_fieldAddr, o_field, o_indexAddr, o_index, o_extract, o_lookup, o_mapUpdate, o_makeSlice, o_clear, o_makeMap, o_mapEntry, o_entryStore, o_delete, o_len, o_append, o_min, o_max, o_tgt, bindS, many1, jnE, boolS, gdB, fst', snd', bop_lss, hnlt, decide_false, condF, beq_yes, condT]
        exact One.ret ⟨by rw [h4]; rfl, hsm⟩
theorem c65s {n id k c : Nat} {s : SH} {R : List Lab} (hR : R.length = k) (hk : k ≤ 40) (hs : LR id s R) (hP : AllS R) : ∃ s', callD Try.prog AB (n + 51) (.fn 65) [rl id k c, cmpF] s = some [(.tuple #[], s')] ∧ Sh id k s s' := by
  obtain ⟨s', e, h⟩ := c116s (n := n) (c := c) hR hk hs hP
  refine ⟨s', ?_, h⟩
  rw [call_fn (fn := Try.f65) rfl rfl (by kernel_rfl)]
  show bodyD Try.prog false _ _ 65 Try.f65 _ s = _
  rw [f65_r]
  simp only [f65, o_bool, o_alloc, o_box, o_build, o_buildSlice, o_load, o_store, o_nilCheck, o_bop, o_uop, o_conv, o_slc, o_fieldAddr, o_field, o_indexAddr, o_index, o_extract, o_lookup, o_mapUpdate, o_makeSlice, o_clear, o_makeMap, o_mapEntry, o_entryStore, o_delete, o_len, o_append, o_min, o_max, o_tgt, bindS, many1, jnE, boolS, gdB, fst', snd', lenr, e]
theorem c65x {n id k c : Nat} {s : SH} {R0 : List Lab} (hR : R0.length = k) (hk : k < 20) (hs : LR id s R0) :
    ∃ s' R', callD Try.prog AB (n + 51) (.fn 65) [rl id k c, cmpF] s = some [(.tuple #[], s')] ∧ LR id s' R' ∧ R'.length = k ∧ R'.Perm R0 ∧ R'.Pairwise leL ∧ Upd id s s' := by
  obtain ⟨s', R', e, h⟩ := c116x (n := n) (c := c) hR hk hs
  refine ⟨s', R', ?_, h⟩
  rw [call_fn (fn := Try.f65) rfl rfl (by kernel_rfl)]
  show bodyD Try.prog false _ _ 65 Try.f65 _ s = _
  rw [f65_r]
  simp only [f65, o_bool, o_alloc, o_box, o_build, o_buildSlice, o_load, o_store, o_nilCheck, o_bop, o_uop, o_conv, o_slc, o_fieldAddr, o_field, o_indexAddr, o_index, o_extract, o_lookup, o_mapUpdate, o_makeSlice, o_clear, o_makeMap, o_mapEntry, o_entryStore, o_delete, o_len, o_append, o_min, o_max, o_tgt, bindS, many1, jnE, boolS, gdB, fst', snd', lenr, e]
theorem getD_lt {R : List Lab} {i : Nat} (h : i < R.length) : R.getD i lz = R[i] := by rw [List.getD_eq_getElem?_getD, List.getElem?_eq_getElem h]; rfl
/-- Does a label stay? -/
def keepAt (R : List Lab) (i : Nat) : Bool := !((decide (i + 1 < R.length) && ((R.getD (i + 1) lz).1.toList == (R.getD i lz).1.toList)) || ((R.getD i lz).2.toList == ByteArray.toList ⟨#[]⟩))
def kept (R : List Lab) : Nat → List Lab
  | 0 => []
  | i + 1 => if keepAt R i then kept R i ++ [R.getD i lz] else kept R i
theorem kept_len (R : List Lab) : ∀ i, (kept R i).length ≤ i
  | 0 => Nat.le_refl _
  | i + 1 => by
    have := kept_len R i
    unfold kept
    split
    · rw [List.length_append, List.length_singleton]; omega
    · omega
theorem kept_all {R : List Lab} (h : AllS R) : ∀ i, i ≤ R.length → AllS (kept R i)
  | 0, _ => fun x hx => (List.not_mem_nil hx).elim
  | i + 1, hi => by
    have ih := kept_all h i (by omega)
    unfold kept
    split
    · intro x hx
      rcases List.mem_append.1 hx with hx | hx
      · exact ih x hx
      · rw [List.mem_singleton] at hx
        subst hx
        rw [getD_lt (show i < R.length by omega)]
        exact h _ (List.getElem_mem _)
    · exact ih
def resL (X : List Lab) : Value := if okL X then .tuple #[sl lab 0 X, .int .i64 0] else .tuple #[sl lab 2 [], .int .i64 40]
theorem slc_rl {k : IntKind} (s : SH) {id n c j : Nat} (hc : c / 2 = 2) (hj : j ≤ n) : ∃ c', c' / 2 = 2 ∧ slcD Try.prog s 23 (rl id n c) none (some (.int k (j : Int))) none = some (rl id j c') := by
  have h0 : decide ((0 : Int) ≤ (j : Int)) = true := by simp
  refine ⟨2 * 2 + (bif (false || Nat.beq (c % 2) 1) && Nat.beq j n then 1 else 0), by cases (false || Nat.beq (c % 2) 1) && Nat.beq j n <;> rfl, ?_⟩
  have e1 : sliceD Try.prog 23 (rl id n c) none (some (.int k (j : Int))) none = some (rl id j (2 * 2 + (bif (false || Nat.beq (c % 2) 1) && Nat.beq j n then 1 else 0))) := by
    unfold sliceD
    simp only [optInt, h0, condT, bindS, Int.toNat_natCast, u23, z106, hc, beq_yes, Option.getD_none, Option.getD_some, Nat.ble_eq_true_of_le hj, Nat.ble_eq_true_of_le (Nat.zero_le _), Nat.ble_eq_true_of_le (Nat.le_refl n), Option.isSome_none, Option.isNone_none, Option.isSome_some, Bool.or_true, Bool.true_or, Bool.and_self, Bool.false_or, Nat.zero_mul, Nat.add_zero, Nat.sub_zero]
  unfold slcD
  rw [e1]; rfl
end Go.Proofs.Ytmhmbmogodofeaa.S
