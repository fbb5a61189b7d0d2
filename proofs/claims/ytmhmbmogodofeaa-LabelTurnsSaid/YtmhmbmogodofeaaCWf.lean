import Derived.Test.YtmhmbmogodofeaaCWe
set_option autoImplicit false
set_option linter.unusedVariables false
set_option linter.unusedSimpArgs false
set_option maxRecDepth 100000
namespace Go.Proofs.Ytmhmbmogodofeaa.S
open Go.FS Go.RowKit
attribute [local congr] bind_cg cond_cg gd_cg
/-! The reference: Name, Check, With. -/
theorem c129 {n : Nat} {s : SH} (b : ByteArray) (hb : b.size < 2 ^ 62) : callD Try.prog AB (n + 1) (.fn 129) [.string b] s = some [(.bool (namedB b), s)] := by
  refine cut_call (fn := Try.f129) rfl rfl (by kernel_rfl) (v := .bool (namedB b)) (fun _ h => by cases h) (.bool _) ?_
  show One (bodyD Try.prog false _ _ 129 Try.f129 _ s) _
  rw [f129_r]
  have hev : bopD Try.prog .eql 9 (.string b) (.string ⟨#[]⟩) = some (.bool (emp b)) := rfl
  have hnb : namedB b = (okN b.data.toList true && (!emp b && decide (b.size ≤ 64))) := rfl
  cases he : emp b with
  | true =>
    rw [he] at hev hnb
    simp only [f129, o_bool, o_alloc, o_box, o_build, o_buildSlice, o_load, o_store, o_nilCheck, o_bop, o_uop, o_conv, o_slc, o_fieldAddr, o_field, o_indexAddr, o_index, o_extract, o_lookup, o_mapUpdate, o_makeSlice, o_clear, o_makeMap, o_mapEntry, o_entryStore, o_delete, o_len, o_append, o_min, o_max, o_tgt, bindS, many1, jnE, boolS, gdB, fst', snd', hev, condT]
    exact One.ret ⟨by rw [hnb]; simp, .refl s⟩
  | false =>
    rw [he] at hev hnb
    by_cases h64 : 64 < b.size
    · have h64' : (b.size : Int) > 64 := by omega
      simp only [f129, o_bool, o_alloc, o_box, o_build, o_buildSlice, o_load, o_store, o_nilCheck, o_bop, o_uop, o_conv, o_slc, o_fieldAddr, o_field, o_indexAddr, o_index, o_extract, o_lookup, o_mapUpdate, o_makeSlice, o_clear, o_makeMap, o_mapEntry, o_entryStore, o_delete, o_len, o_append, o_min, o_max, o_tgt, bindS, many1, jnE, boolS, gdB, fst', snd', hev, condF, len_str u9, bop_gtr, h64', decide_true, condT]
      exact One.ret ⟨by rw [hnb, decide_eq_false (show ¬ b.size ≤ 64 by omega)]; simp, .refl s⟩
    · have h64' : ¬ (b.size : Int) > 64 := by omega
      have hnb : namedB b = okN b.data.toList true := by rw [hnb, decide_eq_true (show b.size ≤ 64 by omega)]; simp
      have hsz : b.data.toList.length = b.size := rfl
      simp only [f129, o_bool, o_alloc, o_box, o_build, o_buildSlice, o_load, o_store, o_nilCheck, o_bop, o_uop, o_conv, o_slc, o_fieldAddr, o_field, o_indexAddr, o_index, o_extract, o_lookup, o_mapUpdate, o_makeSlice, o_clear, o_makeMap, o_mapEntry, o_entryStore, o_delete, o_len, o_append, o_min, o_max, o_tgt, bindS, many1, jnE, boolS, gdB, fst', snd', hev, condF, len_str u9, bop_gtr, h64', decide_false]
      rw [hnb]
      refine list_one b.data.toList (fun i (x : Value × Value × Value × Value) (s' : SH) => s = s' ∧ x.2.1 = .int .i64 (i : Int) ∧ okN b.data.toList true = okN (b.data.toList.drop i) (decide (i = 0))) ?_ ?_ ⟨rfl, rfl, rfl⟩ (by show b.size < 2 ^ 64; omega)
      · rintro i hi ⟨x1, x2, x3, x4⟩ s' ⟨rfl, h2, hok⟩ nx hnx
        simp only at h2
        subst h2
        have hlt : (i : Int) < (b.size : Int) := by omega
        have hw : IntKind.i64.wrap ((i : Int) + 1) = ((i + 1 : Nat) : Int) := by rw [wrap_i64 (by omega) (by omega)]; rfl
        rw [List.drop_eq_getElem_cons hi] at hok
        have hix := idx_str (b := b) (k := .i64) hi
        have hcl : (b.data.toList[i]).toNat < 256 := UInt8.toNat_lt _
        have hstep : okN (b.data.toList[i] :: b.data.toList.drop (i + 1)) (decide (i = 0)) = (letter (b.data.toList[i]).toNat (decide (i = 0)) && okN (b.data.toList.drop (i + 1)) false) := rfl
        rw [hstep] at hok
        generalize (b.data.toList[i]).toNat = c at hix hok hcl
        simp only [f129_l0, o_bool, o_alloc, o_box, o_build, o_buildSlice, o_load, o_store, o_nilCheck, o_bop, o_uop, o_conv, o_slc, o_fieldAddr, o_field, o_indexAddr, o_index, o_extract, o_len, o_append, o_clear, o_tgt, bindS, many1, boolS, gdB, fst', snd', len_str u9, bop_lss, hlt, decide_true, condT, hix]
        have hz : decide (i + 1 = 0) = false := rfl
        refine jn_rule (fun f => One (f (.bool (decide (97 ≤ c ∧ c ≤ 122) || (decide (65 ≤ c ∧ c ≤ 90) || decide (c = 95))))) fun v' s' => v' = .bool (okN b.data.toList true) ∧ Ext s s') (fun r => One r fun v' s' => v' = .bool (okN b.data.toList true) ∧ Ext s s') ?_ ?_
        · cases hL : (decide (97 ≤ c ∧ c ≤ 122) || (decide (65 ≤ c ∧ c ≤ 90) || decide (c = 95))) with
          | true =>
            have hlet : letter c (decide (i = 0)) = true := by
              unfold letter
              cases h1 : decide (97 ≤ c ∧ c ≤ 122) <;> cases h2 : decide (65 ≤ c ∧ c ≤ 90) <;> cases h3 : decide (c = 95) <;> rw [h1, h2, h3] at hL <;> first | rfl | cases hL
            rw [hlet, Bool.true_and] at hok
            simp only [o_bool, o_alloc, o_box, o_build, o_buildSlice, o_load, o_store, o_nilCheck, o_bop, o_uop, o_conv, o_slc, o_fieldAddr, o_field, o_indexAddr, o_index, o_extract, o_len, o_append, o_clear, o_tgt, bindS, many1, boolS, gdB, fst', snd', uop_not, Bool.not_true, condF, bop_add, hw]
            exact hnx (_, _, _, _) _ ⟨rfl, rfl, by rw [hz]; exact hok⟩
          | false =>
            have hlet : letter c (decide (i = 0)) = (decide (48 ≤ c ∧ c ≤ 57) && !decide (i = 0)) := by
              unfold letter
              cases h1 : decide (97 ≤ c ∧ c ≤ 122) <;> cases h2 : decide (65 ≤ c ∧ c ≤ 90) <;> cases h3 : decide (c = 95) <;> rw [h1, h2, h3] at hL <;> first | rfl | cases hL
            rw [hlet] at hok
            by_cases h0 : i = 0
            · have h0' : ((i : Int) = 0) := by omega
              rw [decide_eq_true h0, Bool.not_true, Bool.and_false, Bool.false_and] at hok
              simp only [o_bool, o_alloc, o_box, o_build, o_buildSlice, o_load, o_store, o_nilCheck, o_bop, o_uop, o_conv, o_slc, o_fieldAddr, o_field, o_indexAddr, o_index, o_extract, o_len, o_append, o_clear, o_tgt, bindS, many1, boolS, gdB, fst', snd', uop_not, Bool.not_false, condT, bop_eql, h0', decide_true]
              exact One.ret ⟨by rw [hok], .refl s⟩
            · have h0' : ¬ ((i : Int) = 0) := by omega
              rw [decide_eq_false h0, Bool.not_false, Bool.and_true] at hok
              by_cases h1 : c < 48
              · have h1' : (c : Int) < 48 := by omega
                rw [decide_eq_false (show ¬ (48 ≤ c ∧ c ≤ 57) by omega), Bool.false_and] at hok
                simp only [o_bool, o_alloc, o_box, o_build, o_buildSlice, o_load, o_store, o_nilCheck, o_bop, o_uop, o_conv, o_slc, o_fieldAddr, o_field, o_indexAddr, o_index, o_extract, o_len, o_append, o_clear, o_tgt, bindS, many1, boolS, gdB, fst', snd', uop_not, Bool.not_false, condT, condF, bop_eql, h0', decide_false, bop_lss, h1', decide_true]
                exact One.ret ⟨by rw [hok], .refl s⟩
              · have h1' : ¬ (c : Int) < 48 := by omega
                by_cases h2 : 57 < c
                · have h2' : (c : Int) > 57 := by omega
                  rw [decide_eq_false (show ¬ (48 ≤ c ∧ c ≤ 57) by omega), Bool.false_and] at hok
                  simp only [o_bool, o_alloc, o_box, o_build, o_buildSlice, o_load, o_store, o_nilCheck, o_bop, o_uop, o_conv, o_slc, o_fieldAddr, o_field, o_indexAddr, o_index, o_extract, o_len, o_append, o_clear, o_tgt, bindS, many1, boolS, gdB, fst', snd', uop_not, Bool.not_false, condT, condF, bop_eql, h0', decide_false, bop_lss, h1', bop_gtr, h2', decide_true]
                  exact One.ret ⟨by rw [hok], .refl s⟩
                · have h2' : ¬ (c : Int) > 57 := by omega
                  rw [decide_eq_true (show 48 ≤ c ∧ c ≤ 57 by omega), Bool.true_and] at hok
                  simp only [o_bool, o_alloc, o_box, o_build, o_buildSlice, o_load, o_store, o_nilCheck, o_bop, o_uop, o_conv, o_slc, o_fieldAddr, o_field, o_indexAddr, o_index, o_extract, o_len, o_append, o_clear, o_tgt, bindS, many1, boolS, gdB, fst', snd', uop_not, Bool.not_false, condT, condF, bop_eql, h0', decide_false, bop_lss, h1', bop_gtr, h2', bop_add, hw]
                  exact hnx (_, _, _, _) _ ⟨rfl, rfl, by rw [hz]; exact hok⟩
        · intro f hf
          have d95 : decide ((c : Int) = 95) = decide (c = 95) := by rw [Bool.eq_iff_iff]; simp; omega
          by_cases h1 : 97 ≤ c
          · have h1' : (c : Int) ≥ 97 := by omega
            have h3' : (c : Int) ≥ 65 := by omega
            have h4' : ¬ (c : Int) ≤ 90 := by omega
            by_cases h2 : c ≤ 122
            · have h2' : (c : Int) ≤ 122 := by omega
              rw [decide_eq_true (show 97 ≤ c ∧ c ≤ 122 by omega), Bool.true_or] at hf
              simp only [bop_geq, bop_leq, h1', h2', decide_true, gdB, condT, bindS]
              exact hf
            · have h2' : ¬ (c : Int) ≤ 122 := by omega
              rw [decide_eq_false (show ¬ (97 ≤ c ∧ c ≤ 122) by omega), decide_eq_false (show ¬ (65 ≤ c ∧ c ≤ 90) by omega), Bool.false_or, Bool.false_or] at hf
              simp only [bop_geq, bop_leq, h1', h2', h3', h4', decide_true, decide_false, gdB, condT, condF, bindS, bop_eql, d95]
              exact hf
          · have h1' : ¬ (c : Int) ≥ 97 := by omega
            rw [decide_eq_false (show ¬ (97 ≤ c ∧ c ≤ 122) by omega), Bool.false_or] at hf
            by_cases h3 : 65 ≤ c
            · have h3' : (c : Int) ≥ 65 := by omega
              by_cases h4 : c ≤ 90
              · have h4' : (c : Int) ≤ 90 := by omega
                rw [decide_eq_true (show 65 ≤ c ∧ c ≤ 90 by omega), Bool.true_or] at hf
                simp only [bop_geq, bop_leq, h1', h3', h4', decide_true, decide_false, gdB, condT, condF, bindS]
                exact hf
              · have h4' : ¬ (c : Int) ≤ 90 := by omega
                rw [decide_eq_false (show ¬ (65 ≤ c ∧ c ≤ 90) by omega), Bool.false_or] at hf
                simp only [bop_geq, bop_leq, h1', h3', h4', decide_true, decide_false, gdB, condT, condF, bindS, bop_eql, d95]
                exact hf
            · have h3' : ¬ (c : Int) ≥ 65 := by omega
              rw [decide_eq_false (show ¬ (65 ≤ c ∧ c ≤ 90) by omega), Bool.false_or] at hf
              simp only [bop_geq, h1', h3', decide_false, gdB, condF, bindS, bop_eql, d95]
              exact hf
      · rintro ⟨x1, x2, x3, x4⟩ s' ⟨rfl, h2, hok⟩ nx
        simp only at h2
        subst h2
        have hnlt : ¬ ((b.data.toList.length : Int) < (b.size : Int)) := by omega
        rw [List.drop_length] at hok
        simp only [f129_l0, o_bool, o_alloc, o_box, o_build, o_buildSlice, o_load, o_store, o_nilCheck, o_bop, o_uop, o_conv, o_slc, o_fieldAddr, o_field, o_indexAddr, o_index, o_extract, o_lookup, o_mapUpdate, o_makeSlice, o_clear, o_makeMap, o_mapEntry, o_entryStore, o_delete, o_len, o_append, o_min, o_max, o_tgt, bindS, many1, jnE, boolS, gdB, fst', snd', len_str u9, bop_lss, hnlt, decide_false, condF, beq_yes, condT]
        exact One.ret ⟨by rw [hok]; rfl, .refl s⟩
end Go.Proofs.Ytmhmbmogodofeaa.S
