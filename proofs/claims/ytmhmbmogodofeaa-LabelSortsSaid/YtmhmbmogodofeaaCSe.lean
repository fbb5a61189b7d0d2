import Derived.Test.YtmhmbmogodofeaaCSd
import Derived.Test.YtmhmbmogodofeaaP04
set_option autoImplicit false
set_option linter.unusedVariables false
set_option linter.unusedSimpArgs false
set_option maxRecDepth 100000
namespace Go.Proofs.Ytmhmbmogodofeaa.S
open Go.FS Go.RowKit
attribute [local congr] bind_cg cond_cg gd_cg
/-! Stable sort: a row of so many labels; of fewer than 20, what insertion makes. -/
theorem c116s {id k c : Nat} {s : SH} {R : List Lab} (hR : R.length = k) (hk : k ≤ 40) (hs : LR id s R) (hP : AllS R) {n : Nat} :
    ∃ s', callD Try.prog AB (n + 50) (.fn 116) [rl id k c, .int .i64 (k : Int), cmpF] s = some [(.tuple #[], s')] ∧ Sh id k s s' := by
  rw [call_fn (fn := Try.f116) rfl rfl (by kernel_rfl)]
  suffices h : One (bodyD Try.prog false (callD Try.prog AB (n + 49)) AB.N 116 Try.f116 [rl id k c, .int .i64 (k : Int), cmpF] s) fun w s' => w = .tuple #[] ∧ Sh id k s s' by
    obtain ⟨w, s', e, rfl, h⟩ := h
    exact ⟨s', e, h⟩
  rw [f116_r]
  simp only [f116, o_bool, o_alloc, o_box, o_build, o_buildSlice, o_load, o_store, o_nilCheck, o_bop, o_uop, o_conv, o_slc, o_fieldAddr, o_field, o_indexAddr, o_index, o_extract, o_lookup, o_mapUpdate, o_makeSlice, o_clear, o_makeMap, o_mapEntry, o_entryStore, o_delete, o_len, o_append, o_min, o_max, o_tgt, bindS, many1, jnE, boolS, gdB, fst', snd']
  refine loop_rule (fun d (x : Value × Value) (s' : SH) => ∃ a : Nat, d = k - a ∧ a ≤ k ∧ x.1 = .int .i64 (a : Int) ∧ x.2 = .int .i64 ((a + 20 : Nat) : Int) ∧ Sh id k s s') (fun r => One r fun w s' => w = .tuple #[] ∧ Sh id k s s') ?_ _ k _ _ ⟨0, rfl, Nat.zero_le _, rfl, rfl, ⟨R, hs, hR, hP⟩, .refl _ _⟩ (by show _ < 2 ^ 64; omega)
  rintro d ⟨x1, x2⟩ s1 ⟨a, rfl, hak, e1, e2, ⟨⟨R1, k1, k2, hP1⟩, hU⟩⟩ nx hnx
  simp only at e1 e2
  subst e1 e2
  by_cases hb : a + 20 ≤ k
  · have hb' : (((a + 20 : Nat) : Int) ≤ (k : Int)) := by omega
    have w1 : IntKind.i64.wrap (((a + 20 : Nat) : Int) + 20) = ((a + 20 + 20 : Nat) : Int) := by rw [wrap_i64 (by omega) (by omega)]; rfl
    obtain ⟨s2, R2, z1, z2, z3, hP2, z4⟩ := c159s (n := n + 46) (c := c) (a := a) (b := a + 20) k2 (by omega) hb hak k1 hP1
    simp only [f116_l0, o_bool, o_alloc, o_box, o_build, o_buildSlice, o_load, o_store, o_nilCheck, o_bop, o_uop, o_conv, o_slc, o_fieldAddr, o_field, o_indexAddr, o_index, o_extract, o_lookup, o_mapUpdate, o_makeSlice, o_clear, o_makeMap, o_mapEntry, o_entryStore, o_delete, o_len, o_append, o_min, o_max, o_tgt, bindS, many1, jnE, boolS, gdB, fst', snd', bop_leq, hb', decide_true, condT, z1, bop_add, w1]
    exact hnx (k - (a + 20)) (_, _) _ (by omega) ⟨a + 20, rfl, hb, rfl, rfl, ⟨R2, z2, z3, hP2⟩, hU.trans z4⟩
  · have hb' : ¬ (((a + 20 : Nat) : Int) ≤ (k : Int)) := by omega
    obtain ⟨s2, R2, z1, z2, z3, hP2, z4⟩ := c159s (n := n + 46) (c := c) (a := a) (b := k) k2 (by omega) (Nat.le_refl _) hak k1 hP1
    simp only [f116_l0, o_bool, o_alloc, o_box, o_build, o_buildSlice, o_load, o_store, o_nilCheck, o_bop, o_uop, o_conv, o_slc, o_fieldAddr, o_field, o_indexAddr, o_index, o_extract, o_lookup, o_mapUpdate, o_makeSlice, o_clear, o_makeMap, o_mapEntry, o_entryStore, o_delete, o_len, o_append, o_min, o_max, o_tgt, bindS, many1, jnE, boolS, gdB, fst', snd', bop_leq, hb', decide_false, condF, beq_yes, condT, z1]
    -- merging
    refine loop_rule (fun d (x : Value × Value × Value × Value) (s' : SH) => ∃ q : Nat, d = 40 - q ∧ (q = 20 ∨ q = 40) ∧ x.1 = .int .i64 (q : Int) ∧ Sh id k s s') (fun r => One r fun w s' => w = .tuple #[] ∧ Sh id k s s') ?_ _ 20 _ _ ⟨20, rfl, .inl rfl, rfl, ⟨R2, z2, z3, hP2⟩, hU.trans z4⟩ (by show _ < 2 ^ 64; omega)
    rintro d ⟨y1, y2, y3, y4⟩ s3 ⟨q, rfl, hq1, e3, hS3⟩ nx2 hnx2
    simp only at e3
    subst e3
    by_cases hqk : q < k
    · have hqk' : (q : Int) < (k : Int) := by omega
      have w2 : IntKind.i64.wrap (2 * (q : Int)) = ((2 * q : Nat) : Int) := by rw [wrap_i64 (by omega) (by omega)]; rfl
      have w2' : IntKind.i64.wrap ((q : Int) * 2) = ((q * 2 : Nat) : Int) := by rw [wrap_i64 (by omega) (by omega)]; rfl
      simp only [f116_l1, o_bool, o_alloc, o_box, o_build, o_buildSlice, o_load, o_store, o_nilCheck, o_bop, o_uop, o_conv, o_slc, o_fieldAddr, o_field, o_indexAddr, o_index, o_extract, o_lookup, o_mapUpdate, o_makeSlice, o_clear, o_makeMap, o_mapEntry, o_entryStore, o_delete, o_len, o_append, o_min, o_max, o_tgt, bindS, many1, jnE, boolS, gdB, fst', snd', bop_lss, hqk', decide_true, condT, bop_mul, w2, w2']
      refine loop_rule (fun d (x : Value × Value) (s' : SH) => ∃ a : Nat, d = k - a ∧ a ≤ k ∧ x.1 = .int .i64 (a : Int) ∧ x.2 = .int .i64 ((a + 2 * q : Nat) : Int) ∧ Sh id k s s') (fun r => One r fun w s' => w = .tuple #[] ∧ Sh id k s s') ?_ _ k _ _ ⟨0, rfl, Nat.zero_le _, rfl, by rw [Nat.zero_add], hS3⟩ (by show _ < 2 ^ 64; omega)
      rintro d ⟨v1, v2⟩ s4 ⟨a2, rfl, hak2, e4, e5, ⟨⟨R4, g1, g2, hP4⟩, hU4⟩⟩ nx3 hnx3
      simp only at e4 e5
      subst e4 e5
      have w3 : IntKind.i64.wrap ((a2 : Int) + (q : Int)) = ((a2 + q : Nat) : Int) := by rw [wrap_i64 (by omega) (by omega)]; omega
      by_cases hb2 : a2 + 2 * q ≤ k
      · have hb2' : (((a2 + 2 * q : Nat) : Int) ≤ (k : Int)) := by omega
        have w4 : IntKind.i64.wrap (((a2 + 2 * q : Nat) : Int) + ((2 * q : Nat) : Int)) = ((a2 + 2 * q + 2 * q : Nat) : Int) := by rw [wrap_i64 (by omega) (by omega)]; omega
        obtain ⟨s5, z5, z6⟩ := c160s (id := id) (c := c) (show k < 2 ^ 60 by omega) 40 (n + 49) a2 (a2 + q) (a2 + 2 * q) s4 R4 g2 (by omega) (by omega) (by omega) (by omega) hb2 g1 hP4
        simp only [f116_l2, o_bool, o_alloc, o_box, o_build, o_buildSlice, o_load, o_store, o_nilCheck, o_bop, o_uop, o_conv, o_slc, o_fieldAddr, o_field, o_indexAddr, o_index, o_extract, o_lookup, o_mapUpdate, o_makeSlice, o_clear, o_makeMap, o_mapEntry, o_entryStore, o_delete, o_len, o_append, o_min, o_max, o_tgt, bindS, many1, jnE, boolS, gdB, fst', snd', bop_leq, hb2', decide_true, condT, bop_add, w3, z5, bop_mul, w2, w4]
        exact hnx3 (k - (a2 + 2 * q)) (_, _) _ (by omega) ⟨a2 + 2 * q, rfl, hb2, rfl, rfl, Sh.trans ⟨⟨R4, g1, g2, hP4⟩, hU4⟩ z6⟩
      · have hb2' : ¬ (((a2 + 2 * q : Nat) : Int) ≤ (k : Int)) := by omega
        by_cases hm : a2 + q < k
        · have hm' : (((a2 + q : Nat) : Int) < (k : Int)) := by omega
          obtain ⟨s5, z5, z6⟩ := c160s (id := id) (c := c) (show k < 2 ^ 60 by omega) 40 (n + 49) a2 (a2 + q) k s4 R4 g2 (by omega) (by omega) (by omega) hm (Nat.le_refl _) g1 hP4
          simp only [f116_l2, o_bool, o_alloc, o_box, o_build, o_buildSlice, o_load, o_store, o_nilCheck, o_bop, o_uop, o_conv, o_slc, o_fieldAddr, o_field, o_indexAddr, o_index, o_extract, o_lookup, o_mapUpdate, o_makeSlice, o_clear, o_makeMap, o_mapEntry, o_entryStore, o_delete, o_len, o_append, o_min, o_max, o_tgt, bindS, many1, jnE, boolS, gdB, fst', snd', bop_leq, hb2', decide_false, condF, beq_yes, condT, bop_add, w3, bop_lss, hm', decide_true, z5, bop_mul, w2']
          exact hnx2 (40 - q * 2) (_, _, _, _) _ (by omega) ⟨q * 2, rfl, by omega, rfl, Sh.trans ⟨⟨R4, g1, g2, hP4⟩, hU4⟩ z6⟩
        · have hm' : ¬ (((a2 + q : Nat) : Int) < (k : Int)) := by omega
          simp only [f116_l2, o_bool, o_alloc, o_box, o_build, o_buildSlice, o_load, o_store, o_nilCheck, o_bop, o_uop, o_conv, o_slc, o_fieldAddr, o_field, o_indexAddr, o_index, o_extract, o_lookup, o_mapUpdate, o_makeSlice, o_clear, o_makeMap, o_mapEntry, o_entryStore, o_delete, o_len, o_append, o_min, o_max, o_tgt, bindS, many1, jnE, boolS, gdB, fst', snd', bop_leq, hb2', decide_false, condF, beq_yes, condT, bop_add, w3, bop_lss, hm', bop_mul, w2']
          exact hnx2 (40 - q * 2) (_, _, _, _) _ (by omega) ⟨q * 2, rfl, by omega, rfl, ⟨R4, g1, g2, hP4⟩, hU4⟩
    · have hqk' : ¬ (q : Int) < (k : Int) := by omega
      simp only [f116_l1, o_bool, o_alloc, o_box, o_build, o_buildSlice, o_load, o_store, o_nilCheck, o_bop, o_uop, o_conv, o_slc, o_fieldAddr, o_field, o_indexAddr, o_index, o_extract, o_lookup, o_mapUpdate, o_makeSlice, o_clear, o_makeMap, o_mapEntry, o_entryStore, o_delete, o_len, o_append, o_min, o_max, o_tgt, bindS, many1, jnE, boolS, gdB, fst', snd', bop_lss, hqk', decide_false, condF, beq_yes, condT]
      exact One.ret ⟨rfl, hS3⟩
/-! What insertion makes: in order, and the same labels. -/
abbrev leL (a b : Lab) : Prop := lbL b a = false
theorem swp_perm (R : List Lab) (j : Nat) (h1 : j < R.length) (h2 : j - 1 < R.length) (hj : 0 < j) : (swp R j h1 h2).Perm R := by
  have e : R = R.take (j - 1) ++ (R[j - 1] :: R[j] :: R.drop (j + 1)) := by
    have a1 : R.drop (j - 1) = R[j - 1] :: R.drop (j - 1 + 1) := List.drop_eq_getElem_cons h2
    have a2 : R.drop j = R[j] :: R.drop (j + 1) := List.drop_eq_getElem_cons h1
    rw [show j - 1 + 1 = j from by omega, a2] at a1
    rw [← a1, List.take_append_drop]
  have e2 : swp R j h1 h2 = R.take (j - 1) ++ (R[j] :: R[j - 1] :: R.drop (j + 1)) := by
    unfold swp
    refine List.ext_getElem (by simp only [List.length_set, List.length_append, List.length_take, List.length_cons, List.length_drop]; omega) fun i q1 q2 => ?_
    rw [List.getElem_set, List.getElem_set]
    rw [List.getElem_append]
    simp only [List.length_take]
    by_cases hi1 : j - 1 = i
    · subst hi1
      rw [if_pos rfl, dif_neg (by omega)]
      simp [show j - 1 - min (j - 1) R.length = 0 from by omega]
    · rw [if_neg hi1]
      by_cases hi2 : j = i
      · subst hi2
        rw [if_pos rfl, dif_neg (by omega)]
        simp [show j - min (j - 1) R.length = 1 from by omega]
      · rw [if_neg hi2]
        by_cases hi3 : i < j - 1
        · rw [dif_pos (by omega), List.getElem_take]
        · rw [dif_neg (by omega)]
          obtain ⟨q, hq⟩ : ∃ q, i - min (j - 1) R.length = q + 2 := ⟨i - min (j - 1) R.length - 2, by omega⟩
          simp only [hq, List.getElem_cons_succ, List.getElem_drop]
          congr 1; omega
  rw [e2]
  conv => rhs; rw [e]
  exact (List.Perm.swap _ _ _).append_left _
end Go.Proofs.Ytmhmbmogodofeaa.S
