import Derived.Test.YtmhmbmogodofeaaCYe
set_option autoImplicit false
set_option linter.unusedVariables false
set_option linter.unusedSimpArgs false
set_option maxRecDepth 100000
namespace Go.Proofs.Ytmhmbmogodofeaa.S
open Go.FS Go.RowKit
attribute [local congr] bind_cg cond_cg gd_cg
/-! Compact. -/
theorem cpt_snoc : ∀ (a : List Str) (x y : Str), cpt (a ++ [x, y]) = if x = y then cpt (a ++ [x]) else cpt (a ++ [x]) ++ [y]
  | [], x, y => by
    show cpt [x, y] = if x = y then cpt [x] else cpt [x] ++ [y]
    rw [cpt_two, cpt_one, cpt_one]
    split
    · rename_i h; rw [h]
    · rfl
  | [b], x, y => by
    have ih := cpt_snoc [] x y
    show cpt (b :: x :: [y]) = if x = y then cpt (b :: x :: []) else cpt (b :: x :: []) ++ [y]
    have ih : cpt (x :: [y]) = if x = y then cpt [x] else cpt [x] ++ [y] := ih
    rw [cpt_two b x [y], cpt_two b x [], ih]
    split <;> split <;> rfl
  | b :: c :: a, x, y => by
    have ih := cpt_snoc (c :: a) x y
    show cpt (b :: c :: (a ++ [x, y])) = if x = y then cpt (b :: c :: (a ++ [x])) else cpt (b :: c :: (a ++ [x])) ++ [y]
    rw [cpt_two, cpt_two]
    have ih : cpt (c :: (a ++ [x, y])) = if x = y then cpt (c :: (a ++ [x])) else cpt (c :: (a ++ [x])) ++ [y] := ih
    rw [ih]
    split <;> split <;> rfl
theorem cpt_take (l : List Str) {m : Nat} (h1 : 1 ≤ m) (h : m < l.length) : cpt (l.take (m + 1)) = if l[m - 1] = l[m] then cpt (l.take m) else cpt (l.take m) ++ [l[m]] := by
  have e1 : l.take m = l.take (m - 1) ++ [l[m - 1]] := by
    have := List.take_succ_eq_append_getElem (show m - 1 < l.length by omega)
    rw [show m - 1 + 1 = m from by omega] at this
    exact this
  have e2 : l.take (m + 1) = l.take (m - 1) ++ [l[m - 1], l[m]] := by
    rw [List.take_succ_eq_append_getElem h, e1, List.append_assoc]; rfl
  rw [e2, cpt_snoc, ← e1]
theorem bop_seq (t : TypeId) (x y : Str) (ht : t = 9) : bopD Try.prog .eql t (encStr x) (encStr y) = some (.bool (decide (x = y))) := by
  subst ht
  have : bopD Try.prog .eql 9 (encStr x) (encStr y) = some (.bool ((⟨x.toArray⟩ : ByteArray).toList == (⟨y.toArray⟩ : ByteArray).toList)) := rfl
  rw [this, ba_toList, ba_toList]
  show some (Value.bool (x == y)) = _
  congr 2
  rw [Bool.eq_iff_iff]; simp
theorem bop_sne (t : TypeId) (x y : Str) (ht : t = 9) : bopD Try.prog .neq t (encStr x) (encStr y) = some (.bool (!decide (x = y))) := by
  subst ht
  have : bopD Try.prog .neq 9 (encStr x) (encStr y) = some (.bool (!((⟨x.toArray⟩ : ByteArray).toList == (⟨y.toArray⟩ : ByteArray).toList))) := rfl
  rw [this, ba_toList, ba_toList]
  show some (Value.bool (!(x == y))) = _
  congr 3
  rw [Bool.eq_iff_iff]; simp
theorem slc_rs {k : IntKind} (s : SH) {id o n c j : Nat} (hc : c / 2 = 1) (hj : j ≤ n) : ∃ c', c' / 2 = 1 ∧ slcD Try.prog s 45 (.slice (some ⟨id, o, none⟩) n c) (some (.int k (j : Int))) none none = some (.slice (some ⟨id, o + j, none⟩) (n - j) c') := by
  have h0 : decide ((0 : Int) ≤ (j : Int)) = true := by simp
  refine ⟨2 * 1 + (bif (false || Nat.beq (c % 2) 1) && Nat.beq n n then 1 else 0), by cases Nat.beq (c % 2) 1 <;> rw [beq_yes] <;> rfl, ?_⟩
  have e1 : sliceD Try.prog 45 (.slice (some ⟨id, o, none⟩) n c) (some (.int k (j : Int))) none none = some (.slice (some ⟨id, o + j, none⟩) (n - j) (2 * 1 + (bif (false || Nat.beq (c % 2) 1) && Nat.beq n n then 1 else 0))) := by
    unfold sliceD
    simp only [optInt, h0, condT, bindS, Int.toNat_natCast, u45, z9, hc, beq_yes, Option.getD_none, Option.getD_some, Nat.ble_eq_true_of_le hj, Nat.ble_eq_true_of_le (Nat.le_refl n), Option.isSome_none, Option.isNone_none, Bool.or_true, Bool.and_self, Bool.false_or, Nat.mul_one]
  unfold slcD
  rw [e1]; rfl
theorem slc_rs0 {k : IntKind} (s : SH) {id o n c j : Nat} (hc : c / 2 = 1) (hj : j ≤ n) : ∃ c', c' / 2 = 1 ∧ slcD Try.prog s 45 (.slice (some ⟨id, o, none⟩) n c) none (some (.int k (j : Int))) none = some (.slice (some ⟨id, o, none⟩) j c') := by
  have h0 : decide ((0 : Int) ≤ (j : Int)) = true := by simp
  refine ⟨2 * 1 + (bif (false || Nat.beq (c % 2) 1) && Nat.beq j n then 1 else 0), by cases (false || Nat.beq (c % 2) 1) && Nat.beq j n <;> rfl, ?_⟩
  have e1 : sliceD Try.prog 45 (.slice (some ⟨id, o, none⟩) n c) none (some (.int k (j : Int))) none = some (.slice (some ⟨id, o, none⟩) j (2 * 1 + (bif (false || Nat.beq (c % 2) 1) && Nat.beq j n then 1 else 0))) := by
    unfold sliceD
    simp only [optInt, h0, condT, bindS, Int.toNat_natCast, u45, z9, hc, beq_yes, Option.getD_none, Option.getD_some, Nat.ble_eq_true_of_le hj, Nat.ble_eq_true_of_le (Nat.zero_le _), Nat.ble_eq_true_of_le (Nat.le_refl n), Option.isSome_none, Option.isNone_none, Option.isSome_some, Bool.or_true, Bool.true_or, Bool.and_self, Bool.false_or, Nat.zero_mul, Nat.add_zero, Nat.sub_zero]
  unfold slcD
  rw [e1]; rfl
theorem ix_rso {id o n c i : Nat} {k : IntKind} (hi : i < n) : indexAddrD Try.prog 45 (.slice (some ⟨id, o, none⟩) n c) (.int k (i : Int)) = some (.pointer (some ⟨id, o + i, none⟩)) := by
  have h0 : decide ((0 : Int) ≤ (i : Int)) = true := decide_eq_true (by omega)
  have h1 : decide ((i : Int) < (n : Int)) = true := decide_eq_true (by omega)
  simp only [indexAddrD, u45, z9, bindS, h0, h1, Bool.and_self, condT]
  rw [Int.toNat_natCast, Nat.mul_one]
theorem repL (n : Nat) : (repeatL n [Value.string ⟨#[]⟩]).length = n ∧ (repeatL n [Value.string ⟨#[]⟩]).all oneC = true := by
  induction n with
  | zero => exact ⟨rfl, rfl⟩
  | succ n ih =>
    constructor
    · show ([Value.string ⟨#[]⟩] ++ repeatL n [Value.string ⟨#[]⟩]).length = _
      rw [List.length_append, ih.1]; simp; omega
    · show ([Value.string ⟨#[]⟩] ++ repeatL n [Value.string ⟨#[]⟩]).all oneC = _
      rw [List.all_append, ih.2]; rfl
theorem clr_rs {s : SH} {id o n c : Nat} {r : List Value} (hc : c / 2 = 1) (h : HP.get s.h id = some (.row r)) (hr : o + n ≤ r.length) : ∃ s' z, clearD Try.prog s 45 (.slice (some ⟨id, o, none⟩) n c) = some s' ∧ s'.n = s.n ∧ HP.get s'.h id = some (.row (r.take o ++ z)) ∧ ∀ j, j ≠ id → HP.get s'.h j = HP.get s.h j := by
  have hi : Try.prog.info? 9 = some Try.t9 := by kernel_rfl
  have hz : (Try.t9.size : Nat) = 1 := by kernel_rfl
  have e0 : clearD Try.prog s 45 (.slice (some ⟨id, o, none⟩) n c) = bif Nat.beq n 0 then some s else storeAt s id o (repeatL n [Value.string ⟨#[]⟩]) := by
    simp only [clearD, u45, hi, bindS, zr9, hz, hc]
    rfl
  rw [e0]
  by_cases hn : n = 0
  · subst hn
    exact ⟨s, r.drop o, rfl, rfl, by rw [List.take_append_drop]; exact h, fun _ _ => rfl⟩
  · rw [beq_no hn, condF]
    have e1 : storeAt s id o (repeatL n [Value.string ⟨#[]⟩]) = some (putD s id (.row (splice r o (repeatL n [Value.string ⟨#[]⟩])))) := by
      unfold storeAt
      rw [row_of h, bindS, (repL n).1, (repL n).2, Nat.ble_eq_true_of_le hr]; rfl
    refine ⟨_, repeatL n [Value.string ⟨#[]⟩] ++ r.drop (o + n), e1, rfl, ?_, fun j hj => get_put_other hj⟩
    rw [get_put_same]
    unfold splice
    rw [(repL n).1]
/-- Compact: what is the same one behind the other is there once. -/
theorem c83 {n lo : Nat} {s : SH} {v : Value} {l : List Str} (h : RowE lo s v l) (hl : l.length ≤ 1000000) : ∃ w s', callD Try.prog AB (n + 1) (.fn 83) [v] s = some [(w, s')] ∧ RowS lo s' w (cpt l) ∧ Sm lo s s' := by
  rw [call_fn (fn := Try.f83) rfl rfl (by kernel_rfl)]
  suffices h : One (bodyD Try.prog false (callD Try.prog AB n) AB.N 83 Try.f83 [v] s) fun w s' => RowS lo s' w (cpt l) ∧ Sm lo s s' by
    obtain ⟨w, s', e, h1, h2⟩ := h
    exact ⟨w, s', e, h1, h2⟩
  rw [f83_r]
  have hRS := h.s
  obtain ⟨id, c, rfl, h2, h3, h4, h5⟩ := h
  by_cases h2l : l.length < 2
  · have hlt : (l.length : Int) < 2 := by omega
    have e : cpt l = l := by
      match l, h2l with
      | [], _ => rfl
      | [x], _ => rfl
    simp only [f83, o_bool, o_alloc, o_box, o_build, o_buildSlice, o_load, o_store, o_nilCheck, o_bop, o_uop, o_conv, o_slc, o_fieldAddr, o_field, o_indexAddr, o_index, o_extract, o_lookup, o_mapUpdate, o_makeSlice, o_clear, o_makeMap, o_mapEntry, o_entryStore, o_delete, o_len, o_append, o_min, o_max, o_tgt, bindS, many1, jnE, boolS, gdB, fst', snd', len_rs hRS, bop_lss, hlt, decide_true, condT]
    exact One.ret ⟨by rw [e]; exact hRS, .refl _ _⟩
  · have hnlt : ¬ (l.length : Int) < 2 := by omega
    simp only [f83, o_bool, o_alloc, o_box, o_build, o_buildSlice, o_load, o_store, o_nilCheck, o_bop, o_uop, o_conv, o_slc, o_fieldAddr, o_field, o_indexAddr, o_index, o_extract, o_lookup, o_mapUpdate, o_makeSlice, o_clear, o_makeMap, o_mapEntry, o_entryStore, o_delete, o_len, o_append, o_min, o_max, o_tgt, bindS, many1, jnE, boolS, gdB, fst', snd', len_rs hRS, bop_lss, hnlt, decide_false, condF]
    refine loop_rule (fun d (x : Value × Value × Value × Value) (s' : SH) => s' = s ∧ ∃ k, k + d = l.length ∧ 1 ≤ k ∧ x.2.1 = .int .i64 (k : Int) ∧ cpt (l.take k) = l.take k) (fun r => One r fun w s' => RowS lo s' w (cpt l) ∧ Sm lo s s') ?_ _ (l.length - 1) _ _ ⟨rfl, 1, by omega, Nat.le_refl _, rfl, ?_⟩ (by show l.length - 1 < 2 ^ 64; omega)
    · rintro d ⟨x1, x2, x3, x4⟩ s' ⟨rfl, k, hk, hk1, e2, hcp⟩ nx hnx
      simp only at e2
      subst e2
      by_cases hd : d = 0
      · have : k = l.length := by omega
        subst this
        have hng : ¬ ((l.length : Int) < l.length) := by omega
        simp only [f83_l0, o_bool, o_alloc, o_box, o_build, o_buildSlice, o_load, o_store, o_nilCheck, o_bop, o_uop, o_conv, o_slc, o_fieldAddr, o_field, o_indexAddr, o_index, o_extract, o_lookup, o_mapUpdate, o_makeSlice, o_clear, o_makeMap, o_mapEntry, o_entryStore, o_delete, o_len, o_append, o_min, o_max, o_tgt, bindS, many1, jnE, boolS, gdB, fst', snd', len_rs hRS, bop_lss, hng, decide_false, condF, beq_yes, condT]
        rw [List.take_length] at hcp
        exact One.ret ⟨by rw [hcp]; exact hRS, .refl _ _⟩
      · have hkl : k < l.length := by omega
        have hlt : (k : Int) < l.length := by omega
        have hwm : IntKind.i64.wrap ((k : Int) - 1) = ((k - 1 : Nat) : Int) := by rw [wrap_i64 (by omega) (by omega)]; omega
        have hw : IntKind.i64.wrap ((k : Int) + 1) = ((k + 1 : Nat) : Int) := by rw [wrap_i64 (by omega) (by omega)]; rfl
        have h5' : HP.get s'.h id = some (.row (l.map encStr ++ [])) := by rw [List.append_nil]; exact h5
        have hct := cpt_take l hk1 hkl
        by_cases heq : l[k] = l[k - 1]
        · obtain ⟨c', hc', es⟩ := slc_rs (k := .i64) s' (id := id) (o := 0) h4 (show k ≤ l.length by omega)
          simp only [f83_l0, o_bool, o_alloc, o_box, o_build, o_buildSlice, o_load, o_store, o_nilCheck, o_bop, o_uop, o_conv, o_slc, o_fieldAddr, o_field, o_indexAddr, o_index, o_extract, o_lookup, o_mapUpdate, o_makeSlice, o_clear, o_makeMap, o_mapEntry, o_entryStore, o_delete, o_len, o_append, o_min, o_max, o_tgt, bindS, many1, jnE, boolS, gdB, fst', snd', len_rs hRS, bop_lss, hlt, decide_true, condT, ix_rs hkl, ld_rs hkl h5', b_sub, hwm, ix_rs (show k - 1 < l.length by omega), ld_rs (show k - 1 < l.length by omega) h5', bop_seq 9 _ _ rfl, heq, es]
          rw [if_pos heq.symm] at hct
          refine loop_rule (fun d (x : Value × Value) (s2 : SH) => ∃ (j q : Nat) (R : List Str), j + d = l.length - k ∧ 1 ≤ j ∧ x.2 = .int .i64 (j : Int) ∧ x.1 = .int .i64 (q : Int) ∧ q + 1 ≤ k + j ∧ R.length = l.length ∧ R.take q = cpt (l.take (k + j)) ∧ R.drop (k + j - 1) = l.drop (k + j - 1) ∧ HP.get s2.h id = some (.row (R.map encStr)) ∧ Sm lo s' s2 ∧ id < s2.n) (fun r => One r fun w s2 => RowS lo s2 w (cpt l) ∧ Sm lo s' s2) ?_ _ (l.length - k - 1) _ _ ⟨1, k, l, by omega, Nat.le_refl _, rfl, rfl, Nat.le_refl _, rfl, by rw [hct, hcp], rfl, h5, .refl _ _, h3⟩ (by show _ < 2 ^ 64; omega)
          rintro d2 ⟨y1, y2⟩ s2 ⟨j, q, R, hj, hj1, ej, eq, hq, hR, hRt, hRd, hg, hsm, hid⟩ nx2 hnx2
          simp only at ej eq
          subst ej eq
          have elen : lenOfD Try.prog s2 45 (.slice (some ⟨id, 0 + k, none⟩) (l.length - k) c') = some (.int .i64 ((l.length - k : Nat) : Int)) := by simp only [lenOfD, u45]
          by_cases hd2 : d2 = 0
          · have hjl : k + j = l.length := by omega
            have hng : ¬ ((j : Int) < ((l.length - k : Nat) : Int)) := by omega
            obtain ⟨c2, hc2, es2⟩ := slc_rs (k := .i64) s2 (id := id) (o := 0) h4 (show q ≤ l.length by omega)
            obtain ⟨s3, z, ec, hn3, hg3, ho3⟩ := clr_rs (o := 0 + q) (n := l.length - q) hc2 hg (by rw [List.length_map, hR]; omega)
            obtain ⟨c3, hc3, es3⟩ := slc_rs0 (k := .i64) s3 (id := id) (o := 0) h4 (show q ≤ l.length by omega)
            simp only [f83_l1, o_bool, o_alloc, o_box, o_build, o_buildSlice, o_load, o_store, o_nilCheck, o_bop, o_uop, o_conv, o_slc, o_fieldAddr, o_field, o_indexAddr, o_index, o_extract, o_lookup, o_mapUpdate, o_makeSlice, o_clear, o_makeMap, o_mapEntry, o_entryStore, o_delete, o_len, o_append, o_min, o_max, o_tgt, bindS, many1, jnE, boolS, gdB, fst', snd', elen, bop_lss, hng, decide_false, condF, beq_yes, condT, es2, ec, es3]
            rw [hjl, List.take_length] at hRt
            have hql : q = (cpt l).length := by
              rw [← hRt, List.length_take, hR]; omega
            refine One.ret ⟨⟨id, c3, by rw [hql], h2, by omega, hc3, z, ?_⟩, ⟨by have := hsm.1; omega, fun i hi => by rw [ho3 i (by omega), hsm.2 i hi]⟩⟩
            rw [hg3, ← hRt, List.map_take, Nat.zero_add]
          · have hjl : k + j < l.length := by omega
            have hlt2 : (j : Int) < ((l.length - k : Nat) : Int) := by omega
            have hwm2 : IntKind.i64.wrap ((j : Int) - 1) = ((j - 1 : Nat) : Int) := by rw [wrap_i64 (by omega) (by omega)]; omega
            have hw2 : IntKind.i64.wrap ((j : Int) + 1) = ((j + 1 : Nat) : Int) := by rw [wrap_i64 (by omega) (by omega)]; rfl
            have hwq : IntKind.i64.wrap ((q : Int) + 1) = ((q + 1 : Nat) : Int) := by rw [wrap_i64 (by omega) (by omega)]; rfl
            have hct2 := cpt_take l (show 1 ≤ k + j by omega) hjl
            have hgr : ∀ i (hi : i < R.length) (hi2 : i < l.length), k + j - 1 ≤ i → R[i] = l[i] := fun i hi hi2 hge => by
              have := congrArg (fun z : List Str => z[i - (k + j - 1)]?) hRd
              simp only [List.getElem?_drop] at this
              rw [show k + j - 1 + (i - (k + j - 1)) = i from by omega, List.getElem?_eq_getElem hi, List.getElem?_eq_getElem hi2] at this
              injection this
            have hg' : HP.get s2.h id = some (.row (R.map encStr ++ [])) := by rw [List.append_nil]; exact hg
            have l1 : loadD Try.prog s2 9 (.pointer (some ⟨id, 0 + k + j, none⟩)) = some (encStr l[k + j]) := by
              rw [Nat.zero_add, ld_rs (show k + j < R.length by omega) hg', hgr (k + j) (by omega) hjl (by omega)]
            have l2 : loadD Try.prog s2 9 (.pointer (some ⟨id, 0 + k + (j - 1), none⟩)) = some (encStr l[k + j - 1]) := by
              have e : 0 + k + (j - 1) = k + j - 1 := by omega
              rw [e, ld_rs (show k + j - 1 < R.length by omega) hg', hgr (k + j - 1) (by omega) (by omega) (by omega)]
            by_cases heq2 : l[k + j] = l[k + j - 1]
            · simp only [f83_l1, o_bool, o_alloc, o_box, o_build, o_buildSlice, o_load, o_store, o_nilCheck, o_bop, o_uop, o_conv, o_slc, o_fieldAddr, o_field, o_indexAddr, o_index, o_extract, o_lookup, o_mapUpdate, o_makeSlice, o_clear, o_makeMap, o_mapEntry, o_entryStore, o_delete, o_len, o_append, o_min, o_max, o_tgt, bindS, many1, jnE, boolS, gdB, fst', snd', elen, bop_lss, hlt2, decide_true, condT, ix_rso (show j < l.length - k by omega), l1, b_sub, hwm2, ix_rso (show j - 1 < l.length - k by omega), l2, bop_sne 9 _ _ rfl, heq2, Bool.not_true, condF, bop_add, hw2]
              rw [if_pos heq2.symm] at hct2
              refine hnx2 (d2 - 1) (_, _) _ (by omega) ⟨j + 1, q, R, by omega, by omega, rfl, rfl, by omega, hR, ?_, ?_, hg, hsm, hid⟩
              · rw [show k + (j + 1) = k + j + 1 from by omega, hct2]; exact hRt
              · have e : k + (j + 1) - 1 = (k + j - 1) + 1 := by omega
                rw [e, ← List.drop_drop, ← List.drop_drop, hRd]
            · have est : storeD Try.prog s2 9 (.pointer (some ⟨id, q, none⟩)) (encStr l[k + j]) = some (putD s2 id (.row (splice (R.map encStr) q [encStr l[k + j]]))) := store_row z9 hg rfl rfl rfl (by rw [List.length_map]; omega)
              have ixq : indexAddrD Try.prog 45 (rs id l.length c) (.int .i64 (q : Int)) = some (.pointer (some ⟨id, q, none⟩)) := ix_rs (by omega)
              simp only [f83_l1, o_bool, o_alloc, o_box, o_build, o_buildSlice, o_load, o_store, o_nilCheck, o_bop, o_uop, o_conv, o_slc, o_fieldAddr, o_field, o_indexAddr, o_index, o_extract, o_lookup, o_mapUpdate, o_makeSlice, o_clear, o_makeMap, o_mapEntry, o_entryStore, o_delete, o_len, o_append, o_min, o_max, o_tgt, bindS, many1, jnE, boolS, gdB, fst', snd', elen, bop_lss, hlt2, decide_true, condT, ix_rso (show j < l.length - k by omega), l1, b_sub, hwm2, ix_rso (show j - 1 < l.length - k by omega), l2, bop_sne 9 _ _ rfl, heq2, decide_false, Bool.not_false, ixq, est, bop_add, hw2, hwq]
              rw [if_neg (fun e => heq2 e.symm)] at hct2
              refine hnx2 (d2 - 1) (_, _) _ (by omega) ⟨j + 1, q + 1, R.take q ++ [l[k + j]] ++ R.drop (q + 1), by omega, by omega, rfl, rfl, by omega, ?_, ?_, ?_, ?_, hsm.put h2 _, hid⟩
              · simp only [List.length_append, List.length_take, List.length_drop, List.length_singleton]; omega
              · rw [show k + (j + 1) = k + j + 1 from by omega, hct2, ← hRt]
                rw [List.take_append_of_le_length (by simp only [List.length_append, List.length_take, List.length_singleton]; omega), List.take_of_length_le (by simp only [List.length_append, List.length_take, List.length_singleton]; omega)]
              · have e : k + (j + 1) - 1 = (k + j - 1) + 1 := by omega
                have e2 : (R.take q ++ [l[k + j]] ++ R.drop (q + 1)).drop (k + (j + 1) - 1) = R.drop (k + (j + 1) - 1) := by
                  rw [List.drop_append, List.drop_eq_nil_of_le (by simp only [List.length_append, List.length_take, List.length_singleton]; omega), List.nil_append, List.drop_drop]
                  congr 1
                  simp only [List.length_append, List.length_take, List.length_singleton]; omega
                rw [e2, e, ← List.drop_drop, ← List.drop_drop, hRd]
              · rw [get_put_same]
                unfold splice
                simp only [List.map_append, List.map_take, List.map_drop, List.append_assoc]
                rfl
        · simp only [f83_l0, o_bool, o_alloc, o_box, o_build, o_buildSlice, o_load, o_store, o_nilCheck, o_bop, o_uop, o_conv, o_slc, o_fieldAddr, o_field, o_indexAddr, o_index, o_extract, o_lookup, o_mapUpdate, o_makeSlice, o_clear, o_makeMap, o_mapEntry, o_entryStore, o_delete, o_len, o_append, o_min, o_max, o_tgt, bindS, many1, jnE, boolS, gdB, fst', snd', len_rs hRS, bop_lss, hlt, decide_true, condT, ix_rs hkl, ld_rs hkl h5', b_sub, hwm, ix_rs (show k - 1 < l.length by omega), ld_rs (show k - 1 < l.length by omega) h5', bop_seq 9 _ _ rfl, heq, decide_false, condF, bop_add, hw]
          rw [if_neg (fun e => heq e.symm), hcp] at hct
          exact hnx (d - 1) (_, _, _, _) _ (by omega) ⟨rfl, k + 1, by omega, by omega, rfl, by rw [hct, List.take_succ_eq_append_getElem hkl]⟩
    · match l, h2l with
      | x :: r, _ => rfl
end Go.Proofs.Ytmhmbmogodofeaa.S
