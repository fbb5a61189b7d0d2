import Derived.Test.YtmhmbmogodofeaaCWb
set_option autoImplicit false
set_option linter.unusedVariables false
set_option linter.unusedSimpArgs false
set_option maxRecDepth 100000
namespace Go.Proofs.Ytmhmbmogodofeaa.S
open Go.FS Go.RowKit
attribute [local congr] bind_cg cond_cg gd_cg
/-! DeleteFunc on a row. -/
theorem repL_lz (n : Nat) : repeatL n [Value.string ⟨#[]⟩, Value.string ⟨#[]⟩] = rowL (List.replicate n lz) := by
  induction n with
  | zero => rfl
  | succ n ih =>
    show [Value.string ⟨#[]⟩, Value.string ⟨#[]⟩] ++ repeatL n [Value.string ⟨#[]⟩, Value.string ⟨#[]⟩] = _
    rw [ih]; rfl
theorem slc_rlf {k : IntKind} (s : SH) {id n c j : Nat} (hc : c / 2 = 2) (hj : j ≤ n) : ∃ c', c' / 2 = 2 ∧ slcD Try.prog s 23 (rl id n c) (some (.int k (j : Int))) none none = some (.slice (some ⟨id, j * 2, none⟩) (n - j) c') := by
  have h0 : decide ((0 : Int) ≤ (j : Int)) = true := by simp
  refine ⟨2 * 2 + (bif (false || Nat.beq (c % 2) 1) && Nat.beq n n then 1 else 0), by cases Nat.beq (c % 2) 1 <;> rw [beq_yes] <;> rfl, ?_⟩
  have e1 : sliceD Try.prog 23 (rl id n c) (some (.int k (j : Int))) none none = some (.slice (some ⟨id, j * 2, none⟩) (n - j) (2 * 2 + (bif (false || Nat.beq (c % 2) 1) && Nat.beq n n then 1 else 0))) := by
    unfold sliceD
    simp only [optInt, h0, condT, bindS, Int.toNat_natCast, u23, z106, hc, beq_yes, Option.getD_none, Option.getD_some, Nat.ble_eq_true_of_le hj, Nat.ble_eq_true_of_le (Nat.le_refl n), Option.isSome_none, Option.isNone_none, Bool.or_true, Bool.and_self, Bool.false_or, Nat.zero_add]
  unfold slcD
  rw [e1]; rfl
theorem clr_rl {s : SH} {id q n c : Nat} {R : List Lab} (hc : c / 2 = 2) (h : LR id s R) (hq : q + n = R.length) : ∃ s', clearD Try.prog s 23 (.slice (some ⟨id, q * 2, none⟩) n c) = some s' ∧ s'.n = s.n ∧ LR id s' (R.take q ++ List.replicate n lz) ∧ ∀ j, j ≠ id → HP.get s'.h j = HP.get s.h j := by
  have hi : Try.prog.info? 106 = some Try.t106 := by kernel_rfl
  have hz : (Try.t106.size : Nat) = 2 := by kernel_rfl
  have e0 : clearD Try.prog s 23 (.slice (some ⟨id, q * 2, none⟩) n c) = bif Nat.beq n 0 then some s else storeAt s id (q * 2) (repeatL n [Value.string ⟨#[]⟩, Value.string ⟨#[]⟩]) := by
    simp only [clearD, u23, hi, bindS, zr106, hz, hc]
    rfl
  rw [e0]
  by_cases hn : n = 0
  · subst hn
    refine ⟨s, rfl, rfl, ?_, fun _ _ => rfl⟩
    rw [List.take_of_length_le (by omega), List.replicate_zero, List.append_nil]; exact h
  · rw [beq_no hn, condF, repL_lz]
    have hl : (rowL (List.replicate n lz)).length = n * 2 := by rw [rowL_len, List.length_replicate]
    have e1 : storeAt s id (q * 2) (rowL (List.replicate n lz)) = some (putD s id (.row (splice (rowL R) (q * 2) (rowL (List.replicate n lz))))) := by
      unfold storeAt
      rw [row_of h, bindS, rowL_one, Nat.ble_eq_true_of_le (by rw [hl, rowL_len]; omega)]; rfl
    refine ⟨_, e1, rfl, ?_, fun j hj => get_put_other hj⟩
    unfold LR
    rw [get_put_same]
    unfold splice
    rw [hl, rowL_take, List.drop_eq_nil_of_le (by rw [rowL_len]; omega), List.append_nil, rowL_app]
def keepN (name : ByteArray) (a : Lab) : Bool := !isN name a
theorem filter_take_succ (p : Lab → Bool) {l : List Lab} {i : Nat} (h : i < l.length) : (l.take (i + 1)).filter p = if p l[i] then (l.take i).filter p ++ [l[i]] else (l.take i).filter p := by
  rw [List.take_succ_eq_append_getElem h, List.filter_append]
  cases hp : p l[i] with
  | true => rw [if_pos rfl]; simp [hp]
  | false => rw [if_neg (by simp)]; simp [hp]
theorem c76 {n id c p : Nat} {s : SH} {l : List Lab} {name : ByteArray} (hc : c / 2 = 2) (hid : id < s.n) (hp : p < s.n) (hpi : p ≠ id) (hl : l.length < 2 ^ 60) (hL : LR id s l) (hN : HP.get s.h p = some (.row [.string name])) :
    ∃ s' c' R', callD Try.prog AB (n + 3) (.fn 76) [rl id l.length c, .func (.func 77) #[] #[.pointer (some ⟨p, 0, none⟩)]] s = some [(rl id (l.filter (keepN name)).length c', s')] ∧ c' / 2 = 2 ∧ LR id s' R' ∧ R'.length = l.length ∧ R'.take (l.filter (keepN name)).length = l.filter (keepN name) ∧ s.n ≤ s'.n ∧ ∀ j, j < s.n → j ≠ id → HP.get s'.h j = HP.get s.h j := by
  rw [call_fn (fn := Try.f76) rfl rfl (by kernel_rfl)]
  suffices h : One (bodyD Try.prog false (callD Try.prog AB (n + 2)) AB.N 76 Try.f76 [rl id l.length c, .func (.func 77) #[] #[.pointer (some ⟨p, 0, none⟩)]] s) fun w s' => ∃ c' R', w = rl id (l.filter (keepN name)).length c' ∧ c' / 2 = 2 ∧ LR id s' R' ∧ R'.length = l.length ∧ R'.take (l.filter (keepN name)).length = l.filter (keepN name) ∧ s.n ≤ s'.n ∧ ∀ j, j < s.n → j ≠ id → HP.get s'.h j = HP.get s.h j by
    obtain ⟨w, s', e, c', R', rfl, h⟩ := h
    exact ⟨s', c', R', e, h⟩
  rw [f76_r]
  have tg : ∀ v : Value, tgtD (.func (.func 77) #[] #[.pointer (some ⟨p, 0, none⟩)]) [v] = some (.fn 77, [v, .pointer (some ⟨p, 0, none⟩)]) := fun v => by simp [tgtD]
  have h126 := c126 (n := n + 1) (g := 77) (s := s) (v := rl id l.length c) (fs := .func (.func 77) #[] #[.pointer (some ⟨p, 0, none⟩)]) (isN name) (by omega) (lenr s)
    (fun i h => ⟨_, ix23 h, ldr hL h⟩) (fun a _ => ⟨_, tg _, c77 a hp hN⟩)
  have hle := fstI_le (isN name) l
  have hbef : ∀ i (h : i < l.length), i < fstI (isN name) l → isN name l[i] = false := by
    have key : ∀ (l : List Lab) i (h : i < l.length), i < fstI (isN name) l → isN name l[i] = false := by
      intro l
      induction l with
      | nil => intro i h; exact absurd h (Nat.not_lt_zero _)
      | cons a l ih =>
        intro i h hi
        have hi : i < if isN name a then 0 else fstI (isN name) l + 1 := hi
        split at hi
        · omega
        · rename_i hna
          cases i with
          | zero => simpa using hna
          | succ i => exact ih i (by simpa using h) (by omega)
    exact key l
  have hpre : ∀ i, i ≤ fstI (isN name) l → (l.take i).filter (keepN name) = l.take i := by
    intro i
    induction i with
    | zero => intro _; simp
    | succ i ih =>
      intro hi
      have hil : i < l.length := by omega
      rw [filter_take_succ _ hil, ih (by omega)]
      have : keepN name l[i] = true := by unfold keepN; rw [hbef i hil (by omega)]; rfl
      rw [if_pos this, List.take_succ_eq_append_getElem hil]
  by_cases he : fstI (isN name) l = l.length
  · rw [if_pos he] at h126
    have hf : l.filter (keepN name) = l := by have := hpre l.length (by omega); rwa [List.take_length] at this
    simp only [f76, o_bool, o_alloc, o_box, o_build, o_buildSlice, o_load, o_store, o_nilCheck, o_bop, o_uop, o_conv, o_slc, o_fieldAddr, o_field, o_indexAddr, o_index, o_extract, o_lookup, o_mapUpdate, o_makeSlice, o_clear, o_makeMap, o_mapEntry, o_entryStore, o_delete, o_len, o_append, o_min, o_max, o_tgt, bindS, many1, jnE, boolS, gdB, fst', snd', h126, bop_eql, decide_true, condT]
    exact One.ret ⟨c, l, by rw [hf], hc, hL, rfl, by rw [hf, List.take_length], Nat.le_refl _, fun _ _ _ => rfl⟩
  · rw [if_neg he] at h126
    have hlt0 : fstI (isN name) l < l.length := by omega
    have hat : isN name l[fstI (isN name) l] = true := by
      have key : ∀ (l : List Lab) (h : fstI (isN name) l < l.length), isN name l[fstI (isN name) l] = true := by
        intro l
        induction l with
        | nil => intro h; exact absurd h (Nat.not_lt_zero _)
        | cons a l ih =>
          intro h
          by_cases hna : isN name a = true
          · have e : fstI (isN name) (a :: l) = 0 := by show (if isN name a then 0 else _) = 0; rw [if_pos hna]
            simp only [e]; exact hna
          · have e : fstI (isN name) (a :: l) = fstI (isN name) l + 1 := by show (if isN name a then 0 else _) = _; rw [if_neg hna]
            simp only [e, List.getElem_cons_succ]
            exact ih (by rw [e] at h; simpa using h)
      exact key l hlt0
    generalize fstI (isN name) l = i0 at h126 hle he hlt0 hat hpre
    have hne : ¬ ((i0 : Int) = -1) := by omega
    have hw0 : IntKind.i64.wrap ((i0 : Int) + 1) = ((i0 + 1 : Nat) : Int) := by rw [wrap_i64 (by omega) (by omega)]; rfl
    simp only [f76, o_bool, o_alloc, o_box, o_build, o_buildSlice, o_load, o_store, o_nilCheck, o_bop, o_uop, o_conv, o_slc, o_fieldAddr, o_field, o_indexAddr, o_index, o_extract, o_lookup, o_mapUpdate, o_makeSlice, o_clear, o_makeMap, o_mapEntry, o_entryStore, o_delete, o_len, o_append, o_min, o_max, o_tgt, bindS, many1, jnE, boolS, gdB, fst', snd', h126, bop_eql, hne, decide_false, condF, bop_add, hw0]
    refine loop_rule (fun d (x : Value × Value) (s' : SH) => ∃ (j : Nat) (R1 : List Lab), d = l.length - j ∧ i0 + 1 ≤ j ∧ j ≤ l.length ∧ x.2 = .int .i64 (j : Int) ∧ x.1 = .int .i64 (((l.take j).filter (keepN name)).length : Int) ∧ ((l.take j).filter (keepN name)).length ≤ j ∧ LR id s' R1 ∧ R1.length = l.length ∧ R1.take ((l.take j).filter (keepN name)).length = (l.take j).filter (keepN name) ∧ R1.drop j = l.drop j ∧ s.n ≤ s'.n ∧ ∀ i, i < s.n → i ≠ id → HP.get s'.h i = HP.get s.h i)
      (fun r => One r fun w s' => ∃ c' R', w = rl id (l.filter (keepN name)).length c' ∧ c' / 2 = 2 ∧ LR id s' R' ∧ R'.length = l.length ∧ R'.take (l.filter (keepN name)).length = l.filter (keepN name) ∧ s.n ≤ s'.n ∧ ∀ j, j < s.n → j ≠ id → HP.get s'.h j = HP.get s.h j) ?_ _ (l.length - (i0 + 1)) _ _ ?_ (by show _ < 2 ^ 64; omega)
    · rintro d ⟨x1, x2⟩ s1 ⟨j, R1, rfl, hj0, hjl, e1, e2, hq, hR, hRl, hRt, hRd, hn, hsame⟩ nx hnx
      simp only at e1 e2
      subst e1 e2
      have hlenN : ∀ s : SH, lenOfD Try.prog s 23 (rl id l.length c) = some (.int .i64 (l.length : Int)) := fun s => lenr s
      by_cases hj : j < l.length
      · have hlt : (j : Int) < (l.length : Int) := by omega
        have hw : IntKind.i64.wrap ((j : Int) + 1) = ((j + 1 : Nat) : Int) := by rw [wrap_i64 (by omega) (by omega)]; rfl
        have hRj : R1[j]'(by omega) = l[j] := by
          have := congrArg (fun z : List Lab => z[0]?) hRd
          simp only [List.getElem?_drop, Nat.add_zero] at this
          rw [List.getElem?_eq_getElem (show j < R1.length by omega), List.getElem?_eq_getElem hj] at this
          injection this
        have hld := ldr hR (show j < R1.length by omega)
        rw [hRj] at hld
        have hst : storeD Try.prog (newD s1 (.row (lab lz))) 106 (.pointer (some ⟨s1.n, 0, none⟩)) (.agg (lab l[j]).toArray) = some (putD (newD s1 (.row (lab lz))) s1.n (.row (lab l[j]))) := st106 (get_new rfl)
        have ha : HP.get (putD (newD s1 (.row (lab lz))) s1.n (.row (lab l[j]))).h s1.n = some (.row (lab l[j])) := get_put_same _
        have hn2 : (putD (newD s1 (.row (lab lz))) s1.n (.row (lab l[j]))).n = s1.n + 1 := rfl
        have hR2 : LR id (putD (newD s1 (.row (lab lz))) s1.n (.row (lab l[j]))) R1 := by unfold LR; rw [get_put_other (by omega), get_old (by omega)]; exact hR
        have hs2 : ∀ i, i < s.n → i ≠ id → HP.get (putD (newD s1 (.row (lab lz))) s1.n (.row (lab l[j]))).h i = HP.get s.h i := fun i hi hi2 => by rw [get_put_other (by omega), get_old (by omega), hsame i hi hi2]
        have hN2 : HP.get (putD (newD s1 (.row (lab lz))) s1.n (.row (lab l[j]))).h p = some (.row [.string name]) := by rw [hs2 p hp hpi]; exact hN
        have h77 := c77 (n := n + 1) (s := putD (newD s1 (.row (lab lz))) s1.n (.row (lab l[j]))) l[j] (by omega) hN2
        have hfs := filter_take_succ (keepN name) hj
        have hdr : R1.drop (j + 1) = l.drop (j + 1) := by rw [← List.drop_drop, ← List.drop_drop, hRd]
        simp only [f76_l0, o_bool, o_alloc, o_box, o_build, o_buildSlice, o_load, o_store, o_nilCheck, o_bop, o_uop, o_conv, o_slc, o_fieldAddr, o_field, o_indexAddr, o_index, o_extract, o_lookup, o_mapUpdate, o_makeSlice, o_clear, o_makeMap, o_mapEntry, o_entryStore, o_delete, o_len, o_append, o_min, o_max, o_tgt, bindS, many1, jnE, boolS, gdB, fst', snd', hlenN, bop_lss, hlt, decide_true, condT, ix23 hj, hld, al106, hst, ld106 ha, tg, h77, uop_not]
        generalize putD (newD s1 (.row (lab lz))) s1.n (.row (lab l[j])) = s2 at ha hn2 hR2 hs2
        have hkn : (!isN name l[j]) = keepN name l[j] := rfl
        rw [hkn]
        cases hkp : keepN name l[j] with
        | true =>
          rw [hkp, if_pos rfl] at hfs
          have hqj : ((l.take j).filter (keepN name)).length < j ∨ True := .inr trivial
          have hql : ((l.take j).filter (keepN name)).length < l.length := by omega
          have hwq : IntKind.i64.wrap ((((l.take j).filter (keepN name)).length : Int) + 1) = ((((l.take j).filter (keepN name)).length + 1 : Nat) : Int) := by rw [wrap_i64 (by omega) (by omega)]; rfl
          have hst2 := str_ l[j] hR2 (show ((l.take j).filter (keepN name)).length < R1.length by omega)
          simp only [condT, ix23 hql, ld106 ha, hst2, bop_add, hw, hwq, bindS]
          refine hnx (l.length - (j + 1)) (_, _) _ (by omega) ⟨j + 1, R1.set ((l.take j).filter (keepN name)).length l[j], rfl, by omega, by omega, rfl, by rw [hfs, List.length_append]; rfl, by rw [hfs, List.length_append, List.length_singleton]; omega, get_put_same _, by rw [List.length_set, hRl], ?_, ?_, by rw [putD_n]; omega, fun i hi hi2 => by rw [get_put_other hi2, hs2 i hi hi2]⟩
          · rw [hfs, List.length_append, List.length_singleton, List.set_eq_take_append_cons_drop, if_pos (by omega), hRt, List.take_append, List.take_of_length_le (by omega), show ((l.take j).filter (keepN name)).length + 1 - ((l.take j).filter (keepN name)).length = 1 from by omega]
            rfl
          · rw [List.drop_set_of_lt (by omega), hdr]
        | false =>
          rw [hkp, if_neg (by simp)] at hfs
          simp only [condF, bop_add, hw, bindS]
          refine hnx (l.length - (j + 1)) (_, _) _ (by omega) ⟨j + 1, R1, rfl, by omega, by omega, rfl, by rw [hfs], by rw [hfs]; omega, hR2, hRl, by rw [hfs]; exact hRt, hdr, by omega, hs2⟩
      · have hjl : j = l.length := by omega
        subst hjl
        have hnlt : ¬ ((l.length : Int) < (l.length : Int)) := by omega
        rw [List.take_length] at hRt hq ⊢
        obtain ⟨c1, hc1, es1⟩ := slc_rlf (k := .i64) s1 (id := id) (n := l.length) (c := c) hc hq
        obtain ⟨s2, ecl, hn2, hL2, ho2⟩ := clr_rl (c := c1) hc1 hR (show (l.filter (keepN name)).length + (l.length - (l.filter (keepN name)).length) = R1.length by omega)
        obtain ⟨c3, hc3, es3⟩ := slc_rl (k := .i64) s2 (id := id) (n := l.length) (c := c) hc hq
        simp only [f76_l0, o_bool, o_alloc, o_box, o_build, o_buildSlice, o_load, o_store, o_nilCheck, o_bop, o_uop, o_conv, o_slc, o_fieldAddr, o_field, o_indexAddr, o_index, o_extract, o_lookup, o_mapUpdate, o_makeSlice, o_clear, o_makeMap, o_mapEntry, o_entryStore, o_delete, o_len, o_append, o_min, o_max, o_tgt, bindS, many1, jnE, boolS, gdB, fst', snd', hlenN, bop_lss, hnlt, decide_false, condF, beq_yes, condT, es1, ecl, es3]
        refine One.ret ⟨c3, _, rfl, hc3, hL2, ?_, ?_, by omega, fun j hj hj2 => by rw [ho2 j hj2, hsame j hj hj2]⟩
        · rw [List.length_append, List.length_take, List.length_replicate]; omega
        · rw [hRt, List.take_append_of_le_length (Nat.le_refl _), List.take_length]
    · have hil : i0 < l.length := hlt0
      have hkf : keepN name l[i0] = false := by unfold keepN; rw [hat]; rfl
      have hfs := filter_take_succ (keepN name) hil
      rw [hkf, if_neg (by simp), hpre i0 (by omega)] at hfs
      have hll : (l.take i0).length = i0 := by rw [List.length_take]; omega
      refine ⟨i0 + 1, l, rfl, Nat.le_refl _, by omega, rfl, by rw [hfs, hll], by rw [hfs, hll]; omega, hL, rfl, by rw [hfs, hll], rfl, Nat.le_refl _, fun _ _ _ => rfl⟩
end Go.Proofs.Ytmhmbmogodofeaa.S
