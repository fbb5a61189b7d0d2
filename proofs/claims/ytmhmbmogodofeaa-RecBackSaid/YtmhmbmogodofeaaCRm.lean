import Derived.Test.YtmhmbmogodofeaaCRk
set_option autoImplicit false
set_option linter.unusedVariables false
set_option linter.unusedSimpArgs false
set_option maxRecDepth 100000
namespace Go.Proofs.Ytmhmbmogodofeaa.S
open Go.FS Go.RowKit
attribute [local congr] bind_cg cond_cg gd_cg
/-- A reader's place and error. -/
abbrev Rs := Nat × Int
def rdr (m : Nat) (bs : List UInt8) (r : Rs) : List Value := [sl by' m bs, .int .i64 (r.1 : Int), .int .i64 r.2]
section rds
variable {s : SH} {q m : Nat} {bs : List UInt8} {r : Rs} (h : HP.get s.h q = some (.row (rdr m bs r)))
include h
theorem lrd0 : loadD Try.prog s 35 (.pointer (some ⟨q, 0, none⟩)) = some (sl by' m bs) := by rw [load_row h, part_one a35]; rfl
theorem lrd1 : loadD Try.prog s 3 (.pointer (some ⟨q, 1, none⟩)) = some (.int .i64 (r.1 : Int)) := by rw [load_row h, part_one a3]; rfl
theorem lrd2 : loadD Try.prog s 26 (.pointer (some ⟨q, 2, none⟩)) = some (.int .i64 r.2) := by rw [load_row h, part_one a26]; rfl
theorem srd1 (j : Nat) : storeD Try.prog s 3 (.pointer (some ⟨q, 1, none⟩)) (.int .i64 (j : Int)) = some (putD s q (.row (rdr m bs (j, r.2)))) := store_row (l := [.int .i64 (j : Int)]) z3 h rfl rfl rfl (by simp [rdr])
theorem srd2 (e : Int) : storeD Try.prog s 26 (.pointer (some ⟨q, 2, none⟩)) (.int .i64 e) = some (putD s q (.row (rdr m bs (r.1, e)))) := store_row (l := [.int .i64 e]) z26 h rfl rfl rfl (by simp [rdr])
end rds
/-- What a reader read: all that was there stands, but for the reader's row. -/
def Rq (q m : Nat) (bs : List UInt8) (s s' : SH) (r : Rs) : Prop := s.n ≤ s'.n ∧ (∀ j, j < s.n → j ≠ q → HP.get s'.h j = HP.get s.h j) ∧ HP.get s'.h q = some (.row (rdr m bs r))
theorem Rq.trans {q m : Nat} {bs : List UInt8} {a b c : SH} {x y : Rs} (h : Rq q m bs a b x) (k : Rq q m bs b c y) : Rq q m bs a c y := ⟨Nat.le_trans h.1 k.1, fun j hj hq => (k.2.1 j (Nat.lt_of_lt_of_le hj h.1) hq).trans (h.2.1 j hj hq), k.2.2⟩
theorem Rq.from {q m : Nat} {bs : List UInt8} {s s1 s' : SH} {x : Rs} (hn : s.n ≤ s1.n) (hg : ∀ j, j < s.n → HP.get s1.h j = HP.get s.h j) (k : Rq q m bs s1 s' x) : Rq q m bs s s' x := ⟨Nat.le_trans hn k.1, fun j hj hq => (k.2.1 j (Nat.lt_of_lt_of_le hj hn) hq).trans (hg j hj), k.2.2⟩
theorem take190 {C : OracleJ HP} {N q m : Nat} {bs : List UInt8} {r : Rs} {s s1 : SH} {g1 g2 x0 : Value} {j : Nat} {e : Int} {ok : Bool} {t1 t2 : Tgt} {a1 a2 : List Value} (hq : q < s.n) (hg : HP.get s.h q = some (.row (rdr m bs r))) (ht1 : tgtD g1 [sl by' m bs, .int .i64 (r.1 : Int)] = some (t1, a1)) (hC1 : r.2 = 0 → C t1 a1 s = some [(.tuple #[x0, .int .i64 (j : Int), .int .i64 e], s1)]) (hsm : Sm s.n s s1) (ht2 : tgtD g2 [x0] = some (t2, a2)) (hC2 : r.2 = 0 → e = 0 → C t2 a2 s1 = some [(.bool ok, s1)]) :
    ∃ s', f190 (dOps Try.prog) C N (pr q) g1 g2 s = some [(if r.2 ≠ 0 then Value.int .u64 0 else if e ≠ 0 then Value.int .u64 0 else if ok = true then x0 else Value.int .u64 0, s')] ∧ Rq q m bs s s' (if r.2 ≠ 0 then r else if e ≠ 0 then (r.1, e) else if ok = true then (j, 0) else (r.1, 190)) := by
  by_cases h0 : r.2 = 0
  case neg =>
    simp only [f190, o_bool, o_alloc, o_box, o_build, o_buildSlice, o_load, o_store, o_nilCheck, o_bop, o_uop, o_conv, o_slc, o_fieldAddr, o_field, o_indexAddr, o_index, o_extract, o_lookup, o_mapUpdate, o_makeMap, o_mapEntry, o_entryStore, o_delete, o_len, o_append, o_min, o_max, o_tgt, bindS, many1, jnE, boolS, gdB, fst', snd', nc, fld153_2, lrd2 hg, b_neq, h0, decide_false, Bool.not_false, condT, ne_eq, not_false_eq_true, if_true]
    exact ⟨s, rfl, Nat.le_refl _, fun _ _ _ => rfl, hg⟩
  have e1 := oneS (hC1 h0)
  have hg1 : HP.get s1.h q = some (.row (rdr m bs r)) := by rw [hsm.2 _ hq, hg]
  obtain ⟨i, e0⟩ := r
  simp only at h0
  subst h0
  simp only [f190, o_bool, o_alloc, o_box, o_build, o_buildSlice, o_load, o_store, o_nilCheck, o_bop, o_uop, o_conv, o_slc, o_fieldAddr, o_field, o_indexAddr, o_index, o_extract, o_lookup, o_mapUpdate, o_makeMap, o_mapEntry, o_entryStore, o_delete, o_len, o_append, o_min, o_max, o_tgt, bindS, many1, jnE, boolS, gdB, fst', snd', nc, fld153_0, fld153_1, fld153_2, lrd0 hg, lrd1 hg, lrd2 hg, b_neq, decide_true, Bool.not_true, condF, ht1, e1, (ext3 _ _ _).1, (ext3 _ _ _).2.1, (ext3 _ _ _).2.2, bop_eql, ne_eq, not_true_eq_false, if_false]
  by_cases he : e = 0
  · subst he
    simp only [decide_true, condT, ht2, hC2 rfl rfl, o_bool, o_alloc, o_box, o_build, o_buildSlice, o_load, o_store, o_nilCheck, o_bop, o_uop, o_conv, o_slc, o_fieldAddr, o_field, o_indexAddr, o_index, o_extract, o_lookup, o_mapUpdate, o_makeMap, o_mapEntry, o_entryStore, o_delete, o_len, o_append, o_min, o_max, o_tgt, bindS, many1, jnE, boolS, gdB, fst', snd', uop_not, not_true_eq_false, if_false]
    cases ok with
    | true =>
      simp only [Bool.not_true, condF, b_neq, decide_true, nc, fld153_1, srd1 hg1, o_bool, o_alloc, o_box, o_build, o_buildSlice, o_load, o_store, o_nilCheck, o_bop, o_uop, o_conv, o_slc, o_fieldAddr, o_field, o_indexAddr, o_index, o_extract, o_lookup, o_mapUpdate, o_makeMap, o_mapEntry, o_entryStore, o_delete, o_len, o_append, o_min, o_max, o_tgt, bindS, many1, jnE, boolS, gdB, fst', snd', if_true]
      exact ⟨_, rfl, hsm.1, fun j hj hjq => by rw [get_put_other hjq, hsm.2 _ hj], get_put_same _⟩
    | false =>
      have : ¬ ((190 : Int) = 0) := by decide
      simp only [Bool.not_false, condT, b_neq, this, decide_false, nc, fld153_2, srd2 hg1, o_bool, o_alloc, o_box, o_build, o_buildSlice, o_load, o_store, o_nilCheck, o_bop, o_uop, o_conv, o_slc, o_fieldAddr, o_field, o_indexAddr, o_index, o_extract, o_lookup, o_mapUpdate, o_makeMap, o_mapEntry, o_entryStore, o_delete, o_len, o_append, o_min, o_max, o_tgt, bindS, many1, jnE, boolS, gdB, fst', snd', Bool.false_eq_true, if_false]
      exact ⟨_, rfl, hsm.1, fun j hj hjq => by rw [get_put_other hjq, hsm.2 _ hj], get_put_same _⟩
  · simp only [he, decide_false, condF, o_bool, o_alloc, o_box, o_build, o_buildSlice, o_load, o_store, o_nilCheck, o_bop, o_uop, o_conv, o_slc, o_fieldAddr, o_field, o_indexAddr, o_index, o_extract, o_lookup, o_mapUpdate, o_makeMap, o_mapEntry, o_entryStore, o_delete, o_len, o_append, o_min, o_max, o_tgt, bindS, many1, jnE, boolS, gdB, fst', snd', b_neq, Bool.not_false, condT, nc, fld153_2, srd2 hg1, not_false_eq_true, if_true]
    exact ⟨_, rfl, hsm.1, fun j hj hjq => by rw [get_put_other hjq, hsm.2 _ hj], get_put_same _⟩
theorem take187 {C : OracleJ HP} {N q m : Nat} {bs : List UInt8} {r : Rs} {s s1 : SH} {g1 g2 x0 : Value} {j : Nat} {e : Int} {ok : Bool} {t1 t2 : Tgt} {a1 a2 : List Value} (hq : q < s.n) (hg : HP.get s.h q = some (.row (rdr m bs r))) (ht1 : tgtD g1 [sl by' m bs, .int .i64 (r.1 : Int)] = some (t1, a1)) (hC1 : r.2 = 0 → C t1 a1 s = some [(.tuple #[x0, .int .i64 (j : Int), .int .i64 e], s1)]) (hsm : Sm s.n s s1) (ht2 : tgtD g2 [x0] = some (t2, a2)) (hC2 : r.2 = 0 → e = 0 → C t2 a2 s1 = some [(.bool ok, s1)]) :
    ∃ s', f187 (dOps Try.prog) C N (pr q) g1 g2 s = some [(if r.2 ≠ 0 then Value.int .i64 0 else if e ≠ 0 then Value.int .i64 0 else if ok = true then x0 else Value.int .i64 0, s')] ∧ Rq q m bs s s' (if r.2 ≠ 0 then r else if e ≠ 0 then (r.1, e) else if ok = true then (j, 0) else (r.1, 190)) := by
  by_cases h0 : r.2 = 0
  case neg =>
    simp only [f187, o_bool, o_alloc, o_box, o_build, o_buildSlice, o_load, o_store, o_nilCheck, o_bop, o_uop, o_conv, o_slc, o_fieldAddr, o_field, o_indexAddr, o_index, o_extract, o_lookup, o_mapUpdate, o_makeMap, o_mapEntry, o_entryStore, o_delete, o_len, o_append, o_min, o_max, o_tgt, bindS, many1, jnE, boolS, gdB, fst', snd', nc, fld153_2, lrd2 hg, b_neq, h0, decide_false, Bool.not_false, condT, ne_eq, not_false_eq_true, if_true]
    exact ⟨s, rfl, Nat.le_refl _, fun _ _ _ => rfl, hg⟩
  have e1 := oneS (hC1 h0)
  have hg1 : HP.get s1.h q = some (.row (rdr m bs r)) := by rw [hsm.2 _ hq, hg]
  obtain ⟨i, e0⟩ := r
  simp only at h0
  subst h0
  simp only [f187, o_bool, o_alloc, o_box, o_build, o_buildSlice, o_load, o_store, o_nilCheck, o_bop, o_uop, o_conv, o_slc, o_fieldAddr, o_field, o_indexAddr, o_index, o_extract, o_lookup, o_mapUpdate, o_makeMap, o_mapEntry, o_entryStore, o_delete, o_len, o_append, o_min, o_max, o_tgt, bindS, many1, jnE, boolS, gdB, fst', snd', nc, fld153_0, fld153_1, fld153_2, lrd0 hg, lrd1 hg, lrd2 hg, b_neq, decide_true, Bool.not_true, condF, ht1, e1, (ext3 _ _ _).1, (ext3 _ _ _).2.1, (ext3 _ _ _).2.2, bop_eql, ne_eq, not_true_eq_false, if_false]
  by_cases he : e = 0
  · subst he
    simp only [decide_true, condT, ht2, hC2 rfl rfl, o_bool, o_alloc, o_box, o_build, o_buildSlice, o_load, o_store, o_nilCheck, o_bop, o_uop, o_conv, o_slc, o_fieldAddr, o_field, o_indexAddr, o_index, o_extract, o_lookup, o_mapUpdate, o_makeMap, o_mapEntry, o_entryStore, o_delete, o_len, o_append, o_min, o_max, o_tgt, bindS, many1, jnE, boolS, gdB, fst', snd', uop_not, not_true_eq_false, if_false]
    cases ok with
    | true =>
      simp only [Bool.not_true, condF, b_neq, decide_true, nc, fld153_1, srd1 hg1, o_bool, o_alloc, o_box, o_build, o_buildSlice, o_load, o_store, o_nilCheck, o_bop, o_uop, o_conv, o_slc, o_fieldAddr, o_field, o_indexAddr, o_index, o_extract, o_lookup, o_mapUpdate, o_makeMap, o_mapEntry, o_entryStore, o_delete, o_len, o_append, o_min, o_max, o_tgt, bindS, many1, jnE, boolS, gdB, fst', snd', if_true]
      exact ⟨_, rfl, hsm.1, fun j hj hjq => by rw [get_put_other hjq, hsm.2 _ hj], get_put_same _⟩
    | false =>
      have : ¬ ((190 : Int) = 0) := by decide
      simp only [Bool.not_false, condT, b_neq, this, decide_false, nc, fld153_2, srd2 hg1, o_bool, o_alloc, o_box, o_build, o_buildSlice, o_load, o_store, o_nilCheck, o_bop, o_uop, o_conv, o_slc, o_fieldAddr, o_field, o_indexAddr, o_index, o_extract, o_lookup, o_mapUpdate, o_makeMap, o_mapEntry, o_entryStore, o_delete, o_len, o_append, o_min, o_max, o_tgt, bindS, many1, jnE, boolS, gdB, fst', snd', Bool.false_eq_true, if_false]
      exact ⟨_, rfl, hsm.1, fun j hj hjq => by rw [get_put_other hjq, hsm.2 _ hj], get_put_same _⟩
  · simp only [he, decide_false, condF, o_bool, o_alloc, o_box, o_build, o_buildSlice, o_load, o_store, o_nilCheck, o_bop, o_uop, o_conv, o_slc, o_fieldAddr, o_field, o_indexAddr, o_index, o_extract, o_lookup, o_mapUpdate, o_makeMap, o_mapEntry, o_entryStore, o_delete, o_len, o_append, o_min, o_max, o_tgt, bindS, many1, jnE, boolS, gdB, fst', snd', b_neq, Bool.not_false, condT, nc, fld153_2, srd2 hg1, not_false_eq_true, if_true]
    exact ⟨_, rfl, hsm.1, fun j hj hjq => by rw [get_put_other hjq, hsm.2 _ hj], get_put_same _⟩
theorem take183 {C : OracleJ HP} {N q m : Nat} {bs : List UInt8} {r : Rs} {s s1 : SH} {g1 g2 x0 : Value} {j : Nat} {e : Int} {ok : Bool} {t1 t2 : Tgt} {a1 a2 : List Value} (hq : q < s.n) (hg : HP.get s.h q = some (.row (rdr m bs r))) (ht1 : tgtD g1 [sl by' m bs, .int .i64 (r.1 : Int)] = some (t1, a1)) (hC1 : r.2 = 0 → C t1 a1 s = some [(.tuple #[x0, .int .i64 (j : Int), .int .i64 e], s1)]) (hsm : Sm s.n s s1) (ht2 : tgtD g2 [x0] = some (t2, a2)) (hC2 : r.2 = 0 → e = 0 → C t2 a2 s1 = some [(.bool ok, s1)]) :
    ∃ s', f183 (dOps Try.prog) C N (pr q) g1 g2 s = some [(if r.2 ≠ 0 then fzV 2 #[] else if e ≠ 0 then fzV 2 #[] else if ok = true then x0 else fzV 2 #[], s')] ∧ Rq q m bs s s' (if r.2 ≠ 0 then r else if e ≠ 0 then (r.1, e) else if ok = true then (j, 0) else (r.1, 190)) := by
  by_cases h0 : r.2 = 0
  case neg =>
    simp only [f183, o_bool, o_alloc, o_box, o_build, o_buildSlice, o_load, o_store, o_nilCheck, o_bop, o_uop, o_conv, o_slc, o_fieldAddr, o_field, o_indexAddr, o_index, o_extract, o_lookup, o_mapUpdate, o_makeMap, o_mapEntry, o_entryStore, o_delete, o_len, o_append, o_min, o_max, o_tgt, bindS, many1, jnE, boolS, gdB, fst', snd', nc, fld153_2, lrd2 hg, b_neq, h0, decide_false, Bool.not_false, condT, ne_eq, not_false_eq_true, if_true]
    exact ⟨s, rfl, Nat.le_refl _, fun _ _ _ => rfl, hg⟩
  have e1 := oneS (hC1 h0)
  have hg1 : HP.get s1.h q = some (.row (rdr m bs r)) := by rw [hsm.2 _ hq, hg]
  obtain ⟨i, e0⟩ := r
  simp only at h0
  subst h0
  simp only [f183, o_bool, o_alloc, o_box, o_build, o_buildSlice, o_load, o_store, o_nilCheck, o_bop, o_uop, o_conv, o_slc, o_fieldAddr, o_field, o_indexAddr, o_index, o_extract, o_lookup, o_mapUpdate, o_makeMap, o_mapEntry, o_entryStore, o_delete, o_len, o_append, o_min, o_max, o_tgt, bindS, many1, jnE, boolS, gdB, fst', snd', nc, fld153_0, fld153_1, fld153_2, lrd0 hg, lrd1 hg, lrd2 hg, b_neq, decide_true, Bool.not_true, condF, ht1, e1, (ext3 _ _ _).1, (ext3 _ _ _).2.1, (ext3 _ _ _).2.2, bop_eql, ne_eq, not_true_eq_false, if_false]
  by_cases he : e = 0
  · subst he
    simp only [decide_true, condT, ht2, hC2 rfl rfl, o_bool, o_alloc, o_box, o_build, o_buildSlice, o_load, o_store, o_nilCheck, o_bop, o_uop, o_conv, o_slc, o_fieldAddr, o_field, o_indexAddr, o_index, o_extract, o_lookup, o_mapUpdate, o_makeMap, o_mapEntry, o_entryStore, o_delete, o_len, o_append, o_min, o_max, o_tgt, bindS, many1, jnE, boolS, gdB, fst', snd', uop_not, not_true_eq_false, if_false]
    cases ok with
    | true =>
      simp only [Bool.not_true, condF, b_neq, decide_true, nc, fld153_1, srd1 hg1, o_bool, o_alloc, o_box, o_build, o_buildSlice, o_load, o_store, o_nilCheck, o_bop, o_uop, o_conv, o_slc, o_fieldAddr, o_field, o_indexAddr, o_index, o_extract, o_lookup, o_mapUpdate, o_makeMap, o_mapEntry, o_entryStore, o_delete, o_len, o_append, o_min, o_max, o_tgt, bindS, many1, jnE, boolS, gdB, fst', snd', if_true]
      exact ⟨_, rfl, hsm.1, fun j hj hjq => by rw [get_put_other hjq, hsm.2 _ hj], get_put_same _⟩
    | false =>
      have : ¬ ((190 : Int) = 0) := by decide
      simp only [Bool.not_false, condT, b_neq, this, decide_false, nc, fld153_2, srd2 hg1, o_bool, o_alloc, o_box, o_build, o_buildSlice, o_load, o_store, o_nilCheck, o_bop, o_uop, o_conv, o_slc, o_fieldAddr, o_field, o_indexAddr, o_index, o_extract, o_lookup, o_mapUpdate, o_makeMap, o_mapEntry, o_entryStore, o_delete, o_len, o_append, o_min, o_max, o_tgt, bindS, many1, jnE, boolS, gdB, fst', snd', Bool.false_eq_true, if_false]
      exact ⟨_, rfl, hsm.1, fun j hj hjq => by rw [get_put_other hjq, hsm.2 _ hj], get_put_same _⟩
  · simp only [he, decide_false, condF, o_bool, o_alloc, o_box, o_build, o_buildSlice, o_load, o_store, o_nilCheck, o_bop, o_uop, o_conv, o_slc, o_fieldAddr, o_field, o_indexAddr, o_index, o_extract, o_lookup, o_mapUpdate, o_makeMap, o_mapEntry, o_entryStore, o_delete, o_len, o_append, o_min, o_max, o_tgt, bindS, many1, jnE, boolS, gdB, fst', snd', b_neq, Bool.not_false, condT, nc, fld153_2, srd2 hg1, not_false_eq_true, if_true]
    exact ⟨_, rfl, hsm.1, fun j hj hjq => by rw [get_put_other hjq, hsm.2 _ hj], get_put_same _⟩
/-- Something is read, if nothing went wrong yet. -/
def takeM {α : Type} (z : α) (rd : Nat → α × Nat × Int) (may : α → Bool) (r : Rs) : α × Rs :=
  if r.2 ≠ 0 then (z, r) else if (rd r.1).2.2 ≠ 0 then (z, (r.1, (rd r.1).2.2)) else if may (rd r.1).1 = true then ((rd r.1).1, ((rd r.1).2.1, 0)) else (z, (r.1, 190))
theorem take_val {α : Type} {z : α} {rd : Nat → α × Nat × Int} {may : α → Bool} {r : Rs} (enc : α → Value) : (if r.2 ≠ 0 then enc z else if (rd r.1).2.2 ≠ 0 then enc z else if may (rd r.1).1 = true then enc (rd r.1).1 else enc z) = enc (takeM z rd may r).1 := by
  unfold takeM
  split
  · rfl
  · split
    · rfl
    · split <;> rfl
theorem take_st {α : Type} {z : α} {rd : Nat → α × Nat × Int} {may : α → Bool} {r : Rs} : (if r.2 ≠ 0 then r else if (rd r.1).2.2 ≠ 0 then (r.1, (rd r.1).2.2) else if may (rd r.1).1 = true then ((rd r.1).2.1, 0) else (r.1, 190)) = (takeM z rd may r).2 := by
  unfold takeM
  split
  · rfl
  · split
    · rfl
    · split <;> rfl
def u64v (n : Nat) : Value := .int .u64 (n : Int)
def numM (bs : List UInt8) (most : Nat) : Rs → Nat × Rs := takeM 0 (vread bs) fun n => decide (n ≤ most)
theorem c195 {n p : Nat} {s : SH} {most : Nat} (x : Nat) (h : HP.get s.h p = some (.row [.int .u64 (most : Int)])) : callD Try.prog AB (n + 1) (.fn 195) [.int .u64 (x : Int), pr p] s = some [(.bool (decide (x ≤ most)), s)] := by
  rw [call_fn (fn := Try.f195) rfl rfl (by kernel_rfl)]
  show bodyD Try.prog false _ _ 195 Try.f195 _ s = _
  rw [f195_r]
  have hl : loadD Try.prog s 70 (pr p) = some (.int .u64 (most : Int)) := by rw [load_row h, part_one a70]; rfl
  simp only [f195, o_bool, o_alloc, o_box, o_build, o_buildSlice, o_load, o_store, o_nilCheck, o_bop, o_uop, o_conv, o_slc, o_fieldAddr, o_field, o_indexAddr, o_index, o_extract, o_lookup, o_mapUpdate, o_makeMap, o_mapEntry, o_entryStore, o_delete, o_len, o_append, o_min, o_max, o_tgt, bindS, many1, jnE, boolS, gdB, fst', snd', hl, bop_leq']
  congr 4
  exact decide_eq_decide.2 (by omega)
theorem bx_u (s : SH) (x : Int) : boxD s (.int .u64 x) = some (pr s.n, newD s (.row [.int .u64 x])) := box_at rfl rfl
theorem c152 {n m q : Nat} {s : SH} {bs : List UInt8} {r : Rs} (most : Nat) (hq : q < s.n) (hg : HP.get s.h q = some (.row (rdr m bs r))) (hr : r.1 ≤ bs.length) (hb : bs.length < 2 ^ 46) :
    ∃ s', callD Try.prog AB (n + 3) (.fn 152) [pr q, .int .u64 (most : Int)] s = some [(.int .u64 ((numM bs most r).1 : Int), s')] ∧ Rq q m bs s s' (numM bs most r).2 := by
  rw [call_fn (fn := Try.f152) rfl rfl (by kernel_rfl)]
  show ∃ s', bodyD Try.prog false _ _ 152 Try.f152 _ s = _ ∧ _
  rw [f152_r]
  have g1 : HP.get (newD s (.row [.int .u64 (most : Int)])).h s.n = some (.row [.int .u64 (most : Int)]) := get_new rfl
  have g2 : HP.get (newD s (.row [.int .u64 (most : Int)])).h q = some (.row (rdr m bs r)) := by rw [get_old (by omega), hg]
  have hn1 : s.n < (newD s (.row [.int .u64 (most : Int)])).n := by rw [newD_n]; omega
  have hold : ∀ j, j < s.n → HP.get (newD s (.row [.int .u64 (most : Int)])).h j = HP.get s.h j := fun j hj => get_old (by omega)
  simp only [f152, o_bool, o_alloc, o_box, o_build, o_buildSlice, o_load, o_store, o_nilCheck, o_bop, o_uop, o_conv, o_slc, o_fieldAddr, o_field, o_indexAddr, o_index, o_extract, o_lookup, o_mapUpdate, o_makeMap, o_mapEntry, o_entryStore, o_delete, o_len, o_append, o_min, o_max, o_tgt, bindS, many1, jnE, boolS, gdB, fst', snd', bx_u]
  generalize newD s (.row [.int .u64 (most : Int)]) = s0 at g1 g2 hn1 hold
  have e190 : ∃ s', callD Try.prog AB (n + 2) (.fn 190) [pr q, .func (.func 74) #[] #[], .func (.func 195) #[] #[pr s.n]] s0 = some [(.int .u64 ((numM bs most r).1 : Int), s')] ∧ Rq q m bs s0 s' (numM bs most r).2 := by
    rw [call_fn (fn := Try.f190) rfl rfl (by kernel_rfl)]
    show ∃ s', bodyD Try.prog false _ _ 190 Try.f190 _ s0 = _ ∧ _
    rw [f190_r]
    obtain ⟨s', e, h⟩ := take190 (C := callD Try.prog AB (n + 1)) (N := AB.N) (q := q) (m := m) (bs := bs) (r := r) (s := s0) (s1 := s0) (g1 := .func (.func 74) #[] #[]) (g2 := .func (.func 195) #[] #[pr s.n]) (x0 := u64v (vread bs r.1).1) (j := (vread bs r.1).2.1) (e := (vread bs r.1).2.2) (ok := decide ((vread bs r.1).1 ≤ most)) (by omega) g2 (tgt0 _ _) (fun _ => c74 bs r.1 hr (by omega)) (.refl _ _) (tgt1 _ _ _) (fun _ _ => c195 _ g1)
    refine ⟨s', ?_, ?_⟩
    · rw [e, ← show _ = Value.int .u64 ((numM bs most r).1 : Int) from take_val (z := 0) (rd := vread bs) (may := fun n => decide (n ≤ most)) (r := r) u64v]; rfl
    · rw [show _ = (numM bs most r).2 from take_st (z := 0) (rd := vread bs) (may := fun n => decide (n ≤ most)) (r := r)] at h; exact h
  obtain ⟨s', e, h⟩ := e190
  simp only [e, o_bool, o_alloc, o_box, o_build, o_buildSlice, o_load, o_store, o_nilCheck, o_bop, o_uop, o_conv, o_slc, o_fieldAddr, o_field, o_indexAddr, o_index, o_extract, o_lookup, o_mapUpdate, o_makeMap, o_mapEntry, o_entryStore, o_delete, o_len, o_append, o_min, o_max, o_tgt, bindS, many1, jnE, boolS, gdB, fst', snd']
  exact ⟨s', rfl, h.from (Nat.le_of_lt hn1) hold⟩

attribute [local congr] bind_cg cond_cg gd_cg
theorem eqO_s (v : Value) : eqO HP (some v) v = true := by simp [eqO, FG]
/-- A number, told by what it is more than another. -/
def aftOk (last x : Nat) : Bool := decide ((last + x) % 2 ^ 64 ≥ last)
def aftM (bs : List UInt8) (last : Nat) (r : Rs) : Nat × Rs := ((last + (takeM 0 (vread bs) (aftOk last) r).1) % 2 ^ 64, (takeM 0 (vread bs) (aftOk last) r).2)
theorem wrap_add (a b : Nat) : IntKind.u64.wrap ((a : Int) + (b : Int)) = (((a + b) % 2 ^ 64 : Nat) : Int) := by
  rw [wrap_us rfl]
  show ((a : Int) + (b : Int)) % ((18446744073709551616 : Nat) : Int) = _
  omega
theorem ld_u {s : SH} {p : Nat} {x : Int} (h : HP.get s.h p = some (.row [.int .u64 x])) : loadD Try.prog s 70 (pr p) = some (.int .u64 x) := by rw [load_row h, part_one a70]; rfl
theorem c209 {n p : Nat} {s : SH} {last : Nat} (x : Nat) (h : HP.get s.h p = some (.row [.int .u64 (last : Int)])) : callD Try.prog AB (n + 1) (.fn 209) [.int .u64 (x : Int), pr p] s = some [(.bool (aftOk last x), s)] := by
  rw [call_fn (fn := Try.f209) rfl rfl (by kernel_rfl)]
  show bodyD Try.prog false _ _ 209 Try.f209 _ s = _
  rw [f209_r]
  simp only [f209, o_bool, o_alloc, o_box, o_build, o_buildSlice, o_load, o_store, o_nilCheck, o_bop, o_uop, o_conv, o_slc, o_fieldAddr, o_field, o_indexAddr, o_index, o_extract, o_lookup, o_mapUpdate, o_makeMap, o_mapEntry, o_entryStore, o_delete, o_len, o_append, o_min, o_max, o_tgt, bindS, many1, jnE, boolS, gdB, fst', snd', ld_u h, bop_add, wrap_add, bop_geq']
  congr 4
  exact decide_eq_decide.2 (by omega)
theorem c182 {n m q : Nat} {s : SH} {bs : List UInt8} {r : Rs} (last : Nat) (hq : q < s.n) (hg : HP.get s.h q = some (.row (rdr m bs r))) (hr : r.1 ≤ bs.length) (hb : bs.length < 2 ^ 46) :
    ∃ s', callD Try.prog AB (n + 3) (.fn 182) [pr q, .int .u64 (last : Int)] s = some [(.int .u64 ((aftM bs last r).1 : Int), s')] ∧ Rq q m bs s s' (aftM bs last r).2 := by
  rw [call_fn (fn := Try.f182) rfl rfl (by kernel_rfl)]
  show ∃ s', bodyD Try.prog false _ _ 182 Try.f182 _ s = _ ∧ _
  rw [f182_r]
  have g1 : HP.get (newD s (.row [.int .u64 (last : Int)])).h s.n = some (.row [.int .u64 (last : Int)]) := get_new rfl
  have g2 : HP.get (newD s (.row [.int .u64 (last : Int)])).h q = some (.row (rdr m bs r)) := by rw [get_old (by omega), hg]
  have hn1 : s.n < (newD s (.row [.int .u64 (last : Int)])).n := by rw [newD_n]; omega
  have hold : ∀ j, j < s.n → HP.get (newD s (.row [.int .u64 (last : Int)])).h j = HP.get s.h j := fun j hj => get_old (by omega)
  simp only [f182, o_bool, o_alloc, o_box, o_build, o_buildSlice, o_load, o_store, o_nilCheck, o_bop, o_uop, o_conv, o_slc, o_fieldAddr, o_field, o_indexAddr, o_index, o_extract, o_lookup, o_mapUpdate, o_makeMap, o_mapEntry, o_entryStore, o_delete, o_len, o_append, o_min, o_max, o_tgt, bindS, many1, jnE, boolS, gdB, fst', snd', bx_u, ld_u g1]
  generalize newD s (.row [.int .u64 (last : Int)]) = s0 at g1 g2 hn1 hold
  have e190 : ∃ s', callD Try.prog AB (n + 2) (.fn 190) [pr q, .func (.func 74) #[] #[], .func (.func 209) #[] #[pr s.n]] s0 = some [(.int .u64 ((takeM 0 (vread bs) (aftOk last) r).1 : Int), s')] ∧ Rq q m bs s0 s' (takeM 0 (vread bs) (aftOk last) r).2 := by
    rw [call_fn (fn := Try.f190) rfl rfl (by kernel_rfl)]
    show ∃ s', bodyD Try.prog false _ _ 190 Try.f190 _ s0 = _ ∧ _
    rw [f190_r]
    obtain ⟨s', e, h⟩ := take190 (C := callD Try.prog AB (n + 1)) (N := AB.N) (q := q) (m := m) (bs := bs) (r := r) (s := s0) (s1 := s0) (g1 := .func (.func 74) #[] #[]) (g2 := .func (.func 209) #[] #[pr s.n]) (x0 := u64v (vread bs r.1).1) (j := (vread bs r.1).2.1) (e := (vread bs r.1).2.2) (ok := aftOk last (vread bs r.1).1) (by omega) g2 (tgt0 _ _) (fun _ => c74 bs r.1 hr (by omega)) (.refl _ _) (tgt1 _ _ _) (fun _ _ => c209 _ g1)
    refine ⟨s', ?_, ?_⟩
    · rw [e, ← show _ = Value.int .u64 ((takeM 0 (vread bs) (aftOk last) r).1 : Int) from take_val (z := 0) (rd := vread bs) (may := aftOk last) (r := r) u64v]; rfl
    · rw [show _ = (takeM 0 (vread bs) (aftOk last) r).2 from take_st (z := 0) (rd := vread bs) (may := aftOk last) (r := r)] at h; exact h
  obtain ⟨s', e, h⟩ := e190
  have g3 : HP.get s'.h s.n = some (.row [.int .u64 (last : Int)]) := by rw [h.2.1 _ hn1 (by omega), g1]
  have e' := oneS e
  simp only [e', o_bool, o_alloc, o_box, o_build, o_buildSlice, o_load, o_store, o_nilCheck, o_bop, o_uop, o_conv, o_slc, o_fieldAddr, o_field, o_indexAddr, o_index, o_extract, o_lookup, o_mapUpdate, o_makeMap, o_mapEntry, o_entryStore, o_delete, o_len, o_append, o_min, o_max, o_tgt, bindS, many1, jnE, boolS, gdB, fst', snd', bop_add, wrap_add, ld_u g3, eqO_s, Bool.and_self, condT]
  exact ⟨s', rfl, h.from (Nat.le_of_lt hn1) hold⟩
/-- Labels read. -/
def labM (bs : List UInt8) : Rs → List Lab × Rs := takeM [] (lread bs) fun _ => true
theorem c183 {n m q : Nat} {s : SH} {bs : List UInt8} {r : Rs} (hq : q < s.n) (hg : HP.get s.h q = some (.row (rdr m bs r))) (hr : r.1 ≤ bs.length) (hb : bs.length < 2 ^ 46) :
    ∃ m' s', callD Try.prog AB (n + 6) (.fn 183) [pr q, .func (.func 25) #[] #[], .func (.func 184) #[] #[]] s = some [(sl lab m' (labM bs r).1, s')] ∧ Rq q m bs s s' (labM bs r).2 := by
  rw [call_fn (fn := Try.f183) rfl rfl (by kernel_rfl)]
  show ∃ m' s', bodyD Try.prog false _ _ 183 Try.f183 _ s = _ ∧ _
  rw [f183_r]
  obtain ⟨m1, s1, e25, h25⟩ := c25 (n := n) (m := m) (s := s) bs r.1 hr hb
  have h184 : ∀ (v : Value) (s : SH), callD Try.prog AB (n + 5) (.fn 184) [v] s = some [(.bool true, s)] := fun v s => by
    rw [call_fn (fn := Try.f184) rfl rfl (by kernel_rfl)]
    show bodyD Try.prog false _ _ 184 Try.f184 _ s = _
    rw [f184_r]; rfl
  obtain ⟨s', e, h⟩ := take183 (C := callD Try.prog AB (n + 5)) (N := AB.N) (q := q) (m := m) (bs := bs) (r := r) (s := s) (s1 := s1) (g1 := .func (.func 25) #[] #[]) (g2 := .func (.func 184) #[] #[]) (x0 := sl lab m1 (lread bs r.1).1) (j := (lread bs r.1).2.1) (e := (lread bs r.1).2.2) (ok := true) hq hg (tgt0 _ _) (fun _ => e25) h25 (tgt0 _ _) (fun _ _ => h184 _ _)
  refine ⟨if r.2 ≠ 0 then 2 else if (lread bs r.1).2.2 ≠ 0 then 2 else m1, s', ?_, ?_⟩
  · rw [e]
    unfold labM takeM
    split
    · rfl
    · split
      · rfl
      · rfl
  · rw [show _ = (labM bs r).2 from take_st (z := []) (rd := lread bs) (may := fun _ => true) (r := r)] at h; exact h
/-- A value read. -/
def valM (bs : List UInt8) : Rs → Nat × Rs := takeM 0 (v8 bs) fun _ => true
theorem mul8 (k : Nat) (hk : k ≤ 8) : IntKind.i64.wrap (8 * (k : Int)) = ((8 * k : Nat) : Int) := by rw [wrap_i64 (by omega) (by omega)]; omega
theorem c191 {n m : Nat} {s : SH} (bs : List UInt8) (i : Nat) (hi : i ≤ bs.length) (hb : bs.length < 2 ^ 46) : callD Try.prog AB (n + 1) (.fn 191) [sl by' m bs, .int .i64 (i : Int)] s = some [(tup3 (v8 bs i), s)] := by
  rw [call_fn (fn := Try.f191) rfl rfl (by kernel_rfl)]
  suffices h : One (bodyD Try.prog false (callD Try.prog AB n) AB.N 191 Try.f191 [sl by' m bs, .int .i64 (i : Int)] s) fun v s' => v = tup3 (v8 bs i) ∧ s' = s by
    obtain ⟨v, s', e, rfl, rfl⟩ := h
    exact e
  rw [f191_r]
  have hw : IntKind.i64.wrap ((bs.length : Int) - (i : Int)) = ((bs.length - i : Nat) : Int) := by rw [wrap_i64 (by omega) (by omega)]; omega
  simp only [f191, o_bool, o_alloc, o_box, o_build, o_buildSlice, o_load, o_store, o_nilCheck, o_bop, o_uop, o_conv, o_slc, o_fieldAddr, o_field, o_indexAddr, o_index, o_extract, o_lookup, o_mapUpdate, o_makeMap, o_mapEntry, o_entryStore, o_delete, o_len, o_append, o_min, o_max, o_tgt, bindS, many1, jnE, boolS, gdB, fst', snd', len_sl u35, b_sub, hw, bop_lss]
  unfold v8
  by_cases h8 : bs.length - i < 8
  · have h8' : ((bs.length - i : Nat) : Int) < 8 := by omega
    simp only [h8', decide_true, condT, h8, if_true]
    exact One.ret ⟨rfl, rfl⟩
  · have h8' : ¬ ((bs.length - i : Nat) : Int) < 8 := by omega
    simp only [h8', decide_false, condF, h8, if_false]
    refine list_one (List.replicate 8 ()) (fun k (x : Value × Value × Value) (s' : SH) => s = s' ∧ x.2.2 = .int .i64 k ∧ x.1 = .int .u64 ((val8 ((bs.take (i + k)).drop i) : Nat) : Int)) ?_ ?_ ?h0 (by show (List.replicate 8 ()).length < 2 ^ 64; rw [List.length_replicate]; decide)
    case h0 => exact ⟨rfl, rfl, by rw [Nat.add_zero, List.drop_take, Nat.sub_self]; rfl⟩
    · rintro k hk ⟨x1, x2, x3⟩ s' ⟨rfl, h1, h2⟩ nx hnx
      simp only at h1 h2
      subst h1 h2
      rw [List.length_replicate] at hk
      have hlt : (k : Int) < 8 := by omega
      have hwi : IntKind.i64.wrap ((k : Int) + 1) = ((k + 1 : Nat) : Int) := by rw [wrap_i64 (by omega) (by omega)]; rfl
      have hwk : IntKind.i64.wrap ((i : Int) + (k : Int)) = ((i + k : Nat) : Int) := by rw [wrap_i64 (by omega) (by omega)]; omega
      have hik : i + k < bs.length := by omega
      have hbb : (bs[i + k]'hik).toNat < 256 := (bs[i + k]'hik).toNat_lt
      have hlen : ((bs.take (i + k)).drop i).length = k := by rw [List.length_drop, List.length_take]; omega
      have hval := val_lt ((bs.take (i + k)).drop i)
      rw [hlen, ← pow8] at hval
      have hconv : IntKind.u64.wrap (((bs[i + k]'hik).toNat : Nat) : Int) = (((bs[i + k]'hik).toNat : Nat) : Int) := wrap_u64 (by omega) (by omega)
      have hsm : (bs[i + k]'hik).toNat * 2 ^ (8 * k) < 2 ^ 64 := by
        have : (2 : Nat) ^ (8 * k) ≤ 2 ^ (8 * 7) := Nat.pow_le_pow_right (by decide) (by omega)
        calc (bs[i + k]'hik).toNat * 2 ^ (8 * k) ≤ 255 * 2 ^ (8 * 7) := Nat.mul_le_mul (by omega) this
          _ < 2 ^ 64 := by decide
      simp only [f191_l0, o_bool, o_alloc, o_box, o_build, o_buildSlice, o_load, o_store, o_nilCheck, o_bop, o_uop, o_conv, o_slc, o_fieldAddr, o_field, o_indexAddr, o_index, o_extract, o_lookup, o_mapUpdate, o_makeMap, o_mapEntry, o_entryStore, o_delete, o_len, o_append, o_min, o_max, o_tgt, bindS, many1, jnE, boolS, gdB, fst', snd', bop_lss, hlt, decide_true, condT, bop_add, hwk, ixs35 by_len hik, ld_by, conv_int u5 u70, hconv, bop_mul, mul8 k (by omega), shl64 (show 8 * k ≤ 64 by omega) hsm, or64 hval (show 8 * k ≤ 64 by omega) hsm, hwi]
      refine hnx (_, _, _) _ ⟨rfl, rfl, ?_⟩
      have e1 : (bs.take (i + (k + 1))).drop i = (bs.take (i + k)).drop i ++ [bs[i + k]'hik] := by
        rw [← Nat.add_assoc, List.take_succ_eq_append_getElem hik, List.drop_append_of_le_length (by rw [List.length_take]; omega)]
      rw [e1, val_snoc, hlen, pow8]
    · rintro ⟨x1, x2, x3⟩ s' ⟨rfl, h1, h2⟩ nx
      simp only at h1 h2
      subst h1 h2
      rw [List.length_replicate]
      have hnlt : ¬ (((8 : Nat) : Int) < 8) := by decide
      have hw8 : IntKind.i64.wrap ((i : Int) + 8) = ((i + 8 : Nat) : Int) := by rw [wrap_i64 (by omega) (by omega)]; omega
      simp only [f191_l0, o_bool, o_alloc, o_box, o_build, o_buildSlice, o_load, o_store, o_nilCheck, o_bop, o_uop, o_conv, o_slc, o_fieldAddr, o_field, o_indexAddr, o_index, o_extract, o_lookup, o_mapUpdate, o_makeMap, o_mapEntry, o_entryStore, o_delete, o_len, o_append, o_min, o_max, o_tgt, bindS, many1, jnE, boolS, gdB, fst', snd', bop_lss, hnlt, decide_false, condF, beq_yes, condT, bop_add, hw8]
      exact One.ret ⟨rfl, rfl⟩
theorem c190v {n m q : Nat} {s : SH} {bs : List UInt8} {r : Rs} (hq : q < s.n) (hg : HP.get s.h q = some (.row (rdr m bs r))) (hr : r.1 ≤ bs.length) (hb : bs.length < 2 ^ 46) :
    ∃ s', callD Try.prog AB (n + 2) (.fn 190) [pr q, .func (.func 191) #[] #[], .func (.func 192) #[] #[]] s = some [(.int .u64 ((valM bs r).1 : Int), s')] ∧ Rq q m bs s s' (valM bs r).2 := by
  rw [call_fn (fn := Try.f190) rfl rfl (by kernel_rfl)]
  show ∃ s', bodyD Try.prog false _ _ 190 Try.f190 _ s = _ ∧ _
  rw [f190_r]
  have h192 : ∀ (v : Value) (s : SH), callD Try.prog AB (n + 1) (.fn 192) [v] s = some [(.bool true, s)] := fun v s => by
    rw [call_fn (fn := Try.f192) rfl rfl (by kernel_rfl)]
    show bodyD Try.prog false _ _ 192 Try.f192 _ s = _
    rw [f192_r]; rfl
  obtain ⟨s', e, h⟩ := take190 (C := callD Try.prog AB (n + 1)) (N := AB.N) (q := q) (m := m) (bs := bs) (r := r) (s := s) (s1 := s) (g1 := .func (.func 191) #[] #[]) (g2 := .func (.func 192) #[] #[]) (x0 := u64v (v8 bs r.1).1) (j := (v8 bs r.1).2.1) (e := (v8 bs r.1).2.2) (ok := true) hq hg (tgt0 _ _) (fun _ => c191 bs r.1 hr hb) (.refl _ _) (tgt0 _ _) (fun _ _ => h192 _ _)
  refine ⟨s', ?_, ?_⟩
  · rw [e, ← show _ = Value.int .u64 ((valM bs r).1 : Int) from take_val (z := 0) (rd := v8 bs) (may := fun _ => true) (r := r) u64v]; rfl
  · rw [show _ = (valM bs r).2 from take_st (z := 0) (rd := v8 bs) (may := fun _ => true) (r := r)] at h; exact h

attribute [local congr] bind_cg cond_cg gd_cg
theorem vread_lt {bs : List UInt8} {i : Nat} (hi : i ≤ bs.length) : (vread bs i).1 < 2 ^ 64 := by
  by_cases h : (vread bs i).2.2 = 0
  · exact (vread_at' hi h).2
  · have : ∀ x, (match x with | Except.ok (n, j) => ((n, i + j, 0) : Nat × Nat × Int) | Except.error e => (0, 0, e)).2.2 ≠ 0 → (match x with | Except.ok (n, j) => ((n, i + j, 0) : Nat × Nat × Int) | Except.error e => (0, 0, e)).1 < 2 ^ 64 := by
      intro x hx
      cases x with
      | ok p => exact absurd rfl hx
      | error e => show 0 < 2 ^ 64; decide
    exact this _ h
def vreadI (bs : List UInt8) (i : Nat) : Int × Nat × Int := (zag (vread bs i).1, (vread bs i).2)
theorem shr1 (a : Nat) : bopD Try.prog .shr 70 (.int .u64 (a : Int)) (.int .u64 1) = some (.int .u64 ((a / 2 : Nat) : Int)) := by
  rw [bop_int]
  simp only [intS]
  rw [if_neg (by decide)]
  have e : ((2 : Int) ^ min (Int.toNat 1) IntKind.u64.bits) = ((2 : Nat) : Int) := by decide
  rw [e, ← Int.ofNat_fdiv]
theorem and1 (a : Nat) (h : a < 2 ^ 64) : bopD Try.prog .and 70 (.int .u64 (a : Int)) (.int .u64 1) = some (.int .u64 ((a % 2 : Nat) : Int)) := by
  rw [bop_int]
  exact congrArg (fun z => some (Value.int IntKind.u64 z)) (show IntKind.u64.wrap (((BitVec.ofInt 64 (a : Int) &&& BitVec.ofInt 64 1).toNat : Nat) : Int) = _ by
    rw [BitVec.toNat_and, ofInt_nat a h, show (BitVec.ofInt 64 1).toNat = 1 from rfl, Nat.and_one_is_mod, wrap_u64 (by omega) (by omega)])
theorem xor_0i (a : Nat) (h : a < 2 ^ 63) : bopD Try.prog .xor 3 (.int .i64 (a : Int)) (.int .i64 0) = some (.int .i64 (a : Int)) := by
  rw [bop_int]
  exact congrArg (fun z => some (Value.int IntKind.i64 z)) (show IntKind.i64.wrap (((BitVec.ofInt 64 (a : Int) ^^^ BitVec.ofInt 64 0).toNat : Nat) : Int) = _ by
    have e : BitVec.ofInt 64 (a : Int) ^^^ BitVec.ofInt 64 0 = BitVec.ofInt 64 (a : Int) := by rw [show BitVec.ofInt 64 0 = 0#64 from rfl, BitVec.xor_zero]
    rw [e, ofInt_nat a (by omega), wrap_i64 (by omega) (by omega)])
theorem xor_1i (a : Nat) (h : a < 2 ^ 63) : bopD Try.prog .xor 3 (.int .i64 (a : Int)) (.int .i64 (-1)) = some (.int .i64 (-(a : Int) - 1)) := by
  rw [bop_int]
  exact congrArg (fun z => some (Value.int IntKind.i64 z)) (show IntKind.i64.wrap (((BitVec.ofInt 64 (a : Int) ^^^ BitVec.ofInt 64 (-1)).toNat : Nat) : Int) = _ by
    have e : BitVec.ofInt 64 (a : Int) ^^^ BitVec.ofInt 64 (-1) = ~~~ BitVec.ofInt 64 (a : Int) := by rw [show BitVec.ofInt 64 (-1) = BitVec.allOnes 64 from rfl, BitVec.xor_allOnes]
    rw [e, BitVec.toNat_not, ofInt_nat a (by omega), wrap_sg rfl]
    show (if ((2 ^ 64 - 1 - a : Nat) : Int) % ((18446744073709551616 : Nat) : Int) ≥ ((9223372036854775808 : Nat) : Int) then ((2 ^ 64 - 1 - a : Nat) : Int) % ((18446744073709551616 : Nat) : Int) - ((18446744073709551616 : Nat) : Int) else _) = _
    rw [if_pos (by omega)]; omega)
theorem neg0 : uopD Try.prog .neg (.int .i64 0) = some (.int .i64 0) := by kernel_rfl
theorem neg1 : uopD Try.prog .neg (.int .i64 1) = some (.int .i64 (-1)) := by kernel_rfl
theorem c188 {n m : Nat} {s : SH} (bs : List UInt8) (i : Nat) (hi : i ≤ bs.length) (hb : bs.length < 2 ^ 46) : callD Try.prog AB (n + 2) (.fn 188) [sl by' m bs, .int .i64 (i : Int)] s = some [(.tuple #[.int .i64 (vreadI bs i).1, .int .i64 ((vreadI bs i).2.1 : Int), .int .i64 (vreadI bs i).2.2], s)] := by
  rw [call_fn (fn := Try.f188) rfl rfl (by kernel_rfl)]
  show bodyD Try.prog false _ _ 188 Try.f188 _ s = _
  rw [f188_r]
  have h74 := c74 (n := n) (m := m) (s := s) bs i hi (by omega)
  have hlt := vread_lt (bs := bs) (i := i) hi
  unfold vreadI
  generalize vread bs i = r at h74 hlt
  obtain ⟨x, j, e⟩ := r
  have t : tup3 (x, j, e) = .tuple #[.int .u64 (x : Int), .int .i64 (j : Int), .int .i64 e] := rfl
  rw [t] at h74
  simp only at hlt
  have w1 : IntKind.i64.wrap ((x / 2 : Nat) : Int) = ((x / 2 : Nat) : Int) := wrap_i64 (by omega) (by omega)
  have w2 : IntKind.i64.wrap ((x % 2 : Nat) : Int) = ((x % 2 : Nat) : Int) := wrap_i64 (by omega) (by omega)
  simp only [f188, o_bool, o_alloc, o_box, o_build, o_buildSlice, o_load, o_store, o_nilCheck, o_bop, o_uop, o_conv, o_slc, o_fieldAddr, o_field, o_indexAddr, o_index, o_extract, o_lookup, o_mapUpdate, o_makeMap, o_mapEntry, o_entryStore, o_delete, o_len, o_append, o_min, o_max, o_tgt, bindS, many1, jnE, boolS, gdB, fst', snd', h74, (ext3 _ _ _).1, (ext3 _ _ _).2.1, (ext3 _ _ _).2.2, shr1, conv_int u70 u3, w1, and1 x hlt, w2]
  by_cases h2 : x % 2 = 0
  · have h2' : ((x % 2 : Nat) : Int) = 0 := by omega
    rw [h2']
    simp only [neg0, bindS, xor_0i _ (show x / 2 < 2 ^ 63 by omega)]
    unfold zag; rw [if_pos h2]
  · have h2' : ((x % 2 : Nat) : Int) = 1 := by omega
    rw [h2']
    simp only [neg1, bindS, xor_1i _ (show x / 2 < 2 ^ 63 by omega)]
    unfold zag; rw [if_neg h2]
/-- May a time be so far from the last one? -/
def intOk (last : Int) (d : Int) : Bool := decide (d ≥ -35184372088832) && (decide (d ≤ 35184372088832) && tmOk (last + d))
def intM (bs : List UInt8) (last : Int) : Rs → Int × Rs := takeM 0 (vreadI bs) (intOk last)
theorem ld_i {s : SH} {p : Nat} {x : Int} (h : HP.get s.h p = some (.row [.int .i64 x])) : loadD Try.prog s 3 (pr p) = some (.int .i64 x) := by rw [load_row h, part_one a3]; rfl
theorem c189 {n p : Nat} {s : SH} {last : Int} (d : Int) (h0 : 0 ≤ last) (h1 : last ≤ 35184372088832) (h : HP.get s.h p = some (.row [.int .i64 last])) : callD Try.prog AB (n + 5) (.fn 189) [.int .i64 d, pr p] s = some [(.bool (intOk last d), s)] := by
  rw [call_fn (fn := Try.f189) rfl rfl (by kernel_rfl)]
  show bodyD Try.prog false _ _ 189 Try.f189 _ s = _
  rw [f189_r]
  unfold intOk
  by_cases k1 : d ≥ -35184372088832
  · by_cases k2 : d ≤ 35184372088832
    · have hw : IntKind.i64.wrap (last + d) = last + d := wrap_i64 (by omega) (by omega)
      simp only [f189, o_bool, o_alloc, o_box, o_build, o_buildSlice, o_load, o_store, o_nilCheck, o_bop, o_uop, o_conv, o_slc, o_fieldAddr, o_field, o_indexAddr, o_index, o_extract, o_lookup, o_mapUpdate, o_makeMap, o_mapEntry, o_entryStore, o_delete, o_len, o_append, o_min, o_max, o_tgt, bindS, many1, jnE, boolS, gdB, fst', snd', bop_geq', bop_leq', k1, k2, decide_true, condT, ld_i h, bop_add, hw, bs228_1, tm_1, Bool.true_and]
    · simp only [f189, o_bool, o_alloc, o_box, o_build, o_buildSlice, o_load, o_store, o_nilCheck, o_bop, o_uop, o_conv, o_slc, o_fieldAddr, o_field, o_indexAddr, o_index, o_extract, o_lookup, o_mapUpdate, o_makeMap, o_mapEntry, o_entryStore, o_delete, o_len, o_append, o_min, o_max, o_tgt, bindS, many1, jnE, boolS, gdB, fst', snd', bop_geq', bop_leq', k1, k2, decide_true, decide_false, condT, condF, Bool.true_and, Bool.false_and]
  · simp only [f189, o_bool, o_alloc, o_box, o_build, o_buildSlice, o_load, o_store, o_nilCheck, o_bop, o_uop, o_conv, o_slc, o_fieldAddr, o_field, o_indexAddr, o_index, o_extract, o_lookup, o_mapUpdate, o_makeMap, o_mapEntry, o_entryStore, o_delete, o_len, o_append, o_min, o_max, o_tgt, bindS, many1, jnE, boolS, gdB, fst', snd', bop_geq', k1, decide_false, condF, Bool.false_and]
theorem c187 {n m q p : Nat} {s : SH} {bs : List UInt8} {r : Rs} {last : Int} (h0 : 0 ≤ last) (h1 : last ≤ 35184372088832) (hq : q < s.n) (hp : HP.get s.h p = some (.row [.int .i64 last])) (hg : HP.get s.h q = some (.row (rdr m bs r))) (hr : r.1 ≤ bs.length) (hb : bs.length < 2 ^ 46) :
    ∃ s', callD Try.prog AB (n + 6) (.fn 187) [pr q, .func (.func 188) #[] #[], .func (.func 189) #[] #[pr p]] s = some [(.int .i64 (intM bs last r).1, s')] ∧ Rq q m bs s s' (intM bs last r).2 := by
  rw [call_fn (fn := Try.f187) rfl rfl (by kernel_rfl)]
  show ∃ s', bodyD Try.prog false _ _ 187 Try.f187 _ s = _ ∧ _
  rw [f187_r]
  obtain ⟨s', e, h⟩ := take187 (C := callD Try.prog AB (n + 5)) (N := AB.N) (q := q) (m := m) (bs := bs) (r := r) (s := s) (s1 := s) (g1 := .func (.func 188) #[] #[]) (g2 := .func (.func 189) #[] #[pr p]) (x0 := .int .i64 (vreadI bs r.1).1) (j := (vreadI bs r.1).2.1) (e := (vreadI bs r.1).2.2) (ok := intOk last (vreadI bs r.1).1) hq hg (tgt0 _ _) (fun _ => c188 (n := n + 3) bs r.1 hr hb) (.refl _ _) (tgt1 _ _ _) (fun _ _ => c189 _ h0 h1 hp)
  refine ⟨s', ?_, ?_⟩
  · rw [e, ← show _ = Value.int .i64 (intM bs last r).1 from take_val (z := 0) (rd := vreadI bs) (may := intOk last) (r := r) (Value.int .i64)]
  · rw [show _ = (intM bs last r).2 from take_st (z := 0) (rd := vreadI bs) (may := intOk last) (r := r)] at h; exact h
/-- Places stay within the bytes. -/
theorem take_le {α : Type} {z : α} {rd : Nat → α × Nat × Int} {may : α → Bool} {r : Rs} {L : Nat} (hr : r.1 ≤ L) (h : ∀ i, i ≤ L → (rd i).2.2 = 0 → (rd i).2.1 ≤ L) : (takeM z rd may r).2.1 ≤ L := by
  unfold takeM
  by_cases h0 : r.2 = 0
  · rw [if_neg (fun g => g h0)]
    by_cases h1 : (rd r.1).2.2 = 0
    · rw [if_neg (fun g => g h1)]
      by_cases h2 : may (rd r.1).1 = true
      · rw [if_pos h2]; exact h _ hr h1
      · rw [if_neg h2]; exact hr
    · rw [if_pos h1]; exact hr
  · rw [if_pos h0]; exact hr
section le
variable {bs : List UInt8} {r : Rs} (hr : r.1 ≤ bs.length)
include hr
theorem num_le (most : Nat) : (numM bs most r).2.1 ≤ bs.length := take_le hr fun i hi h => (vread_at' hi h).1.le.2
theorem aft_le (last : Nat) : (aftM bs last r).2.1 ≤ bs.length := take_le hr fun i hi h => (vread_at' hi h).1.le.2
theorem lab_le : (labM bs r).2.1 ≤ bs.length := take_le hr fun i hi h => (lread_ok hi h).2.le.2
theorem val_le' : (valM bs r).2.1 ≤ bs.length := take_le hr fun i hi h => (v8_ok h hi).1.le.2
theorem int_le (last : Int) : (intM bs last r).2.1 ≤ bs.length := take_le hr fun i hi h => (vread_at' hi h).1.le.2
end le
theorem take_ok {α : Type} {z : α} {rd : Nat → α × Nat × Int} {may : α → Bool} {r : Rs} (h : (takeM z rd may r).2.2 = 0) : r.2 = 0 ∧ (rd r.1).2.2 = 0 ∧ may (rd r.1).1 = true ∧ takeM z rd may r = ((rd r.1).1, ((rd r.1).2.1, 0)) := by
  unfold takeM at h ⊢
  by_cases h0 : r.2 = 0
  · rw [if_neg (fun g => g h0)] at h ⊢
    by_cases h1 : (rd r.1).2.2 = 0
    · rw [if_neg (fun g => g h1)] at h ⊢
      by_cases h2 : may (rd r.1).1 = true
      · exact ⟨h0, h1, h2, by rw [if_pos h2]⟩
      · rw [if_neg h2] at h; exact absurd h (by simp)
    · rw [if_pos h1] at h; exact absurd h h1
  · rw [if_pos h0] at h; exact absurd h h0
theorem int_rng {bs : List UInt8} {r : Rs} {last : Int} (h0 : 0 ≤ last) (h1 : last ≤ 35184372088832) : 0 ≤ last + (intM bs last r).1 ∧ last + (intM bs last r).1 ≤ 35184372088832 := by
  unfold intM
  by_cases h : (takeM 0 (vreadI bs) (intOk last) r).2.2 = 0
  · obtain ⟨_, _, h3, h4⟩ := take_ok h
    rw [h4]
    unfold intOk at h3
    simp only [Bool.and_eq_true, decide_eq_true_eq, tmOk_iff] at h3
    exact h3.2.2
  · have : (takeM 0 (vreadI bs) (intOk last) r).1 = 0 := by
      unfold takeM at h ⊢
      by_cases h0 : r.2 = 0
      · rw [if_neg (fun g => g h0)] at h ⊢
        by_cases h1 : (vreadI bs r.1).2.2 = 0
        · rw [if_neg (fun g => g h1)] at h ⊢
          by_cases h2 : intOk last (vreadI bs r.1).1 = true
          · rw [if_pos h2] at h; exact absurd rfl h
          · rw [if_neg h2]
        · rw [if_pos h1]
      · rw [if_pos h0]
    rw [this]; omega
end Go.Proofs.Ytmhmbmogodofeaa.S
