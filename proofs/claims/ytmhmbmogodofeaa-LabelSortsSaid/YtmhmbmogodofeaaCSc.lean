import Derived.Test.YtmhmbmogodofeaaCSb
set_option autoImplicit false
set_option linter.unusedVariables false
set_option linter.unusedSimpArgs false
set_option maxRecDepth 100000
namespace Go.Proofs.Ytmhmbmogodofeaa.S
open Go.FS Go.RowKit
attribute [local congr] bind_cg cond_cg gd_cg
/-! What merges keeps a row of so many labels. -/
def Sh (id k : Nat) (s s' : SH) : Prop := (∃ R, LR id s' R ∧ R.length = k ∧ AllS R) ∧ Upd id s s'
theorem Sh.trans {id k : Nat} {a b c : SH} (h : Sh id k a b) (g : Sh id k b c) : Sh id k a c := ⟨g.1, h.2.trans g.2⟩
theorem sw2 {s : SH} {id k x y : Nat} {R : List Lab} (h : LR id s R) (hR : R.length = k) (hP : AllS R) (hx : x < k) (hy : y < k) {a b : Lab} (ha : Sml a) (hb : Sml b) : ∃ s1 s2, storeD Try.prog s 106 (.pointer (some ⟨id, x * 2, none⟩)) (.agg (lab a).toArray) = some s1 ∧ storeD Try.prog s1 106 (.pointer (some ⟨id, y * 2, none⟩)) (.agg (lab b).toArray) = some s2 ∧ Sh id k s s2 := by
  refine ⟨_, _, str_ a h (by omega), str_ b (get_put_same _) (by rw [List.length_set]; omega), ⟨_, get_put_same _, by rw [List.length_set, List.length_set, hR], (hP.set _ ha).set _ hb⟩, ((Upd.refl id s).put _).put _⟩
theorem c212s {n id k c a b m : Nat} {s : SH} {R : List Lab} (hR : R.length = k) (hk : k < 2 ^ 60) (ha : a + m ≤ k) (hb : b + m ≤ k) (hs : LR id s R) (hP : AllS R) :
    ∃ s', callD Try.prog AB (n + 1) (.fn 212) [rl id k c, .int .i64 (a : Int), .int .i64 (b : Int), .int .i64 (m : Int), cmpF] s = some [(.tuple #[], s')] ∧ Sh id k s s' := by
  rw [call_fn (fn := Try.f212) rfl rfl (by kernel_rfl)]
  suffices h : One (bodyD Try.prog false (callD Try.prog AB n) AB.N 212 Try.f212 [rl id k c, .int .i64 (a : Int), .int .i64 (b : Int), .int .i64 (m : Int), cmpF] s) fun w s' => w = .tuple #[] ∧ Sh id k s s' by
    obtain ⟨w, s', e, rfl, h⟩ := h
    exact ⟨s', e, h⟩
  rw [f212_r]
  simp only [f212, o_bool, o_alloc, o_box, o_build, o_buildSlice, o_load, o_store, o_nilCheck, o_bop, o_uop, o_conv, o_slc, o_fieldAddr, o_field, o_indexAddr, o_index, o_extract, o_lookup, o_mapUpdate, o_makeSlice, o_clear, o_makeMap, o_mapEntry, o_entryStore, o_delete, o_len, o_append, o_min, o_max, o_tgt, bindS, many1, jnE, boolS, gdB, fst', snd']
  refine list_one (List.replicate m ()) (fun i (x : Value) (s' : SH) => x = .int .i64 (i : Int) ∧ Sh id k s s') ?_ ?_ ⟨rfl, ⟨R, hs, hR, hP⟩, .refl _ _⟩ (by rw [List.length_replicate]; show m < 2 ^ 64; omega)
  · rintro i hi x s' ⟨rfl, ⟨R1, h1, h2, hP1⟩, hU⟩ nx hnx
    rw [List.length_replicate] at hi
    have hlt : (i : Int) < (m : Int) := by omega
    have w1 : IntKind.i64.wrap ((a : Int) + (i : Int)) = ((a + i : Nat) : Int) := by rw [wrap_i64 (by omega) (by omega)]; omega
    have w2 : IntKind.i64.wrap ((b : Int) + (i : Int)) = ((b + i : Nat) : Int) := by rw [wrap_i64 (by omega) (by omega)]; omega
    have w3 : IntKind.i64.wrap ((i : Int) + 1) = ((i + 1 : Nat) : Int) := by rw [wrap_i64 (by omega) (by omega)]; rfl
    obtain ⟨s2, s3, e1, e2, e3⟩ := sw2 (x := a + i) (y := b + i) h1 h2 hP1 (by omega) (by omega) (hP1 (R1[b + i]'(by omega)) (List.getElem_mem _)) (hP1 (R1[a + i]'(by omega)) (List.getElem_mem _))
    simp only [f212_l0, o_bool, o_alloc, o_box, o_build, o_buildSlice, o_load, o_store, o_nilCheck, o_bop, o_uop, o_conv, o_slc, o_fieldAddr, o_field, o_indexAddr, o_index, o_extract, o_lookup, o_mapUpdate, o_makeSlice, o_clear, o_makeMap, o_mapEntry, o_entryStore, o_delete, o_len, o_append, o_min, o_max, o_tgt, bindS, many1, jnE, boolS, gdB, fst', snd', bop_lss, hlt, decide_true, condT, bop_add, w1, w2, w3, ix22 (show a + i < k by omega), ix22 (show b + i < k by omega), ldr h1 (show b + i < R1.length by omega), ldr h1 (show a + i < R1.length by omega), e1, e2]
    exact hnx _ _ ⟨rfl, Sh.trans ⟨⟨R1, h1, h2, hP1⟩, hU⟩ e3⟩
  · rintro x s' ⟨rfl, hS⟩ nx
    rw [List.length_replicate]
    have hnlt : ¬ ((m : Int) < (m : Int)) := by omega
    simp only [f212_l0, o_bool, o_alloc, o_box, o_build, o_buildSlice, o_load, o_store, o_nilCheck, o_bop, o_uop, o_conv, o_slc, o_fieldAddr, o_field, o_indexAddr, o_index, o_extract, o_lookup, o_mapUpdate, o_makeSlice, o_clear, o_makeMap, o_mapEntry, o_entryStore, o_delete, o_len, o_append, o_min, o_max, o_tgt, bindS, many1, jnE, boolS, gdB, fst', snd', bop_lss, hnlt, decide_false, condF, beq_yes, condT]
    exact One.ret ⟨rfl, hS⟩
theorem c200s {n id k c a m b : Nat} {s : SH} {R : List Lab} (hR : R.length = k) (hk : k < 2 ^ 60) (h1 : a < m) (h2 : m < b) (hb : b ≤ k) (hs : LR id s R) (hP : AllS R) :
    ∃ s', callD Try.prog AB (n + 2) (.fn 200) [rl id k c, .int .i64 (a : Int), .int .i64 (m : Int), .int .i64 (b : Int), cmpF] s = some [(.tuple #[], s')] ∧ Sh id k s s' := by
  rw [call_fn (fn := Try.f200) rfl rfl (by kernel_rfl)]
  suffices h : One (bodyD Try.prog false (callD Try.prog AB (n + 1)) AB.N 200 Try.f200 [rl id k c, .int .i64 (a : Int), .int .i64 (m : Int), .int .i64 (b : Int), cmpF] s) fun w s' => w = .tuple #[] ∧ Sh id k s s' by
    obtain ⟨w, s', e, rfl, h⟩ := h
    exact ⟨s', e, h⟩
  rw [f200_r]
  have w1 : IntKind.i64.wrap ((m : Int) - (a : Int)) = ((m - a : Nat) : Int) := by rw [wrap_i64 (by omega) (by omega)]; omega
  have w2 : IntKind.i64.wrap ((b : Int) - (m : Int)) = ((b - m : Nat) : Int) := by rw [wrap_i64 (by omega) (by omega)]; omega
  simp only [f200, o_bool, o_alloc, o_box, o_build, o_buildSlice, o_load, o_store, o_nilCheck, o_bop, o_uop, o_conv, o_slc, o_fieldAddr, o_field, o_indexAddr, o_index, o_extract, o_lookup, o_mapUpdate, o_makeSlice, o_clear, o_makeMap, o_mapEntry, o_entryStore, o_delete, o_len, o_append, o_min, o_max, o_tgt, bindS, many1, jnE, boolS, gdB, fst', snd', b_sub, w1, w2]
  refine loop_rule (fun d (x : Value × Value) (s' : SH) => ∃ i j : Nat, d = i + j ∧ 0 < i ∧ 0 < j ∧ i ≤ m ∧ m + j ≤ b ∧ x.1 = .int .i64 (i : Int) ∧ x.2 = .int .i64 (j : Int) ∧ Sh id k s s') (fun r => One r fun w s' => w = .tuple #[] ∧ Sh id k s s') ?_ _ (m - a + (b - m)) _ _ ⟨m - a, b - m, rfl, by omega, by omega, by omega, by omega, rfl, rfl, ⟨R, hs, hR, hP⟩, .refl _ _⟩ (by show _ < 2 ^ 64; omega)
  rintro d ⟨x1, x2⟩ s' ⟨i, j, rfl, hi, hj, him, hjb, e1, e2, hS⟩ nx hnx
  simp only at e1 e2
  subst e1 e2
  obtain ⟨⟨R1, k1, k2, hP1⟩, hU⟩ := hS
  have w3 : IntKind.i64.wrap ((m : Int) - (i : Int)) = ((m - i : Nat) : Int) := by rw [wrap_i64 (by omega) (by omega)]; omega
  by_cases hij : i = j
  · subst hij
    obtain ⟨s2, q1, q2⟩ := c212s (n := n) (c := c) (a := m - i) (b := m) (m := i) k2 hk (by omega) (by omega) k1 hP1
    simp only [f200_l0, o_bool, o_alloc, o_box, o_build, o_buildSlice, o_load, o_store, o_nilCheck, o_bop, o_uop, o_conv, o_slc, o_fieldAddr, o_field, o_indexAddr, o_index, o_extract, o_lookup, o_mapUpdate, o_makeSlice, o_clear, o_makeMap, o_mapEntry, o_entryStore, o_delete, o_len, o_append, o_min, o_max, o_tgt, bindS, many1, jnE, boolS, gdB, fst', snd', b_neq, decide_true, Bool.not_true, condF, beq_yes, condT, b_sub, w3, q1]
    exact One.ret ⟨rfl, Sh.trans ⟨⟨R1, k1, k2, hP1⟩, hU⟩ q2⟩
  · have hne : ¬ ((i : Int) = (j : Int)) := by omega
    by_cases hgt : j < i
    · have hgt' : (i : Int) > (j : Int) := by omega
      have w4 : IntKind.i64.wrap ((i : Int) - (j : Int)) = ((i - j : Nat) : Int) := by rw [wrap_i64 (by omega) (by omega)]; omega
      obtain ⟨s2, q1, q2⟩ := c212s (n := n) (c := c) (a := m - i) (b := m) (m := j) k2 hk (by omega) (by omega) k1 hP1
      simp only [f200_l0, o_bool, o_alloc, o_box, o_build, o_buildSlice, o_load, o_store, o_nilCheck, o_bop, o_uop, o_conv, o_slc, o_fieldAddr, o_field, o_indexAddr, o_index, o_extract, o_lookup, o_mapUpdate, o_makeSlice, o_clear, o_makeMap, o_mapEntry, o_entryStore, o_delete, o_len, o_append, o_min, o_max, o_tgt, bindS, many1, jnE, boolS, gdB, fst', snd', b_neq, hne, decide_false, Bool.not_false, condT, bop_gtr, hgt', decide_true, b_sub, w3, q1, w4]
      exact hnx (i - j + j) (_, _) _ (by omega) ⟨i - j, j, rfl, by omega, hj, by omega, hjb, rfl, rfl, Sh.trans ⟨⟨R1, k1, k2, hP1⟩, hU⟩ q2⟩
    · have hgt' : ¬ (i : Int) > (j : Int) := by omega
      have w4 : IntKind.i64.wrap ((j : Int) - (i : Int)) = ((j - i : Nat) : Int) := by rw [wrap_i64 (by omega) (by omega)]; omega
      have w5 : IntKind.i64.wrap ((m : Int) + (j : Int)) = ((m + j : Nat) : Int) := by rw [wrap_i64 (by omega) (by omega)]; omega
      have w6 : IntKind.i64.wrap (((m + j : Nat) : Int) - (i : Int)) = ((m + j - i : Nat) : Int) := by rw [wrap_i64 (by omega) (by omega)]; omega
      obtain ⟨s2, q1, q2⟩ := c212s (n := n) (c := c) (a := m - i) (b := m + j - i) (m := i) k2 hk (by omega) (by omega) k1 hP1
      simp only [f200_l0, o_bool, o_alloc, o_box, o_build, o_buildSlice, o_load, o_store, o_nilCheck, o_bop, o_uop, o_conv, o_slc, o_fieldAddr, o_field, o_indexAddr, o_index, o_extract, o_lookup, o_mapUpdate, o_makeSlice, o_clear, o_makeMap, o_mapEntry, o_entryStore, o_delete, o_len, o_append, o_min, o_max, o_tgt, bindS, many1, jnE, boolS, gdB, fst', snd', b_neq, hne, decide_false, Bool.not_false, condT, condF, bop_gtr, hgt', b_sub, w3, bop_add, w5, w6, q1, w4]
      exact hnx (i + (j - i)) (_, _) _ (by omega) ⟨i, j - i, rfl, hi, by omega, him, by omega, rfl, rfl, Sh.trans ⟨⟨R1, k1, k2, hP1⟩, hU⟩ q2⟩
theorem shr1 (y : Nat) : bopD Try.prog .shr 201 (.int .u64 (y : Int)) (.int .u64 1) = some (.int .u64 ((y / 2 : Nat) : Int)) := by
  rw [bop_int]
  simp only [intS]
  rw [if_neg (by decide)]
  have e : ((2 : Int) ^ min (Int.toNat 1) IntKind.u64.bits) = ((2 : Nat) : Int) := by decide
  rw [e, ← Int.ofNat_fdiv]
theorem u201 : Try.prog.underlying 201 = some (Go.TypeDesc.int Go.IntKind.u64) := by kernel_rfl
end Go.Proofs.Ytmhmbmogodofeaa.S
