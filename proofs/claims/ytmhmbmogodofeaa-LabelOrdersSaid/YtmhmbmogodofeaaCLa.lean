import Derived.Test.YtmhmbmogodofeaaV2
set_option autoImplicit false
set_option linter.unusedVariables false
set_option linter.unusedSimpArgs false
set_option maxRecDepth 100000
namespace Go.Proofs.Ytmhmbmogodofeaa.S
open Go.FS Go.RowKit
attribute [local congr] bind_cg cond_cg gd_cg
theorem lab_neq (a b : Lab) : bopD Try.prog .neq 106 (.agg (lab a).toArray) (.agg (lab b).toArray) = some (.bool (!decide (a = b))) := by
  refine (bop_agg (P := Try.prog) (d := 4) (t := 106) (a := (lab a).toArray) (b := (lab b).toArray) (r := decide (a = b)) (by decide) (by kernel_rfl) rfl rfl ?_).2
  have : eqS Try.prog 4 106 (.agg #[.string a.1, .string a.2]) (.agg #[.string b.1, .string b.2]) = cond (a.1 == b.1) (cond (a.2 == b.2) (some true) (some false)) (some false) := by kernel_rfl
  refine Eq.trans this ?_
  rw [ba_beq, ba_beq]
  have e : (a = b) ↔ a.1 = b.1 ∧ a.2 = b.2 := Prod.ext_iff
  by_cases h1 : a.1 = b.1 <;> by_cases h2 : a.2 = b.2 <;> simp [e, h1, h2]
theorem c21 {n m m' : Nat} {s : SH} (xs ys : List Lab) (hl : xs.length < 2 ^ 62) : callD Try.prog AB (n + 1) (.fn 21) [sl lab m xs, sl lab m' ys] s = some [(.bool (decide (xs = ys)), s)] := by
  refine cut_call (fn := Try.f21) rfl rfl (by kernel_rfl) (v := .bool (decide (xs = ys))) (fun _ h => by cases h) (.bool _) ?_
  show One (bodyD Try.prog false _ _ 21 Try.f21 _ s) _
  rw [f21_r]
  simp only [f21, o_bool, o_alloc, o_box, o_build, o_buildSlice, o_load, o_store, o_nilCheck, o_bop, o_uop, o_conv, o_slc, o_fieldAddr, o_field, o_indexAddr, o_index, o_extract, o_lookup, o_mapUpdate, o_makeMap, o_mapEntry, o_entryStore, o_delete, o_len, o_append, o_min, o_max, o_tgt, bindS, many1, jnE, boolS, gdB, fst', snd', len_sl u23, b_neq]
  by_cases h : xs.length = ys.length
  · have e : ((xs.length : Int) = ys.length) := by omega
    simp only [e, decide_true, Bool.not_true, condF]
    try rw [← e]
    refine list_one xs (fun i (x : Value × Value) (s' : SH) => s = s' ∧ x.1 = .bool false ∧ x.2 = .int .i64 i ∧ xs.take i = ys.take i) ?_ ?_ ⟨rfl, rfl, rfl, rfl⟩ (by show xs.length < 2 ^ 64; omega)
    · rintro i hi ⟨x1, x2⟩ s' ⟨rfl, h1, h2, h3⟩ nx hnx
      simp only at h1 h2
      subst h1 h2
      have hlt : (i : Int) < xs.length := by omega
      have hi' : i < ys.length := by omega
      have hw : IntKind.i64.wrap ((i : Int) + 1) = ((i + 1 : Nat) : Int) := by rw [wrap_i64 (by omega) (by omega)]; rfl
      simp only [f21_l0, o_bool, o_alloc, o_box, o_build, o_buildSlice, o_load, o_store, o_nilCheck, o_bop, o_uop, o_conv, o_slc, o_fieldAddr, o_field, o_indexAddr, o_index, o_extract, o_lookup, o_mapUpdate, o_makeMap, o_mapEntry, o_entryStore, o_delete, o_len, o_append, o_min, o_max, o_tgt, bindS, many1, jnE, boolS, gdB, fst', snd', len_sl u23, bop_lss, hlt, decide_true, condT, ixs23 lab_len hi, ixs23 lab_len hi', ld_lab, lab_neq, bop_add, hw]
      by_cases hq : xs[i] = ys[i]
      · simp only [hq, decide_true, Bool.not_true, condF]
        refine hnx (_, _) _ ⟨rfl, rfl, rfl, ?_⟩
        rw [List.take_succ_eq_append_getElem hi, List.take_succ_eq_append_getElem hi', h3, hq]
      · simp only [hq, decide_false, Bool.not_false, condT]
        have hne : xs ≠ ys := fun e => hq (by simp only [e])
        exact One.ret ⟨by rw [decide_eq_false hne], .refl s⟩
    · rintro ⟨x1, x2⟩ s' ⟨rfl, h1, h2, h3⟩ nx
      simp only at h1 h2
      subst h1 h2
      have hnlt : ¬ ((xs.length : Int) < xs.length) := by omega
      have hxy : xs = ys := by rw [List.take_length, h, List.take_length] at h3; exact h3
      simp only [f21_l0, o_bool, o_alloc, o_box, o_build, o_buildSlice, o_load, o_store, o_nilCheck, o_bop, o_uop, o_conv, o_slc, o_fieldAddr, o_field, o_indexAddr, o_index, o_extract, o_lookup, o_mapUpdate, o_makeMap, o_mapEntry, o_entryStore, o_delete, o_len, o_append, o_min, o_max, o_tgt, bindS, many1, jnE, boolS, gdB, fst', snd', len_sl u23, bop_lss, hnlt, decide_false, condF, beq_yes, condT]
      exact One.ret ⟨by rw [decide_eq_true hxy], .refl s⟩
  · have e : ¬ ((xs.length : Int) = ys.length) := by omega
    have hne : xs ≠ ys := fun e => h (by rw [e])
    simp only [e, decide_false, Bool.not_false, condT]
    exact One.ret ⟨by rw [decide_eq_false hne], .refl s⟩

theorem c26 {n m m' : Nat} {s : SH} (a : List UInt8) : callD Try.prog AB (n + 1) (.fn 26) [sl by' m a, sl by' m' a] s = some [(.bool true, s)] := by
  refine cut_call (fn := Try.f26) rfl rfl (by kernel_rfl) (v := .bool true) (fun _ h => by cases h) (.bool _) ?_
  show One (bodyD Try.prog false _ _ 26 Try.f26 _ s) _
  rw [f26_r]
  have e : bopD Try.prog .eql 9 (.string ⟨a.toArray⟩) (.string ⟨a.toArray⟩) = some (.bool ((⟨a.toArray⟩ : ByteArray).toList == (⟨a.toArray⟩ : ByteArray).toList)) := rfl
  simp only [f26, o_bool, o_alloc, o_box, o_build, o_buildSlice, o_load, o_store, o_nilCheck, o_bop, o_uop, o_conv, o_slc, o_fieldAddr, o_field, o_indexAddr, o_index, o_extract, o_lookup, o_mapUpdate, o_makeMap, o_mapEntry, o_entryStore, o_delete, o_len, o_append, o_min, o_max, o_tgt, bindS, many1, jnE, boolS, gdB, fst', snd', conv_bs, e, beq_self_eq_true]
  exact One.ret ⟨rfl, .refl s⟩

def cutB (b : ByteArray) (n : Nat) : ByteArray := b.extract 0 (min b.size n)
theorem cutB_size (b : ByteArray) (n : Nat) : (cutB b n).size = min b.size n := by
  unfold cutB
  rw [ByteArray.size_extract]; omega
def fewL (l : Lab) : Lab := (cutB l.1 65, cutB l.2 257)
def few4 (l : List Lab) : List Lab := (l.take 40).map fewL
theorem few4_small (l : List Lab) : (few4 l).length ≤ 40 ∧ ∀ a ∈ few4 l, a.1.size ≤ 65 ∧ a.2.size ≤ 257 := by
  refine ⟨by unfold few4; rw [List.length_map, List.length_take]; omega, fun a ha => ?_⟩
  obtain ⟨b, _, rfl⟩ := List.mem_map.1 ha
  unfold fewL
  rw [cutB_size, cutB_size]
  exact ⟨Nat.min_le_right _ _, Nat.min_le_right _ _⟩
theorem few4_S (l : List Lab) : SmallL (few4 l) := ⟨by have := (few4_small l).1; omega, fun a ha => by have := (few4_small l).2 a ha; omega⟩
theorem min65 (n : Nat) : minD Try.prog (.int .i64 (n : Int)) [.int .i64 65] = some (.int .i64 ((min n 65 : Nat) : Int)) := min_nat .i64 n 65
theorem min257 (n : Nat) : minD Try.prog (.int .i64 (n : Int)) [.int .i64 257] = some (.int .i64 ((min n 257 : Nat) : Int)) := min_nat .i64 n 257
theorem ldf_l0 {s : SH} (a : Lab) : loadD Try.prog s 9 (fpV (lab a).toArray 0) = some (.string a.1) := by rw [load_fp, part_one a9]; rfl
theorem ldf_l1 {s : SH} (a : Lab) : loadD Try.prog s 9 (fpV (lab a).toArray 1) = some (.string a.2) := by rw [load_fp, part_one a9]; rfl
theorem bs23_0 (s : SH) : buildSliceD Try.prog false s 23 0 [] = some (sl lab 1 [], s) := by kernel_rfl
theorem c18 {n m : Nat} {s : SH} (l : List Lab) : ∃ m' s', callD Try.prog AB (n + 1) (.fn 18) [sl lab m l] s = some [(sl lab m' (few4 l), s')] ∧ Sm s.n s s' := by
  rw [call_fn (fn := Try.f18) rfl rfl (by kernel_rfl)]
  suffices h : One (bodyD Try.prog false (callD Try.prog AB n) AB.N 18 Try.f18 [sl lab m l] s) fun w s' => Grow s.n 2 lab s' w (few4 l) ∧ Sm s.n s s' by
    obtain ⟨w, s', e, h1, h2⟩ := h
    obtain ⟨mm, rfl⟩ := Grow.form h1
    exact ⟨mm, s', e, h2⟩
  rw [f18_r]
  simp only [f18, o_bool, o_alloc, o_box, o_build, o_buildSlice, o_load, o_store, o_nilCheck, o_bop, o_uop, o_conv, o_slc, o_fieldAddr, o_field, o_indexAddr, o_index, o_extract, o_lookup, o_mapUpdate, o_makeMap, o_mapEntry, o_entryStore, o_delete, o_len, o_append, o_min, o_max, o_tgt, bindS, many1, jnE, boolS, gdB, fst', snd', bs23_0]
  refine list_one (l.take 40) (fun i (x : Value × Value) (s' : SH) => Sm s.n s s' ∧ x.2 = .int .i64 i ∧ Grow s.n 2 lab s' x.1 ((l.take i).map fewL)) ?_ ?_ ⟨.refl _ _, rfl, .inl ⟨rfl, .inr rfl⟩⟩ (by rw [List.length_take]; show _ < 2 ^ 64; omega)
  · rintro i hi ⟨x1, x2⟩ s' ⟨hsm, h2, hg⟩ nx hnx
    simp only at h2 hg
    subst h2
    rw [List.length_take] at hi
    have hi1 : i < l.length := by omega
    have hlt : (i : Int) < l.length := by omega
    have hlt2 : (i : Int) < 40 := by omega
    have hw : IntKind.i64.wrap ((i : Int) + 1) = ((i + 1 : Nat) : Int) := by rw [wrap_i64 (by omega) (by omega)]; rfl
    have hts : (l.take (i + 1)).map fewL = (l.take i).map fewL ++ [fewL l[i]] := by rw [List.take_succ_eq_append_getElem hi1, List.map_append]; rfl
    have hln : ((l.take i).map fewL).length = i := by rw [List.length_map, List.length_take]; omega
    obtain ⟨v', s3, e1, w1, w2, w3⟩ := gapp23 (m2 := 1) (ys := [fewL l[i]]) hg hsm.1 (by rw [hln]; simp only [List.length_singleton]; omega)
    have e1 : appD Try.prog false s' 23 23 x1 (sl lab 1 [(ByteArray.extract l[i].1 0 (min l[i].1.size 65), ByteArray.extract l[i].2 0 (min l[i].2.size 257))]) = some (v', s3) := e1
    simp only [f18_l0, o_bool, o_alloc, o_box, o_build, o_buildSlice, o_load, o_store, o_nilCheck, o_bop, o_uop, o_conv, o_slc, o_fieldAddr, o_field, o_indexAddr, o_index, o_extract, o_lookup, o_mapUpdate, o_makeMap, o_mapEntry, o_entryStore, o_delete, o_len, o_append, o_min, o_max, o_tgt, bindS, many1, jnE, boolS, gdB, fst', snd', len_sl u23, bop_lss, hlt, hlt2, decide_true, condT, ixs23 lab_len hi1, flf106_0, flf106_1, ldf_l0, ldf_l1, len_str u9, min65, min257, slc_str u9 _ (Nat.min_le_left _ 65), slc_str u9 _ (Nat.min_le_left _ 257), bld106, bs23, e1, bop_add, hw]
    refine hnx (_, _) _ ⟨hsm.trans w2, rfl, ?_⟩
    rw [hts]; exact w1
  · rintro ⟨x1, x2⟩ s' ⟨hsm, h2, hg⟩ nx
    simp only at h2 hg
    subst h2
    rw [List.length_take] at hg ⊢
    have hgo : Grow s.n 2 lab s' x1 (few4 l) := by
      have : few4 l = (l.take (min 40 l.length)).map fewL := by
        unfold few4
        congr 1
        by_cases h : 40 ≤ l.length
        · rw [Nat.min_eq_left h]
        · rw [Nat.min_eq_right (by omega), List.take_length, List.take_of_length_le (by omega)]
      rw [this]; exact hg
    by_cases h : l.length ≤ 40
    · have hnlt : ¬ (((min 40 l.length : Nat) : Int) < l.length) := by omega
      simp only [f18_l0, o_bool, o_alloc, o_box, o_build, o_buildSlice, o_load, o_store, o_nilCheck, o_bop, o_uop, o_conv, o_slc, o_fieldAddr, o_field, o_indexAddr, o_index, o_extract, o_lookup, o_mapUpdate, o_makeMap, o_mapEntry, o_entryStore, o_delete, o_len, o_append, o_min, o_max, o_tgt, bindS, many1, jnE, boolS, gdB, fst', snd', len_sl u23, bop_lss, hnlt, decide_false, condF, beq_yes, condT]
      exact One.ret ⟨hgo, hsm⟩
    · have hlt : ((min 40 l.length : Nat) : Int) < l.length := by omega
      have hnlt2 : ¬ (((min 40 l.length : Nat) : Int) < 40) := by omega
      simp only [f18_l0, o_bool, o_alloc, o_box, o_build, o_buildSlice, o_load, o_store, o_nilCheck, o_bop, o_uop, o_conv, o_slc, o_fieldAddr, o_field, o_indexAddr, o_index, o_extract, o_lookup, o_mapUpdate, o_makeMap, o_mapEntry, o_entryStore, o_delete, o_len, o_append, o_min, o_max, o_tgt, bindS, many1, jnE, boolS, gdB, fst', snd', len_sl u23, bop_lss, hlt, hnlt2, decide_true, decide_false, condF, beq_yes, condT]
      exact One.ret ⟨hgo, hsm⟩
end Go.Proofs.Ytmhmbmogodofeaa.S
