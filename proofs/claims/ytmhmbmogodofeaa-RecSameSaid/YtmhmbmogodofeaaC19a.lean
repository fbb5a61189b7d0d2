import Derived.Test.YtmhmbmogodofeaaFw
import Derived.Test.YtmhmbmogodofeaaS19
import Derived.Test.YtmhmbmogodofeaaT19
set_option autoImplicit false
set_option linter.unusedVariables false
set_option linter.unusedSimpArgs false
set_option maxRecDepth 100000
namespace Go.Proofs.Ytmhmbmogodofeaa.S
open Go.FS Go.RowKit
attribute [local congr] bind_cg cond_cg gd_cg
/-- The heap. -/
noncomputable abbrev HP : HeapI := FG fun _ => none
noncomputable def IR : Intr HP := fun f => bif Nat.beq f 42 then some yes else none
/-- Functions of which what they leave is cut. -/
def cutR (f : Nat) : Option (List (Option Nat)) := match f with
  | 21 | 39 | 40 | 41 | 90 | 91 | 92 | 93 | 94 => some [none]
  | _ => none
noncomputable def AR : Ann HP := { i := IR, N := 2 ^ 64, row := fun _ => false, cut := cutR }
abbrev SH := St HP
abbrev Rg := Int × Int
def rg (r : Rg) : List Value := [.int .i64 r.1, .int .i64 r.2]
theorem rg_len (r : Rg) : (rg r).length = 2 := rfl
def u6 (n : Int) : List Value := [.int .u64 n]
theorem u6_len (n : Int) : (u6 n).length = 1 := rfl
abbrev Lab := ByteArray × ByteArray
def lab (a : Lab) : List Value := [.string a.1, .string a.2]
theorem lab_len (a : Lab) : (lab a).length = 2 := rfl
abbrev Pt := Int × Int × Int
def pt (a : Pt) : List Value := [.int .u64 a.1, .int .i64 a.2.1, .int .u64 a.2.2]
theorem pt_len (a : Pt) : (pt a).length = 3 := rfl
theorem ib (x y : Int) : (x == y) = decide (x = y) := by by_cases h : x = y <;> simp [h]
theorem rg_cmp (a b : Rg) : bopD Try.prog .eql 69 (.agg (rg a).toArray) (.agg (rg b).toArray) = some (.bool (decide (a = b))) ∧ bopD Try.prog .neq 69 (.agg (rg a).toArray) (.agg (rg b).toArray) = some (.bool (!decide (a = b))) := by
  refine bop_agg (P := Try.prog) (d := 4) (t := 69) (a := (rg a).toArray) (b := (rg b).toArray) (r := decide (a = b)) (by decide) (by kernel_rfl) rfl rfl ?_
  have : eqS Try.prog 4 69 (.agg #[.int .i64 a.1, .int .i64 a.2]) (.agg #[.int .i64 b.1, .int .i64 b.2]) = cond (a.1 == b.1) (cond (a.2 == b.2) (some true) (some false)) (some false) := by kernel_rfl
  refine Eq.trans this ?_
  rw [ib, ib]
  have e : (a = b) ↔ a.1 = b.1 ∧ a.2 = b.2 := Prod.ext_iff
  by_cases h1 : a.1 = b.1 <;> by_cases h2 : a.2 = b.2 <;> simp [e, h1, h2]
theorem lab_neq (a b : Lab) : bopD Try.prog .neq 106 (.agg (lab a).toArray) (.agg (lab b).toArray) = some (.bool (!decide (a = b))) := by
  refine (bop_agg (P := Try.prog) (d := 4) (t := 106) (a := (lab a).toArray) (b := (lab b).toArray) (r := decide (a = b)) (by decide) (by kernel_rfl) rfl rfl ?_).2
  have : eqS Try.prog 4 106 (.agg #[.string a.1, .string a.2]) (.agg #[.string b.1, .string b.2]) = cond (a.1 == b.1) (cond (a.2 == b.2) (some true) (some false)) (some false) := by kernel_rfl
  refine Eq.trans this ?_
  rw [ba_beq, ba_beq]
  have e : (a = b) ↔ a.1 = b.1 ∧ a.2 = b.2 := Prod.ext_iff
  by_cases h1 : a.1 = b.1 <;> by_cases h2 : a.2 = b.2 <;> simp [e, h1, h2]
theorem pt_neq (a b : Pt) : bopD Try.prog .neq 142 (.agg (pt a).toArray) (.agg (pt b).toArray) = some (.bool (!decide (a = b))) := by
  refine (bop_agg (P := Try.prog) (d := 4) (t := 142) (a := (pt a).toArray) (b := (pt b).toArray) (r := decide (a = b)) (by decide) (by kernel_rfl) rfl rfl ?_).2
  have h0 : eqS Try.prog 4 142 (.agg #[.int .u64 a.1, .int .i64 a.2.1, .int .u64 a.2.2]) (.agg #[.int .u64 b.1, .int .i64 b.2.1, .int .u64 b.2.2]) = cond (a.1 == b.1) ((cond (a.2.1 == b.2.1) (cond (a.2.2 == b.2.2) (some true) (some false)) (some false)).bind fun r => cond r (some true) (some false)) (some false) := by kernel_rfl
  refine Eq.trans h0 ?_
  rw [ib, ib, ib]
  have e : (a = b) ↔ a.1 = b.1 ∧ a.2.1 = b.2.1 ∧ a.2.2 = b.2.2 := by rw [Prod.ext_iff, Prod.ext_iff]
  by_cases h1 : a.1 = b.1 <;> by_cases h2 : a.2.1 = b.2.1 <;> by_cases h3 : a.2.2 = b.2.2 <;> simp [e, h1, h2, h3]
theorem ld_lab {s : SH} (a : Lab) : loadD Try.prog s 106 (fpV (lab a).toArray 0) = some (.agg (lab a).toArray) := by rw [load_fp, part_agg a106 z106 (l := lab a) rfl rfl]
theorem ld_pt {s : SH} (a : Pt) : loadD Try.prog s 142 (fpV (pt a).toArray 0) = some (.agg (pt a).toArray) := by rw [load_fp, part_agg a142 z142 (l := pt a) rfl rfl]
theorem ld_u6 {s : SH} (a : Int) : loadD Try.prog s 70 (fpV (u6 a).toArray 0) = some (.int .u64 a) := by rw [load_fp, part_one a70]; rfl
theorem c91 {n m m' : Nat} {s : SH} (xs ys : List Lab) (hl : xs.length < 2 ^ 62) : callD Try.prog AR (n + 1) (.fn 91) [sl lab m xs, sl lab m' ys] s = some [(.bool (decide (xs = ys)), s)] := by
  refine cut_call (fn := Try.f91) rfl rfl (by kernel_rfl) (v := .bool (decide (xs = ys))) (fun _ h => by cases h) (.bool _) ?_
  show One (bodyD Try.prog false _ _ 91 Try.f91 _ s) _
  rw [f91_r]
  simp only [f91, o_bool, o_alloc, o_box, o_build, o_buildSlice, o_load, o_store, o_nilCheck, o_bop, o_uop, o_conv, o_slc, o_fieldAddr, o_field, o_indexAddr, o_index, o_extract, o_lookup, o_mapUpdate, o_makeMap, o_mapEntry, o_entryStore, o_delete, o_len, o_append, o_min, o_max, o_tgt, bindS, many1, jnE, boolS, gdB, fst', snd', len_sl u23, b_neq]
  by_cases h : xs.length = ys.length
  · have e : ((xs.length : Int) = ys.length) := by omega
    simp only [e, decide_true, Bool.not_true, condF]
    try rw [← e]
    refine list_one xs (fun i (x : Value × Value × Value) (s' : SH) => s = s' ∧ x.1 = .bool false ∧ x.2.2 = .int .i64 i ∧ xs.take i = ys.take i) ?_ ?_ ⟨rfl, rfl, rfl, rfl⟩ (by show xs.length < 2 ^ 64; omega)
    · rintro i hi ⟨x1, x2, x3⟩ s' ⟨rfl, h1, h2, h3⟩ nx hnx
      simp only at h1 h2
      subst h1 h2
      have hlt : (i : Int) < xs.length := by omega
      have hi' : i < ys.length := by omega
      have hw : IntKind.i64.wrap ((i : Int) + 1) = ((i + 1 : Nat) : Int) := by rw [wrap_i64 (by omega) (by omega)]; rfl
      simp only [f91_l0, o_bool, o_alloc, o_box, o_build, o_buildSlice, o_load, o_store, o_nilCheck, o_bop, o_uop, o_conv, o_slc, o_fieldAddr, o_field, o_indexAddr, o_index, o_extract, o_lookup, o_mapUpdate, o_makeMap, o_mapEntry, o_entryStore, o_delete, o_len, o_append, o_min, o_max, o_tgt, bindS, many1, jnE, boolS, gdB, fst', snd', len_sl u23, bop_lss, hlt, decide_true, condT, ixs23 lab_len hi, ixs23 lab_len hi', ld_lab, lab_neq, bop_add, hw]
      by_cases hq : xs[i] = ys[i]
      · simp only [hq, decide_true, Bool.not_true, condF]
        refine hnx (_, _) _ ⟨rfl, rfl, rfl, ?_⟩
        rw [List.take_succ_eq_append_getElem hi, List.take_succ_eq_append_getElem hi', h3, hq]
      · simp only [hq, decide_false, Bool.not_false, condT]
        have hne : xs ≠ ys := fun e => hq (by simp only [e])
        exact One.ret ⟨by rw [decide_eq_false hne], .refl s⟩
    · rintro ⟨x1, x2, x3⟩ s' ⟨rfl, h1, h2, h3⟩ nx
      simp only at h1 h2
      subst h1 h2
      have hnlt : ¬ ((xs.length : Int) < xs.length) := by omega
      have hxy : xs = ys := by rw [List.take_length, h, List.take_length] at h3; exact h3
      simp only [f91_l0, o_bool, o_alloc, o_box, o_build, o_buildSlice, o_load, o_store, o_nilCheck, o_bop, o_uop, o_conv, o_slc, o_fieldAddr, o_field, o_indexAddr, o_index, o_extract, o_lookup, o_mapUpdate, o_makeMap, o_mapEntry, o_entryStore, o_delete, o_len, o_append, o_min, o_max, o_tgt, bindS, many1, jnE, boolS, gdB, fst', snd', len_sl u23, bop_lss, hnlt, decide_false, condF, beq_yes, condT]
      exact One.ret ⟨by rw [decide_eq_true hxy], .refl s⟩
  · have e : ¬ ((xs.length : Int) = ys.length) := by omega
    have hne : xs ≠ ys := fun e => h (by rw [e])
    simp only [e, decide_false, Bool.not_false, condT]
    exact One.ret ⟨by rw [decide_eq_false hne], .refl s⟩
theorem c93 {n m m' : Nat} {s : SH} (xs ys : List Pt) (hl : xs.length < 2 ^ 62) : callD Try.prog AR (n + 1) (.fn 93) [sl pt m xs, sl pt m' ys] s = some [(.bool (decide (xs = ys)), s)] := by
  refine cut_call (fn := Try.f93) rfl rfl (by kernel_rfl) (v := .bool (decide (xs = ys))) (fun _ h => by cases h) (.bool _) ?_
  show One (bodyD Try.prog false _ _ 93 Try.f93 _ s) _
  rw [f93_r]
  simp only [f93, o_bool, o_alloc, o_box, o_build, o_buildSlice, o_load, o_store, o_nilCheck, o_bop, o_uop, o_conv, o_slc, o_fieldAddr, o_field, o_indexAddr, o_index, o_extract, o_lookup, o_mapUpdate, o_makeMap, o_mapEntry, o_entryStore, o_delete, o_len, o_append, o_min, o_max, o_tgt, bindS, many1, jnE, boolS, gdB, fst', snd', len_sl u66, b_neq]
  by_cases h : xs.length = ys.length
  · have e : ((xs.length : Int) = ys.length) := by omega
    simp only [e, decide_true, Bool.not_true, condF]
    try rw [← e]
    refine list_one xs (fun i (x : Value × Value × Value) (s' : SH) => s = s' ∧ x.1 = .bool false ∧ x.2.2 = .int .i64 i ∧ xs.take i = ys.take i) ?_ ?_ ⟨rfl, rfl, rfl, rfl⟩ (by show xs.length < 2 ^ 64; omega)
    · rintro i hi ⟨x1, x2, x3⟩ s' ⟨rfl, h1, h2, h3⟩ nx hnx
      simp only at h1 h2
      subst h1 h2
      have hlt : (i : Int) < xs.length := by omega
      have hi' : i < ys.length := by omega
      have hw : IntKind.i64.wrap ((i : Int) + 1) = ((i + 1 : Nat) : Int) := by rw [wrap_i64 (by omega) (by omega)]; rfl
      simp only [f93_l0, o_bool, o_alloc, o_box, o_build, o_buildSlice, o_load, o_store, o_nilCheck, o_bop, o_uop, o_conv, o_slc, o_fieldAddr, o_field, o_indexAddr, o_index, o_extract, o_lookup, o_mapUpdate, o_makeMap, o_mapEntry, o_entryStore, o_delete, o_len, o_append, o_min, o_max, o_tgt, bindS, many1, jnE, boolS, gdB, fst', snd', len_sl u66, bop_lss, hlt, decide_true, condT, ixs66 pt_len hi, ixs66 pt_len hi', ld_pt, pt_neq, bop_add, hw]
      by_cases hq : xs[i] = ys[i]
      · simp only [hq, decide_true, Bool.not_true, condF]
        refine hnx (_, _) _ ⟨rfl, rfl, rfl, ?_⟩
        rw [List.take_succ_eq_append_getElem hi, List.take_succ_eq_append_getElem hi', h3, hq]
      · simp only [hq, decide_false, Bool.not_false, condT]
        have hne : xs ≠ ys := fun e => hq (by simp only [e])
        exact One.ret ⟨by rw [decide_eq_false hne], .refl s⟩
    · rintro ⟨x1, x2, x3⟩ s' ⟨rfl, h1, h2, h3⟩ nx
      simp only at h1 h2
      subst h1 h2
      have hnlt : ¬ ((xs.length : Int) < xs.length) := by omega
      have hxy : xs = ys := by rw [List.take_length, h, List.take_length] at h3; exact h3
      simp only [f93_l0, o_bool, o_alloc, o_box, o_build, o_buildSlice, o_load, o_store, o_nilCheck, o_bop, o_uop, o_conv, o_slc, o_fieldAddr, o_field, o_indexAddr, o_index, o_extract, o_lookup, o_mapUpdate, o_makeMap, o_mapEntry, o_entryStore, o_delete, o_len, o_append, o_min, o_max, o_tgt, bindS, many1, jnE, boolS, gdB, fst', snd', len_sl u66, bop_lss, hnlt, decide_false, condF, beq_yes, condT]
      exact One.ret ⟨by rw [decide_eq_true hxy], .refl s⟩
  · have e : ¬ ((xs.length : Int) = ys.length) := by omega
    have hne : xs ≠ ys := fun e => h (by rw [e])
    simp only [e, decide_false, Bool.not_false, condT]
    exact One.ret ⟨by rw [decide_eq_false hne], .refl s⟩
theorem c94 {n m m' : Nat} {s : SH} (xs ys : List Int) (hl : xs.length < 2 ^ 62) : callD Try.prog AR (n + 1) (.fn 94) [sl u6 m xs, sl u6 m' ys] s = some [(.bool (decide (xs = ys)), s)] := by
  refine cut_call (fn := Try.f94) rfl rfl (by kernel_rfl) (v := .bool (decide (xs = ys))) (fun _ h => by cases h) (.bool _) ?_
  show One (bodyD Try.prog false _ _ 94 Try.f94 _ s) _
  rw [f94_r]
  simp only [f94, o_bool, o_alloc, o_box, o_build, o_buildSlice, o_load, o_store, o_nilCheck, o_bop, o_uop, o_conv, o_slc, o_fieldAddr, o_field, o_indexAddr, o_index, o_extract, o_lookup, o_mapUpdate, o_makeMap, o_mapEntry, o_entryStore, o_delete, o_len, o_append, o_min, o_max, o_tgt, bindS, many1, jnE, boolS, gdB, fst', snd', len_sl u67, b_neq]
  by_cases h : xs.length = ys.length
  · have e : ((xs.length : Int) = ys.length) := by omega
    simp only [e, decide_true, Bool.not_true, condF]
    try rw [← e]
    refine list_one xs (fun i (x : Value × Value × Value) (s' : SH) => s = s' ∧ x.1 = .bool false ∧ x.2.2 = .int .i64 i ∧ xs.take i = ys.take i) ?_ ?_ ⟨rfl, rfl, rfl, rfl⟩ (by show xs.length < 2 ^ 64; omega)
    · rintro i hi ⟨x1, x2, x3⟩ s' ⟨rfl, h1, h2, h3⟩ nx hnx
      simp only at h1 h2
      subst h1 h2
      have hlt : (i : Int) < xs.length := by omega
      have hi' : i < ys.length := by omega
      have hw : IntKind.i64.wrap ((i : Int) + 1) = ((i + 1 : Nat) : Int) := by rw [wrap_i64 (by omega) (by omega)]; rfl
      simp only [f94_l0, o_bool, o_alloc, o_box, o_build, o_buildSlice, o_load, o_store, o_nilCheck, o_bop, o_uop, o_conv, o_slc, o_fieldAddr, o_field, o_indexAddr, o_index, o_extract, o_lookup, o_mapUpdate, o_makeMap, o_mapEntry, o_entryStore, o_delete, o_len, o_append, o_min, o_max, o_tgt, bindS, many1, jnE, boolS, gdB, fst', snd', len_sl u67, bop_lss, hlt, decide_true, condT, ixs67 u6_len hi, ixs67 u6_len hi', ld_u6, b_neq, bop_add, hw]
      by_cases hq : xs[i] = ys[i]
      · simp only [hq, decide_true, Bool.not_true, condF]
        refine hnx (_, _) _ ⟨rfl, rfl, rfl, ?_⟩
        rw [List.take_succ_eq_append_getElem hi, List.take_succ_eq_append_getElem hi', h3, hq]
      · simp only [hq, decide_false, Bool.not_false, condT]
        have hne : xs ≠ ys := fun e => hq (by simp only [e])
        exact One.ret ⟨by rw [decide_eq_false hne], .refl s⟩
    · rintro ⟨x1, x2, x3⟩ s' ⟨rfl, h1, h2, h3⟩ nx
      simp only at h1 h2
      subst h1 h2
      have hnlt : ¬ ((xs.length : Int) < xs.length) := by omega
      have hxy : xs = ys := by rw [List.take_length, h, List.take_length] at h3; exact h3
      simp only [f94_l0, o_bool, o_alloc, o_box, o_build, o_buildSlice, o_load, o_store, o_nilCheck, o_bop, o_uop, o_conv, o_slc, o_fieldAddr, o_field, o_indexAddr, o_index, o_extract, o_lookup, o_mapUpdate, o_makeMap, o_mapEntry, o_entryStore, o_delete, o_len, o_append, o_min, o_max, o_tgt, bindS, many1, jnE, boolS, gdB, fst', snd', len_sl u67, bop_lss, hnlt, decide_false, condF, beq_yes, condT]
      exact One.ret ⟨by rw [decide_eq_true hxy], .refl s⟩
  · have e : ¬ ((xs.length : Int) = ys.length) := by omega
    have hne : xs ≠ ys := fun e => h (by rw [e])
    simp only [e, decide_false, Bool.not_false, condT]
    exact One.ret ⟨by rw [decide_eq_false hne], .refl s⟩
theorem c21 {n m m' : Nat} {s : SH} (xs ys : List Lab) (hl : xs.length < 2 ^ 62) : callD Try.prog AR (n + 1) (.fn 21) [sl lab m xs, sl lab m' ys] s = some [(.bool (decide (xs = ys)), s)] := by
  refine cut_call (fn := Try.f21) rfl rfl (by kernel_rfl) (v := .bool (decide (xs = ys))) (fun _ h => by cases h) (.bool _) ?_
  show One (bodyD Try.prog false _ _ 21 Try.f21 _ s) _
  rw [f21_r]
  simp only [f21, o_bool, o_alloc, o_box, o_build, o_buildSlice, o_load, o_store, o_nilCheck, o_bop, o_uop, o_conv, o_slc, o_fieldAddr, o_field, o_indexAddr, o_index, o_extract, o_lookup, o_mapUpdate, o_makeMap, o_mapEntry, o_entryStore, o_delete, o_len, o_append, o_min, o_max, o_tgt, bindS, many1, jnE, boolS, gdB, fst', snd', len_sl u23, b_neq]
  by_cases h : xs.length = ys.length
  · have e : ((xs.length : Int) = ys.length) := by omega
    simp only [e, decide_true, Bool.not_true, condF]
    try rw [← e]
    refine list_one xs (fun i (x : Value × Value) (s' : SH) => s = s' ∧ x.1 = .bool false ∧ x.2 = .int .i64 i ∧ xs.take i = ys.take i) ?_ ?_ ⟨rfl, rfl, rfl, rfl⟩ (by show xs.length < 2 ^ 64; omega)
    · rintro i hi ⟨x1, x2⟩ s' ⟨rfl, h1, h2, h3⟩ nx hnx
      simp only at h1 h2
      subst h1 h2
      have hlt : (i : Int) < xs.length := by omega
      have hi' : i < ys.length := by omega
      have hw : IntKind.i64.wrap ((i : Int) + 1) = ((i + 1 : Nat) : Int) := by rw [wrap_i64 (by omega) (by omega)]; rfl
      simp only [f21_l0, o_bool, o_alloc, o_box, o_build, o_buildSlice, o_load, o_store, o_nilCheck, o_bop, o_uop, o_conv, o_slc, o_fieldAddr, o_field, o_indexAddr, o_index, o_extract, o_lookup, o_mapUpdate, o_makeMap, o_mapEntry, o_entryStore, o_delete, o_len, o_append, o_min, o_max, o_tgt, bindS, many1, jnE, boolS, gdB, fst', snd', len_sl u23, bop_lss, hlt, decide_true, condT, ixs23 lab_len hi, ixs23 lab_len hi', ld_lab, lab_neq, bop_add, hw]
      by_cases hq : xs[i] = ys[i]
      · simp only [hq, decide_true, Bool.not_true, condF]
        refine hnx (_, _) _ ⟨rfl, rfl, rfl, ?_⟩
        rw [List.take_succ_eq_append_getElem hi, List.take_succ_eq_append_getElem hi', h3, hq]
      · simp only [hq, decide_false, Bool.not_false, condT]
        have hne : xs ≠ ys := fun e => hq (by simp only [e])
        exact One.ret ⟨by rw [decide_eq_false hne], .refl s⟩
    · rintro ⟨x1, x2⟩ s' ⟨rfl, h1, h2, h3⟩ nx
      simp only at h1 h2
      subst h1 h2
      have hnlt : ¬ ((xs.length : Int) < xs.length) := by omega
      have hxy : xs = ys := by rw [List.take_length, h, List.take_length] at h3; exact h3
      simp only [f21_l0, o_bool, o_alloc, o_box, o_build, o_buildSlice, o_load, o_store, o_nilCheck, o_bop, o_uop, o_conv, o_slc, o_fieldAddr, o_field, o_indexAddr, o_index, o_extract, o_lookup, o_mapUpdate, o_makeMap, o_mapEntry, o_entryStore, o_delete, o_len, o_append, o_min, o_max, o_tgt, bindS, many1, jnE, boolS, gdB, fst', snd', len_sl u23, bop_lss, hnlt, decide_false, condF, beq_yes, condT]
      exact One.ret ⟨by rw [decide_eq_true hxy], .refl s⟩
  · have e : ¬ ((xs.length : Int) = ys.length) := by omega
    have hne : xs ≠ ys := fun e => h (by rw [e])
    simp only [e, decide_false, Bool.not_false, condT]
    exact One.ret ⟨by rw [decide_eq_false hne], .refl s⟩

/-- A series with its labels; the number in the middle tells what is known of the room behind them. -/
abbrev Nm := Int × Nat × List Lab
def nm (a : Nm) : List Value := [.int .u64 a.1, sl lab a.2.1 a.2.2]
theorem nm_len (a : Nm) : (nm a).length = 2 := rfl
/-- What counts. -/
def nk (a : Nm) : Int × List Lab := (a.1, a.2.2)
theorem bx_nm (s : SH) (a : Nm) : boxD s (.agg (nm a).toArray) = some (.pointer (some ⟨s.n, 0, none⟩), newD s (.row (nm a))) := box_at rfl rfl
theorem ldn_0 {s : SH} {id : Nat} {a : Nm} (h : HP.get s.h id = some (.row (nm a))) : loadD Try.prog s 70 (.pointer (some ⟨id, 0, none⟩)) = some (.int .u64 a.1) := by rw [load_row h, part_one a70]; rfl
theorem ldn_1 {s : SH} {id : Nat} {a : Nm} (h : HP.get s.h id = some (.row (nm a))) : loadD Try.prog s 23 (.pointer (some ⟨id, 1, none⟩)) = some (sl lab a.2.1 a.2.2) := by rw [load_row h, part_one a23]; rfl
theorem ldn {s : SH} {id : Nat} {a : Nm} (h : HP.get s.h id = some (.row (nm a))) : loadD Try.prog s 135 (.pointer (some ⟨id, 0, none⟩)) = some (.agg (nm a).toArray) := by rw [load_row h, part_agg a135 z135 (l := nm a) rfl rfl]
theorem ldf_nm {s : SH} (a : Nm) : loadD Try.prog s 135 (fpV (nm a).toArray 0) = some (.agg (nm a).toArray) := by rw [load_fp, part_agg a135 z135 (l := nm a) rfl rfl]
theorem ldf_nm0 {s : SH} (a : Nm) : loadD Try.prog s 70 (fpV (nm a).toArray 0) = some (.int .u64 a.1) := by rw [load_fp, part_one a70]; rfl
theorem ldf_nm1 {s : SH} (a : Nm) : loadD Try.prog s 23 (fpV (nm a).toArray 1) = some (sl lab a.2.1 a.2.2) := by rw [load_fp, part_one a23]; rfl
theorem c90 {n : Nat} {s : SH} (a b : Nm) (hl : a.2.2.length < 2 ^ 62) : callD Try.prog AR (n + 2) (.fn 90) [.agg (nm a).toArray, .agg (nm b).toArray] s = some [(.bool (decide (nk a = nk b)), s)] := by
  refine cut_call (fn := Try.f90) rfl rfl (by kernel_rfl) (v := .bool (decide (nk a = nk b))) (fun _ h => by cases h) (.bool _) ?_
  show One (bodyD Try.prog false _ _ 90 Try.f90 _ s) _
  rw [f90_r]
  have g1 : HP.get (newD (newD s (.row (nm a))) (.row (nm b))).h s.n = some (.row (nm a)) := by rw [get_old (by rw [newD_n]; omega), get_new rfl]
  have g2 : HP.get (newD (newD s (.row (nm a))) (.row (nm b))).h (s.n + 1) = some (.row (nm b)) := get_new (by rw [newD_n])
  have he : Ext s (newD (newD s (.row (nm a))) (.row (nm b))) := ((Ext.refl s).new _).new _
  simp only [f90, o_bool, o_alloc, o_box, o_build, o_buildSlice, o_load, o_store, o_nilCheck, o_bop, o_uop, o_conv, o_slc, o_fieldAddr, o_field, o_indexAddr, o_index, o_extract, o_lookup, o_mapUpdate, o_makeMap, o_mapEntry, o_entryStore, o_delete, o_len, o_append, o_min, o_max, o_tgt, bindS, many1, jnE, boolS, gdB, fst', snd', bx_nm, newD_n, fld135_0, fld135_1, ldn_0 g1, ldn_0 g2, ldn_1 g1, ldn_1 g2, bop_eql]
  have e : (nk a = nk b) ↔ a.1 = b.1 ∧ a.2.2 = b.2.2 := Prod.ext_iff
  by_cases h1 : a.1 = b.1
  · simp only [h1, decide_true, condT, c91 (n := n) a.2.2 b.2.2 hl, bindS, many1]
    refine One.ret ⟨?_, he⟩
    by_cases h2 : a.2.2 = b.2.2 <;> simp [e, h1, h2]
  · simp only [h1, decide_false, condF]
    exact One.ret ⟨by simp [e, h1], he⟩
theorem c92 {n m m' : Nat} {s : SH} (xs ys : List Nm) (hl : xs.length < 2 ^ 62) (hl2 : ∀ a ∈ xs, a.2.2.length < 2 ^ 62) : callD Try.prog AR (n + 3) (.fn 92) [sl nm m xs, sl nm m' ys, .func (.func 90) #[] #[]] s = some [(.bool (decide (xs.map nk = ys.map nk)), s)] := by
  refine cut_call (fn := Try.f92) rfl rfl (by kernel_rfl) (v := .bool (decide (xs.map nk = ys.map nk))) (fun _ h => by cases h) (.bool _) ?_
  show One (bodyD Try.prog false _ _ 92 Try.f92 _ s) _
  rw [f92_r]
  simp only [f92, o_bool, o_alloc, o_box, o_build, o_buildSlice, o_load, o_store, o_nilCheck, o_bop, o_uop, o_conv, o_slc, o_fieldAddr, o_field, o_indexAddr, o_index, o_extract, o_lookup, o_mapUpdate, o_makeMap, o_mapEntry, o_entryStore, o_delete, o_len, o_append, o_min, o_max, o_tgt, bindS, many1, jnE, boolS, gdB, fst', snd', len_sl u65, b_neq]
  by_cases h : xs.length = ys.length
  · have e : ((xs.length : Int) = ys.length) := by omega
    simp only [e, decide_true, Bool.not_true, condF]
    rw [← e]
    refine list_one xs (fun i (x : Value × Value × Value) (s' : SH) => Sm s.n s s' ∧ x.1 = .bool false ∧ x.2.2 = .int .i64 i ∧ (xs.take i).map nk = (ys.take i).map nk) ?_ ?_ ⟨.refl _ _, rfl, rfl, rfl⟩ (by show xs.length < 2 ^ 64; omega)
    · rintro i hi ⟨x1, x2, x3⟩ s' ⟨hsm, h1, h2, h3⟩ nx hnx
      simp only at h1 h2
      subst h1 h2
      have hlt : (i : Int) < xs.length := by omega
      have hi' : i < ys.length := by omega
      have hw : IntKind.i64.wrap ((i : Int) + 1) = ((i + 1 : Nat) : Int) := by rw [wrap_i64 (by omega) (by omega)]; rfl
      have al : ∀ s' : SH, allocD Try.prog s' 135 = some (.pointer (some ⟨s'.n, 0, none⟩), newD s' (.row (nm (0, 2, [])))) := fun s' => alloc_at zr135
      have st : ∀ (s' : SH) (a : Nm), storeD Try.prog (newD s' (.row (nm (0, 2, [])))) 135 (.pointer (some ⟨s'.n, 0, none⟩)) (.agg (nm a).toArray) = some (putD (newD s' (.row (nm (0, 2, [])))) s'.n (.row (nm a))) := fun s' a => store_row z135 (get_new rfl) rfl rfl rfl (by simp [nm])
      have q1 : HP.get (putD (newD s' (.row (nm (0, 2, [])))) s'.n (.row (nm xs[i]))).h s'.n = some (.row (nm xs[i])) := get_put_same _
      have qn : (putD (newD s' (.row (nm (0, 2, [])))) s'.n (.row (nm xs[i]))).n = s'.n + 1 := by rw [putD_n, newD_n]
      have hsm1 : Sm s.n s (putD (newD s' (.row (nm (0, 2, [])))) s'.n (.row (nm xs[i]))) := (hsm.new (by have := hsm.1; omega) _).put (by have := hsm.1; omega) _
      simp only [f92_l0, o_bool, o_alloc, o_box, o_build, o_buildSlice, o_load, o_store, o_nilCheck, o_bop, o_uop, o_conv, o_slc, o_fieldAddr, o_field, o_indexAddr, o_index, o_extract, o_lookup, o_mapUpdate, o_makeMap, o_mapEntry, o_entryStore, o_delete, o_len, o_append, o_min, o_max, o_tgt, bindS, many1, jnE, boolS, gdB, fst', snd', bop_lss, hlt, decide_true, condT, ixs65 nm_len hi, ixs65 nm_len hi', ldf_nm, al, st]
      generalize putD (newD s' (.row (nm (0, 2, [])))) s'.n (.row (nm xs[i])) = s1 at q1 qn hsm1
      have q2 : HP.get (putD (newD s1 (.row (nm (0, 2, [])))) s1.n (.row (nm ys[i]))).h s1.n = some (.row (nm ys[i])) := get_put_same _
      have q3 : HP.get (putD (newD s1 (.row (nm (0, 2, [])))) s1.n (.row (nm ys[i]))).h s'.n = some (.row (nm xs[i])) := by rw [get_put_other (by omega), get_old (by omega), q1]
      have hsm2 : Sm s.n s (putD (newD s1 (.row (nm (0, 2, [])))) s1.n (.row (nm ys[i]))) := (hsm1.new (by have := hsm1.1; omega) _).put (by have := hsm1.1; omega) _
      generalize putD (newD s1 (.row (nm (0, 2, [])))) s1.n (.row (nm ys[i])) = s2 at q2 q3 hsm2
      have tg : ∀ args, tgtD (.func (.func 90) #[] #[]) args = some (.fn 90, args) := fun args => by simp [tgtD]
      simp only [ldn q2, ldn q3, o_bool, o_alloc, o_box, o_build, o_buildSlice, o_load, o_store, o_nilCheck, o_bop, o_uop, o_conv, o_slc, o_fieldAddr, o_field, o_indexAddr, o_index, o_extract, o_lookup, o_mapUpdate, o_makeMap, o_mapEntry, o_entryStore, o_delete, o_len, o_append, o_min, o_max, o_tgt, bindS, many1, jnE, boolS, gdB, fst', snd', tg, c90 (n := n) (s := s2) xs[i] ys[i] (hl2 _ (List.getElem_mem hi)), uop_not]
      by_cases hq : nk xs[i] = nk ys[i]
      · simp only [hq, decide_true, Bool.not_true, condF, bop_add, bindS, hw]
        refine hnx (_, _, _) _ ⟨hsm2, rfl, rfl, ?_⟩
        rw [List.take_succ_eq_append_getElem hi, List.take_succ_eq_append_getElem hi', List.map_append, List.map_append, h3]
        simp [hq]
      · simp only [hq, decide_false, Bool.not_false, condT]
        have hne : xs.map nk ≠ ys.map nk := fun e => hq (by
          have := congrArg (fun l => l[i]?) e
          simpa [hi, hi'] using this)
        exact One.ret ⟨by rw [decide_eq_false hne], hsm2⟩
    · rintro ⟨x1, x2, x3⟩ s' ⟨hsm, h1, h2, h3⟩ nx
      simp only at h1 h2
      subst h1 h2
      have hnlt : ¬ ((xs.length : Int) < xs.length) := by omega
      have hxy : xs.map nk = ys.map nk := by rw [List.take_length, h, List.take_length] at h3; exact h3
      simp only [f92_l0, o_bool, o_alloc, o_box, o_build, o_buildSlice, o_load, o_store, o_nilCheck, o_bop, o_uop, o_conv, o_slc, o_fieldAddr, o_field, o_indexAddr, o_index, o_extract, o_lookup, o_mapUpdate, o_makeMap, o_mapEntry, o_entryStore, o_delete, o_len, o_append, o_min, o_max, o_tgt, bindS, many1, jnE, boolS, gdB, fst', snd', bop_lss, hnlt, decide_false, condF, beq_yes, condT]
      exact One.ret ⟨by rw [decide_eq_true hxy], hsm⟩
  · have e : ¬ ((xs.length : Int) = ys.length) := by omega
    have hne : xs.map nk ≠ ys.map nk := fun e => h (by simpa using congrArg List.length e)
    simp only [e, decide_false, Bool.not_false, condT]
    exact One.ret ⟨by rw [decide_eq_false hne], .refl s⟩
/-- A record. -/
structure RecD where
  kind : Int
  mN : Nat
  new : List Nm
  mP : Nat
  pts : List Pt
  mI : Nat
  ids : List Int
  rng : Rg
  n : Int
def enR (r : RecD) : List Value := [.int .i64 r.kind, sl nm r.mN r.new, sl pt r.mP r.pts, sl u6 r.mI r.ids, .int .i64 r.rng.1, .int .i64 r.rng.2, .int .u64 r.n]
/-- What counts of it. -/
def keyR (r : RecD) : Int × List (Int × List Lab) × List Pt × List Int × Rg × Int := (r.kind, r.new.map nk, r.pts, r.ids, r.rng, r.n)
def Small (r : RecD) : Prop := r.new.length < 2 ^ 62 ∧ (∀ a ∈ r.new, a.2.2.length < 2 ^ 62) ∧ r.pts.length < 2 ^ 62 ∧ r.ids.length < 2 ^ 62
theorem bx_r (s : SH) (r : RecD) : boxD s (.agg (enR r).toArray) = some (.pointer (some ⟨s.n, 0, none⟩), newD s (.row (enR r))) := box_at rfl rfl
section lds
variable {s : SH} {id : Nat} {r : RecD} (h : HP.get s.h id = some (.row (enR r)))
include h
theorem lr : loadD Try.prog s 72 (.pointer (some ⟨id, 0, none⟩)) = some (.agg (enR r).toArray) := by rw [load_row h, part_agg a72 z72 (l := enR r) rfl rfl]
theorem lr0 : loadD Try.prog s 3 (.pointer (some ⟨id, 0, none⟩)) = some (.int .i64 r.kind) := by rw [load_row h, part_one a3]; rfl
theorem lr1 : loadD Try.prog s 65 (.pointer (some ⟨id, 1, none⟩)) = some (sl nm r.mN r.new) := by rw [load_row h, part_one a65]; rfl
theorem lr2 : loadD Try.prog s 66 (.pointer (some ⟨id, 2, none⟩)) = some (sl pt r.mP r.pts) := by rw [load_row h, part_one a66]; rfl
theorem lr3 : loadD Try.prog s 67 (.pointer (some ⟨id, 3, none⟩)) = some (sl u6 r.mI r.ids) := by rw [load_row h, part_one a67]; rfl
theorem lr4 : loadD Try.prog s 69 (.pointer (some ⟨id, 4, none⟩)) = some (.agg (rg r.rng).toArray) := by rw [load_row h, part_agg a69 z69 (l := rg r.rng) rfl rfl]
theorem lr5 : loadD Try.prog s 70 (.pointer (some ⟨id, 6, none⟩)) = some (.int .u64 r.n) := by rw [load_row h, part_one a70]; rfl
end lds
def sameR (a b : RecD) : Bool := decide (a.kind = b.kind) && (decide (a.rng = b.rng) && (decide (a.n = b.n) && (decide (a.new.map nk = b.new.map nk) && (decide (a.pts = b.pts) && decide (a.ids = b.ids)))))
theorem key_eq (a b : RecD) : keyR a = keyR b ↔ a.kind = b.kind ∧ a.new.map nk = b.new.map nk ∧ a.pts = b.pts ∧ a.ids = b.ids ∧ a.rng = b.rng ∧ a.n = b.n := by
  unfold keyR; simp only [Prod.mk.injEq]
theorem c40 {n : Nat} {s : SH} (a b : RecD) (ha : Small a) : callD Try.prog AR (n + 4) (.fn 40) [.agg (enR a).toArray, .agg (enR b).toArray] s = some [(.bool (sameR a b), s)] := by
  refine cut_call (fn := Try.f40) rfl rfl (by kernel_rfl) (v := .bool (sameR a b)) (fun _ h => by cases h) (.bool _) ?_
  show One (bodyD Try.prog false _ _ 40 Try.f40 _ s) _
  rw [f40_r]
  have g1 : HP.get (newD (newD s (.row (enR a))) (.row (enR b))).h s.n = some (.row (enR a)) := by rw [get_old (by rw [newD_n]; omega), get_new rfl]
  have g2 : HP.get (newD (newD s (.row (enR a))) (.row (enR b))).h (s.n + 1) = some (.row (enR b)) := get_new (by rw [newD_n])
  have he : Ext s (newD (newD s (.row (enR a))) (.row (enR b))) := ((Ext.refl s).new _).new _
  simp only [f40, o_bool, o_alloc, o_box, o_build, o_buildSlice, o_load, o_store, o_nilCheck, o_bop, o_uop, o_conv, o_slc, o_fieldAddr, o_field, o_indexAddr, o_index, o_extract, o_lookup, o_mapUpdate, o_makeMap, o_mapEntry, o_entryStore, o_delete, o_len, o_append, o_min, o_max, o_tgt, bindS, many1, jnE, boolS, gdB, fst', snd', bx_r, newD_n, fld72_0, fld72_1, fld72_2, fld72_3, fld72_4, fld72_5, lr0 g1, lr0 g2, lr1 g1, lr1 g2, lr2 g1, lr2 g2, lr3 g1, lr3 g2, lr4 g1, lr4 g2, lr5 g1, lr5 g2, bop_eql, (rg_cmp _ _).1]
  unfold sameR
  by_cases h1 : a.kind = b.kind
  · by_cases h2 : a.rng = b.rng
    · by_cases h3 : a.n = b.n
      · simp only [h1, h2, h3, decide_true, condT, c92 (n := n) a.new b.new ha.1 ha.2.1, bindS, many1, gdB]
        by_cases h4 : a.new.map nk = b.new.map nk
        · simp only [h4, decide_true, condT, o_bool, o_alloc, o_box, o_build, o_buildSlice, o_load, o_store, o_nilCheck, o_bop, o_uop, o_conv, o_slc, o_fieldAddr, o_field, o_indexAddr, o_index, o_extract, o_lookup, o_mapUpdate, o_makeMap, o_mapEntry, o_entryStore, o_delete, o_len, o_append, o_min, o_max, o_tgt, bindS, many1, jnE, boolS, gdB, fst', snd', fld72_2, lr2 g1, lr2 g2, c93 (n := n + 2) a.pts b.pts ha.2.2.1, bindS, many1, gdB]
          by_cases h5 : a.pts = b.pts
          · simp only [h5, decide_true, condT, o_bool, o_alloc, o_box, o_build, o_buildSlice, o_load, o_store, o_nilCheck, o_bop, o_uop, o_conv, o_slc, o_fieldAddr, o_field, o_indexAddr, o_index, o_extract, o_lookup, o_mapUpdate, o_makeMap, o_mapEntry, o_entryStore, o_delete, o_len, o_append, o_min, o_max, o_tgt, bindS, many1, jnE, boolS, gdB, fst', snd', fld72_3, lr3 g1, lr3 g2, c94 (n := n + 2) a.ids b.ids ha.2.2.2, bindS, many1]
            exact One.ret ⟨by simp, he⟩
          · simp only [h5, decide_false, condF]
            exact One.ret ⟨by simp, he⟩
        · simp only [h4, decide_false, condF]
          exact One.ret ⟨by simp, he⟩
      · simp only [h1, h2, h3, decide_true, decide_false, condT, condF]
        exact One.ret ⟨by simp, he⟩
    · simp only [h1, h2, decide_true, decide_false, condT, condF]
      exact One.ret ⟨by simp, he⟩
  · simp only [h1, decide_false, condF]
    exact One.ret ⟨by simp, he⟩
end Go.Proofs.Ytmhmbmogodofeaa.S
