import Derived.Test.YtmhmbmogodofeaaDoorMG
import Derived.Test.YtmhmbmogodofeaaDoorTD
import Derived.Test.YtmhmbmogodofeaaDoorWD
import Derived.Test.YtmhmbmogodofeaaDoorFw
set_option autoImplicit false
set_option linter.unusedVariables false
set_option linter.unusedSimpArgs false
set_option maxRecDepth 100000
namespace Go.Proofs.YtmhmbmogodofeaaDoor.S
open Go.FS Go.RowKit
attribute [local congr] bind_cg cond_cg gd_cg
noncomputable abbrev HP : HeapI := FG tabs
noncomputable def IB : Intr HP := fun f => bif Nat.beq f 13 then some yes else none
def cutB' (f : Nat) : Option (List (Option Nat)) := match f with
  | 56 => some [none]
  | _ => none
noncomputable def AB : Ann HP := { i := IB, N := 2 ^ 64, row := fun _ => false, cut := cutB' }
abbrev SH := St HP
theorem Grow.weak {α : Type} {lo lo' z : Nat} {enc : α → List Value} {s : SH} {v : Value} {xs : List α} (h : Grow lo' z enc s v xs) (hl : lo ≤ lo') : Grow lo z enc s v xs := by
  rcases h with h | ⟨id, h1, h2⟩
  · exact .inl h
  · exact .inr ⟨id, Nat.le_trans hl h1, h2⟩
theorem Grow.form {α : Type} {lo z : Nat} {enc : α → List Value} {s : SH} {v : Value} {xs : List α} (h : Grow lo z enc s v xs) : ∃ m, v = sl enc m xs := by
  rcases h with ⟨rfl, rfl | rfl⟩ | ⟨id, _, _, rfl, _⟩
  · exact ⟨2, rfl⟩
  · exact ⟨1, rfl⟩
  · exact ⟨id + 3, rfl⟩
theorem Sm.weak {lo lo' : Nat} {a b : SH} (h : Sm lo' a b) (hl : lo ≤ lo') : Sm lo a b := ⟨h.1, fun j hj => h.2 j (Nat.lt_of_lt_of_le hj hl)⟩
theorem eqO_s (v : Value) : eqO HP (some v) v = true := by simp [eqO, FG]
theorem c13 {n : Nat} {s : SH} : callD Tryd.prog AB (n + 1) (.fn 13) [] s = some [(.bool true, s)] := by
  rw [call_i (i := yes) rfl]; rfl
def sp (a : Spl) : List Value := [.int .i64 a.1, .int .u64 a.2]
theorem sp_len (a : Spl) : (sp a).length = 2 := rfl
def i6 (a : Int) : List Value := [.int .i64 a]
theorem i6_len (a : Int) : (i6 a).length = 1 := rfl
def u6 (a : Int) : List Value := [.int .u64 a]
theorem u6_len (a : Int) : (u6 a).length = 1 := rfl
theorem ld_i6 {s : SH} (a : Int) : loadD Tryd.prog s 3 (fpV (i6 a).toArray 0) = some (.int .i64 a) := by rw [load_fp, part_one a3]; rfl
theorem ld_u6 {s : SH} (a : Int) : loadD Tryd.prog s 38 (fpV (u6 a).toArray 0) = some (.int .u64 a) := by rw [load_fp, part_one a38]; rfl
theorem ld_sp {s : SH} (a : Spl) : loadD Tryd.prog s 40 (fpV (sp a).toArray 0) = some (.agg (sp a).toArray) := by rw [load_fp, part_agg a40 z40 (l := sp a) rfl rfl]
theorem ldf_s0 {s : SH} (a : Spl) : loadD Tryd.prog s 3 (fpV (sp a).toArray 0) = some (.int .i64 a.1) := by rw [load_fp, part_one a3]; rfl
theorem lds0 {s : SH} {id : Nat} {a : Spl} (h : HP.get s.h id = some (.row (sp a))) : loadD Tryd.prog s 3 (.pointer (some ⟨id, 0, none⟩)) = some (.int .i64 a.1) := by rw [load_row h, part_one a3]; rfl
theorem ldsp {s : SH} {id : Nat} {a : Spl} (h : HP.get s.h id = some (.row (sp a))) : loadD Tryd.prog s 40 (.pointer (some ⟨id, 0, none⟩)) = some (.agg (sp a).toArray) := by rw [load_row h, part_agg a40 z40 (l := sp a) rfl rfl]
theorem bld40 (a b : Int) : buildD Tryd.prog 40 [(0, .int .i64 a), (1, .int .u64 b)] = some (.agg (sp (a, b)).toArray) := by kernel_rfl
def rg (a : Spl) : List Value := [.int .i64 a.1, .int .i64 a.2]
theorem bld58 (a b : Int) : buildD Tryd.prog 58 [(0, .int .i64 a), (1, .int .i64 b)] = some (.agg (rg (a, b)).toArray) := by kernel_rfl
theorem bs24 (s : SH) (y : Spl) : buildSliceD Tryd.prog false s 24 1 [(0, .agg (sp y).toArray)] = some (sl sp 1 [y], s) := by kernel_rfl
theorem bs24_0 (s : SH) : buildSliceD Tryd.prog false s 24 0 [] = some (sl sp 1 [], s) := by kernel_rfl
theorem gapp24 {lo : Nat} {s : SH} {v : Value} {m2 : Nat} {xs ys : List Spl} (h : Grow lo 2 sp s v xs) (hlo : lo ≤ s.n) (hb : (xs.length + ys.length) * 16 ≤ 140737488355328) :
    ∃ v' s', appD Tryd.prog false s 24 24 v (sl sp m2 ys) = some (v', s') ∧ Grow lo 2 sp s' v' (xs ++ ys) ∧ Sm lo s s' ∧ (∀ j, j < s.n → HP.get s.h j ≠ some (.tok xs.length 2) → HP.get s'.h j = HP.get s.h j) :=
  h.app (i := Tryd.t40) hlo u24 u24 (by kernel_rfl) zr40 rfl (by kernel_rfl) (by kernel_rfl) (by decide) sp_len hb (by omega)
theorem ib (x y : Int) : (x == y) = decide (x = y) := by by_cases h : x = y <;> simp [h]
theorem sp_neq (a b : Spl) : bopD Tryd.prog .neq 40 (.agg (sp a).toArray) (.agg (sp b).toArray) = some (.bool (!decide (a = b))) := by
  refine (bop_agg (P := Tryd.prog) (d := 4) (t := 40) (a := (sp a).toArray) (b := (sp b).toArray) (r := decide (a = b)) (by decide) (by kernel_rfl) rfl rfl ?_).2
  have : eqS Tryd.prog 4 40 (.agg #[.int .i64 a.1, .int .u64 a.2]) (.agg #[.int .i64 b.1, .int .u64 b.2]) = cond (a.1 == b.1) (cond (a.2 == b.2) (some true) (some false)) (some false) := by kernel_rfl
  refine Eq.trans this ?_
  rw [ib, ib]
  have e : (a = b) ↔ a.1 = b.1 ∧ a.2 = b.2 := Prod.ext_iff
  by_cases h1 : a.1 = b.1 <;> by_cases h2 : a.2 = b.2 <;> simp [e, h1, h2]
theorem c11 {n m m' : Nat} {s : SH} (xs : List Spl) (hl : xs.length < 2 ^ 62) : callD Tryd.prog AB (n + 1) (.fn 11) [sl sp m xs, sl sp m' xs] s = some [(.bool true, s)] := by
  rw [call_fn (fn := Tryd.f11) rfl rfl (by kernel_rfl)]
  suffices h : One (bodyD Tryd.prog false (callD Tryd.prog AB n) AB.N 11 Tryd.f11 [sl sp m xs, sl sp m' xs] s) fun v s' => v = .bool true ∧ s' = s by
    obtain ⟨v, s', e, rfl, rfl⟩ := h
    exact e
  rw [f11_r]
  simp only [f11, o_bool, o_alloc, o_box, o_build, o_buildSlice, o_load, o_store, o_nilCheck, o_bop, o_uop, o_conv, o_slc, o_fieldAddr, o_field, o_indexAddr, o_index, o_extract, o_lookup, o_mapUpdate, o_makeSlice, o_makeMap, o_mapEntry, o_entryStore, o_delete, o_len, o_append, o_min, o_max, o_tgt, bindS, many1, jnE, boolS, gdB, fst', snd', len_sl u24, b_neq, decide_true, Bool.not_true, condF]
  refine list_one xs (fun i (x : Value × Value) (s' : SH) => s' = s ∧ x.2 = .int .i64 i) ?_ ?_ ⟨rfl, rfl⟩ (by show xs.length < 2 ^ 64; omega)
  · rintro i hi ⟨x1, x2⟩ s' ⟨rfl, h2⟩ nx hnx
    simp only at h2
    subst h2
    have hlt : (i : Int) < xs.length := by omega
    have hw : IntKind.i64.wrap ((i : Int) + 1) = ((i + 1 : Nat) : Int) := by rw [wrap_i64 (by omega) (by omega)]; rfl
    simp only [f11_l0, o_bool, o_alloc, o_box, o_build, o_buildSlice, o_load, o_store, o_nilCheck, o_bop, o_uop, o_conv, o_slc, o_fieldAddr, o_field, o_indexAddr, o_index, o_extract, o_lookup, o_mapUpdate, o_makeSlice, o_makeMap, o_mapEntry, o_entryStore, o_delete, o_len, o_append, o_min, o_max, o_tgt, bindS, many1, jnE, boolS, gdB, fst', snd', len_sl u24, bop_lss, hlt, decide_true, condT, ixs24 sp_len hi, ld_sp, sp_neq, Bool.not_true, condF, bop_add, hw]
    exact hnx (_, _) _ ⟨rfl, rfl⟩
  · rintro ⟨x1, x2⟩ s' ⟨rfl, h2⟩ nx
    simp only at h2
    subst h2
    have hnlt : ¬ ((xs.length : Int) < xs.length) := by omega
    simp only [f11_l0, o_bool, o_alloc, o_box, o_build, o_buildSlice, o_load, o_store, o_nilCheck, o_bop, o_uop, o_conv, o_slc, o_fieldAddr, o_field, o_indexAddr, o_index, o_extract, o_lookup, o_mapUpdate, o_makeSlice, o_makeMap, o_mapEntry, o_entryStore, o_delete, o_len, o_append, o_min, o_max, o_tgt, bindS, many1, jnE, boolS, gdB, fst', snd', len_sl u24, bop_lss, hnlt, decide_false, condF, beq_yes, condT]
    exact One.ret ⟨rfl, rfl⟩
theorem c104 {n : Nat} {s : SH} (a : Int) : callD Tryd.prog AB (n + 1) (.fn 104) [.int .i64 a] s = some [(.bool false, s)] := by
  rw [call_fn (fn := Tryd.f104) rfl rfl (by kernel_rfl)]
  show bodyD Tryd.prog false _ _ 104 Tryd.f104 _ s = _
  rw [f104_r]
  simp only [f104, o_bool, o_alloc, o_box, o_build, o_buildSlice, o_load, o_store, o_nilCheck, o_bop, o_uop, o_conv, o_slc, o_fieldAddr, o_field, o_indexAddr, o_index, o_extract, o_lookup, o_mapUpdate, o_makeSlice, o_makeMap, o_mapEntry, o_entryStore, o_delete, o_len, o_append, o_min, o_max, o_tgt, bindS, many1, jnE, boolS, gdB, fst', snd', b_neq, decide_true, Bool.not_true]
def cmpN (a b : Int) : Int := if a < b then -1 else if b < a then 1 else 0
theorem c91 {n : Nat} {s : SH} (a b : Int) : callD Tryd.prog AB (n + 2) (.fn 91) [.int .i64 a, .int .i64 b] s = some [(.int .i64 (cmpN a b), s)] := by
  rw [call_fn (fn := Tryd.f91) rfl rfl (by kernel_rfl)]
  show bodyD Tryd.prog false _ _ 91 Tryd.f91 _ s = _
  rw [f91_r]
  simp only [f91, o_bool, o_alloc, o_box, o_build, o_buildSlice, o_load, o_store, o_nilCheck, o_bop, o_uop, o_conv, o_slc, o_fieldAddr, o_field, o_indexAddr, o_index, o_extract, o_lookup, o_mapUpdate, o_makeSlice, o_makeMap, o_mapEntry, o_entryStore, o_delete, o_len, o_append, o_min, o_max, o_tgt, bindS, many1, jnE, boolS, gdB, fst', snd', c104 (n := n), condF, bop_lss, bop_gtr]
  unfold cmpN
  by_cases h1 : a < b
  · simp only [h1, decide_true, condT, if_true]
  · by_cases h2 : b < a
    · have h2' : a > b := h2
      simp only [h1, h2, h2', decide_false, decide_true, condT, condF, if_true, if_false]
    · have h2' : ¬ a > b := h2
      simp only [h1, h2, h2', decide_false, condF, if_false]
theorem bx40 (s : SH) (a : Spl) : boxD s (.agg (sp a).toArray) = some (.pointer (some ⟨s.n, 0, none⟩), newD s (.row (sp a))) := box_at (l := sp a) rfl rfl
theorem c56 {n : Nat} {s : SH} (a : Spl) : callD Tryd.prog AB (n + 1) (.fn 56) [.agg (sp a).toArray] s = some [(.int .i64 a.1, s)] := by
  refine cut_call (fn := Tryd.f56) rfl rfl (by kernel_rfl) (v := .int .i64 a.1) (fun _ h => by cases h) (.int _ _) ?_
  show One (bodyD Tryd.prog false _ _ 56 Tryd.f56 _ s) _
  rw [f56_r]
  have g : HP.get (newD s (.row (sp a))).h s.n = some (.row (sp a)) := get_new rfl
  simp only [f56, o_bool, o_alloc, o_box, o_build, o_buildSlice, o_load, o_store, o_nilCheck, o_bop, o_uop, o_conv, o_slc, o_fieldAddr, o_field, o_indexAddr, o_index, o_extract, o_lookup, o_mapUpdate, o_makeSlice, o_makeMap, o_mapEntry, o_entryStore, o_delete, o_len, o_append, o_min, o_max, o_tgt, bindS, many1, jnE, boolS, gdB, fst', snd', bx40, fld40_0, lds0 g]
  exact One.ret ⟨rfl, (Ext.refl s).new _⟩
theorem c25 {n : Nat} {s : SH} (a : Int) (L : Nat) (h0 : 1 ≤ L) (h1 : L < 2 ^ 46) : ∃ j : Nat, j < L ∧ callD Tryd.prog AB (n + 1) (.fn 25) [.int .i64 a, .int .i64 (L : Int)] s = some [(.int .i64 (j : Int), s)] := by
  have ha : IntKind.u64.wrap a = a % 18446744073709551616 := by rw [wrap_us rfl]; rfl
  have hl : IntKind.u64.wrap (L : Int) = (L : Int) := wrap_u64 (by omega) (by omega)
  have hm0 : 0 ≤ a % 18446744073709551616 := by omega
  have ht : (a % 18446744073709551616).tmod (L : Int) = (a % 18446744073709551616) % (L : Int) := Int.tmod_eq_emod_of_nonneg hm0
  have b1 : 0 ≤ (a % 18446744073709551616) % (L : Int) := Int.emod_nonneg _ (by omega)
  have b2 : (a % 18446744073709551616) % (L : Int) < (L : Int) := Int.emod_lt_of_pos _ (by omega)
  refine ⟨((a % 18446744073709551616) % (L : Int)).toNat, by omega, ?_⟩
  have hj : ((((a % 18446744073709551616) % (L : Int)).toNat : Nat) : Int) = (a % 18446744073709551616) % (L : Int) := Int.toNat_of_nonneg b1
  rw [call_fn (fn := Tryd.f25) rfl rfl (by kernel_rfl)]
  show bodyD Tryd.prog false _ _ 25 Tryd.f25 _ s = _
  rw [f25_r]
  have hng : ¬ ((L : Int) < 1) := by omega
  have hw : IntKind.i64.wrap ((a % 18446744073709551616) % (L : Int)) = (a % 18446744073709551616) % (L : Int) := wrap_i64 (by omega) (by omega)
  simp only [f25, o_bool, o_alloc, o_box, o_build, o_buildSlice, o_load, o_store, o_nilCheck, o_bop, o_uop, o_conv, o_slc, o_fieldAddr, o_field, o_indexAddr, o_index, o_extract, o_lookup, o_mapUpdate, o_makeSlice, o_makeMap, o_mapEntry, o_entryStore, o_delete, o_len, o_append, o_min, o_max, o_tgt, bindS, many1, jnE, boolS, gdB, fst', snd', bop_lss, hng, decide_false, condF, conv_int u3 u38, conv_int u38 u3, ha, hl, b_rem 38 .u64 _ (L : Int) (show (L : Int) ≠ 0 by omega), ht, hw, hj]
end Go.Proofs.YtmhmbmogodofeaaDoor.S
