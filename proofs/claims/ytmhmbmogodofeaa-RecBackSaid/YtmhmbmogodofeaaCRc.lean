import Derived.Test.YtmhmbmogodofeaaCRb
set_option autoImplicit false
set_option linter.unusedVariables false
set_option linter.unusedSimpArgs false
set_option maxRecDepth 100000
namespace Go.Proofs.Ytmhmbmogodofeaa.S
open Go.FS Go.RowKit
attribute [local congr] bind_cg cond_cg gd_cg
def cutB (b : ByteArray) (n : Nat) : ByteArray := b.extract 0 (min b.size n)
def fewL (l : Lab) : Lab := (cutB l.1 70, cutB l.2 260)
def fewN (a : Int × List Lab) : Int × List Lab := (a.1, (a.2.take 18).map fewL)
def fewP (l : List Pt) : List Pt := if 4096 < l.length then l.take 4097 else l.take 60
def rz : RecD := ⟨0, 2, [], 2, [], 2, [], (0, 0), 0⟩
section sts
variable {s : SH} {id : Nat} {r : RecD} (h : HP.get s.h id = some (.row (enR r)))
include h
theorem sr (r' : RecD) : storeD Try.prog s 72 (.pointer (some ⟨id, 0, none⟩)) (.agg (enR r').toArray) = some (putD s id (.row (enR r'))) := store_row z72 h rfl rfl rfl (by simp [enR])
theorem sr1 (m : Nat) (xs : List Nm) : storeD Try.prog s 65 (.pointer (some ⟨id, 1, none⟩)) (sl nm m xs) = some (putD s id (.row (enR { r with mN := m, new := xs }))) := store_row (l := [sl nm m xs]) z65 h rfl rfl rfl (by simp [enR])
theorem sr2 (m : Nat) (xs : List Pt) : storeD Try.prog s 66 (.pointer (some ⟨id, 2, none⟩)) (sl pt m xs) = some (putD s id (.row (enR { r with mP := m, pts := xs }))) := store_row (l := [sl pt m xs]) z66 h rfl rfl rfl (by simp [enR])
theorem sr3 (m : Nat) (xs : List Int) : storeD Try.prog s 67 (.pointer (some ⟨id, 3, none⟩)) (sl u6 m xs) = some (putD s id (.row (enR { r with mI := m, ids := xs }))) := store_row (l := [sl u6 m xs]) z67 h rfl rfl rfl (by simp [enR])
end sts
theorem gapp65 {lo : Nat} {s : SH} {v : Value} {m2 : Nat} {xs ys : List Nm} (h : Grow lo 2 nm s v xs) (hlo : lo ≤ s.n) (hb : (xs.length + ys.length) * 32 ≤ 140737488355328) :
    ∃ v' s', appD Try.prog false s 65 65 v (sl nm m2 ys) = some (v', s') ∧ Grow lo 2 nm s' v' (xs ++ ys) ∧ Sm lo s s' ∧ (∀ j, j < s.n → HP.get s.h j ≠ some (.tok xs.length 2) → HP.get s'.h j = HP.get s.h j) :=
  h.app (i := Try.t135) hlo u65 u65 (by kernel_rfl) zr135 rfl (by kernel_rfl) (by kernel_rfl) (by decide) nm_len hb (by omega)
theorem bs23_0 (s : SH) : buildSliceD Try.prog false s 23 0 [] = some (sl lab 1 [], s) := by kernel_rfl
theorem bs66_0 (s : SH) : buildSliceD Try.prog false s 66 0 [] = some (sl pt 1 [], s) := by kernel_rfl
theorem bs65 (s : SH) (y : Nm) : buildSliceD Try.prog false s 65 1 [(0, .agg (nm y).toArray)] = some (sl nm 1 [y], s) := by kernel_rfl
theorem bld135 (i : Int) (m : Nat) (xs : List Lab) : buildD Try.prog 135 [(0, .int .u64 i), (1, sl lab m xs)] = some (.agg (nm (i, m, xs)).toArray) := by kernel_rfl
theorem min70 (n : Nat) : minD Try.prog (.int .i64 (n : Int)) [.int .i64 70] = some (.int .i64 ((min n 70 : Nat) : Int)) := min_nat .i64 n 70
theorem min260 (n : Nat) : minD Try.prog (.int .i64 (n : Int)) [.int .i64 260] = some (.int .i64 ((min n 260 : Nat) : Int)) := min_nat .i64 n 260
theorem min60 (n : Nat) : minD Try.prog (.int .i64 (n : Int)) [.int .i64 60] = some (.int .i64 ((min n 60 : Nat) : Int)) := min_nat .i64 n 60
/-- The labels of one series. -/
theorem few_in {C : OracleJ HP} {i p1 : Nat} {r : RecD} {s : SH} (hp : p1 < s.n) (hr : HP.get s.h p1 = some (.row (enR r))) (hi : i < r.new.length) {kx : Nat → Value × Value → SH → Option (List (Value × SH))} {kr : Value × Value → SH → Option (List (Value × SH))} {Q : Value → SH → Prop} {N : Nat} (hN : 20 < N)
    (h : ∀ v k s', Sm s.n s s' → Grow s.n 2 lab s' v (fewN (nk r.new[i])).2 → One (kx 2 (v, k) s') Q) :
    One (iterS (f39_l1 (dOps Try.prog) C N (.pointer (some ⟨p1, 0, none⟩)) (.int .i64 (i : Int))) kx kr N (sl lab 1 [], .int .i64 0) s) Q := by
  have hlt18 : (r.new[i].2.2.take 18).length ≤ 18 := by rw [List.length_take]; omega
  refine list_one (r.new[i].2.2.take 18) (fun k (x : Value × Value) (s' : SH) => Sm s.n s s' ∧ x.2 = .int .i64 k ∧ Grow s.n 2 lab s' x.1 ((r.new[i].2.2.take k).map fewL)) ?_ ?_ ⟨.refl _ _, rfl, .inl ⟨rfl, .inr rfl⟩⟩ (by omega)
  · rintro k hk ⟨x1, x2⟩ s' ⟨hsm, h2, hg⟩ nx hnx
    simp only at h2 hg
    subst h2
    rw [List.length_take] at hk
    have hk1 : k < r.new[i].2.2.length := by omega
    have hlt : (k : Int) < r.new[i].2.2.length := by omega
    have hlt2 : (k : Int) < 18 := by omega
    have hw : IntKind.i64.wrap ((k : Int) + 1) = ((k + 1 : Nat) : Int) := by rw [wrap_i64 (by omega) (by omega)]; rfl
    have hr' : HP.get s'.h p1 = some (.row (enR r)) := by rw [hsm.2 _ hp, hr]
    have hts : (r.new[i].2.2.take (k + 1)).map fewL = (r.new[i].2.2.take k).map fewL ++ [fewL r.new[i].2.2[k]] := by rw [List.take_succ_eq_append_getElem hk1, List.map_append]; rfl
    have hln : ((r.new[i].2.2.take k).map fewL).length = k := by rw [List.length_map, List.length_take]; omega
    have hal : allocD Try.prog s' 106 = some (.pointer (some ⟨s'.n, 0, none⟩), newD s' (.row (lab (⟨#[]⟩, ⟨#[]⟩)))) := alloc_at zr106
    have hst : storeD Try.prog (newD s' (.row (lab (⟨#[]⟩, ⟨#[]⟩)))) 106 (.pointer (some ⟨s'.n, 0, none⟩)) (.agg (lab r.new[i].2.2[k]).toArray) = some (putD (newD s' (.row (lab (⟨#[]⟩, ⟨#[]⟩)))) s'.n (.row (lab r.new[i].2.2[k]))) := store_row z106 (get_new rfl) rfl rfl rfl (by simp [lab])
    have ha : HP.get (putD (newD s' (.row (lab (⟨#[]⟩, ⟨#[]⟩)))) s'.n (.row (lab r.new[i].2.2[k]))).h s'.n = some (.row (lab r.new[i].2.2[k])) := get_put_same _
    have hsm2 : Sm s.n s (putD (newD s' (.row (lab (⟨#[]⟩, ⟨#[]⟩)))) s'.n (.row (lab r.new[i].2.2[k]))) := (hsm.new (by have := hsm.1; omega) _).put (by have := hsm.1; omega) _
    have hg2 : Grow s.n 2 lab (putD (newD s' (.row (lab (⟨#[]⟩, ⟨#[]⟩)))) s'.n (.row (lab r.new[i].2.2[k]))) x1 ((r.new[i].2.2.take k).map fewL) := (hg.new _).put _ (by rw [get_new rfl]; intro h; cases h)
    simp only [f39_l1, o_bool, o_alloc, o_box, o_build, o_buildSlice, o_load, o_store, o_nilCheck, o_bop, o_uop, o_conv, o_slc, o_fieldAddr, o_field, o_indexAddr, o_index, o_extract, o_lookup, o_mapUpdate, o_makeMap, o_mapEntry, o_entryStore, o_delete, o_len, o_append, o_min, o_max, o_tgt, bindS, many1, jnE, boolS, gdB, fst', snd', fld72_1, lr1 hr', ixs65 nm_len hi, flf135_1, ldf_nm1, len_sl u23, bop_lss, hlt, hlt2, decide_true, condT, ixs23 lab_len hk1, ld_lab, hal, hst]
    generalize putD (newD s' (.row (lab (⟨#[]⟩, ⟨#[]⟩)))) s'.n (.row (lab r.new[i].2.2[k])) = s2 at ha hsm2 hg2
    obtain ⟨v', s3, e1, w1, w2, w3⟩ := gapp23 (m2 := 1) (ys := [fewL r.new[i].2.2[k]]) hg2 (by have := hsm2.1; omega) (by rw [hln]; simp only [List.length_singleton]; omega)
    have e1 : appD Try.prog false s2 23 23 x1 (sl lab 1 [(ByteArray.extract r.new[i].2.2[k].1 0 (min r.new[i].2.2[k].1.size 70), ByteArray.extract r.new[i].2.2[k].2 0 (min r.new[i].2.2[k].2.size 260))]) = some (v', s3) := e1
    simp only [fld106_0, fld106_1, lds0 ha, lds1 ha, o_bool, o_alloc, o_box, o_build, o_buildSlice, o_load, o_store, o_nilCheck, o_bop, o_uop, o_conv, o_slc, o_fieldAddr, o_field, o_indexAddr, o_index, o_extract, o_lookup, o_mapUpdate, o_makeMap, o_mapEntry, o_entryStore, o_delete, o_len, o_append, o_min, o_max, o_tgt, bindS, many1, jnE, boolS, gdB, fst', snd', len_str u9, min70, min260, slc_str u9 _ (Nat.min_le_left _ 70), slc_str u9 _ (Nat.min_le_left _ 260), bld106, bs23, e1, bop_add, hw]
    refine hnx (_, _) _ ⟨hsm2.trans w2, rfl, ?_⟩
    rw [hts]; exact w1
  · rintro ⟨x1, x2⟩ s' ⟨hsm, h2, hg⟩ nx
    simp only at h2 hg
    subst h2
    have hr' : HP.get s'.h p1 = some (.row (enR r)) := by rw [hsm.2 _ hp, hr]
    rw [List.length_take] at hg ⊢
    have hgo : Grow s.n 2 lab s' x1 (fewN (nk r.new[i])).2 := by
      have : (fewN (nk r.new[i])).2 = (r.new[i].2.2.take (min 18 r.new[i].2.2.length)).map fewL := by
        show (r.new[i].2.2.take 18).map fewL = _
        congr 1
        by_cases h : 18 ≤ r.new[i].2.2.length
        · rw [Nat.min_eq_left h]
        · rw [Nat.min_eq_right (by omega), List.take_length, List.take_of_length_le (by omega)]
      rw [this]; exact hg
    by_cases c : ((min 18 r.new[i].2.2.length : Nat) : Int) < r.new[i].2.2.length
    · have c2 : ¬ (((min 18 r.new[i].2.2.length : Nat) : Int) < 18) := by omega
      simp only [f39_l1, o_bool, o_alloc, o_box, o_build, o_buildSlice, o_load, o_store, o_nilCheck, o_bop, o_uop, o_conv, o_slc, o_fieldAddr, o_field, o_indexAddr, o_index, o_extract, o_lookup, o_mapUpdate, o_makeMap, o_mapEntry, o_entryStore, o_delete, o_len, o_append, o_min, o_max, o_tgt, bindS, many1, jnE, boolS, gdB, fst', snd', fld72_1, lr1 hr', ixs65 nm_len hi, flf135_1, ldf_nm1, len_sl u23, bop_lss, c, c2, decide_true, decide_false, condT, condF]
      exact h _ _ _ hsm hgo
    · simp only [f39_l1, o_bool, o_alloc, o_box, o_build, o_buildSlice, o_load, o_store, o_nilCheck, o_bop, o_uop, o_conv, o_slc, o_fieldAddr, o_field, o_indexAddr, o_index, o_extract, o_lookup, o_mapUpdate, o_makeMap, o_mapEntry, o_entryStore, o_delete, o_len, o_append, o_min, o_max, o_tgt, bindS, many1, jnE, boolS, gdB, fst', snd', fld72_1, lr1 hr', ixs65 nm_len hi, flf135_1, ldf_nm1, len_sl u23, bop_lss, c, decide_false, condF]
      exact h _ _ _ hsm hgo
end Go.Proofs.Ytmhmbmogodofeaa.S
