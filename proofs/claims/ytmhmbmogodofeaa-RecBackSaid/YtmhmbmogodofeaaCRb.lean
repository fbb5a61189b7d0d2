import Derived.Test.YtmhmbmogodofeaaCRa
set_option autoImplicit false
set_option linter.unusedVariables false
set_option linter.unusedSimpArgs false
set_option maxRecDepth 100000
namespace Go.Proofs.Ytmhmbmogodofeaa.S
open Go.FS Go.RowKit
attribute [local congr] bind_cg cond_cg gd_cg
theorem map_ne {α β : Type} {f : α → β} {xs ys : List α} {i : Nat} (hi : i < xs.length) (hi' : i < ys.length) (h : f xs[i] ≠ f ys[i]) : xs.map f ≠ ys.map f := fun e => h (by
  have := congrArg (fun l => l[i]?) e
  simpa [hi, hi'] using this)
theorem map_step {α β : Type} {f : α → β} {xs ys : List α} {i : Nat} (hi : i < xs.length) (hi' : i < ys.length) (h : f xs[i] = f ys[i]) (h3 : (xs.take i).map f = (ys.take i).map f) : (xs.take (i + 1)).map f = (ys.take (i + 1)).map f := by
  rw [List.take_succ_eq_append_getElem hi, List.take_succ_eq_append_getElem hi', List.map_append, List.map_append, h3]
  simp [h]
theorem c41 {n : Nat} {s : SH} (a b : RecD) (ha : Small a) : callD Try.prog AB (n + 2) (.fn 41) [.agg (enR a).toArray, .agg (enR b).toArray] s = some [(.bool (sameR a b), s)] := by
  refine cut_call (fn := Try.f41) rfl rfl (by kernel_rfl) (v := .bool (sameR a b)) (fun _ h => by cases h) (.bool _) ?_
  show One (bodyD Try.prog false _ _ 41 Try.f41 _ s) _
  rw [f41_r]
  have g1 : HP.get (newD (newD s (.row (enR a))) (.row (enR b))).h s.n = some (.row (enR a)) := by rw [get_old (by rw [newD_n]; omega), get_new rfl]
  have g2 : HP.get (newD (newD s (.row (enR a))) (.row (enR b))).h (s.n + 1) = some (.row (enR b)) := get_new (by rw [newD_n])
  have he : Ext s (newD (newD s (.row (enR a))) (.row (enR b))) := ((Ext.refl s).new _).new _
  simp only [f41, o_bool, o_alloc, o_box, o_build, o_buildSlice, o_load, o_store, o_nilCheck, o_bop, o_uop, o_conv, o_slc, o_fieldAddr, o_field, o_indexAddr, o_index, o_extract, o_lookup, o_mapUpdate, o_makeMap, o_mapEntry, o_entryStore, o_delete, o_len, o_append, o_min, o_max, o_tgt, bindS, many1, jnE, boolS, gdB, fst', snd', bx_r, newD_n, fld72_0, fld72_1, fld72_2, fld72_3, fld72_4, fld72_5, lr0 g1, lr0 g2, lr1 g1, lr1 g2, lr2 g1, lr2 g2, lr3 g1, lr3 g2, lr4 g1, lr4 g2, lr5 g1, lr5 g2, b_neq, (rg_cmp _ _).2, len_sl u65, len_sl u66, len_sl u67]
  generalize newD (newD s (.row (enR a))) (.row (enR b)) = s1 at g1 g2 he
  unfold sameR
  by_cases h1 : a.kind = b.kind
  case neg =>
    simp only [h1, decide_false, Bool.not_false, condT]
    exact One.ret ⟨by simp, he⟩
  by_cases h2 : a.rng = b.rng
  case neg =>
    simp only [h1, h2, decide_true, decide_false, Bool.not_true, Bool.not_false, condT, condF, gdB]
    exact One.ret ⟨by simp, he⟩
  by_cases h3 : a.n = b.n
  case neg =>
    simp only [h1, h2, h3, decide_true, decide_false, Bool.not_true, Bool.not_false, condT, condF, gdB]
    exact One.ret ⟨by simp, he⟩
  by_cases l1 : a.new.length = b.new.length
  case neg =>
    have l1' : ¬ ((a.new.length : Int) = b.new.length) := by omega
    have : a.new.map nk ≠ b.new.map nk := fun e => l1 (by simpa using congrArg List.length e)
    simp only [h1, h2, h3, l1', decide_true, decide_false, Bool.not_true, Bool.not_false, condT, condF, gdB, o_bool, o_alloc, o_box, o_build, o_buildSlice, o_load, o_store, o_nilCheck, o_bop, o_uop, o_conv, o_slc, o_fieldAddr, o_field, o_indexAddr, o_index, o_extract, o_lookup, o_mapUpdate, o_makeMap, o_mapEntry, o_entryStore, o_delete, o_len, o_append, o_min, o_max, o_tgt, bindS, many1, jnE, boolS, gdB, fst', snd', len_sl u65, b_neq]
    exact One.ret ⟨by simp [this], he⟩
  by_cases l2 : a.pts.length = b.pts.length
  case neg =>
    have l1' : ((a.new.length : Int) = b.new.length) := by omega
    have l2' : ¬ ((a.pts.length : Int) = b.pts.length) := by omega
    have : a.pts ≠ b.pts := fun e => l2 (by rw [e])
    simp only [h1, h2, h3, l1', l2', decide_true, decide_false, Bool.not_true, Bool.not_false, condT, condF, gdB, o_bool, o_alloc, o_box, o_build, o_buildSlice, o_load, o_store, o_nilCheck, o_bop, o_uop, o_conv, o_slc, o_fieldAddr, o_field, o_indexAddr, o_index, o_extract, o_lookup, o_mapUpdate, o_makeMap, o_mapEntry, o_entryStore, o_delete, o_len, o_append, o_min, o_max, o_tgt, bindS, many1, jnE, boolS, gdB, fst', snd', len_sl u65, len_sl u66, b_neq]
    exact One.ret ⟨by simp [this], he⟩
  by_cases l3 : a.ids.length = b.ids.length
  case neg =>
    have l1' : ((a.new.length : Int) = b.new.length) := by omega
    have l2' : ((a.pts.length : Int) = b.pts.length) := by omega
    have l3' : ¬ ((a.ids.length : Int) = b.ids.length) := by omega
    have : a.ids ≠ b.ids := fun e => l3 (by rw [e])
    simp only [h1, h2, h3, l1', l2', l3', decide_true, decide_false, Bool.not_true, Bool.not_false, condT, condF, gdB, o_bool, o_alloc, o_box, o_build, o_buildSlice, o_load, o_store, o_nilCheck, o_bop, o_uop, o_conv, o_slc, o_fieldAddr, o_field, o_indexAddr, o_index, o_extract, o_lookup, o_mapUpdate, o_makeMap, o_mapEntry, o_entryStore, o_delete, o_len, o_append, o_min, o_max, o_tgt, bindS, many1, jnE, boolS, gdB, fst', snd', len_sl u65, len_sl u66, len_sl u67, b_neq]
    exact One.ret ⟨by simp [this], he⟩
  have l1' : ((a.new.length : Int) = b.new.length) := by omega
  have l2' : ((a.pts.length : Int) = b.pts.length) := by omega
  have l3' : ((a.ids.length : Int) = b.ids.length) := by omega
  obtain ⟨z1, z2, z3, z4⟩ := ha
  simp only [h1, h2, h3, l1', l2', l3', decide_true, Bool.not_true, condF, gdB, o_bool, o_alloc, o_box, o_build, o_buildSlice, o_load, o_store, o_nilCheck, o_bop, o_uop, o_conv, o_slc, o_fieldAddr, o_field, o_indexAddr, o_index, o_extract, o_lookup, o_mapUpdate, o_makeMap, o_mapEntry, o_entryStore, o_delete, o_len, o_append, o_min, o_max, o_tgt, bindS, many1, jnE, boolS, gdB, fst', snd', len_sl u65, len_sl u66, len_sl u67, b_neq, Bool.true_and]
  refine list_one a.new (fun i (x : Value × Value) (s' : SH) => s1 = s' ∧ x.1 = .bool false ∧ x.2 = .int .i64 i ∧ (a.new.take i).map nk = (b.new.take i).map nk) ?_ ?_ ⟨rfl, rfl, rfl, rfl⟩ (by show a.new.length < 2 ^ 64; omega)
  · rintro i hi ⟨x1, x2⟩ s' ⟨rfl, e1, e2, e3⟩ nx hnx
    simp only at e1 e2
    subst e1 e2
    have hlt : (i : Int) < a.new.length := by omega
    have hi' : i < b.new.length := by omega
    have hw : IntKind.i64.wrap ((i : Int) + 1) = ((i + 1 : Nat) : Int) := by rw [wrap_i64 (by omega) (by omega)]; rfl
    simp only [f41_l0, o_bool, o_alloc, o_box, o_build, o_buildSlice, o_load, o_store, o_nilCheck, o_bop, o_uop, o_conv, o_slc, o_fieldAddr, o_field, o_indexAddr, o_index, o_extract, o_lookup, o_mapUpdate, o_makeMap, o_mapEntry, o_entryStore, o_delete, o_len, o_append, o_min, o_max, o_tgt, bindS, many1, jnE, boolS, gdB, fst', snd', fld72_1, lr1 g1, lr1 g2, len_sl u65, bop_lss, hlt, decide_true, condT, ixs65 nm_len hi, ixs65 nm_len hi', flf135_0, flf135_1, ldf_nm0, ldf_nm1, b_neq]
    by_cases q1 : a.new[i].1 = b.new[i].1
    · have h21 : oneO (callD Try.prog AB (n + 1)) (.fn 21) [sl lab a.new[i].2.1 a.new[i].2.2, sl lab b.new[i].2.1 b.new[i].2.2] s1 = some (.bool (decide (a.new[i].2.2 = b.new[i].2.2)), s1) := oneS (c21 (n := n) _ _ (z2 _ (List.getElem_mem hi)))
      simp only [q1, decide_true, Bool.not_true, condF, o_bool, o_alloc, o_box, o_build, o_buildSlice, o_load, o_store, o_nilCheck, o_bop, o_uop, o_conv, o_slc, o_fieldAddr, o_field, o_indexAddr, o_index, o_extract, o_lookup, o_mapUpdate, o_makeMap, o_mapEntry, o_entryStore, o_delete, o_len, o_append, o_min, o_max, o_tgt, bindS, many1, jnE, boolS, gdB, fst', snd', fld72_1, lr1 g1, lr1 g2, ixs65 nm_len hi, ixs65 nm_len hi', flf135_0, flf135_1, ldf_nm0, ldf_nm1, h21, uop_not]
      by_cases q2 : a.new[i].2.2 = b.new[i].2.2
      · simp only [q2, decide_true, Bool.not_true, condF, bop_add, bindS, hw]
        exact hnx (_, _) _ ⟨rfl, rfl, rfl, map_step hi hi' (Prod.ext q1 q2) e3⟩
      · have : a.new.map nk ≠ b.new.map nk := map_ne hi hi' (fun e => q2 (congrArg (fun p : Int × List Lab => p.2) e))
        simp only [q2, decide_false, Bool.not_false, condT]
        exact One.ret ⟨by simp [this], he⟩
    · have : a.new.map nk ≠ b.new.map nk := map_ne hi hi' (fun e => q1 (congrArg (fun p : Int × List Lab => p.1) e))
      simp only [q1, decide_false, Bool.not_false, condT]
      exact One.ret ⟨by simp [this], he⟩
  · rintro ⟨x1, x2⟩ s' ⟨rfl, e1, e2, e3⟩ nx
    simp only at e1 e2
    subst e1 e2
    have hnlt : ¬ ((a.new.length : Int) < a.new.length) := by omega
    have hxy : a.new.map nk = b.new.map nk := by rw [List.take_length, l1, List.take_length] at e3; exact e3
    simp only [f41_l0, o_bool, o_alloc, o_box, o_build, o_buildSlice, o_load, o_store, o_nilCheck, o_bop, o_uop, o_conv, o_slc, o_fieldAddr, o_field, o_indexAddr, o_index, o_extract, o_lookup, o_mapUpdate, o_makeMap, o_mapEntry, o_entryStore, o_delete, o_len, o_append, o_min, o_max, o_tgt, bindS, many1, jnE, boolS, gdB, fst', snd', fld72_1, lr1 g1, lr1 g2, len_sl u65, bop_lss, hnlt, decide_false, condF, beq_yes, condT, hxy, decide_true, Bool.true_and]
    refine list_one a.pts (fun i (x : Value × Value) (s' : SH) => s1 = s' ∧ x.1 = .bool false ∧ x.2 = .int .i64 i ∧ a.pts.take i = b.pts.take i) ?_ ?_ ⟨rfl, rfl, rfl, rfl⟩ (by show a.pts.length < 2 ^ 64; omega)
    · rintro i hi ⟨x1, x2⟩ s' ⟨rfl, e1, e2, e3⟩ nx hnx
      simp only at e1 e2
      subst e1 e2
      have hlt : (i : Int) < a.pts.length := by omega
      have hi' : i < b.pts.length := by omega
      have hw : IntKind.i64.wrap ((i : Int) + 1) = ((i + 1 : Nat) : Int) := by rw [wrap_i64 (by omega) (by omega)]; rfl
      simp only [f41_l1, o_bool, o_alloc, o_box, o_build, o_buildSlice, o_load, o_store, o_nilCheck, o_bop, o_uop, o_conv, o_slc, o_fieldAddr, o_field, o_indexAddr, o_index, o_extract, o_lookup, o_mapUpdate, o_makeMap, o_mapEntry, o_entryStore, o_delete, o_len, o_append, o_min, o_max, o_tgt, bindS, many1, jnE, boolS, gdB, fst', snd', fld72_2, lr2 g1, lr2 g2, len_sl u66, bop_lss, hlt, decide_true, condT, ixs66 pt_len hi, ixs66 pt_len hi', ld_pt, pt_neq]
      by_cases q1 : a.pts[i] = b.pts[i]
      · simp only [q1, decide_true, Bool.not_true, condF, bop_add, bindS, hw]
        refine hnx (_, _) _ ⟨rfl, rfl, rfl, ?_⟩
        rw [List.take_succ_eq_append_getElem hi, List.take_succ_eq_append_getElem hi', e3, q1]
      · have : a.pts ≠ b.pts := fun e => q1 (by simp only [e])
        simp only [q1, decide_false, Bool.not_false, condT]
        exact One.ret ⟨by simp [this], he⟩
    · rintro ⟨x1, x2⟩ s' ⟨rfl, e1, e2, e3⟩ nx
      simp only at e1 e2
      subst e1 e2
      have hnlt : ¬ ((a.pts.length : Int) < a.pts.length) := by omega
      have hxy : a.pts = b.pts := by rw [List.take_length, l2, List.take_length] at e3; exact e3
      simp only [f41_l1, o_bool, o_alloc, o_box, o_build, o_buildSlice, o_load, o_store, o_nilCheck, o_bop, o_uop, o_conv, o_slc, o_fieldAddr, o_field, o_indexAddr, o_index, o_extract, o_lookup, o_mapUpdate, o_makeMap, o_mapEntry, o_entryStore, o_delete, o_len, o_append, o_min, o_max, o_tgt, bindS, many1, jnE, boolS, gdB, fst', snd', fld72_2, lr2 g1, lr2 g2, len_sl u66, bop_lss, hnlt, decide_false, condF, beq_yes, condT]
      refine list_one a.ids (fun i (x : Value × Value) (s' : SH) => s1 = s' ∧ x.1 = .bool false ∧ x.2 = .int .i64 i ∧ a.ids.take i = b.ids.take i) ?_ ?_ ⟨rfl, rfl, rfl, rfl⟩ (by show a.ids.length < 2 ^ 64; omega)
      · rintro i hi ⟨x1, x2⟩ s' ⟨rfl, e1, e2, e3⟩ nx hnx
        simp only at e1 e2
        subst e1 e2
        have hlt : (i : Int) < a.ids.length := by omega
        have hi' : i < b.ids.length := by omega
        have hw : IntKind.i64.wrap ((i : Int) + 1) = ((i + 1 : Nat) : Int) := by rw [wrap_i64 (by omega) (by omega)]; rfl
        simp only [f41_l2, o_bool, o_alloc, o_box, o_build, o_buildSlice, o_load, o_store, o_nilCheck, o_bop, o_uop, o_conv, o_slc, o_fieldAddr, o_field, o_indexAddr, o_index, o_extract, o_lookup, o_mapUpdate, o_makeMap, o_mapEntry, o_entryStore, o_delete, o_len, o_append, o_min, o_max, o_tgt, bindS, many1, jnE, boolS, gdB, fst', snd', fld72_3, lr3 g1, lr3 g2, len_sl u67, bop_lss, hlt, decide_true, condT, ixs67 u6_len hi, ixs67 u6_len hi', ld_u6, b_neq]
        by_cases q1 : a.ids[i] = b.ids[i]
        · simp only [q1, decide_true, Bool.not_true, condF, bop_add, bindS, hw]
          refine hnx (_, _) _ ⟨rfl, rfl, rfl, ?_⟩
          rw [List.take_succ_eq_append_getElem hi, List.take_succ_eq_append_getElem hi', e3, q1]
        · have : a.ids ≠ b.ids := fun e => q1 (by simp only [e])
          simp only [q1, decide_false, Bool.not_false, condT]
          exact One.ret ⟨by simp [this], he⟩
      · rintro ⟨x1, x2⟩ s' ⟨rfl, e1, e2, e3⟩ nx
        simp only at e1 e2
        subst e1 e2
        have hnlt : ¬ ((a.ids.length : Int) < a.ids.length) := by omega
        have hxy2 : a.ids = b.ids := by rw [List.take_length, l3, List.take_length] at e3; exact e3
        simp only [f41_l2, o_bool, o_alloc, o_box, o_build, o_buildSlice, o_load, o_store, o_nilCheck, o_bop, o_uop, o_conv, o_slc, o_fieldAddr, o_field, o_indexAddr, o_index, o_extract, o_lookup, o_mapUpdate, o_makeMap, o_mapEntry, o_entryStore, o_delete, o_len, o_append, o_min, o_max, o_tgt, bindS, many1, jnE, boolS, gdB, fst', snd', fld72_3, lr3 g1, lr3 g2, len_sl u67, bop_lss, hnlt, decide_false, condF, beq_yes, condT]
        exact One.ret ⟨by simp [hxy, hxy2], he⟩
end Go.Proofs.Ytmhmbmogodofeaa.S
