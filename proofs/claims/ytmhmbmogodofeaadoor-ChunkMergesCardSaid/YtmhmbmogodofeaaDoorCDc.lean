import Derived.Test.YtmhmbmogodofeaaDoorCDb
set_option autoImplicit false
set_option linter.unusedVariables false
set_option linter.unusedSimpArgs false
set_option maxRecDepth 100000
namespace Go.Proofs.YtmhmbmogodofeaaDoor.S
open Go.FS Go.RowKit
attribute [local congr] bind_cg cond_cg gd_cg
def sz : Spl := (0, 0)
theorem al40 (s : SH) : allocD Tryd.prog s 40 = some (.pointer (some ⟨s.n, 0, none⟩), newD s (.row (sp sz))) := alloc_at zr40
theorem st40 {s : SH} {id : Nat} {a b : Spl} (h : HP.get s.h id = some (.row (sp b))) : storeD Tryd.prog s 40 (.pointer (some ⟨id, 0, none⟩)) (.agg (sp a).toArray) = some (putD s id (.row (sp a))) := store_row z40 h rfl rfl rfl (by simp [sp])
theorem bx58 (s : SH) (a : Spl) : boxD s (.agg (rg a).toArray) = some (.pointer (some ⟨s.n, 0, none⟩), newD s (.row (rg a))) := box_at (l := rg a) rfl rfl
theorem ldr0 {s : SH} {id : Nat} {a : Spl} (h : HP.get s.h id = some (.row (rg a))) : loadD Tryd.prog s 3 (.pointer (some ⟨id, 0, none⟩)) = some (.int .i64 a.1) := by rw [load_row h, part_one a3]; rfl
theorem ldr1 {s : SH} {id : Nat} {a : Spl} (h : HP.get s.h id = some (.row (rg a))) : loadD Tryd.prog s 3 (.pointer (some ⟨id, 1, none⟩)) = some (.int .i64 a.2) := by rw [load_row h, part_one a3]; rfl
theorem wthn_app (f t : Int) (l m : List Spl) : wthn f t (l ++ m) = wthn f t l ++ wthn f t m := List.filter_append ..
theorem wthn_len (f t : Int) (l : List Spl) : (wthn f t l).length ≤ l.length := List.length_filter_le ..
theorem c26 {n m : Nat} {s : SH} (l : List Spl) (r : Spl) (hl : l.length ≤ 1000000) : ∃ m' s', callD Tryd.prog AB (n + 1) (.fn 26) [sl sp m l, .agg (rg r).toArray] s = some [(sl sp m' (wthn r.1 r.2 l), s')] ∧ Sm s.n s s' := by
  rw [call_fn (fn := Tryd.f26) rfl rfl (by kernel_rfl)]
  suffices h : One (bodyD Tryd.prog false (callD Tryd.prog AB n) AB.N 26 Tryd.f26 [sl sp m l, .agg (rg r).toArray] s) fun v s' => Grow s.n 2 sp s' v (wthn r.1 r.2 l) ∧ Sm s.n s s' by
    obtain ⟨v, s', e, h1, h2⟩ := h
    obtain ⟨mm, rfl⟩ := Grow.form h1
    exact ⟨mm, s', e, h2⟩
  rw [f26_r]
  have g0 : HP.get (newD s (.row (rg r))).h s.n = some (.row (rg r)) := get_new rfl
  have gs : Sm s.n s (newD s (.row (rg r))) := (Sm.refl s.n s).new (Nat.le_refl _) _
  simp only [f26, o_bool, o_alloc, o_box, o_build, o_buildSlice, o_load, o_store, o_nilCheck, o_bop, o_uop, o_conv, o_slc, o_fieldAddr, o_field, o_indexAddr, o_index, o_extract, o_lookup, o_mapUpdate, o_makeSlice, o_makeMap, o_mapEntry, o_entryStore, o_delete, o_len, o_append, o_min, o_max, o_tgt, bindS, many1, jnE, boolS, gdB, fst', snd', bx58, len_sl u24]
  refine list_one l (fun i (x : Value × Value) (s' : SH) => Sm s.n s s' ∧ s.n + 1 ≤ s'.n ∧ x.2 = .int .i64 i ∧ HP.get s'.h s.n = some (.row (rg r)) ∧ Grow (s.n + 1) 2 sp s' x.1 (wthn r.1 r.2 (l.take i))) ?_ ?_ ⟨gs, by rw [newD_n]; omega, rfl, g0, .inl ⟨rfl, .inl rfl⟩⟩ (by show l.length < 2 ^ 64; omega)
  · rintro i hi ⟨x1, x2⟩ s' ⟨hsm, hn, h2, hg0, hg⟩ nx hnx
    simp only at h2 hg
    subst h2
    have hlt : (i : Int) < l.length := by omega
    have hw : IntKind.i64.wrap ((i : Int) + 1) = ((i + 1 : Nat) : Int) := by rw [wrap_i64 (by omega) (by omega)]; rfl
    have hts : wthn r.1 r.2 (l.take (i + 1)) = wthn r.1 r.2 (l.take i) ++ wthn r.1 r.2 [l[i]] := by rw [List.take_succ_eq_append_getElem hi, wthn_app]
    have hln := wthn_len r.1 r.2 (l.take i)
    rw [List.length_take] at hln
    have hst : storeD Tryd.prog (newD s' (.row (sp sz))) 40 (.pointer (some ⟨s'.n, 0, none⟩)) (.agg (sp l[i]).toArray) = some (putD (newD s' (.row (sp sz))) s'.n (.row (sp l[i]))) := st40 (get_new rfl)
    have ha : HP.get (putD (newD s' (.row (sp sz))) s'.n (.row (sp l[i]))).h s'.n = some (.row (sp l[i])) := get_put_same _
    have hr : HP.get (putD (newD s' (.row (sp sz))) s'.n (.row (sp l[i]))).h s.n = some (.row (rg r)) := by rw [get_put_other (by omega), get_old (by omega), hg0]
    have hs2 : Sm s.n s (putD (newD s' (.row (sp sz))) s'.n (.row (sp l[i]))) := (hsm.new (by omega) _).put (by omega) _
    have hg2 : Grow (s.n + 1) 2 sp (putD (newD s' (.row (sp sz))) s'.n (.row (sp l[i]))) x1 (wthn r.1 r.2 (l.take i)) := (hg.new _).put _ (by rw [get_new rfl]; intro h; cases h)
    have hn2 : s.n + 1 ≤ (putD (newD s' (.row (sp sz))) s'.n (.row (sp l[i]))).n := by rw [putD_n, newD_n]; omega
    simp only [f26_l0, o_bool, o_alloc, o_box, o_build, o_buildSlice, o_load, o_store, o_nilCheck, o_bop, o_uop, o_conv, o_slc, o_fieldAddr, o_field, o_indexAddr, o_index, o_extract, o_lookup, o_mapUpdate, o_makeSlice, o_makeMap, o_mapEntry, o_entryStore, o_delete, o_len, o_append, o_min, o_max, o_tgt, bindS, many1, jnE, boolS, gdB, fst', snd', bop_lss, hlt, decide_true, condT, ixs24 sp_len hi, ld_sp, al40, hst]
    generalize putD (newD s' (.row (sp sz))) s'.n (.row (sp l[i])) = s2 at ha hr hs2 hg2 hn2
    generalize l[i] = x at ha hts
    simp only [fld40_0, lds0 ha, fld58_0, fld58_1, ldr0 hr, ldr1 hr, o_bool, o_alloc, o_box, o_build, o_buildSlice, o_load, o_store, o_nilCheck, o_bop, o_uop, o_conv, o_slc, o_fieldAddr, o_field, o_indexAddr, o_index, o_extract, o_lookup, o_mapUpdate, o_makeSlice, o_makeMap, o_mapEntry, o_entryStore, o_delete, o_len, o_append, o_min, o_max, o_tgt, bindS, many1, jnE, boolS, gdB, fst', snd', bop_geq, bop_leq]
    by_cases c1 : x.1 ≥ r.1
    · by_cases c2 : x.1 ≤ r.2
      · have hx : wthn r.1 r.2 [x] = [x] := by unfold wthn; rw [List.filter_cons_of_pos (by simp; omega)]; rfl
        rw [hx] at hts
        obtain ⟨v', s3, e1, w1, w2, w3⟩ := gapp24 (m2 := 1) (ys := [x]) hg2 hn2 (by simp only [List.length_singleton]; omega)
        have hr3 : HP.get s3.h s.n = some (.row (rg r)) := by rw [w2.2 _ (by omega), hr]
        simp only [c1, c2, decide_true, condT, ldsp ha, bs24, o_bool, o_alloc, o_box, o_build, o_buildSlice, o_load, o_store, o_nilCheck, o_bop, o_uop, o_conv, o_slc, o_fieldAddr, o_field, o_indexAddr, o_index, o_extract, o_lookup, o_mapUpdate, o_makeSlice, o_makeMap, o_mapEntry, o_entryStore, o_delete, o_len, o_append, o_min, o_max, o_tgt, bindS, many1, jnE, boolS, gdB, fst', snd', e1, bop_add, hw]
        exact hnx (_, _) _ ⟨hs2.trans (Sm.weak w2 (by omega)), by have := w2.1; omega, rfl, hr3, by rw [hts]; exact w1⟩
      · have hx : wthn r.1 r.2 [x] = [] := by unfold wthn; rw [List.filter_cons_of_neg (by simp; omega)]; rfl
        rw [hx, List.append_nil] at hts
        simp only [c1, c2, decide_true, decide_false, condT, condF, bop_add, bindS, hw]
        exact hnx (_, _) _ ⟨hs2, hn2, rfl, hr, by rw [hts]; exact hg2⟩
    · have hx : wthn r.1 r.2 [x] = [] := by unfold wthn; rw [List.filter_cons_of_neg (by simp; omega)]; rfl
      rw [hx, List.append_nil] at hts
      simp only [c1, decide_false, condF, bop_add, bindS, hw]
      exact hnx (_, _) _ ⟨hs2, hn2, rfl, hr, by rw [hts]; exact hg2⟩
  · rintro ⟨x1, x2⟩ s' ⟨hsm, hn, h2, hg0, hg⟩ nx
    simp only at h2 hg
    subst h2
    have hnlt : ¬ ((l.length : Int) < l.length) := by omega
    rw [List.take_length] at hg
    simp only [f26_l0, o_bool, o_alloc, o_box, o_build, o_buildSlice, o_load, o_store, o_nilCheck, o_bop, o_uop, o_conv, o_slc, o_fieldAddr, o_field, o_indexAddr, o_index, o_extract, o_lookup, o_mapUpdate, o_makeSlice, o_makeMap, o_mapEntry, o_entryStore, o_delete, o_len, o_append, o_min, o_max, o_tgt, bindS, many1, jnE, boolS, gdB, fst', snd', bop_lss, hnlt, decide_false, condF, beq_yes, condT]
    exact One.ret ⟨Grow.weak hg (by omega), hsm⟩
def Good (T : Int) (l : List Spl) : Prop := Rising l ∧ ∀ x ∈ l, 0 ≤ x.1 ∧ x.1 < T
theorem Good.snoc {T : Int} {l : List Spl} (h : Good T l) (h0 : 0 ≤ T) (v : Int) (U : Int) (hU : T < U) : Good U (l ++ [(T, v)]) := by
  refine ⟨List.pairwise_append.2 ⟨h.1, List.pairwise_cons.2 ⟨fun _ h => (List.not_mem_nil h).elim, List.Pairwise.nil⟩, fun x hx y hy => ?_⟩, fun x hx => ?_⟩
  · rw [List.mem_singleton.1 hy]; exact (h.2 x hx).2
  · rcases List.mem_append.1 hx with hx | hx
    · have := h.2 x hx; omega
    · rw [List.mem_singleton.1 hx]; exact ⟨h0, hU⟩
theorem c21 {n m1 m2 : Nat} {s : SH} (a : Int) (l v : List Int) : ∃ m' s' r, callD Tryd.prog AB (n + 2) (.fn 21) [.int .i64 a, sl i6 m1 l, sl u6 m2 v] s = some [(sl sp m' r, s')] ∧ Sm s.n s s' ∧ Good 1000000000 r ∧ r.length ≤ 300 := by
  rw [call_fn (fn := Tryd.f21) rfl rfl (by kernel_rfl)]
  suffices h : One (bodyD Tryd.prog false (callD Tryd.prog AB (n + 1)) AB.N 21 Tryd.f21 [.int .i64 a, sl i6 m1 l, sl u6 m2 v] s) fun w s' => Sm s.n s s' ∧ ∃ r, Grow s.n 2 sp s' w r ∧ Good 1000000000 r ∧ r.length ≤ 300 by
    obtain ⟨w, s', e, h1, r, h2, h3, h4⟩ := h
    obtain ⟨mm, rfl⟩ := Grow.form h2
    exact ⟨mm, s', r, e, h1, h3, h4⟩
  rw [f21_r]
  obtain ⟨j0, hj0, e0⟩ := c25 (n := n) (s := s) a 1000000 (by decide) (by decide)
  have e0 : callD Tryd.prog AB (n + 1) (.fn 25) [.int .i64 a, .int .i64 1000000] s = some [(.int .i64 (j0 : Int), s)] := e0
  simp only [f21, o_bool, o_alloc, o_box, o_build, o_buildSlice, o_load, o_store, o_nilCheck, o_bop, o_uop, o_conv, o_slc, o_fieldAddr, o_field, o_indexAddr, o_index, o_extract, o_lookup, o_mapUpdate, o_makeSlice, o_makeMap, o_mapEntry, o_entryStore, o_delete, o_len, o_append, o_min, o_max, o_tgt, bindS, many1, jnE, boolS, gdB, fst', snd', e0, bs24_0]
  refine list_one (l.take 300) (fun i (x : Value × Value × Value × Value) (s' : SH) => Sm s.n s s' ∧ x.2.2.1 = .int .i64 i ∧ ∃ (T : Nat) (r : List Spl), x.1 = .int .i64 (T : Int) ∧ T ≤ 1000000 + i * 100000 ∧ Grow s.n 2 sp s' x.2.1 r ∧ Good (T : Int) r ∧ r.length = i) ?_ ?_ ⟨.refl _ _, rfl, j0, [], rfl, by omega, .inl ⟨rfl, .inr rfl⟩, ⟨List.Pairwise.nil, fun _ h => (List.not_mem_nil h).elim⟩, rfl⟩ (by rw [List.length_take]; show _ < 2 ^ 64; omega)
  · rintro i hi ⟨x1, x2, x3, x4⟩ s' ⟨hsm, h2, T, r, h1, hT, hg, hG, hr⟩ nx hnx
    simp only at h1 h2 hg
    subst h1 h2
    rw [List.length_take] at hi
    have hi1 : i < l.length := by omega
    have hlt : (i : Int) < l.length := by omega
    have hlt2 : (i : Int) < 300 := by omega
    have hw : IntKind.i64.wrap ((i : Int) + 1) = ((i + 1 : Nat) : Int) := by rw [wrap_i64 (by omega) (by omega)]; rfl
    -- what is the same whatever the value
    have rest : ∀ (w : Int) (y : Value), y = .int .u64 w → One ((buildD Tryd.prog 40 [(0, .int .i64 (T : Int)), (1, y)]).bind fun v53 =>
        (buildSliceD Tryd.prog false s' 24 1 [(0, v53)]).bind fun p54 =>
        (appD Tryd.prog false p54.2 24 24 x2 p54.1).bind fun p55 =>
        (loadD Tryd.prog p55.2 3 (fpV (i6 l[i]).toArray 0)).bind fun v57 =>
        (callD Tryd.prog AB (n + 1) (.fn 25) [v57, .int .i64 100000] p55.2).bind fun L58 => manyK L58 fun v59 s60 =>
        (bopD Tryd.prog .add 3 (.int .i64 1) v59).bind fun v61 =>
        (bopD Tryd.prog .add 3 (.int .i64 (T : Int)) v61).bind fun v62 =>
        nx (v62, p55.1, .int .i64 ((i + 1 : Nat) : Int), y) s60) fun w s' => Sm s.n s s' ∧ ∃ r, Grow s.n 2 sp s' w r ∧ Good 1000000000 r ∧ r.length ≤ 300 := by
      rintro w y rfl
      obtain ⟨v', s3, e1, w1, w2, w3⟩ := gapp24 (m2 := 1) (ys := [((T : Int), w)]) hg hsm.1 (by simp only [List.length_singleton]; omega)
      obtain ⟨j, hj, e2⟩ := c25 (n := n) (s := s3) l[i] 100000 (by decide) (by decide)
      have e2 : callD Tryd.prog AB (n + 1) (.fn 25) [.int .i64 l[i], .int .i64 100000] s3 = some [(.int .i64 (j : Int), s3)] := e2
      have k1 : IntKind.i64.wrap ((1 : Int) + (j : Int)) = (1 + j : Int) := wrap_i64 (by omega) (by omega)
      have k2 : IntKind.i64.wrap ((T : Int) + (1 + j : Int)) = ((T + (1 + j) : Nat) : Int) := by rw [wrap_i64 (by omega) (by omega)]; omega
      simp only [bld40, bs24, bindS, e1, ld_i6, e2, many1, bop_add, k1, k2]
      exact hnx (_, _, _, _) _ ⟨hsm.trans w2, rfl, T + (1 + j), r ++ [((T : Int), w)], rfl, by omega, w1, hG.snoc (by omega) w _ (by omega), by rw [List.length_append, hr]; rfl⟩
    have hcv : convertD Tryd.prog false s' 3 38 (.int .i64 (i : Int)) = some (.int .u64 (IntKind.u64.wrap (i : Int)), s') := conv_int u3 u38 _ _
    simp only [f21_l0, o_bool, o_alloc, o_box, o_build, o_buildSlice, o_load, o_store, o_nilCheck, o_bop, o_uop, o_conv, o_slc, o_fieldAddr, o_field, o_indexAddr, o_index, o_extract, o_lookup, o_mapUpdate, o_makeSlice, o_makeMap, o_mapEntry, o_entryStore, o_delete, o_len, o_append, o_min, o_max, o_tgt, bindS, many1, jnE, boolS, gdB, fst', snd', len_sl u45, len_sl u46, bop_lss, hlt, hlt2, decide_true, condT, hcv, ixs45 i6_len hi1, bop_add, hw]
    by_cases hv : i < v.length
    · have hv' : (i : Int) < v.length := by omega
      simp only [hv', decide_true, condT, ixs46 u6_len hv, ld_u6, bindS]
      exact rest _ _ rfl
    · have hv' : ¬ ((i : Int) < v.length) := by omega
      simp only [hv', decide_false, condF]
      exact rest _ _ rfl
  · rintro ⟨x1, x2, x3, x4⟩ s' ⟨hsm, h2, T, r, h1, hT, hg, hG, hr⟩ nx
    simp only at h1 h2 hg
    subst h1 h2
    have hle : (l.take 300).length ≤ 300 := by rw [List.length_take]; omega
    have fin : Sm s.n s s' ∧ ∃ r, Grow s.n 2 sp s' x2 r ∧ Good 1000000000 r ∧ r.length ≤ 300 := ⟨hsm, r, hg, ⟨hG.1, fun x hx => by have := hG.2 x hx; omega⟩, by omega⟩
    rw [List.length_take] at *
    by_cases h : l.length ≤ 300
    · have hnlt : ¬ (((min 300 l.length : Nat) : Int) < l.length) := by omega
      simp only [f21_l0, o_bool, o_alloc, o_box, o_build, o_buildSlice, o_load, o_store, o_nilCheck, o_bop, o_uop, o_conv, o_slc, o_fieldAddr, o_field, o_indexAddr, o_index, o_extract, o_lookup, o_mapUpdate, o_makeSlice, o_makeMap, o_mapEntry, o_entryStore, o_delete, o_len, o_append, o_min, o_max, o_tgt, bindS, many1, jnE, boolS, gdB, fst', snd', len_sl u45, bop_lss, hnlt, decide_false, condF, beq_yes, condT]
      exact One.ret fin
    · have hlt : ((min 300 l.length : Nat) : Int) < l.length := by omega
      have hnlt2 : ¬ (((min 300 l.length : Nat) : Int) < 300) := by omega
      simp only [f21_l0, o_bool, o_alloc, o_box, o_build, o_buildSlice, o_load, o_store, o_nilCheck, o_bop, o_uop, o_conv, o_slc, o_fieldAddr, o_field, o_indexAddr, o_index, o_extract, o_lookup, o_mapUpdate, o_makeSlice, o_makeMap, o_mapEntry, o_entryStore, o_delete, o_len, o_append, o_min, o_max, o_tgt, bindS, many1, jnE, boolS, gdB, fst', snd', len_sl u45, bop_lss, hlt, hnlt2, decide_true, decide_false, condF, beq_yes, condT]
      exact One.ret fin
end Go.Proofs.YtmhmbmogodofeaaDoor.S
