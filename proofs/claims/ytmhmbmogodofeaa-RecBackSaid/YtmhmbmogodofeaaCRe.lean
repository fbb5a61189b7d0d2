import Derived.Test.YtmhmbmogodofeaaCRd
set_option autoImplicit false
set_option linter.unusedVariables false
set_option linter.unusedSimpArgs false
set_option maxRecDepth 100000
namespace Go.Proofs.Ytmhmbmogodofeaa.S
open Go.FS Go.RowKit
attribute [local congr] bind_cg cond_cg gd_cg
theorem cutB_size (b : ByteArray) (n : Nat) : (cutB b n).size = min b.size n := by
  unfold cutB
  rw [ByteArray.size_extract]; omega
theorem cutB_twice (b : ByteArray) (n : Nat) : cutB (cutB b n) n = cutB b n := by
  have h : min (cutB b n).size n = (cutB b n).size := by rw [cutB_size]; omega
  show (cutB b n).extract 0 (min (cutB b n).size n) = _
  rw [h, ByteArray.extract_zero_size]
theorem fewL_twice (l : Lab) : fewL (fewL l) = fewL l := by
  unfold fewL
  simp only [cutB_twice]
theorem fewN_twice (a : Int × List Lab) : fewN (fewN a) = fewN a := by
  have h : ((a.2.take 18).map fewL).take 18 = (a.2.take 18).map fewL := List.take_of_length_le (by rw [List.length_map, List.length_take]; omega)
  have e : (((a.2.take 18).map fewL).take 18).map fewL = (a.2.take 18).map fewL := by
    rw [h, List.map_map]
    exact List.map_congr_left fun x _ => fewL_twice x
  exact congrArg (Prod.mk a.1) e
theorem fewP_twice (l : List Pt) : fewP (fewP l) = fewP l := by
  unfold fewP
  by_cases h : 4096 < l.length
  · rw [if_pos h]
    have : 4096 < (l.take 4097).length := by rw [List.length_take]; omega
    rw [if_pos this, List.take_take]; rfl
  · rw [if_neg h]
    have : ¬ 4096 < (l.take 60).length := by rw [List.length_take]; omega
    rw [if_neg this, List.take_take]; rfl
theorem few_same {r r' r'' : RecD} (h : FewR r r') (k : FewR r' r'') : sameR r' r'' = true := by
  obtain ⟨h1, h2, h3, h4, h5, h6⟩ := h
  obtain ⟨k1, k2, k3, k4, k5, k6⟩ := k
  have e4 : r'.new.map nk = r''.new.map nk := by
    rw [k4]
    have hl : r'.new.length ≤ 20 := by
      have := congrArg List.length h4
      simp only [List.length_map, List.length_take] at this; omega
    rw [List.take_of_length_le hl]
    have : r'.new.map (fun a => fewN (nk a)) = (r'.new.map nk).map fewN := by rw [List.map_map]; rfl
    rw [this, h4, List.map_map]
    exact (List.map_congr_left fun x _ => fewN_twice (nk x)).symm
  have e5 : r'.pts = r''.pts := by rw [k5, h5, fewP_twice]
  have e6 : r'.ids = r''.ids := by rw [k6, h6, List.take_take]; rfl
  unfold sameR
  rw [decide_eq_true k1.symm, decide_eq_true k2.symm, decide_eq_true k3.symm, decide_eq_true e4, decide_eq_true e5, decide_eq_true e6]; rfl
theorem few_small {r r' : RecD} (h : FewR r r') : Small r' := by
  obtain ⟨h1, h2, h3, h4, h5, h6⟩ := h
  have hl : r'.new.length ≤ 20 := by
    have := congrArg List.length h4
    simp only [List.length_map, List.length_take] at this; omega
  refine ⟨by omega, fun a ha => ?_, ?_, ?_⟩
  · have : nk a ∈ r'.new.map nk := List.mem_map_of_mem ha
    rw [h4] at this
    obtain ⟨b, _, e⟩ := List.mem_map.1 this
    have : a.2.2 = (fewN (nk b)).2 := (congrArg Prod.snd e).symm
    rw [this]
    show ((b.2.2.take 18).map fewL).length < _
    rw [List.length_map, List.length_take]; omega
  · rw [h5]; unfold fewP
    split <;> rw [List.length_take] <;> omega
  · rw [h6, List.length_take]; omega

attribute [local congr] bind_cg cond_cg gd_cg
def i6 (x : Int) : List Value := [.int .i64 x]
theorem i6_len (x : Int) : (i6 x).length = 1 := rfl
theorem ld_i6 {s : SH} (a : Int) : loadD Try.prog s 3 (fpV (i6 a).toArray 0) = some (.int .i64 a) := by rw [load_fp, part_one a3]; rfl
theorem tgt0 (f : Nat) (args : List Value) : tgtD (.func (.func f) #[] #[]) args = some (.fn f, args) := by simp [tgtD]
theorem tgt1 (f : Nat) (a : Value) (args : List Value) : tgtD (.func (.func f) #[] #[a]) args = some (.fn f, args ++ [a]) := by simp [tgtD]
theorem tgt2 (f : Nat) (a b : Value) (args : List Value) : tgtD (.func (.func f) #[] #[a, b]) args = some (.fn f, args ++ [a, b]) := by simp [tgtD]
/-- May a time be? -/
def tmOk (t : Int) : Bool := !decide (t < 0) && !decide (t > 35184372088832)
theorem c177 {n : Nat} {s : SH} (t : Int) : callD Try.prog AB (n + 1) (.fn 177) [.int .i64 t] s = some [(.bool (!tmOk t), s)] := by
  rw [call_fn (fn := Try.f177) rfl rfl (by kernel_rfl)]
  show bodyD Try.prog false _ _ 177 Try.f177 _ s = _
  rw [f177_r]
  simp only [f177, o_bool, o_alloc, o_box, o_build, o_buildSlice, o_load, o_store, o_nilCheck, o_bop, o_uop, o_conv, o_slc, o_fieldAddr, o_field, o_indexAddr, o_index, o_extract, o_lookup, o_mapUpdate, o_makeMap, o_mapEntry, o_entryStore, o_delete, o_len, o_append, o_min, o_max, o_tgt, bindS, many1, jnE, boolS, gdB, fst', snd', bop_lss, bop_gtr]
  unfold tmOk
  cases decide (t < 0) <;> cases decide (t > 35184372088832) <;> rfl
theorem c208 {n m : Nat} {s : SH} (xs : List Int) (hl : xs.length < 2 ^ 62) : ∃ v : Int, callD Try.prog AB (n + 2) (.fn 208) [sl i6 m xs, .func (.func 177) #[] #[]] s = some [(.int .i64 v, s)] ∧ decide (v ≥ 0) = xs.any fun t => !tmOk t := by
  rw [call_fn (fn := Try.f208) rfl rfl (by kernel_rfl)]
  suffices h : One (bodyD Try.prog false (callD Try.prog AB (n + 1)) AB.N 208 Try.f208 [sl i6 m xs, .func (.func 177) #[] #[]] s) fun w s' => s' = s ∧ ∃ v : Int, w = .int .i64 v ∧ decide (v ≥ 0) = xs.any fun t => !tmOk t by
    obtain ⟨w, s', e, rfl, v, rfl, h⟩ := h
    exact ⟨v, e, h⟩
  rw [f208_r]
  simp only [f208, o_bool, o_alloc, o_box, o_build, o_buildSlice, o_load, o_store, o_nilCheck, o_bop, o_uop, o_conv, o_slc, o_fieldAddr, o_field, o_indexAddr, o_index, o_extract, o_lookup, o_mapUpdate, o_makeMap, o_mapEntry, o_entryStore, o_delete, o_len, o_append, o_min, o_max, o_tgt, bindS, many1, jnE, boolS, gdB, fst', snd', len_sl u228]
  refine list_one xs (fun i (x : Value × Value × Value) (s' : SH) => s = s' ∧ x.2.2 = .int .i64 i ∧ (xs.take i).any (fun t => !tmOk t) = false) ?_ ?_ ⟨rfl, rfl, rfl⟩ (by show xs.length < 2 ^ 64; omega)
  · rintro i hi ⟨x1, x2, x3⟩ s' ⟨rfl, g1, g2⟩ nx hnx
    simp only at g1
    subst g1
    have hlt : (i : Int) < xs.length := by omega
    have hw : IntKind.i64.wrap ((i : Int) + 1) = ((i + 1 : Nat) : Int) := by rw [wrap_i64 (by omega) (by omega)]; rfl
    simp only [f208_l0, o_bool, o_alloc, o_box, o_build, o_buildSlice, o_load, o_store, o_nilCheck, o_bop, o_uop, o_conv, o_slc, o_fieldAddr, o_field, o_indexAddr, o_index, o_extract, o_lookup, o_mapUpdate, o_makeMap, o_mapEntry, o_entryStore, o_delete, o_len, o_append, o_min, o_max, o_tgt, bindS, many1, jnE, boolS, gdB, fst', snd', bop_lss, hlt, decide_true, condT, ixs228 i6_len hi, ld_i6, tgt0, c177, bop_add, hw]
    cases hq : tmOk xs[i] with
    | false =>
      simp only [Bool.not_false, condT]
      refine One.ret ⟨rfl, i, rfl, ?_⟩
      rw [decide_eq_true (by omega)]
      exact (List.any_eq_true.2 ⟨xs[i], List.getElem_mem hi, by rw [hq]; rfl⟩).symm
    | true =>
      simp only [Bool.not_true, condF]
      refine hnx (_, _, _) _ ⟨rfl, rfl, ?_⟩
      rw [List.take_succ_eq_append_getElem hi, List.any_append, g2]
      simp [hq]
  · rintro ⟨x1, x2, x3⟩ s' ⟨rfl, g1, g2⟩ nx
    simp only at g1
    subst g1
    have hnlt : ¬ ((xs.length : Int) < xs.length) := by omega
    rw [List.take_length] at g2
    simp only [f208_l0, o_bool, o_alloc, o_box, o_build, o_buildSlice, o_load, o_store, o_nilCheck, o_bop, o_uop, o_conv, o_slc, o_fieldAddr, o_field, o_indexAddr, o_index, o_extract, o_lookup, o_mapUpdate, o_makeMap, o_mapEntry, o_entryStore, o_delete, o_len, o_append, o_min, o_max, o_tgt, bindS, many1, jnE, boolS, gdB, fst', snd', bop_lss, hnlt, decide_false, condF, beq_yes, condT]
    exact One.ret ⟨rfl, -1, rfl, by rw [g2]; rfl⟩
theorem bop_geq' (t : TypeId) (k : IntKind) (a b : Int) : bopD Try.prog .geq t (.int k a) (.int k b) = some (.bool (decide (a ≥ b))) := by rw [bop_int]; simp [intS]
theorem bop_leq' (t : TypeId) (k : IntKind) (a b : Int) : bopD Try.prog .leq t (.int k a) (.int k b) = some (.bool (decide (a ≤ b))) := by rw [bop_int]; simp [intS]
theorem c143 {n m : Nat} {s : SH} (xs : List Int) (hl : xs.length < 2 ^ 62) : callD Try.prog AB (n + 4) (.fn 143) [sl i6 m xs] s = some [(.bool (!(xs.any fun t => !tmOk t)), s)] := by
  obtain ⟨v, e, h⟩ := c208 (n := n) (m := m) (s := s) xs hl
  have e1 : callD Try.prog AB (n + 3) (.fn 176) [sl i6 m xs, .func (.func 177) #[] #[]] s = some [(.bool (xs.any fun t => !tmOk t), s)] := by
    rw [call_fn (fn := Try.f176) rfl rfl (by kernel_rfl)]
    show bodyD Try.prog false _ _ 176 Try.f176 _ s = _
    rw [f176_r]
    simp only [f176, o_bool, o_alloc, o_box, o_build, o_buildSlice, o_load, o_store, o_nilCheck, o_bop, o_uop, o_conv, o_slc, o_fieldAddr, o_field, o_indexAddr, o_index, o_extract, o_lookup, o_mapUpdate, o_makeMap, o_mapEntry, o_entryStore, o_delete, o_len, o_append, o_min, o_max, o_tgt, bindS, many1, jnE, boolS, gdB, fst', snd', e, bop_geq', h]
  rw [call_fn (fn := Try.f143) rfl rfl (by kernel_rfl)]
  show bodyD Try.prog false _ _ 143 Try.f143 _ s = _
  rw [f143_r]
  simp only [f143, o_bool, o_alloc, o_box, o_build, o_buildSlice, o_load, o_store, o_nilCheck, o_bop, o_uop, o_conv, o_slc, o_fieldAddr, o_field, o_indexAddr, o_index, o_extract, o_lookup, o_mapUpdate, o_makeMap, o_mapEntry, o_entryStore, o_delete, o_len, o_append, o_min, o_max, o_tgt, bindS, many1, jnE, boolS, gdB, fst', snd', e1, uop_not]
theorem tm_1 {n m : Nat} {s : SH} (t : Int) : callD Try.prog AB (n + 4) (.fn 143) [sl i6 m [t]] s = some [(.bool (tmOk t), s)] := by
  rw [c143 [t] (by show 1 < 2 ^ 62; decide)]; simp
theorem tm_2 {n m : Nat} {s : SH} (a b : Int) : callD Try.prog AB (n + 4) (.fn 143) [sl i6 m [a, b]] s = some [(.bool (tmOk a && tmOk b), s)] := by
  rw [c143 [a, b] (by show 2 < 2 ^ 62; decide)]; simp
theorem bs228_1 (s : SH) (a : Int) : buildSliceD Try.prog false s 228 1 [(0, .int .i64 a)] = some (sl i6 1 [a], s) := by kernel_rfl
theorem bs228_2 (s : SH) (a b : Int) : buildSliceD Try.prog false s 228 2 [(0, .int .i64 a), (1, .int .i64 b)] = some (sl i6 1 [a, b], s) := by kernel_rfl
theorem c175 {n m : Nat} {s : SH} (xs : List Int) (y : Int) (hl : xs.length < 2 ^ 62) : callD Try.prog AB (n + 2) (.fn 175) [sl u6 m xs, .int .u64 y] s = some [(.bool (xs.any fun x => decide (y = x)), s)] := by
  have e1 : ∃ v : Int, callD Try.prog AB (n + 1) (.fn 207) [sl u6 m xs, .int .u64 y] s = some [(.int .i64 v, s)] ∧ decide (v ≥ 0) = xs.any fun x => decide (y = x) := by
    rw [call_fn (fn := Try.f207) rfl rfl (by kernel_rfl)]
    suffices h : One (bodyD Try.prog false (callD Try.prog AB n) AB.N 207 Try.f207 [sl u6 m xs, .int .u64 y] s) fun w s' => s' = s ∧ ∃ v : Int, w = .int .i64 v ∧ decide (v ≥ 0) = xs.any fun x => decide (y = x) by
      obtain ⟨w, s', e, rfl, v, rfl, h⟩ := h
      exact ⟨v, e, h⟩
    rw [f207_r]
    simp only [f207, o_bool, o_alloc, o_box, o_build, o_buildSlice, o_load, o_store, o_nilCheck, o_bop, o_uop, o_conv, o_slc, o_fieldAddr, o_field, o_indexAddr, o_index, o_extract, o_lookup, o_mapUpdate, o_makeMap, o_mapEntry, o_entryStore, o_delete, o_len, o_append, o_min, o_max, o_tgt, bindS, many1, jnE, boolS, gdB, fst', snd', len_sl u67]
    refine list_one xs (fun i (x : Value × Value × Value) (s' : SH) => s = s' ∧ x.2.2 = .int .i64 i ∧ (xs.take i).any (fun x => decide (y = x)) = false) ?_ ?_ ⟨rfl, rfl, rfl⟩ (by show xs.length < 2 ^ 64; omega)
    · rintro i hi ⟨x1, x2, x3⟩ s' ⟨rfl, g1, g2⟩ nx hnx
      simp only at g1
      subst g1
      have hlt : (i : Int) < xs.length := by omega
      have hw : IntKind.i64.wrap ((i : Int) + 1) = ((i + 1 : Nat) : Int) := by rw [wrap_i64 (by omega) (by omega)]; rfl
      simp only [f207_l0, o_bool, o_alloc, o_box, o_build, o_buildSlice, o_load, o_store, o_nilCheck, o_bop, o_uop, o_conv, o_slc, o_fieldAddr, o_field, o_indexAddr, o_index, o_extract, o_lookup, o_mapUpdate, o_makeMap, o_mapEntry, o_entryStore, o_delete, o_len, o_append, o_min, o_max, o_tgt, bindS, many1, jnE, boolS, gdB, fst', snd', bop_lss, hlt, decide_true, condT, ixs67 u6_len hi, ld_u6, bop_eql, bop_add, hw]
      by_cases hq : y = xs[i]
      · simp only [← hq, decide_true, condT]
        refine One.ret ⟨rfl, i, rfl, ?_⟩
        rw [decide_eq_true (by omega)]
        exact (List.any_eq_true.2 ⟨xs[i], List.getElem_mem hi, by rw [← hq]; simp⟩).symm
      · simp only [hq, decide_false, condF]
        refine hnx (_, _, _) _ ⟨rfl, rfl, ?_⟩
        rw [List.take_succ_eq_append_getElem hi, List.any_append, g2]
        simp [hq]
    · rintro ⟨x1, x2, x3⟩ s' ⟨rfl, g1, g2⟩ nx
      simp only at g1
      subst g1
      have hnlt : ¬ ((xs.length : Int) < xs.length) := by omega
      rw [List.take_length] at g2
      simp only [f207_l0, o_bool, o_alloc, o_box, o_build, o_buildSlice, o_load, o_store, o_nilCheck, o_bop, o_uop, o_conv, o_slc, o_fieldAddr, o_field, o_indexAddr, o_index, o_extract, o_lookup, o_mapUpdate, o_makeMap, o_mapEntry, o_entryStore, o_delete, o_len, o_append, o_min, o_max, o_tgt, bindS, many1, jnE, boolS, gdB, fst', snd', bop_lss, hnlt, decide_false, condF, beq_yes, condT]
      exact One.ret ⟨rfl, -1, rfl, by rw [g2]; rfl⟩
  obtain ⟨v, e, h⟩ := e1
  rw [call_fn (fn := Try.f175) rfl rfl (by kernel_rfl)]
  show bodyD Try.prog false _ _ 175 Try.f175 _ s = _
  rw [f175_r]
  simp only [f175, o_bool, o_alloc, o_box, o_build, o_buildSlice, o_load, o_store, o_nilCheck, o_bop, o_uop, o_conv, o_slc, o_fieldAddr, o_field, o_indexAddr, o_index, o_extract, o_lookup, o_mapUpdate, o_makeMap, o_mapEntry, o_entryStore, o_delete, o_len, o_append, o_min, o_max, o_tgt, bindS, many1, jnE, boolS, gdB, fst', snd', e, bop_geq', h]
/-- Do numbers rise? -/
def riseB : Int → List Int → Bool
  | _, [] => true
  | last, x :: l => decide (last < x) && riseB x l
theorem rise_cons (last x : Int) (l : List Int) : riseB last (x :: l) = (decide (last < x) && riseB x l) := rfl
def rise (l : List Int) : Bool := riseB 0 l && decide (l.length ≤ 4096)
theorem bx_nm (s : SH) (a : Nm) : boxD s (.agg (nm a).toArray) = some (.pointer (some ⟨s.n, 0, none⟩), newD s (.row (nm a))) := box_at rfl rfl
def nz : Nm := (0, 2, [])
theorem al135 (s : SH) : allocD Try.prog s 135 = some (.pointer (some ⟨s.n, 0, none⟩), newD s (.row (nm nz))) := alloc_at zr135
theorem st135 {s : SH} {id : Nat} {a b : Nm} (h : HP.get s.h id = some (.row (nm b))) : storeD Try.prog s 135 (.pointer (some ⟨id, 0, none⟩)) (.agg (nm a).toArray) = some (putD s id (.row (nm a))) := store_row z135 h rfl rfl rfl (by simp [nm])
theorem c140 {n : Nat} {s : SH} (a : Nm) : callD Try.prog AB (n + 1) (.fn 140) [.agg (nm a).toArray] s = some [(.int .u64 a.1, s)] := by
  refine cut_call (fn := Try.f140) rfl rfl (by kernel_rfl) (v := .int .u64 a.1) (fun _ h => by cases h) (.int _ _) ?_
  show One (bodyD Try.prog false _ _ 140 Try.f140 _ s) _
  rw [f140_r]
  have g1 : HP.get (newD s (.row (nm a))).h s.n = some (.row (nm a)) := get_new rfl
  simp only [f140, o_bool, o_alloc, o_box, o_build, o_buildSlice, o_load, o_store, o_nilCheck, o_bop, o_uop, o_conv, o_slc, o_fieldAddr, o_field, o_indexAddr, o_index, o_extract, o_lookup, o_mapUpdate, o_makeMap, o_mapEntry, o_entryStore, o_delete, o_len, o_append, o_min, o_max, o_tgt, bindS, many1, jnE, boolS, gdB, fst', snd', bx_nm, fld135_0, ldn_0 g1]
  exact One.ret ⟨rfl, (Ext.refl s).new _⟩
theorem c142 {n : Nat} {s : SH} (x : Int) : callD Try.prog AB (n + 1) (.fn 142) [.int .u64 x] s = some [(.int .u64 x, s)] := by
  rw [call_fn (fn := Try.f142) rfl rfl (by kernel_rfl)]
  show bodyD Try.prog false _ _ 142 Try.f142 _ s = _
  rw [f142_r]; rfl
def nid (a : Nm) : Int := a.1
theorem c139 {n m : Nat} {s : SH} (xs : List Nm) (hl : xs.length < 2 ^ 62) : callD Try.prog AB (n + 2) (.fn 139) [sl nm m xs, .func (.func 140) #[] #[]] s = some [(.bool (rise (xs.map nid)), s)] := by
  refine cut_call (fn := Try.f139) rfl rfl (by kernel_rfl) (v := .bool (rise (xs.map nid))) (fun _ h => by cases h) (.bool _) ?_
  show One (bodyD Try.prog false _ _ 139 Try.f139 _ s) _
  rw [f139_r]
  simp only [f139, o_bool, o_alloc, o_box, o_build, o_buildSlice, o_load, o_store, o_nilCheck, o_bop, o_uop, o_conv, o_slc, o_fieldAddr, o_field, o_indexAddr, o_index, o_extract, o_lookup, o_mapUpdate, o_makeMap, o_mapEntry, o_entryStore, o_delete, o_len, o_append, o_min, o_max, o_tgt, bindS, many1, jnE, boolS, gdB, fst', snd', len_sl u65]
  refine list_one xs (fun i (x : Value × Value × Value) (s' : SH) => Ext s s' ∧ x.1 = .bool false ∧ x.2.2 = .int .i64 i ∧ ∃ last : Int, x.2.1 = .int .u64 last ∧ riseB 0 (xs.map nid) = riseB last ((xs.drop i).map nid)) ?_ ?_ ⟨.refl s, rfl, rfl, 0, rfl, rfl⟩ (by show xs.length < 2 ^ 64; omega)
  · rintro i hi ⟨x1, x2, x3⟩ s' ⟨he, g0, g1, last, g2, g3⟩ nx hnx
    simp only at g0 g1 g2
    subst g0 g1 g2
    have hlt : (i : Int) < xs.length := by omega
    have hw : IntKind.i64.wrap ((i : Int) + 1) = ((i + 1 : Nat) : Int) := by rw [wrap_i64 (by omega) (by omega)]; rfl
    have hst : storeD Try.prog (newD s' (.row (nm nz))) 135 (.pointer (some ⟨s'.n, 0, none⟩)) (.agg (nm xs[i]).toArray) = some (putD (newD s' (.row (nm nz))) s'.n (.row (nm xs[i]))) := st135 (get_new rfl)
    have ha : HP.get (putD (newD s' (.row (nm nz))) s'.n (.row (nm xs[i]))).h s'.n = some (.row (nm xs[i])) := get_put_same _
    have he2 : Ext s (putD (newD s' (.row (nm nz))) s'.n (.row (nm xs[i]))) := (he.new _).put (by have := he.1; omega) _
    rw [List.drop_eq_getElem_cons hi, List.map_cons, rise_cons] at g3
    simp only [f139_l0, o_bool, o_alloc, o_box, o_build, o_buildSlice, o_load, o_store, o_nilCheck, o_bop, o_uop, o_conv, o_slc, o_fieldAddr, o_field, o_indexAddr, o_index, o_extract, o_lookup, o_mapUpdate, o_makeMap, o_mapEntry, o_entryStore, o_delete, o_len, o_append, o_min, o_max, o_tgt, bindS, many1, jnE, boolS, gdB, fst', snd', bop_lss, hlt, decide_true, condT, ixs65 nm_len hi, ldf_nm, al135, hst, ldn ha, tgt0, c140, bop_leq', bop_add, hw]
    by_cases hq : xs[i].1 ≤ last
    · simp only [hq, decide_true, condT]
      refine One.ret ⟨?_, he2⟩
      have : ¬ last < xs[i].1 := by omega
      rw [decide_eq_false (show ¬ last < nid xs[i] from this), Bool.false_and] at g3
      unfold rise
      rw [g3]; rfl
    · simp only [hq, decide_false, condF]
      refine hnx (_, _, _) _ ⟨he2, rfl, rfl, _, rfl, ?_⟩
      have : last < xs[i].1 := by omega
      rw [g3, decide_eq_true (show last < nid xs[i] from this)]; rfl
  · rintro ⟨x1, x2, x3⟩ s' ⟨he, g0, g1, last, g2, g3⟩ nx
    simp only at g0 g1 g2
    subst g0 g1 g2
    have hnlt : ¬ ((xs.length : Int) < xs.length) := by omega
    rw [List.drop_length] at g3
    simp only [f139_l0, o_bool, o_alloc, o_box, o_build, o_buildSlice, o_load, o_store, o_nilCheck, o_bop, o_uop, o_conv, o_slc, o_fieldAddr, o_field, o_indexAddr, o_index, o_extract, o_lookup, o_mapUpdate, o_makeMap, o_mapEntry, o_entryStore, o_delete, o_len, o_append, o_min, o_max, o_tgt, bindS, many1, jnE, boolS, gdB, fst', snd', bop_lss, hnlt, decide_false, condF, beq_yes, condT, len_sl u65, bop_leq']
    refine One.ret ⟨?_, he⟩
    unfold rise
    rw [g3]
    show Value.bool _ = Value.bool (true && _)
    rw [Bool.true_and, List.length_map]
    congr 1
    exact decide_eq_decide.2 (by omega)
theorem c141 {n m : Nat} {s : SH} (xs : List Int) (hl : xs.length < 2 ^ 62) : callD Try.prog AB (n + 2) (.fn 141) [sl u6 m xs, .func (.func 142) #[] #[]] s = some [(.bool (rise xs), s)] := by
  rw [call_fn (fn := Try.f141) rfl rfl (by kernel_rfl)]
  suffices h : One (bodyD Try.prog false (callD Try.prog AB (n + 1)) AB.N 141 Try.f141 [sl u6 m xs, .func (.func 142) #[] #[]] s) fun w s' => w = .bool (rise xs) ∧ s' = s by
    obtain ⟨w, s', e, rfl, rfl⟩ := h
    exact e
  rw [f141_r]
  simp only [f141, o_bool, o_alloc, o_box, o_build, o_buildSlice, o_load, o_store, o_nilCheck, o_bop, o_uop, o_conv, o_slc, o_fieldAddr, o_field, o_indexAddr, o_index, o_extract, o_lookup, o_mapUpdate, o_makeMap, o_mapEntry, o_entryStore, o_delete, o_len, o_append, o_min, o_max, o_tgt, bindS, many1, jnE, boolS, gdB, fst', snd', len_sl u67]
  refine list_one xs (fun i (x : Value × Value × Value × Value) (s' : SH) => s = s' ∧ x.1 = .bool false ∧ x.2.2.2 = .int .i64 i ∧ ∃ last : Int, x.2.1 = .int .u64 last ∧ riseB 0 xs = riseB last (xs.drop i)) ?_ ?_ ⟨rfl, rfl, rfl, 0, rfl, rfl⟩ (by show xs.length < 2 ^ 64; omega)
  · rintro i hi ⟨x1, x2, x3, x4⟩ s' ⟨rfl, g0, g1, last, g2, g3⟩ nx hnx
    simp only at g0 g1 g2
    subst g0 g1 g2
    have hlt : (i : Int) < xs.length := by omega
    have hw : IntKind.i64.wrap ((i : Int) + 1) = ((i + 1 : Nat) : Int) := by rw [wrap_i64 (by omega) (by omega)]; rfl
    rw [List.drop_eq_getElem_cons hi, rise_cons] at g3
    simp only [f141_l0, o_bool, o_alloc, o_box, o_build, o_buildSlice, o_load, o_store, o_nilCheck, o_bop, o_uop, o_conv, o_slc, o_fieldAddr, o_field, o_indexAddr, o_index, o_extract, o_lookup, o_mapUpdate, o_makeMap, o_mapEntry, o_entryStore, o_delete, o_len, o_append, o_min, o_max, o_tgt, bindS, many1, jnE, boolS, gdB, fst', snd', bop_lss, hlt, decide_true, condT, ixs67 u6_len hi, ld_u6, tgt0, c142, bop_leq', bop_add, hw]
    by_cases hq : xs[i] ≤ last
    · simp only [hq, decide_true, condT]
      refine One.ret ⟨?_, rfl⟩
      have : ¬ last < xs[i] := by omega
      rw [decide_eq_false this, Bool.false_and] at g3
      unfold rise
      rw [g3]; rfl
    · simp only [hq, decide_false, condF]
      refine hnx (_, _, _, _) _ ⟨rfl, rfl, rfl, _, rfl, ?_⟩
      have : last < xs[i] := by omega
      rw [g3, decide_eq_true this]; rfl
  · rintro ⟨x1, x2, x3, x4⟩ s' ⟨rfl, g0, g1, last, g2, g3⟩ nx
    simp only at g0 g1 g2
    subst g0 g1 g2
    have hnlt : ¬ ((xs.length : Int) < xs.length) := by omega
    rw [List.drop_length] at g3
    simp only [f141_l0, o_bool, o_alloc, o_box, o_build, o_buildSlice, o_load, o_store, o_nilCheck, o_bop, o_uop, o_conv, o_slc, o_fieldAddr, o_field, o_indexAddr, o_index, o_extract, o_lookup, o_mapUpdate, o_makeMap, o_mapEntry, o_entryStore, o_delete, o_len, o_append, o_min, o_max, o_tgt, bindS, many1, jnE, boolS, gdB, fst', snd', bop_lss, hnlt, decide_false, condF, beq_yes, condT, len_sl u67, bop_leq']
    refine One.ret ⟨?_, rfl⟩
    unfold rise
    rw [g3]
    show Value.bool _ = Value.bool (true && _)
    rw [Bool.true_and]
    congr 1
    exact decide_eq_decide.2 (by omega)
end Go.Proofs.Ytmhmbmogodofeaa.S
