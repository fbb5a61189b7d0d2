import Derived.Test.YtmhmbmogodofeaaCYd
set_option autoImplicit false
set_option linter.unusedVariables false
set_option linter.unusedSimpArgs false
set_option maxRecDepth 100000
namespace Go.Proofs.Ytmhmbmogodofeaa.S
open Go.FS Go.RowKit
attribute [local congr] bind_cg cond_cg gd_cg
/-! few; Clone; Sort. -/
def fewS (l : List Str) : List Str := (l.take 60).map (·.take 257)
theorem fewS_len (l : List Str) : (fewS l).length ≤ 60 := by unfold fewS; rw [List.length_map, List.length_take]; omega
theorem fewS_all {l : List Str} {x : Str} (h : x ∈ fewS l) : x.length ≤ 257 := by
  obtain ⟨y, _, rfl⟩ := List.mem_map.1 h
  rw [List.length_take]; omega
theorem ixt45 {m i : Nat} {k : IntKind} {xs : List Str} (hi : i < xs.length) : indexAddrD Try.prog 45 (sl tx m xs) (.int k (i : Int)) = some (fpV (tx xs[i]).toArray 0) := ixs45 tx_len hi
theorem ld_tx {s : SH} (x : Str) : loadD Try.prog s 9 (fpV (tx x).toArray 0) = some (encStr x) := by rw [load_fp, part_one a9]; rfl
theorem c31 {n m : Nat} {s : SH} (l : List Str) : ∃ v s', callD Try.prog AB (n + 1) (.fn 31) [sl tx m l] s = some [(v, s')] ∧ RowE s.n s' v (fewS l) ∧ Sm s.n s s' := by
  rw [call_fn (fn := Try.f31) rfl rfl (by kernel_rfl)]
  suffices h : One (bodyD Try.prog true (callD Try.prog AB n) AB.N 31 Try.f31 [sl tx m l] s) fun w s' => RowE s.n s' w (fewS l) ∧ Sm s.n s s' by
    obtain ⟨w, s', e, h1, h2⟩ := h
    exact ⟨w, s', e, h1, h2⟩
  rw [f31_r]
  simp only [f31, o_bool, o_alloc, o_box, o_build, o_buildSlice, o_load, o_store, o_nilCheck, o_bop, o_uop, o_conv, o_slc, o_fieldAddr, o_field, o_indexAddr, o_index, o_extract, o_lookup, o_mapUpdate, o_makeSlice, o_clear, o_makeMap, o_mapEntry, o_entryStore, o_delete, o_len, o_append, o_min, o_max, o_tgt, bindS, many1, jnE, boolS, gdB, fst', snd', bs45_0]
  refine list_one (l.take 60) (fun i (x : Value × Value) (s' : SH) => Sm s.n s s' ∧ x.2 = .int .i64 i ∧ RowE s.n s' x.1 ((l.take i).map (·.take 257))) ?_ ?_ ⟨(Sm.refl _ _).new (Nat.le_refl _) _, rfl, rowE_new⟩ (by rw [List.length_take]; show _ < 2 ^ 64; omega)
  · rintro i hi ⟨x1, x2⟩ s' ⟨hsm, h2, hg⟩ nx hnx
    simp only at h2 hg
    subst h2
    rw [List.length_take] at hi
    have hi1 : i < l.length := by omega
    have hlt : (i : Int) < l.length := by omega
    have hlt2 : (i : Int) < 60 := by omega
    have hw : IntKind.i64.wrap ((i : Int) + 1) = ((i + 1 : Nat) : Int) := by rw [wrap_i64 (by omega) (by omega)]; rfl
    have hts : (l.take (i + 1)).map (·.take 257) = (l.take i).map (·.take 257) ++ [l[i].take (min l[i].length 257)] := by
      rw [List.take_succ_eq_append_getElem hi1, List.map_append]
      congr 1
      show [l[i].take 257] = _
      by_cases h : l[i].length ≤ 257
      · rw [Nat.min_eq_left h, List.take_length, List.take_of_length_le h]
      · rw [Nat.min_eq_right (by omega)]
    have hln : ((l.take i).map (·.take 257)).length = i := by rw [List.length_map, List.length_take]; omega
    have hS1 : Sm s'.n s' (newD s' (.row [encStr (l[i].take (min l[i].length 257))])) := (Sm.refl _ _).new (Nat.le_refl _) _
    have hR1 := rowE_one (s := s') (l[i].take (min l[i].length 257))
    obtain ⟨v', s3, e1, w1, w2⟩ := app_rs' (md := true) (hg.same hS1) (by have := hsm.1; have := hS1.1; omega) (len_D hR1.s) (cells_rs hR1.s) (by rw [hln]; simp only [List.length_singleton]; omega)
    simp only [f31_l0, o_bool, o_alloc, o_box, o_build, o_buildSlice, o_load, o_store, o_nilCheck, o_bop, o_uop, o_conv, o_slc, o_fieldAddr, o_field, o_indexAddr, o_index, o_extract, o_lookup, o_mapUpdate, o_makeSlice, o_clear, o_makeMap, o_mapEntry, o_entryStore, o_delete, o_len, o_append, o_min, o_max, o_tgt, bindS, many1, jnE, boolS, gdB, fst', snd', len_sl u45, bop_lss, hlt, hlt2, decide_true, condT, ixt45 hi1, ld_tx, len_tx, min257, slc_tx _ _ (Nat.min_le_left _ 257), bs45_1, e1, bop_add, hw]
    refine hnx (_, _) _ ⟨(hsm.trans (Sm.weak hS1 hsm.1)).trans w2, rfl, ?_⟩
    rw [hts]; exact w1
  · rintro ⟨x1, x2⟩ s' ⟨hsm, h2, hg⟩ nx
    simp only at h2 hg
    subst h2
    rw [List.length_take] at hg ⊢
    have hgo : RowE s.n s' x1 (fewS l) := by
      have : fewS l = (l.take (min 60 l.length)).map (·.take 257) := by
        unfold fewS
        congr 1
        by_cases h : 60 ≤ l.length
        · rw [Nat.min_eq_left h]
        · rw [Nat.min_eq_right (by omega), List.take_length, List.take_of_length_le (by omega)]
      rw [this]; exact hg
    by_cases h : l.length ≤ 60
    · have hnlt : ¬ (((min 60 l.length : Nat) : Int) < l.length) := by omega
      simp only [f31_l0, o_bool, o_alloc, o_box, o_build, o_buildSlice, o_load, o_store, o_nilCheck, o_bop, o_uop, o_conv, o_slc, o_fieldAddr, o_field, o_indexAddr, o_index, o_extract, o_lookup, o_mapUpdate, o_makeSlice, o_clear, o_makeMap, o_mapEntry, o_entryStore, o_delete, o_len, o_append, o_min, o_max, o_tgt, bindS, many1, jnE, boolS, gdB, fst', snd', len_sl u45, bop_lss, hnlt, decide_false, condF, beq_yes, condT]
      exact One.ret ⟨hgo, hsm⟩
    · have hlt : ((min 60 l.length : Nat) : Int) < l.length := by omega
      have hnlt2 : ¬ (((min 60 l.length : Nat) : Int) < 60) := by omega
      simp only [f31_l0, o_bool, o_alloc, o_box, o_build, o_buildSlice, o_load, o_store, o_nilCheck, o_bop, o_uop, o_conv, o_slc, o_fieldAddr, o_field, o_indexAddr, o_index, o_extract, o_lookup, o_mapUpdate, o_makeSlice, o_clear, o_makeMap, o_mapEntry, o_entryStore, o_delete, o_len, o_append, o_min, o_max, o_tgt, bindS, many1, jnE, boolS, gdB, fst', snd', len_sl u45, bop_lss, hlt, hnlt2, decide_true, decide_false, condF, beq_yes, condT]
      exact One.ret ⟨hgo, hsm⟩
/-- Texts in hand: a row, or some texts that are borne. -/
def TxIn (s : SH) (v : Value) (l : List Str) : Prop := (∃ lo, RowS lo s v l) ∨ ∃ m, v = sl tx m l ∧ l ≠ []
theorem TxIn.same {s s' : SH} {v : Value} {l : List Str} (h : TxIn s v l) (k : Sm s.n s s') : TxIn s' v l := by
  rcases h with ⟨lo, h⟩ | h
  · exact .inl ⟨lo, h.same k⟩
  · exact .inr h
theorem TxIn.cells {s : SH} {v : Value} {l : List Str} (h : TxIn s v l) : cellsD s 1 l.length v = some (l.map encStr) := by
  rcases h with ⟨lo, h⟩ | ⟨m, rfl, _⟩
  · exact cells_rs h
  · exact cells_sl _ _ _
theorem TxIn.len {s : SH} {v : Value} {l : List Str} (h : TxIn s v l) : lenD v = some l.length := by
  rcases h with ⟨lo, h⟩ | ⟨m, rfl, _⟩
  · exact len_D h
  · exact len_Dsl _ _
theorem TxIn.nil {s : SH} {v : Value} {l : List Str} (h : TxIn s v l) : bopD Try.prog .eql 45 v (fzV 2 #[]) = some (.bool false) := by
  rcases h with ⟨lo, id, c, rfl, _⟩ | ⟨m, rfl, hne⟩
  · show ((binD Try.prog .eql 45 (rs id l.length c) (fzV 2 #[])).or (nilD Try.prog .eql 45 (rs id l.length c) (fzV 2 #[]))) = _
    have e1 : binD Try.prog .eql 45 (rs id l.length c) (fzV 2 #[]) = none := rfl
    have e2 : nilD Try.prog .eql 45 (rs id l.length c) (fzV 2 #[]) = some (.bool false) := by
      simp only [nilD, u45, nilEq]
      rfl
    rw [e1, e2]; rfl
  · show ((binD Try.prog .eql 45 (sl tx m l) (fzV 2 #[])).or (nilD Try.prog .eql 45 (sl tx m l) (fzV 2 #[]))) = _
    have e1 : binD Try.prog .eql 45 (sl tx m l) (fzV 2 #[]) = none := rfl
    have e2 : nilD Try.prog .eql 45 (sl tx m l) (fzV 2 #[]) = some (.bool false) := by
      have hs : Nat.blt 0 ((l.map tx).map fun e => Value.agg e.toArray).toArray.size = true := by
        rw [blt_dec, decide_eq_true]
        simp only [List.size_toArray, List.length_map]
        exact List.length_pos_iff.2 hne
      simp only [nilD, u45]
      show (bif (Nat.blt 0 ((l.map tx).map fun e => Value.agg e.toArray).toArray.size && isFz ((l.map tx).map fun e => Value.agg e.toArray).toArray && Nat.beq #[].size 0) then some (Value.bool false) else _) = _
      rw [hs, isFz_fz]; rfl
    rw [e1, e2]; rfl
theorem c81 {n : Nat} {s : SH} {v : Value} {l : List Str} (h : TxIn s v l) (hl : l.length ≤ 1000000) : ∃ w s', callD Try.prog AB (n + 1) (.fn 81) [v] s = some [(w, s')] ∧ RowE s.n s' w l ∧ Sm s.n s s' := by
  rw [call_fn (fn := Try.f81) rfl rfl (by kernel_rfl)]
  show ∃ w s', bodyD Try.prog true _ _ 81 Try.f81 _ s = _ ∧ _
  rw [f81_r]
  have hS1 : Sm s.n s (newD s (.row [])) := (Sm.refl _ _).new (Nat.le_refl _) _
  have h1 := h.same hS1
  obtain ⟨v', s3, e1, w1, w2⟩ := app_rs' (md := true) rowE_new hS1.1 h1.len h1.cells (by simp only [List.length_nil]; omega)
  simp only [f81, o_bool, o_alloc, o_box, o_build, o_buildSlice, o_load, o_store, o_nilCheck, o_bop, o_uop, o_conv, o_slc, o_fieldAddr, o_field, o_indexAddr, o_index, o_extract, o_lookup, o_mapUpdate, o_makeSlice, o_clear, o_makeMap, o_mapEntry, o_entryStore, o_delete, o_len, o_append, o_min, o_max, o_tgt, bindS, many1, jnE, boolS, gdB, fst', snd', h.nil, condF, bs45_0, e1]
  exact ⟨v', s3, rfl, by rw [List.nil_append] at w1; exact w1, hS1.trans w2⟩
theorem strsOf_enc : ∀ (l : List Str), T.strsOf l.length (l.map encStr) = some l
  | [] => rfl
  | x :: l => by
    show (T.strsOf l.length (l.map encStr)).map _ = _
    rw [strsOf_enc l]; rfl
theorem c82 {n lo : Nat} {s : SH} {v : Value} {l : List Str} (h : RowE lo s v l) (hl : l.length ≤ 1000000) : ∃ w s', callD Try.prog AB (n + 1) (.fn 82) [v] s = some [(w, s')] ∧ RowE lo s' v (isrt l) ∧ Sm lo s s' := by
  rw [call_i (i := T.iSort) rfl]
  have hlen := (isrt_perm l).length_eq
  obtain ⟨id, c, rfl, h2, h3, h4, h5⟩ := h
  match hl0 : l.length with
  | 0 =>
    have : l = [] := List.length_eq_zero_iff.1 hl0
    subst this
    exact ⟨.tuple #[], s, rfl, ⟨id, c, rfl, h2, h3, h4, h5⟩, .refl _ _⟩
  | k + 1 =>
    refine ⟨.tuple #[], putD s id (.row ((isrt l).map encStr)), ?_, ⟨id, c, by rw [hlen, hl0], h2, h3, h4, get_put_same _⟩, (Sm.refl _ _).put h2 _⟩
    show ((((rowD s id).bind fun r => (T.strsOf (k + 1) r).bind fun L => bif Nat.beq r.length (k + 1) && Nat.ble (k + 1) 1000000 then some (Value.tuple #[], putD s id (.row ((T.sortL L).map encStr))) else none)).map fun p => [p]) = _
    have hs := strsOf_enc l
    rw [hl0] at hs hl
    have e1 : Nat.beq (l.map encStr).length (k + 1) = true := by rw [List.length_map, hl0]; exact beq_yes _
    rw [row_of h5, bindS, hs, bindS, e1, Nat.ble_eq_true_of_le hl]
    rfl
end Go.Proofs.Ytmhmbmogodofeaa.S
