import Derived.Test.YtmhmbmogodofeaaCYf
set_option autoImplicit false
set_option linter.unusedVariables false
set_option linter.unusedSimpArgs false
set_option maxRecDepth 100000
namespace Go.Proofs.Ytmhmbmogodofeaa.S
open Go.FS Go.RowKit
attribute [local congr] bind_cg cond_cg gd_cg
/-! Make. -/
theorem c85 {n : Nat} {s : SH} (x : Str) : callD Try.prog AB (n + 1) (.fn 85) [encStr x] s = some [(.bool (decide (256 < x.length)), s)] := by
  rw [call_fn (fn := Try.f85) rfl rfl (by kernel_rfl)]
  show bodyD Try.prog false _ _ 85 Try.f85 _ s = _
  rw [f85_r]
  have e : decide ((x.length : Int) > 256) = decide (256 < x.length) := by rw [Bool.eq_iff_iff]; simp; omega
  simp only [f85, o_bool, o_alloc, o_box, o_build, o_buildSlice, o_load, o_store, o_nilCheck, o_bop, o_uop, o_conv, o_slc, o_fieldAddr, o_field, o_indexAddr, o_index, o_extract, o_lookup, o_mapUpdate, o_makeSlice, o_clear, o_makeMap, o_mapEntry, o_entryStore, o_delete, o_len, o_append, o_min, o_max, o_tgt, bindS, many1, jnE, boolS, gdB, fst', snd', len_tx, bop_gtr, e]
theorem c84 {n lo : Nat} {s : SH} {v : Value} {l : List Str} (h : RowS lo s v l) (hl : l.length ≤ 1000000) : callD Try.prog AB (n + 3) (.fn 84) [v, .func (.func 85) #[] #[]] s = some [(.bool (l.any fun x => decide (256 < x.length)), s)] := by
  rw [call_fn (fn := Try.f84) rfl rfl (by kernel_rfl)]
  show bodyD Try.prog false _ _ 84 Try.f84 _ s = _
  rw [f84_r]
  have tg : ∀ args, tgtD (.func (.func 85) #[] #[]) args = some (.fn 85, args) := fun args => by simp [tgtD]
  have h133 : One (callD Try.prog AB (n + 2) (.fn 133) [v, .func (.func 85) #[] #[]] s) fun w s' => s' = s ∧ ∃ i : Int, w = .int .i64 i ∧ decide (i ≥ 0) = l.any fun x => decide (256 < x.length) := by
    rw [call_fn (fn := Try.f133) rfl rfl (by kernel_rfl)]
    show One (bodyD Try.prog false _ _ 133 Try.f133 _ s) _
    rw [f133_r]
    have hRS := h
    obtain ⟨id, c, rfl, h2, h3, h4, z, h5⟩ := h
    simp only [f133, o_bool, o_alloc, o_box, o_build, o_buildSlice, o_load, o_store, o_nilCheck, o_bop, o_uop, o_conv, o_slc, o_fieldAddr, o_field, o_indexAddr, o_index, o_extract, o_lookup, o_mapUpdate, o_makeSlice, o_clear, o_makeMap, o_mapEntry, o_entryStore, o_delete, o_len, o_append, o_min, o_max, o_tgt, bindS, many1, jnE, boolS, gdB, fst', snd', len_rs hRS]
    refine list_one l (fun i (x : Value × Value × Value) (s' : SH) => s' = s ∧ x.2.2 = .int .i64 (i : Int) ∧ ((l.take i).any fun x => decide (256 < x.length)) = false) ?_ ?_ ⟨rfl, rfl, rfl⟩ (by show l.length < 2 ^ 64; omega)
    · rintro i hi ⟨x1, x2, x3⟩ s' ⟨rfl, h2, hn⟩ nx hnx
      simp only at h2
      subst h2
      have hlt : (i : Int) < l.length := by omega
      have hw : IntKind.i64.wrap ((i : Int) + 1) = ((i + 1 : Nat) : Int) := by rw [wrap_i64 (by omega) (by omega)]; rfl
      simp only [f133_l0, o_bool, o_alloc, o_box, o_build, o_buildSlice, o_load, o_store, o_nilCheck, o_bop, o_uop, o_conv, o_slc, o_fieldAddr, o_field, o_indexAddr, o_index, o_extract, o_lookup, o_mapUpdate, o_makeSlice, o_clear, o_makeMap, o_mapEntry, o_entryStore, o_delete, o_len, o_append, o_min, o_max, o_tgt, bindS, many1, jnE, boolS, gdB, fst', snd', bop_lss, hlt, decide_true, condT, ix_rs hi, ld_rs hi h5, tg, c85]
      by_cases hg : 256 < l[i].length
      · simp only [hg, decide_true, condT]
        refine One.ret ⟨rfl, (i : Int), rfl, ?_⟩
        rw [decide_eq_true (show (i : Int) ≥ 0 by omega)]
        symm
        rw [List.any_eq_true]
        exact ⟨l[i], List.getElem_mem hi, by simpa using hg⟩
      · simp only [hg, decide_false, condF, bop_add, bindS, hw]
        refine hnx (_, _, _) _ ⟨rfl, rfl, ?_⟩
        rw [List.take_succ_eq_append_getElem hi, List.any_append, hn]
        simp [hg]
    · rintro ⟨x1, x2, x3⟩ s' ⟨rfl, h2, hn⟩ nx
      simp only at h2
      subst h2
      have hnlt : ¬ ((l.length : Int) < l.length) := by omega
      rw [List.take_length] at hn
      simp only [f133_l0, o_bool, o_alloc, o_box, o_build, o_buildSlice, o_load, o_store, o_nilCheck, o_bop, o_uop, o_conv, o_slc, o_fieldAddr, o_field, o_indexAddr, o_index, o_extract, o_lookup, o_mapUpdate, o_makeSlice, o_clear, o_makeMap, o_mapEntry, o_entryStore, o_delete, o_len, o_append, o_min, o_max, o_tgt, bindS, many1, jnE, boolS, gdB, fst', snd', bop_lss, hnlt, decide_false, condF, beq_yes, condT]
      exact One.ret ⟨rfl, -1, rfl, by rw [hn]; rfl⟩
  obtain ⟨w, s', e, rfl, i, rfl, hi⟩ := h133
  simp only [f84, o_bool, o_alloc, o_box, o_build, o_buildSlice, o_load, o_store, o_nilCheck, o_bop, o_uop, o_conv, o_slc, o_fieldAddr, o_field, o_indexAddr, o_index, o_extract, o_lookup, o_mapUpdate, o_makeSlice, o_clear, o_makeMap, o_mapEntry, o_entryStore, o_delete, o_len, o_append, o_min, o_max, o_tgt, bindS, many1, jnE, boolS, gdB, fst', snd', e, bop_geq, hi]
def bad (l : List Str) : Bool := decide (4096 < (mkT l).length) || (mkT l).any fun x => decide (256 < x.length)
def tab (l : List Str) : Value := .agg #[sl tx 0 l]
def tab0 : Value := .agg #[sl tx 2 []]
theorem bld48r (id k c : Nat) : buildD Try.prog 48 [(0, rs id k c)] = some (.agg #[rs id k c]) := by kernel_rfl
theorem bld48s (m : Nat) (l : List Str) : buildD Try.prog 48 [(0, sl tx m l)] = some (.agg #[sl tx m l]) := by kernel_rfl
theorem bld50r (id k c : Nat) : buildD Try.prog 50 [(0, .agg #[rs id k c])] = some (.agg #[rs id k c]) := by kernel_rfl
theorem bld50s (m : Nat) (l : List Str) : buildD Try.prog 50 [(0, .agg #[sl tx m l])] = some (.agg #[sl tx m l]) := by kernel_rfl
theorem bld50_0 : buildD Try.prog 50 [] = some tab0 := by kernel_rfl
theorem st50 {s : SH} {v : Value} {r : List Value} {id : Nat} (h : HP.get s.h id = some (.row r)) (hr : r.length = 1) (h1 : oneC v = true) : storeD Try.prog s 50 (.pointer (some ⟨id, 0, none⟩)) (.agg #[v]) = some (putD s id (.row [v])) := by
  rw [store_row (l := [v]) z50 h rfl rfl (by simp [h1]) (by omega)]
  match r, hr with
  | [x], _ => rfl
theorem ld50 {s : SH} {v : Value} {id : Nat} (h : HP.get s.h id = some (.row [v])) : loadD Try.prog s 50 (.pointer (some ⟨id, 0, none⟩)) = some (.agg #[v]) := by
  rw [load_row h, part_agg (l := [v]) a50 z50 rfl rfl]
theorem ld48 {s : SH} {v : Value} {id : Nat} (h : HP.get s.h id = some (.row [v])) : loadD Try.prog s 48 (.pointer (some ⟨id, 0, none⟩)) = some (.agg #[v]) := by
  rw [load_row h, part_agg (l := [v]) a48 z48 rfl rfl]
theorem ld45 {s : SH} {v : Value} {id : Nat} (h : HP.get s.h id = some (.row [v])) : loadD Try.prog s 45 (.pointer (some ⟨id, 0, none⟩)) = some v := by
  rw [load_row h, part_one a45]; rfl
theorem al50 (s : SH) : allocD Try.prog s 50 = some (.pointer (some ⟨s.n, 0, none⟩), newD s (.row [fzV 2 #[]])) := alloc_at zr50
theorem enc_str (n : Nat) (x : Str) : (tx x).map (stripN 6 n) = tx x := rfl
theorem enc_bel (n : Nat) (x : Str) : ∀ v ∈ tx x, Bel n v := fun v hv => by
  simp only [tx, List.mem_cons, List.not_mem_nil, or_false] at hv
  subst hv; exact .string _
theorem strip_tab (n m : Nat) (l : List Str) (hm : m < 3) : stripN 8 n (.agg #[sl tx m l]) = .agg #[sl tx m l] := by
  show Value.agg #[stripN 7 n (sl tx m l)] = _
  have := strip_nest (k := 5) (n := n) (enc := tx) (f := id) (fun x => rfl) m l
  rw [List.map_id] at this
  rw [this]
  have : Nat.blt m (n + 3) = true := by rw [blt_dec, decide_eq_true]; omega
  rw [this]; rfl
theorem bel_tab (n m : Nat) (l : List Str) (hm : m < 3) : Bel n (.agg #[sl tx m l]) := .agg _ fun x hx => by
  simp only [List.mem_cons, List.not_mem_nil, or_false] at hx
  subst hx
  exact bel_slm (by omega) fun x _ => enc_bel n x
theorem frz_rs {s : SH} {lo : Nat} {v : Value} {l : List Str} (h : RowS lo s v l) : ∃ id, lo ≤ id ∧ frz1 lo s v = (sl tx 0 l, delD s id) := by
  obtain ⟨id, c, rfl, h2, h3, h4, z, h5⟩ := h
  refine ⟨id, h2, ?_⟩
  unfold frz1
  simp only
  rw [if_pos ⟨h2, by omega⟩, h4, take_rs h5]
  simp only
  rw [if_pos (one_str l)]
  congr 1
  show fzV 0 (chunkL 1 l.length (l.map encStr)).toArray = fzV 0 ((l.map tx).map fun e => Value.agg e.toArray).toArray
  congr 2
  refine List.ext_getElem (by simp [chunkL]) fun i h1 h2 => ?_
  simp only [chunkL_len] at h1
  simp [chunkL, List.take_one, h1, tx]
/-- Make: the texts in their order, each once; or too many or too long. -/
theorem c32 {n : Nat} {s : SH} {v : Value} {l : List Str} (h : TxIn s v l) (hl : l.length ≤ 1000000) : callD Try.prog AB (n + 5) (.fn 32) [v] s = some [(if bad l then .tuple #[tab0, .int .i64 3] else .tuple #[tab (mkT l), .int .i64 0], s)] := by
  have hcl : ∀ (A B : Value), (A = tab0 ∧ B = .int .i64 3 ∧ bad l = true ∨ A = tab (mkT l) ∧ B = .int .i64 0 ∧ bad l = false) → ((if bad l then .tuple #[tab0, .int .i64 3] else .tuple #[tab (mkT l), .int .i64 0]) : Value) = .tuple ([A, B].map (stripN 8 s.n)).toArray ∧ ∀ c ∈ [A, B], Bel s.n (stripN 8 s.n c) := by
    rintro A B (⟨rfl, rfl, e⟩ | ⟨rfl, rfl, e⟩)
    · rw [e]
      have e1 : stripN 8 s.n tab0 = tab0 := strip_tab _ _ _ (by omega)
      refine ⟨by simp only [List.map_cons, List.map_nil, e1]; rfl, fun c hc => ?_⟩
      simp only [List.mem_cons, List.not_mem_nil, or_false] at hc
      rcases hc with rfl | rfl
      · rw [e1]; exact bel_tab _ _ _ (by omega)
      · exact .int _ _
    · rw [e]
      have e1 : stripN 8 s.n (tab (mkT l)) = tab (mkT l) := strip_tab _ _ _ (by omega)
      refine ⟨by simp only [List.map_cons, List.map_nil, e1]; rfl, fun c hc => ?_⟩
      simp only [List.mem_cons, List.not_mem_nil, or_false] at hc
      rcases hc with rfl | rfl
      · rw [e1]; exact bel_tab _ _ _ (by omega)
      · exact .int _ _
  have main : One (bodyD Try.prog (AB.row 32) (callD Try.prog AB (n + 4)) AB.N 32 Try.f32 [v] s) fun v' s' => ∃ a, v' = .tuple a ∧ ∃ A B s2, (A = tab0 ∧ B = .int .i64 3 ∧ bad l = true ∨ A = tab (mkT l) ∧ B = .int .i64 0 ∧ bad l = false) ∧ frzL (frz2 s.n) a.toList s' = ([A, B], s2) ∧ Ext s s2 := by
    show One (bodyD Try.prog false _ _ 32 Try.f32 _ s) _
    rw [f32_r]
    have hS1 : Sm s.n s (newD s (.row [fzV 2 #[]])) := (Sm.refl _ _).new (Nat.le_refl _) _
    have hn1 : (newD s (.row [fzV 2 #[]])).n = s.n + 1 := rfl
    obtain ⟨w, s1, e1, r1, k1⟩ := c81 (n := n + 3) (h.same hS1) hl
    rw [hn1] at r1 k1
    obtain ⟨w2, s2, e2, r2, k2⟩ := c82 (n := n + 3) r1 hl
    have hlen := (isrt_perm l).length_eq
    obtain ⟨w3, s3, e3, r3, k3⟩ := c83 (n := n + 3) r2 (by omega)
    have hg0 : HP.get s3.h s.n = some (.row [fzV 2 #[]]) := by
      rw [k3.2 _ (by omega), k2.2 _ (by omega), k1.2 _ (by omega)]; exact get_new rfl
    have hS3 : Sm s.n s s3 := (((hS1.trans (Sm.weak k1 (by omega) |> fun (h : Sm s.n _ _) => h)).trans (⟨k2.1, fun j hj => k2.2 j (by omega)⟩)).trans ⟨k3.1, fun j hj => k3.2 j (by omega)⟩)
    have h84 := c84 (n := n + 1) r3 (show (mkT l).length ≤ 1000000 from Nat.le_trans (mkT_len l) hl)
    have hone : oneC w3 = true := by
      obtain ⟨id, c, rfl, _⟩ := r3; rfl
    have hw3 : ∃ id k c, w3 = rs id k c := by
      obtain ⟨id, c, rfl, _⟩ := r3
      exact ⟨_, _, _, rfl⟩
    have fin3 : ∀ s4, Sm s.n s s4 → bad l = true → One (some [((.tuple #[tab0, .int .i64 3] : Value), s4)]) fun v' s' => ∃ a, v' = .tuple a ∧ ∃ A B s2, (A = tab0 ∧ B = .int .i64 3 ∧ bad l = true ∨ A = tab (mkT l) ∧ B = .int .i64 0 ∧ bad l = false) ∧ frzL (frz2 s.n) a.toList s' = ([A, B], s2) ∧ Ext s s2 := fun s4 h4 hb =>
      One.ret ⟨_, rfl, tab0, .int .i64 3, s4, .inl ⟨rfl, rfl, hb⟩, rfl, h4⟩
    have hml : (mkT l).length = (cpt (isrt l)).length := rfl
    have l3 : ∀ s', lenOfD Try.prog s' 45 w3 = some (.int .i64 (mkT l).length) := fun s' => len_rs r3
    have st0 : ∀ x : SH, HP.get x.h s.n = some (.row [fzV 2 #[]]) → storeD Try.prog x 50 (.pointer (some ⟨s.n, 0, none⟩)) tab0 = some (putD x s.n (.row [sl tx 2 []])) := fun x hx => st50 hx rfl rfl
    have ld0 : ∀ x : SH, loadD Try.prog (putD x s.n (.row [sl tx 2 []])) 50 (.pointer (some ⟨s.n, 0, none⟩)) = some tab0 := fun x => ld50 (get_put_same _)
    by_cases hg : 4096 < (mkT l).length
    · have hgt : ((mkT l).length : Int) > 4096 := by omega
      simp only [f32, o_bool, o_alloc, o_box, o_build, o_buildSlice, o_load, o_store, o_nilCheck, o_bop, o_uop, o_conv, o_slc, o_fieldAddr, o_field, o_indexAddr, o_index, o_extract, o_lookup, o_mapUpdate, o_makeSlice, o_clear, o_makeMap, o_mapEntry, o_entryStore, o_delete, o_len, o_append, o_min, o_max, o_tgt, bindS, many1, jnE, boolS, gdB, fst', snd', al50, e1, e2, e3, l3, bop_gtr, hgt, decide_true, condT, bld50_0, st0 _ hg0, ld0]
      exact fin3 _ (hS3.put (Nat.le_refl _) _) (by unfold bad; rw [decide_eq_true hg]; rfl)
    · have hngt : ¬ ((mkT l).length : Int) > 4096 := by omega
      cases hany : (mkT l).any fun x => decide (256 < x.length) with
      | true =>
        have h84 : callD Try.prog AB (n + 1 + 3) (.fn 84) [w3, .func (.func 85) #[] #[]] s3 = some [(.bool true, s3)] := by rw [h84]; show some [(Value.bool ((mkT l).any fun x => decide (256 < x.length)), s3)] = _; rw [hany]
        simp only [f32, o_bool, o_alloc, o_box, o_build, o_buildSlice, o_load, o_store, o_nilCheck, o_bop, o_uop, o_conv, o_slc, o_fieldAddr, o_field, o_indexAddr, o_index, o_extract, o_lookup, o_mapUpdate, o_makeSlice, o_clear, o_makeMap, o_mapEntry, o_entryStore, o_delete, o_len, o_append, o_min, o_max, o_tgt, bindS, many1, jnE, boolS, gdB, fst', snd', al50, e1, e2, e3, l3, bop_gtr, hngt, decide_false, condF, h84, condT, bld50_0, st0 _ hg0, ld0]
        exact fin3 _ (hS3.put (Nat.le_refl _) _) (by unfold bad; rw [hany, Bool.or_true])
      | false =>
        have h84 : callD Try.prog AB (n + 1 + 3) (.fn 84) [w3, .func (.func 85) #[] #[]] s3 = some [(.bool false, s3)] := by rw [h84]; show some [(Value.bool ((mkT l).any fun x => decide (256 < x.length)), s3)] = _; rw [hany]
        have hb : bad l = false := by unfold bad; rw [hany, decide_eq_false hg]; rfl
        obtain ⟨id, k, c, rfl⟩ := hw3
        have st1 : storeD Try.prog s3 50 (.pointer (some ⟨s.n, 0, none⟩)) (.agg #[rs id k c]) = some (putD s3 s.n (.row [rs id k c])) := st50 hg0 rfl rfl
        have ld1 : loadD Try.prog (putD s3 s.n (.row [rs id k c])) 50 (.pointer (some ⟨s.n, 0, none⟩)) = some (.agg #[rs id k c]) := ld50 (get_put_same _)
        simp only [f32, o_bool, o_alloc, o_box, o_build, o_buildSlice, o_load, o_store, o_nilCheck, o_bop, o_uop, o_conv, o_slc, o_fieldAddr, o_field, o_indexAddr, o_index, o_extract, o_lookup, o_mapUpdate, o_makeSlice, o_clear, o_makeMap, o_mapEntry, o_entryStore, o_delete, o_len, o_append, o_min, o_max, o_tgt, bindS, many1, jnE, boolS, gdB, fst', snd', al50, e1, e2, e3, l3, bop_gtr, hngt, decide_false, condF, h84, condT, bld48r, bld50r, st1, ld1]
        have r4 : RowS s.n (putD s3 s.n (.row [rs id k c])) (rs id k c) (mkT l) := by
          obtain ⟨id', c', he, q2, q3, q4, z, q5⟩ := r3
          exact ⟨id', c', he, by omega, q3, q4, z, by rw [get_put_other (by omega)]; exact q5⟩
        obtain ⟨id2, hid2, hf⟩ := frz_rs r4
        refine One.ret ⟨_, rfl, tab (mkT l), .int .i64 0, delD (putD s3 s.n (.row [rs id k c])) id2, .inr ⟨rfl, rfl, hb⟩, ?_, ?_⟩
        · show ((frz2 s.n (putD s3 s.n (.row [rs id k c])) (.agg #[rs id k c])).1 :: [Value.int .i64 0], (frz2 s.n (putD s3 s.n (.row [rs id k c])) (.agg #[rs id k c])).2) = _
          have e4 : frz2 s.n (putD s3 s.n (.row [rs id k c])) (.agg #[rs id k c]) = (tab (mkT l), delD (putD s3 s.n (.row [rs id k c])) id2) := by
            show (Value.agg ((frz1 s.n (putD s3 s.n (.row [rs id k c])) (rs id k c)).1 :: []).toArray, (frz1 s.n (putD s3 s.n (.row [rs id k c])) (rs id k c)).2) = _
            rw [hf]; rfl
          rw [e4]
        · have hP : Sm s.n s (putD s3 s.n (.row [rs id k c])) := hS3.put (Nat.le_refl _) _
          refine ⟨hP.1, fun j hj => ?_⟩
          rw [get_del (by omega)]
          exact hP.2 j hj
  obtain ⟨v', s', e, a, rfl, A, B, s2, hAB, hf, hx⟩ := main
  rw [(hcl A B hAB).1]
  exact cutT_call rfl rfl (by kernel_rfl) (hcl A B hAB).2 ⟨_, _, e, a, rfl, s2, hf, hx⟩
end Go.Proofs.Ytmhmbmogodofeaa.S
