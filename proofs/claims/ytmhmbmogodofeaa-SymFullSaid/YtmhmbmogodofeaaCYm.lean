import Derived.Test.YtmhmbmogodofeaaCYl
set_option autoImplicit false
set_option linter.unusedVariables false
set_option linter.unusedSimpArgs false
set_option maxRecDepth 100000
namespace Go.Proofs.Ytmhmbmogodofeaa.S
open Go.FS Go.RowKit
attribute [local congr] bind_cg cond_cg gd_cg
/-! The statement SymNumbers. -/
theorem cells_off {s : SH} {id o n c : Nat} {l : List Str} (hc : c / 2 = 1) (h : HP.get s.h id = some (.row (l.map encStr))) (ho : o + n ≤ l.length) : cellsD s 1 n (.slice (some ⟨id, o, none⟩) n c) = some (((l.drop o).take n).map encStr) := by
  show (bif Nat.ble n n && Nat.beq (c / 2) 1 then (bif Nat.beq n 0 then some [] else (rowD s id).bind fun r => takeD r o (n * 1)) else none) = _
  rw [Nat.ble_eq_true_of_le (Nat.le_refl _), hc, beq_yes, Bool.and_self, condT]
  by_cases h0 : n = 0
  · subst h0; rfl
  · rw [beq_no h0, condF, row_of h, bindS]
    unfold takeD
    have e : (((l.map encStr).drop o).take (n * 1)) = ((l.drop o).take n).map encStr := by rw [Nat.mul_one, List.map_take, List.map_drop]
    have hl : Nat.beq (((l.drop o).take n).map encStr).length (n * 1) = true := by
      have : (((l.drop o).take n).map encStr).length = n * 1 := by rw [List.length_map, List.length_take, List.length_drop]; omega
      rw [this]; exact beq_yes _
    rw [e, hl, condT]
/-- The text ahead of the i-th. -/
def prevT (T : List Str) (i : Nat) : Str := (T.take i).getLastD []
theorem prevT_succ {T : List Str} {i : Nat} (h : i < T.length) : prevT T (i + 1) = T[i] := getLastD_take h
theorem run8 {n m : Nat} (s : SH) (l : List Str) (by_ : Int) : ∃ s', callD Try.prog AB (n + 9) (.fn 8) [sl tx m l, .int .i64 by_] s = some [(.bool true, s')] := by
  rw [call_fn (fn := Try.f8) rfl rfl (by kernel_rfl)]
  show ∃ s', bodyD Try.prog true _ _ 8 Try.f8 _ s = _
  rw [f8_r]
  obtain ⟨w, s1, e1, r1, k1⟩ := c31 (n := n + 7) (m := m) (s := s) l
  have hlen := fewS_len l
  have h32 := c32 (n := n + 3) (s := s1) (.inl ⟨_, r1.s⟩ : TxIn s1 w (fewS l)) (by omega)
  have hb := bad_ok (l := fewS l)
  have hris := mkT_ris (fewS l)
  generalize fewS l = L at e1 r1 hlen h32 hb hris
  cases hbad : bad L with
  | true =>
    rw [hbad, if_pos rfl] at h32
    have st0 : storeD Try.prog (newD s1 (.row [fzV 2 #[]])) 50 (.pointer (some ⟨s1.n, 0, none⟩)) tab0 = some (putD (newD s1 (.row [fzV 2 #[]])) s1.n (.row [sl tx 2 []])) := st50 (get_new rfl) rfl rfl
    have ld0 : loadD Try.prog (putD (newD s1 (.row [fzV 2 #[]])) s1.n (.row [sl tx 2 []])) 48 (.pointer (some ⟨s1.n, 0, none⟩)) = some tab0 := ld48 (get_put_same _)
    have h33 := c33 (n := n + 7) (m := 2) (s := putD (newD s1 (.row [fzV 2 #[]])) s1.n (.row [sl tx 2 []])) []
    have h33 : callD Try.prog AB (n + 8) (.fn 33) [tab0] (putD (newD s1 (.row [fzV 2 #[]])) s1.n (.row [sl tx 2 []])) = some [(.int .i64 (([] : List Str).length : Int), putD (newD s1 (.row [fzV 2 #[]])) s1.n (.row [sl tx 2 []]))] := h33
    simp only [f8, o_bool, o_alloc, o_box, o_build, o_buildSlice, o_load, o_store, o_nilCheck, o_bop, o_uop, o_conv, o_slc, o_fieldAddr, o_field, o_indexAddr, o_index, o_extract, o_lookup, o_mapUpdate, o_makeSlice, o_clear, o_makeMap, o_mapEntry, o_entryStore, o_delete, o_len, o_append, o_min, o_max, o_tgt, bindS, many1, jnE, boolS, gdB, fst', snd', c30, uop_not, Bool.not_true, condF, e1, h32, (ext2 _ _).1, (ext2 _ _).2, al50, st0, b_neq, show ¬ ((3 : Int) = 0) from by decide, decide_false, Bool.not_false, condT, fld50_0, ld0, h33, bop_eql]
    exact ⟨_, rfl⟩
  | false =>
    rw [hbad, if_neg (by simp)] at h32
    obtain ⟨hT1, hT2⟩ := hb hbad
    have hmk : mkT L = mkT L := rfl
    generalize hT : mkT L = T at h32 hT1 hT2 hris
    have st0 : storeD Try.prog (newD s1 (.row [fzV 2 #[]])) 50 (.pointer (some ⟨s1.n, 0, none⟩)) (tab T) = some (putD (newD s1 (.row [fzV 2 #[]])) s1.n (.row [sl tx 0 T])) := st50 (get_new rfl) rfl rfl
    have y1 : Sm s1.n s1 (putD (newD s1 (.row [fzV 2 #[]])) s1.n (.row [sl tx 0 T])) := ((Sm.refl _ _).new (Nat.le_refl _) _).put (Nat.le_refl _) _
    have y2 : (putD (newD s1 (.row [fzV 2 #[]])) s1.n (.row [sl tx 0 T])).n = s1.n + 1 := rfl
    have y3 : HP.get (putD (newD s1 (.row [fzV 2 #[]])) s1.n (.row [sl tx 0 T])).h s1.n = some (.row [sl tx 0 T]) := get_put_same _
    simp only [f8, o_bool, o_alloc, o_box, o_build, o_buildSlice, o_load, o_store, o_nilCheck, o_bop, o_uop, o_conv, o_slc, o_fieldAddr, o_field, o_indexAddr, o_index, o_extract, o_lookup, o_mapUpdate, o_makeSlice, o_clear, o_makeMap, o_mapEntry, o_entryStore, o_delete, o_len, o_append, o_min, o_max, o_tgt, bindS, many1, jnE, boolS, gdB, fst', snd', c30, uop_not, Bool.not_true, condF, e1, h32, (ext2 _ _).1, (ext2 _ _).2, al50, st0, b_neq, decide_true, Bool.not_true, condF]
    generalize putD (newD s1 (.row [fzV 2 #[]])) s1.n (.row [sl tx 0 T]) = s2 at y1 y2 y3
    have r2 := r1.same y1
    suffices h : One (iterS (f8_l0 (dOps Try.prog) (callD Try.prog AB (n + 8)) AB.N (.pointer (some ⟨s1.n, 0, none⟩))) _ _ AB.N (.bool false, .string ⟨#[]⟩, .int .i64 0, undefV, undefV, undefV, undefV) s2) fun v s' => v = .bool true by
      obtain ⟨v, s', e, rfl⟩ := h
      exact ⟨s', e⟩
    refine list_one T (fun i (x : Value × Value × Value × Value × Value × Value × Value) (s' : SH) => s' = s2 ∧ x.2.1 = encStr (prevT T i) ∧ x.2.2.1 = .int .i64 (i : Int)) ?_ ?_ ⟨rfl, rfl, rfl⟩ (by show T.length < 2 ^ 64; omega)
    · rintro i hi ⟨x1, x2, x3, x4, x5, x6, x7⟩ s' ⟨rfl, h2, h3⟩ nx hnx
      simp only at h2 h3
      subst h2 h3
      have hlt : (i : Int) < T.length := by omega
      have hw : IntKind.i64.wrap ((i : Int) + 1) = ((i + 1 : Nat) : Int) := by rw [wrap_i64 (by omega) (by omega)]; rfl
      have h33 := c33 (n := n + 7) (m := 0) (s := s') T
      have h34 := c34 (n := n + 7) (m := 0) (s := s') T hi (by omega)
      have h35 := c35 (n := n + 4) (m := 0) (s := s') T hris hi (by omega)
      have fin : ∀ y, One (nx (x1, encStr T[i], .int .i64 ((i + 1 : Nat) : Int), y) s') fun v s' => v = .bool true := fun y => hnx (_, _, _, _) _ ⟨rfl, by rw [prevT_succ hi], rfl⟩
      by_cases h0 : i = 0
      · subst h0
        simp only [f8_l0, o_bool, o_alloc, o_box, o_build, o_buildSlice, o_load, o_store, o_nilCheck, o_bop, o_uop, o_conv, o_slc, o_fieldAddr, o_field, o_indexAddr, o_index, o_extract, o_lookup, o_mapUpdate, o_makeSlice, o_clear, o_makeMap, o_mapEntry, o_entryStore, o_delete, o_len, o_append, o_min, o_max, o_tgt, bindS, many1, jnE, boolS, gdB, fst', snd', fld50_0, ld48 y3, h33, bop_lss, hlt, decide_true, condT, h34, (ext2 _ _).1, (ext2 _ _).2, h35, b_neq, Bool.not_true, condF, uop_not, bop_gtr, show ¬ (((0 : Nat) : Int) > 0) from by decide, decide_false, bop_add, hw]
        exact fin _
      · have hg : (i : Int) > 0 := by omega
        have hle : bopD Try.prog .leq 9 (encStr T[i]) (encStr (prevT T i)) = some (.bool false) := by
          obtain ⟨j, rfl⟩ : ∃ j, i = j + 1 := ⟨i - 1, by omega⟩
          rw [bop_sle, le_not, prevT_succ (by omega), ris_lt hris (by omega) (by omega), decide_eq_true (by omega)]; rfl
        simp only [f8_l0, o_bool, o_alloc, o_box, o_build, o_buildSlice, o_load, o_store, o_nilCheck, o_bop, o_uop, o_conv, o_slc, o_fieldAddr, o_field, o_indexAddr, o_index, o_extract, o_lookup, o_mapUpdate, o_makeSlice, o_clear, o_makeMap, o_mapEntry, o_entryStore, o_delete, o_len, o_append, o_min, o_max, o_tgt, bindS, many1, jnE, boolS, gdB, fst', snd', fld50_0, ld48 y3, h33, bop_lss, hlt, decide_true, condT, h34, (ext2 _ _).1, (ext2 _ _).2, h35, b_neq, Bool.not_true, condF, uop_not, bop_gtr, hg, hle, bop_add, hw]
        exact fin _
    · rintro ⟨x1, x2, x3, x4, x5, x6, x7⟩ s' ⟨rfl, h2, h3⟩ nx
      simp only at h2 h3
      subst h2 h3
      have hnlt : ¬ ((T.length : Int) < T.length) := by omega
      have h33 : ∀ s : SH, callD Try.prog AB (n + 8) (.fn 33) [.agg #[sl tx 0 T]] s = some [(.int .i64 (T.length : Int), s)] := fun s => c33 T
      have hwl : IntKind.i64.wrap ((L.length : Int) + 1) = ((L.length + 1 : Nat) : Int) := by rw [wrap_i64 (by omega) (by omega)]; rfl
      have h20 := c20 (n := n + 7) (s := s') by_ (L.length + 1) (by omega) (by omega)
      have hk := among_lt by_ (m := L.length + 1) (by omega)
      generalize amongI by_ (L.length + 1) = k at h20 hk
      -- the row
      have z1 : Sm s'.n s' (newD s' (.row [])) := (Sm.refl _ _).new (Nat.le_refl _) _
      have z2 : (newD s' (.row [])).n = s'.n + 1 := rfl
      have z3 : RowE s'.n (newD s' (.row [])) (rs s'.n 0 3) [] := rowE_new
      obtain ⟨id, c, rfl, q2, q3, q4, q5⟩ := r2
      have q5a : HP.get (newD s' (.row [])).h id = some (.row (L.map encStr)) := by rw [z1.2 _ q3, q5]
      have hlenw : ∀ s : SH, lenOfD Try.prog s 45 (rs id L.length c) = some (.int .i64 (L.length : Int)) := fun s => by simp only [lenOfD, u45]
      obtain ⟨c', hc', es⟩ := slc_rs (k := .i64) (newD s' (.row [])) (id := id) (o := 0) q4 (show k ≤ L.length by omega)
      have d1 : (L.drop (0 + k)).take (L.length - k) = L.drop k := by
        rw [Nat.zero_add, List.take_of_length_le (by rw [List.length_drop]; omega)]
      have hc1 := cells_off (o := 0 + k) (n := L.length - k) hc' q5a (by omega)
      rw [d1] at hc1
      obtain ⟨v1, t1, a1, g1, f1⟩ := app_rs' (md := true) (w := .slice (some ⟨id, 0 + k, none⟩) (L.length - k) c') (ys := L.drop k) z3 (by omega) (by rw [List.length_drop]; rfl) (by rw [List.length_drop]; exact hc1) (by simp only [List.length_nil, List.length_drop]; omega)
      have n1 := f1.1
      have q5b : HP.get t1.h id = some (.row (L.map encStr)) := by rw [f1.2 _ q3, q5a]
      obtain ⟨c2, hc2, es2⟩ := slc_rs0 (k := .i64) t1 (id := id) (o := 0) q4 (show k ≤ L.length by omega)
      have hc2' := cells_off (o := 0) (n := k) hc2 q5b (by omega)
      rw [List.drop_zero] at hc2'
      have lt2 : (L.take k).length = k := by rw [List.length_take]; omega
      obtain ⟨v2, t2, a2, g2, f2⟩ := app_rs' (md := true) (w := .slice (some ⟨id, 0, none⟩) k c2) (ys := L.take k) g1 (by omega) (by rw [lt2]; rfl) (by rw [lt2]; exact hc2') (by simp only [List.length_append, List.length_nil, List.length_drop, lt2]; omega)
      have n2 := f2.1
      have q5c : HP.get t2.h id = some (.row (L.map encStr)) := by rw [f2.2 _ q3, q5b]
      have rw3 : RowE 0 t2 (rs id L.length c) L := ⟨id, c, rfl, Nat.zero_le _, by omega, q4, q5c⟩
      obtain ⟨v3, t3, a3, g3, f3⟩ := app_rs' (md := true) (ys := L) g2 (by omega) (len_D rw3.s) (cells_rs rw3.s) (by simp only [List.length_append, List.length_nil, List.length_drop, lt2]; omega)
      have n3 := f3.1
      have hmk2 : mkT ([] ++ L.drop k ++ L.take k ++ L) = T := by
        rw [← hT]
        refine mkT_eq fun z => ?_
        simp only [List.nil_append, List.mem_append]
        constructor
        · rintro ((h | h) | h)
          · exact List.mem_of_mem_drop h
          · exact List.mem_of_mem_take h
          · exact h
        · exact fun h => .inr h
      have hbad2 : bad ([] ++ L.drop k ++ L.take k ++ L) = false := by
        rw [← hbad]; unfold bad; rw [hmk2, hT]
      have h32b := c32 (n := n + 3) (s := t3) (.inl ⟨_, g3.s⟩ : TxIn t3 v3 ([] ++ L.drop k ++ L.take k ++ L)) (by simp only [List.length_append, List.length_nil, List.length_drop, lt2]; omega)
      rw [hbad2, if_neg (by simp), hmk2] at h32b
      have y3t : HP.get t3.h s1.n = some (.row [sl tx 0 T]) := by
        rw [f3.2 _ (by omega), f2.2 _ (by omega), f1.2 _ (by omega), z1.2 _ (by omega), y3]
      have al : ∀ s : SH, allocD Try.prog s 50 = some (.pointer (some ⟨s.n, 0, none⟩), newD s (.row [fzV 2 #[]])) := al50
      have st3 : storeD Try.prog (newD t3 (.row [fzV 2 #[]])) 50 (.pointer (some ⟨t3.n, 0, none⟩)) (tab T) = some (putD (newD t3 (.row [fzV 2 #[]])) t3.n (.row [sl tx 0 T])) := st50 (get_new rfl) rfl rfl
      have p1 : Sm t3.n t3 (putD (newD t3 (.row [fzV 2 #[]])) t3.n (.row [sl tx 0 T])) := ((Sm.refl _ _).new (Nat.le_refl _) _).put (Nat.le_refl _) _
      have p2 : (putD (newD t3 (.row [fzV 2 #[]])) t3.n (.row [sl tx 0 T])).n = t3.n + 1 := rfl
      have p3 : HP.get (putD (newD t3 (.row [fzV 2 #[]])) t3.n (.row [sl tx 0 T])).h t3.n = some (.row [sl tx 0 T]) := get_put_same _
      have h32b := oneS h32b
      simp only [f8_l0, o_bool, o_alloc, o_box, o_build, o_buildSlice, o_load, o_store, o_nilCheck, o_bop, o_uop, o_conv, o_slc, o_fieldAddr, o_field, o_indexAddr, o_index, o_extract, o_lookup, o_mapUpdate, o_makeSlice, o_clear, o_makeMap, o_mapEntry, o_entryStore, o_delete, o_len, o_append, o_min, o_max, o_tgt, bindS, many1, jnE, boolS, gdB, fst', snd', fld50_0, ld48 y3, h33, bop_lss, hnlt, decide_false, condF, beq_yes, condT, hlenw, bop_add, hwl, h20, bs45_0, es, a1, es2, a2, a3, h32b, (ext2 _ _).1, (ext2 _ _).2, al50, st3]
      generalize putD (newD t3 (.row [fzV 2 #[]])) t3.n (.row [sl tx 0 T]) = t4 at p1 p2 p3
      have y3u : HP.get t4.h s1.n = some (.row [sl tx 0 T]) := by rw [p1.2 _ (by omega), y3t]
      obtain ⟨w5, t5, e5, g5, f5⟩ := c36 (n := n + 1) (m := 0) (s := t4) T hT1 hT2
      obtain ⟨m5, rfl⟩ := Grow.form g5
      have n5 := f5.1
      have y5 : HP.get t5.h s1.n = some (.row [sl tx 0 T]) := by rw [f5.2 _ (by omega), y3u]
      have p5 : HP.get t5.h t3.n = some (.row [sl tx 0 T]) := by rw [f5.2 _ (by omega), p3]
      obtain ⟨w6, t6, e6, g6, f6⟩ := c36 (n := n + 1) (m := 0) (s := t5) T hT1 hT2
      obtain ⟨m6, rfl⟩ := Grow.form g6
      have n6 := f6.1
      have y6 : HP.get t6.h s1.n = some (.row [sl tx 0 T]) := by rw [f6.2 _ (by omega), y5]
      have p6 : HP.get t6.h t3.n = some (.row [sl tx 0 T]) := by rw [f6.2 _ (by omega), p5]
      have e5 := oneS e5
      have e6 := oneS e6
      have h26 := oneS (c26 (n := n + 7) (m := m5) (m' := m6) (s := t6) (putS T) (putS T))
      have h33 : ∀ s : SH, oneO (callD Try.prog AB (n + 8)) (.fn 33) [.agg #[sl tx 0 T]] s = some (.int .i64 (T.length : Int), s) := fun s => oneS (c33 T)
      simp only [bop_eql, decide_true, gdB, condT, ld50 p3, ld50 y3u, ld50 y5, ld50 y6, ld48 p6, ld48 y6, ld48 p5, ld48 y5, bindS, e5, e6, h26, h33, eqO_same, Bool.and_self, fld50_0]
      exact One.ret rfl
end Go.Proofs.Ytmhmbmogodofeaa.S
