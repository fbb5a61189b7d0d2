import Derived.Test.YtmhmbmogodofeaaCYm
set_option autoImplicit false
set_option linter.unusedVariables false
set_option linter.unusedSimpArgs false
set_option maxRecDepth 100000
namespace Go.Proofs.Ytmhmbmogodofeaa.S
open Go.FS Go.RowKit
attribute [local congr] bind_cg cond_cg gd_cg
/-! The statement SymBack. -/
theorem min400 (n : Nat) : minD Try.prog (.int .i64 (n : Int)) [.int .i64 400] = some (.int .i64 ((min n 400 : Nat) : Int)) := min_nat .i64 n 400
theorem min40 (n : Nat) : minD Try.prog (.int .i64 (n : Int)) [.int .i64 40] = some (.int .i64 ((min n 40 : Nat) : Int)) := min_nat .i64 n 40
theorem sl_pre {s : SH} {m : Nat} (bs : List UInt8) {n : Nat} (h : n ≤ bs.length) : ∃ m', slcD Try.prog s 35 (sl by' m bs) none (some (.int .i64 (n : Int))) none = some (sl by' m' (bs.take n)) := ⟨_, slc_sl u35 z5 by_len h⟩
theorem putS_len {l : List Str} (hl : l.length ≤ 4096) (hx : ∀ x ∈ l, x.length ≤ 256) : (putS l).length ≤ 10 + 4096 * 276 := by
  have h1 := vput_le l.length (by omega)
  have h2 := encT_len l [] hx
  have h3 : l.length * 276 ≤ 4096 * 276 := Nat.mul_le_mul_right _ hl
  unfold putS
  rw [List.length_append]; omega
theorem jn_one {F : SH → Option (List (Value × SH))} {s : SH} (h : ∀ s, ∃ s', F s = some [(.bool true, s')]) : ∃ s', jn F (fun k => k s) = some [(.bool true, s')] := h s
theorem run9 {n m m1 m2 : Nat} (s : SH) (l : List Str) (b more : List UInt8) : ∃ s', callD Try.prog AB (n + 9) (.fn 9) [sl tx m l, sl by' m1 b, sl by' m2 more] s = some [(.bool true, s')] := by
  rw [call_fn (fn := Try.f9) rfl rfl (by kernel_rfl)]
  show ∃ s', bodyD Try.prog false _ _ 9 Try.f9 _ s = _
  rw [f9_r]
  obtain ⟨mb, eb⟩ := sl_pre (s := s) (m := m1) b (n := min b.length 400) (Nat.min_le_left _ _)
  obtain ⟨mm, em⟩ := sl_pre (s := s) (m := m2) more (n := min more.length 40) (Nat.min_le_left _ _)
  have hB : (b.take (min b.length 400)).length ≤ 400 := by rw [List.length_take]; omega
  have hM : (more.take (min more.length 40)).length ≤ 40 := by rw [List.length_take]; omega
  obtain ⟨w, s1, e1, r1, k1⟩ := c31 (n := n + 7) (m := m) (s := s) l
  have hlen := fewS_len l
  have h32 := c32 (n := n + 3) (s := s1) (.inl ⟨_, r1.s⟩ : TxIn s1 w (fewS l)) (by omega)
  have hb := bad_ok (l := fewS l)
  have hris := mkT_ris (fewS l)
  generalize fewS l = L at e1 r1 hlen h32 hb hris
  generalize b.take (min b.length 400) = B at eb hB
  generalize more.take (min more.length 40) = M at em hM
  cases hbad : bad L with
  | true =>
    rw [hbad, if_pos rfl] at h32
    have st0 : storeD Try.prog (newD s1 (.row [fzV 2 #[]])) 50 (.pointer (some ⟨s1.n, 0, none⟩)) tab0 = some (putD (newD s1 (.row [fzV 2 #[]])) s1.n (.row [sl tx 2 []])) := st50 (get_new rfl) rfl rfl
    simp only [f9, o_bool, o_alloc, o_box, o_build, o_buildSlice, o_load, o_store, o_nilCheck, o_bop, o_uop, o_conv, o_slc, o_fieldAddr, o_field, o_indexAddr, o_index, o_extract, o_lookup, o_mapUpdate, o_makeSlice, o_clear, o_makeMap, o_mapEntry, o_entryStore, o_delete, o_len, o_append, o_min, o_max, o_tgt, bindS, many1, boolS, gdB, fst', snd', c30, uop_not, Bool.not_true, condF, len_sl u35, min400, min40, eb, em, e1, h32, (ext2 _ _).1, (ext2 _ _).2, al50, st0, bop_eql, show ¬ ((3 : Int) = 0) from by decide, decide_false]
    refine jn_one fun s4 => ?_
    obtain ⟨mr, s5, e5, k5⟩ := c37 (n := n + 4) (m := mb) (s := s4) B 0 (Nat.zero_le _) (by omega)
    have hok := readS_ok (bs := B) (i := 0) (Nat.zero_le _)
    have herr := readS_err B 0
    generalize readS B 0 = r at e5 hok herr
    obtain ⟨T, j, e⟩ := r
    simp only at hok herr
    have t : tupS mr (T, j, e) = .tuple #[.agg #[sl tx mr T], .int .i64 (j : Int), .int .i64 e] := rfl
    rw [t] at e5
    have e5 : callD Try.prog AB (n + 8) (.fn 37) [sl by' mb B, .int .i64 0] s4 = some [(.tuple #[.agg #[sl tx mr T], .int .i64 (j : Int), .int .i64 e], s5)] := e5
    have st0 : storeD Try.prog (newD s5 (.row [fzV 2 #[]])) 50 (.pointer (some ⟨s5.n, 0, none⟩)) (.agg #[sl tx mr T]) = some (putD (newD s5 (.row [fzV 2 #[]])) s5.n (.row [sl tx mr T])) := st50 (get_new rfl) rfl rfl
    have y3 : HP.get (putD (newD s5 (.row [fzV 2 #[]])) s5.n (.row [sl tx mr T])).h s5.n = some (.row [sl tx mr T]) := get_put_same _
    simp only [e5, bindS, many1, (ext3 _ _ _).1, (ext3 _ _ _).2.1, (ext3 _ _ _).2.2, al50, st0, b_neq]
    generalize putD (newD s5 (.row [fzV 2 #[]])) s5.n (.row [sl tx mr T]) = s6 at y3
    by_cases he : e = 0
    · subst he
      obtain ⟨k1, k2, k3⟩ := hok rfl
      have hj := k1.le.2
      have htk := k1.take
      rw [List.drop_zero] at htk
      have hjl : ((j : Int)) ≤ (B.length : Int) := by omega
      obtain ⟨w7, s7, e7, g7, f7⟩ := c36 (n := n + 1) (m := mr) (s := s6) T k2 k3
      obtain ⟨m7, rfl⟩ := Grow.form g7
      obtain ⟨m8, e8⟩ := sl_pre (s := s7) (m := mb) B (n := j) hj
      have h26 := oneS (c26 (n := n + 7) (m := m7) (m' := m8) (s := s7) (putS T) (B.take j))
      rw [htk, decide_eq_true rfl] at h26
      rw [htk] at e8
      simp only [decide_true, Bool.not_true, gdB, condF, bop_eql, condT, len_sl u35, bop_leq, hjl, ld50 y3, oneS e7, e8, h26, bindS]
      exact ⟨_, rfl⟩
    · obtain ⟨k1, k2⟩ := herr he
      subst k1 k2
      have h33 := oneS (c33 (n := n + 7) (m := mr) (s := s6) [])
      simp only [he, decide_false, Bool.not_false, gdB, condT, bop_eql, show (((0 : Nat) : Int) = 0) from rfl, decide_true, fld50_0, ld48 y3, h33, bindS, List.length_nil]
      exact ⟨_, rfl⟩
  | false =>
    rw [hbad, if_neg (by simp)] at h32
    obtain ⟨hT1, hT2⟩ := hb hbad
    generalize hT : mkT L = T at h32 hT1 hT2 hris
    have st0 : storeD Try.prog (newD s1 (.row [fzV 2 #[]])) 50 (.pointer (some ⟨s1.n, 0, none⟩)) (tab T) = some (putD (newD s1 (.row [fzV 2 #[]])) s1.n (.row [sl tx 0 T])) := st50 (get_new rfl) rfl rfl
    have y3 : HP.get (putD (newD s1 (.row [fzV 2 #[]])) s1.n (.row [sl tx 0 T])).h s1.n = some (.row [sl tx 0 T]) := get_put_same _
    generalize putD (newD s1 (.row [fzV 2 #[]])) s1.n (.row [sl tx 0 T]) = s2 at st0 y3
    have hX := putS_len hT1 hT2
    obtain ⟨w3, s3, e3, g3, f3⟩ := c36 (n := n + 1) (m := 0) (s := s2) T hT1 hT2
    obtain ⟨m3, rfl⟩ := Grow.form g3
    obtain ⟨w4, s4, e4, g4, f4⟩ := c38 (n := n + 7) (m := m3) (s := s3) (putS T) (by omega)
    obtain ⟨v5, s5, e5, g5, f5, _⟩ := gapp35 (m2 := mm) (ys := M) g4 f4.1 (by omega)
    obtain ⟨m5, rfl⟩ := Grow.form g5
    have hAt : At (putS T ++ M) 0 (putS T) (putS T).length := ⟨by omega, Nat.zero_le _, M, rfl⟩
    obtain ⟨m6, s6, e6, f6⟩ := c37 (n := n + 4) (m := m5) (s := s5) (putS T ++ M) 0 (Nat.zero_le _) (by rw [List.length_append]; omega)
    rw [readS_put hAt hris hT1 hT2] at e6
    have t : tupS m6 (T, (putS T).length, 0) = .tuple #[.agg #[sl tx m6 T], .int .i64 ((putS T).length : Int), .int .i64 0] := rfl
    rw [t] at e6
    have e6 : callD Try.prog AB (n + 8) (.fn 37) [sl by' m5 (putS T ++ M), .int .i64 0] s5 = some [(.tuple #[.agg #[sl tx m6 T], .int .i64 ((putS T).length : Int), .int .i64 0], s6)] := e6
    have st1 : storeD Try.prog (newD s6 (.row [fzV 2 #[]])) 50 (.pointer (some ⟨s6.n, 0, none⟩)) (.agg #[sl tx m6 T]) = some (putD (newD s6 (.row [fzV 2 #[]])) s6.n (.row [sl tx m6 T])) := st50 (get_new rfl) rfl rfl
    have z3 : HP.get (putD (newD s6 (.row [fzV 2 #[]])) s6.n (.row [sl tx m6 T])).h s6.n = some (.row [sl tx m6 T]) := get_put_same _
    generalize putD (newD s6 (.row [fzV 2 #[]])) s6.n (.row [sl tx m6 T]) = s7 at st1 z3
    obtain ⟨w8, s8, e8, g8, f8_⟩ := c36 (n := n + 1) (m := m6) (s := s7) T hT1 hT2
    obtain ⟨m8, rfl⟩ := Grow.form g8
    have h26 := c26 (n := n + 7) (m := m8) (m' := m3) (s := s8) (putS T) (putS T)
    simp only [f9, o_bool, o_alloc, o_box, o_build, o_buildSlice, o_load, o_store, o_nilCheck, o_bop, o_uop, o_conv, o_slc, o_fieldAddr, o_field, o_indexAddr, o_index, o_extract, o_lookup, o_mapUpdate, o_makeSlice, o_clear, o_makeMap, o_mapEntry, o_entryStore, o_delete, o_len, o_append, o_min, o_max, o_tgt, bindS, many1, boolS, gdB, fst', snd', c30, uop_not, Bool.not_true, condF, len_sl u35, min400, min40, eb, em, e1, h32, (ext2 _ _).1, (ext2 _ _).2, al50, st0, bop_eql, decide_true, condT, ld50 y3, e3, e4, e5, e6, (ext3 _ _ _).1, (ext3 _ _ _).2.1, (ext3 _ _ _).2.2, st1, b_neq, ld50 z3, e8, h26]
    refine jn_one fun s4 => ?_
    obtain ⟨mr, s5, e5, k5⟩ := c37 (n := n + 4) (m := mb) (s := s4) B 0 (Nat.zero_le _) (by omega)
    have hok := readS_ok (bs := B) (i := 0) (Nat.zero_le _)
    have herr := readS_err B 0
    generalize readS B 0 = r at e5 hok herr
    obtain ⟨T, j, e⟩ := r
    simp only at hok herr
    have t : tupS mr (T, j, e) = .tuple #[.agg #[sl tx mr T], .int .i64 (j : Int), .int .i64 e] := rfl
    rw [t] at e5
    have e5 : callD Try.prog AB (n + 8) (.fn 37) [sl by' mb B, .int .i64 0] s4 = some [(.tuple #[.agg #[sl tx mr T], .int .i64 (j : Int), .int .i64 e], s5)] := e5
    have st0 : storeD Try.prog (newD s5 (.row [fzV 2 #[]])) 50 (.pointer (some ⟨s5.n, 0, none⟩)) (.agg #[sl tx mr T]) = some (putD (newD s5 (.row [fzV 2 #[]])) s5.n (.row [sl tx mr T])) := st50 (get_new rfl) rfl rfl
    have y3 : HP.get (putD (newD s5 (.row [fzV 2 #[]])) s5.n (.row [sl tx mr T])).h s5.n = some (.row [sl tx mr T]) := get_put_same _
    simp only [e5, bindS, many1, (ext3 _ _ _).1, (ext3 _ _ _).2.1, (ext3 _ _ _).2.2, al50, st0, b_neq]
    generalize putD (newD s5 (.row [fzV 2 #[]])) s5.n (.row [sl tx mr T]) = s6 at y3
    by_cases he : e = 0
    · subst he
      obtain ⟨k1, k2, k3⟩ := hok rfl
      have hj := k1.le.2
      have htk := k1.take
      rw [List.drop_zero] at htk
      have hjl : ((j : Int)) ≤ (B.length : Int) := by omega
      obtain ⟨w7, s7, e7, g7, f7⟩ := c36 (n := n + 1) (m := mr) (s := s6) T k2 k3
      obtain ⟨m7, rfl⟩ := Grow.form g7
      obtain ⟨m8, e8⟩ := sl_pre (s := s7) (m := mb) B (n := j) hj
      have h26 := oneS (c26 (n := n + 7) (m := m7) (m' := m8) (s := s7) (putS T) (B.take j))
      rw [htk, decide_eq_true rfl] at h26
      rw [htk] at e8
      simp only [decide_true, Bool.not_true, gdB, condF, bop_eql, condT, len_sl u35, bop_leq, hjl, ld50 y3, oneS e7, e8, h26, bindS]
      exact ⟨_, rfl⟩
    · obtain ⟨k1, k2⟩ := herr he
      subst k1 k2
      have h33 := oneS (c33 (n := n + 7) (m := mr) (s := s6) [])
      simp only [he, decide_false, Bool.not_false, gdB, condT, bop_eql, show (((0 : Nat) : Int) = 0) from rfl, decide_true, fld50_0, ld48 y3, h33, bindS, List.length_nil]
      exact ⟨_, rfl⟩
end Go.Proofs.Ytmhmbmogodofeaa.S
