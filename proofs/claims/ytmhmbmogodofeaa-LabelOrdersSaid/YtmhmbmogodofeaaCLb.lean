import Derived.Test.YtmhmbmogodofeaaCLa
set_option autoImplicit false
set_option linter.unusedVariables false
set_option linter.unusedSimpArgs false
set_option maxRecDepth 100000
namespace Go.Proofs.Ytmhmbmogodofeaa.S
open Go.FS Go.RowKit
attribute [local congr] bind_cg cond_cg gd_cg
theorem c17 {n : Nat} {s : SH} : callD Try.prog AB (n + 1) (.fn 17) [] s = some [(.bool true, s)] := by
  rw [call_i (i := yes) rfl]; rfl
theorem lput_len {l : List Lab} (h : okL l = true) : (lput l).length ≤ 6000 := by
  obtain ⟨h0, h1, h2⟩ := okL_size h
  have k1 := labs_len h2
  have k2 := vput_len10 (x := l.length) (by omega)
  unfold lput
  rw [List.length_append]; omega
theorem okL_small {l : List Lab} (h : okL l = true) : SmallL l := by
  obtain ⟨h0, h1, h2⟩ := okL_size h
  exact ⟨by omega, fun a ha => by have := h2 a ha; omega⟩
theorem eqO_s (v : Value) : eqO HP (some v) v = true := by simp [eqO, FG]
theorem lread_err {bs : List UInt8} {i : Nat} (h : (lread bs i).2.2 ≠ 0) : (lread bs i).1 = [] ∧ (lread bs i).2.1 = 0 := by
  unfold lread at h ⊢
  by_cases he : (vread bs i).2.2 = 0
  · rw [if_neg (fun h => h he)] at h ⊢
    by_cases h16 : 16 < (vread bs i).1
    · rw [if_pos h16]; exact ⟨rfl, rfl⟩
    · rw [if_neg h16] at h ⊢
      cases hg : lgo bs (vread bs i).1 (vread bs i).2.1 [] with
      | error e => exact ⟨rfl, rfl⟩
      | ok p =>
        obtain ⟨l, k⟩ := p
        rw [hg] at h
        simp only at h ⊢
        by_cases ho : okL l = true
        · rw [if_pos ho] at h; exact absurd rfl h
        · rw [if_neg ho]; exact ⟨rfl, rfl⟩
  · rw [if_pos he]; exact ⟨rfl, rfl⟩
theorem c24n {n m m' : Nat} {s : SH} (bs : List UInt8) (l : List Lab) (hl : SmallL l) (hok : okL l = false) :
    callD Try.prog AB (n + 5) (.fn 24) [sl by' m bs, sl lab m' l] s = some [(.tuple #[fzV 2 #[], .int .i64 40], s)] := by
  rw [call_fn (fn := Try.f24) rfl rfl (by kernel_rfl)]
  show bodyD Try.prog false _ _ 24 Try.f24 _ s = _
  rw [f24_r]
  have h22 := c22 (n := n + 1) (m := m') (s := s) l hl
  rw [hok] at h22
  have n40 : ¬ ((40 : Int) = 0) := by decide
  simp only [f24, o_bool, o_alloc, o_box, o_build, o_buildSlice, o_load, o_store, o_nilCheck, o_bop, o_uop, o_conv, o_slc, o_fieldAddr, o_field, o_indexAddr, o_index, o_extract, o_lookup, o_mapUpdate, o_makeMap, o_mapEntry, o_entryStore, o_delete, o_len, o_append, o_min, o_max, o_tgt, bindS, many1, jnE, boolS, gdB, fst', snd', h22, Bool.false_eq_true, if_false, b_neq, n40, decide_false, Bool.not_false, condT]
theorem min1000 (n : Nat) : minD Try.prog (.int .i64 (n : Int)) [.int .i64 1000] = some (.int .i64 ((min n 1000 : Nat) : Int)) := min_nat .i64 n 1000
theorem min50 (n : Nat) : minD Try.prog (.int .i64 (n : Int)) [.int .i64 50] = some (.int .i64 ((min n 50 : Nat) : Int)) := min_nat .i64 n 50
theorem run5 {n ml mb mm : Nat} (s : SH) (l : List Lab) (b more : List UInt8) : ∃ s', callD Try.prog AB (n + 13) (.fn 5) [sl lab ml l, sl by' mb b, sl by' mm more] s = some [(.bool true, s')] := by
  rw [call_fn (fn := Try.f5) rfl rfl (by kernel_rfl)]
  show ∃ s', bodyD Try.prog false _ _ 5 Try.f5 _ s = _
  rw [f5_r]
  have h17 := c17 (n := n + 11) (s := s)
  simp only [f5, o_bool, o_alloc, o_box, o_build, o_buildSlice, o_load, o_store, o_nilCheck, o_bop, o_uop, o_conv, o_slc, o_fieldAddr, o_field, o_indexAddr, o_index, o_extract, o_lookup, o_mapUpdate, o_makeMap, o_mapEntry, o_entryStore, o_delete, o_len, o_append, o_min, o_max, o_tgt, bindS, many1, jnE, boolS, gdB, fst', snd', h17, uop_not, Bool.not_true, condF]
  obtain ⟨m1, s1, e18, h1⟩ := c18 (n := n + 11) (m := ml) (s := s) l
  have e18' := oneS e18
  have hs1 : slcD Try.prog s1 35 (sl by' mb b) none (some (.int .i64 ((min b.length 1000 : Nat) : Int))) none = some (sl by' (bif Nat.beq mb 2 then 2 else 0) (b.take (min b.length 1000))) := slc_sl u35 z5 by_len (Nat.min_le_left _ _)
  have hs2 : slcD Try.prog s1 35 (sl by' mm more) none (some (.int .i64 ((min more.length 50 : Nat) : Int))) none = some (sl by' (bif Nat.beq mm 2 then 2 else 0) (more.take (min more.length 50))) := slc_sl u35 z5 by_len (Nat.min_le_left _ _)
  simp only [e18', o_bool, o_alloc, o_box, o_build, o_buildSlice, o_load, o_store, o_nilCheck, o_bop, o_uop, o_conv, o_slc, o_fieldAddr, o_field, o_indexAddr, o_index, o_extract, o_lookup, o_mapUpdate, o_makeMap, o_mapEntry, o_entryStore, o_delete, o_len, o_append, o_min, o_max, o_tgt, bindS, many1, jnE, boolS, gdB, fst', snd', len_sl u35, min1000, min50, hs1, hs2, eqO_s, Bool.and_self, condT]
  have hL := few4_S l
  have hbl : (b.take (min b.length 1000)).length ≤ 1000 := by rw [List.length_take]; omega
  have hml : (more.take (min more.length 50)).length ≤ 50 := by rw [List.length_take]; omega
  generalize few4 l = L at hL e18
  generalize b.take (min b.length 1000) = b' at hbl
  generalize more.take (min more.length 50) = mo at hml
  generalize (bif Nat.beq mb 2 then 2 else 0) = mb'
  generalize (bif Nat.beq mm 2 then 2 else 0) = mm'
  have tail : ∀ (js : SH), ∃ s', ((callD Try.prog AB (n + 12) (.fn 25) [sl by' mb' b', .int .i64 0] js).bind fun L61 => manyK L61 fun v62 s63 =>
      (extractD v62 0).bind fun v64 =>
      (extractD v62 1).bind fun v65 =>
      (extractD v62 2).bind fun v66 =>
      (bopD Try.prog .neq 26 v66 (.int .i64 0)).bind fun v67 =>
      (boolD v67).bind fun b68 => cond b68 (
      (lenOfD Try.prog s63 23 v64).bind fun v69 =>
      (bopD Try.prog .eql 3 v69 (.int .i64 0)).bind fun v70 =>
      gd v70 (
      (bopD Try.prog .eql 3 v65 (.int .i64 0)).bind fun v71 =>
      some [(v71, s63)]) (
      some [((.bool false), s63)]) (
      none)) (
      (callD Try.prog AB (n + 12) (.fn 24) [(fzV 2 #[]), v64] s63).bind fun L72 => manyK L72 fun v73 s74 =>
      (extractD v73 0).bind fun v75 =>
      (extractD v73 1).bind fun v76 =>
      (bopD Try.prog .eql 26 v76 (.int .i64 0)).bind fun v77 =>
      gd v77 (
      (bopD Try.prog .leq 3 v65 (.int .i64 (b'.length : Int))).bind fun v79 =>
      gd v79 (
      (slcD Try.prog s74 35 (sl by' mb' b') none (some v65) none).bind fun v80 =>
      (callD Try.prog AB (n + 12) (.fn 26) [v75, v80] s74).bind fun L81 => manyK L81 fun v82 s83 =>
      some [(v82, s83)]) (
      some [((.bool false), s74)]) (
      none)) (
      some [((.bool false), s74)]) (
      none))) = some [(.bool true, s')] := by
    intro js
    obtain ⟨m2, s2, e25, h2⟩ := c25 (n := n + 7) (m := mb') (s := js) b' 0 (Nat.zero_le _) (by omega)
    have e25 : callD Try.prog AB (n + 12) (.fn 25) [sl by' mb' b', .int .i64 0] js = some [(tupL m2 (lread b' 0), s2)] := e25
    have hr := lread_ok (bs := b') (i := 0) (Nat.zero_le _)
    have hre := lread_err (bs := b') (i := 0)
    generalize lread b' 0 = r at e25 hr hre
    obtain ⟨L2, at', e⟩ := r
    simp only at hr hre
    have t : tupL m2 (L2, at', e) = .tuple #[sl lab m2 L2, .int .i64 (at' : Int), .int .i64 e] := rfl
    rw [t] at e25
    simp only [e25, bindS, many1, (ext3 _ _ _).1, (ext3 _ _ _).2.1, (ext3 _ _ _).2.2, b_neq, boolS]
    by_cases he : e = 0
    · subst he
      obtain ⟨ok2, hat⟩ := hr rfl
      have hl2 := lput_len ok2
      obtain ⟨v, s3, e24, h3, h4⟩ := c24 (n := n + 7) (m := 2) (m' := m2) (s := s2) [] L2 (okL_small ok2) (by simp) ok2
      obtain ⟨m4, rfl⟩ := Grow.form h3
      have hle := hat.le.2
      have htk : b'.take at' = lput L2 := by have := hat.take; rwa [List.drop_zero] at this
      have hs3 : slcD Try.prog s3 35 (sl by' mb' b') none (some (.int .i64 (at' : Int))) none = some (sl by' (bif Nat.beq mb' 2 then 2 else 0) (b'.take at')) := slc_sl u35 z5 by_len hle
      have hle' : (at' : Int) ≤ (b'.length : Int) := by omega
      rw [htk] at hs3
      have e24 : callD Try.prog AB (n + 12) (.fn 24) [fzV 2 #[], sl lab m2 L2] s2 = some [(.tuple #[sl by' m4 ([] ++ lput L2), .int .i64 0], s3)] := e24
      rw [List.nil_append] at e24
      simp only [decide_true, Bool.not_true, condF, e24, bindS, many1, (ext2 _ _).1, (ext2 _ _).2, bop_eql, gdB, condT, len_sl u35, bop_leq, hle', hs3, c26 (n := n + 11) (lput L2)]
      exact ⟨_, rfl⟩
    · obtain ⟨r1, r2⟩ := hre he
      subst r1 r2
      simp only [he, decide_false, Bool.not_false, condT, len_sl u23, bindS, bop_eql, gdB, List.length_nil, Int.natCast_zero, decide_true]
      exact ⟨_, rfl⟩
  by_cases hok : okL L = true
  · obtain ⟨v, s2, e24, h2, h3⟩ := c24 (n := n + 7) (m := mm') (m' := m1) (s := s1) mo L hL (by omega) hok
    obtain ⟨m4, rfl⟩ := Grow.form h2
    have hl2 := lput_len hok
    have hlen : (mo ++ lput L).length = mo.length + (lput L).length := List.length_append
    obtain ⟨m5, s3, e25, h4⟩ := c25 (n := n + 7) (m := m4) (s := s2) (mo ++ lput L) mo.length (by omega) (by omega)
    have hat : At (mo ++ lput L) mo.length (lput L) (mo ++ lput L).length := ⟨hlen, by omega, [], by rw [List.drop_left, List.append_nil]⟩
    rw [lread_at hat hok] at e25
    have t : tupL m5 (L, (mo ++ lput L).length, 0) = .tuple #[sl lab m5 L, .int .i64 (((mo ++ lput L).length : Nat) : Int), .int .i64 0] := rfl
    rw [t] at e25
    have e21 := c21 (n := n + 11) (m := m5) (m' := m1) (s := s3) L L hL.1
    rw [decide_eq_true rfl] at e21
    simp only [e24, o_bool, o_alloc, o_box, o_build, o_buildSlice, o_load, o_store, o_nilCheck, o_bop, o_uop, o_conv, o_slc, o_fieldAddr, o_field, o_indexAddr, o_index, o_extract, o_lookup, o_mapUpdate, o_makeMap, o_mapEntry, o_entryStore, o_delete, o_len, o_append, o_min, o_max, o_tgt, bindS, many1, jnE, boolS, gdB, fst', snd', (ext2 _ _).1, (ext2 _ _).2, bop_eql, decide_true, condT, len_sl u35, e25, (ext3 _ _ _).1, (ext3 _ _ _).2.1, (ext3 _ _ _).2.2, b_neq, Bool.not_true, condF, e21, uop_not]
    exact tail s3
  · have hok' : okL L = false := by simpa using hok
    have e24 := c24n (n := n + 7) (m := mm') (m' := m1) (s := s1) mo L hL hok'
    have n40 : ¬ ((40 : Int) = 0) := by decide
    simp only [e24, o_bool, o_alloc, o_box, o_build, o_buildSlice, o_load, o_store, o_nilCheck, o_bop, o_uop, o_conv, o_slc, o_fieldAddr, o_field, o_indexAddr, o_index, o_extract, o_lookup, o_mapUpdate, o_makeMap, o_mapEntry, o_entryStore, o_delete, o_len, o_append, o_min, o_max, o_tgt, bindS, many1, jnE, boolS, gdB, fst', snd', (ext2 _ _).1, (ext2 _ _).2, bop_eql, n40, decide_false, condF]
    exact tail s1
end Go.Proofs.Ytmhmbmogodofeaa.S
