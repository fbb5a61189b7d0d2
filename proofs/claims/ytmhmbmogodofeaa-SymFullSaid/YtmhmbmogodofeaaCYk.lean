import Derived.Test.YtmhmbmogodofeaaCYj
set_option autoImplicit false
set_option linter.unusedVariables false
set_option linter.unusedSimpArgs false
set_option maxRecDepth 100000
namespace Go.Proofs.Ytmhmbmogodofeaa.S
open Go.FS Go.RowKit
attribute [local congr] bind_cg cond_cg gd_cg
/-! Reading a table. -/
theorem gapp45 {lo : Nat} {s : SH} {v : Value} {m2 : Nat} {xs ys : List Str} (h : Grow lo 1 tx s v xs) (hlo : lo ≤ s.n) (hb : (xs.length + ys.length) * 16 ≤ 140737488355328) :
    ∃ v' s', appD Try.prog false s 45 45 v (sl tx m2 ys) = some (v', s') ∧ Grow lo 1 tx s' v' (xs ++ ys) ∧ Sm lo s s' ∧ (∀ j, j < s.n → HP.get s.h j ≠ some (.tok xs.length 1) → HP.get s'.h j = HP.get s.h j) :=
  h.app (i := Try.t9) (b := 16) hlo u45 u45 (by kernel_rfl) zr9 rfl (by kernel_rfl) (by kernel_rfl) (by decide) tx_len hb (by omega)
theorem bs45t (s : SH) (x : Str) : buildSliceD Try.prog false s 45 1 [(0, encStr x)] = some (sl tx 1 [x], s) := by kernel_rfl
theorem bs45t0 (s : SH) : buildSliceD Try.prog false s 45 0 [] = some (sl tx 1 [], s) := by kernel_rfl
def goS (bs : List UInt8) : Nat → Nat → List Str → List Str × Nat × Int
  | 0, j, acc => (acc, j, 0)
  | d + 1, j, acc => match nextS bs j (acc.getLastD []) with
    | (x, j2, e) => if e ≠ 0 then ([], 0, e) else if (!acc.isEmpty && !Op.bytesLess (acc.getLastD []) x) = true then ([], 0, 150) else goS bs d j2 (acc ++ [x])
def readS (bs : List UInt8) (i : Nat) : List Str × Nat × Int :=
  match vread bs i with
  | (n, j, e) => if e ≠ 0 then ([], 0, e) else if 4096 < n then ([], 0, 150) else goS bs n j []
theorem le_not (x y : Str) : (Op.bytesLess x y || decide (x = y)) = !Op.bytesLess y x := by
  have h1 := lt_cmp (x := x) (y := y)
  have h2 := lt_cmp (x := y) (y := x)
  have h3 := cmpB_good.anti x y
  have h4 := cmpB_good.eq x y
  have h5 := cmpB_good.rng x y
  by_cases he : x = y
  · subst he
    rw [decide_eq_true rfl, Bool.or_true]
    cases e : Op.bytesLess x x with
    | false => rfl
    | true => exact absurd rfl (lt_ne e)
  · rw [decide_eq_false he, Bool.or_false]
    have h6 : ¬ cmpB x y = 0 := fun e => he (h4.1 e)
    cases e1 : Op.bytesLess x y <;> cases e2 : Op.bytesLess y x <;> first | rfl | skip
    · exfalso
      have q1 : ¬ cmpB x y = -1 := fun k => by have := h1.2 k; unfold lt' at this; rw [e1] at this; cases this
      have q2 : ¬ cmpB y x = -1 := fun k => by have := h2.2 k; unfold lt' at this; rw [e2] at this; cases this
      omega
    · exfalso
      have q1 := h1.1 e1
      have q2 := h2.1 e2
      omega
theorem lastD_le {l : List Str} (h : ∀ y ∈ l, y.length ≤ 256) : (l.getLastD []).length ≤ 256 := by
  rcases List.eq_nil_or_concat l with rfl | ⟨l', x, rfl⟩
  · exact Nat.zero_le _
  · rw [List.concat_eq_append, List.getLastD_concat]
    exact h x (by simp)
def tupS (m : Nat) (r : List Str × Nat × Int) : Value := .tuple #[.agg #[sl tx m r.1], .int .i64 (r.2.1 : Int), .int .i64 r.2.2]
theorem c37 {n m : Nat} {s : SH} (bs : List UInt8) (i : Nat) (hi : i ≤ bs.length) (hb : bs.length < 2 ^ 46) : ∃ m' s', callD Try.prog AB (n + 4) (.fn 37) [sl by' m bs, .int .i64 (i : Int)] s = some [(tupS m' (readS bs i), s')] ∧ Sm s.n s s' := by
  rw [call_fn (fn := Try.f37) rfl rfl (by kernel_rfl)]
  suffices h : One (bodyD Try.prog false (callD Try.prog AB (n + 3)) AB.N 37 Try.f37 [sl by' m bs, .int .i64 (i : Int)] s) fun w s' => (∃ m', w = tupS m' (readS bs i)) ∧ Sm s.n s s' by
    obtain ⟨w, s', e, ⟨m', rfl⟩, h2⟩ := h
    exact ⟨m', s', e, h2⟩
  rw [f37_r]
  have hS1 : Sm s.n s (newD s (.row [fzV 2 #[]])) := (Sm.refl _ _).new (Nat.le_refl _) _
  have hn1 : (newD s (.row [fzV 2 #[]])).n = s.n + 1 := rfl
  have hg1 : HP.get (newD s (.row [fzV 2 #[]])).h s.n = some (.row [fzV 2 #[]]) := get_new rfl
  have hal := al50 s
  generalize newD s (.row [fzV 2 #[]]) = s1 at hS1 hn1 hg1 hal
  have h74 := c74 (n := n + 2) (m := m) (s := s1) bs i hi (by omega)
  have hok := vread_ok (bs := bs) (i := i) hi
  unfold readS
  generalize vread bs i = r at h74 hok
  obtain ⟨k, j, e⟩ := r
  simp only at hok
  have t : tup3 (k, j, e) = .tuple #[.int .u64 (k : Int), .int .i64 (j : Int), .int .i64 e] := rfl
  rw [t] at h74
  have st0 : ∀ x : SH, HP.get x.h s.n = some (.row [fzV 2 #[]]) → storeD Try.prog x 50 (.pointer (some ⟨s.n, 0, none⟩)) tab0 = some (putD x s.n (.row [sl tx 2 []])) := fun x hx => st50 hx rfl rfl
  have ld0 : ∀ x : SH, loadD Try.prog (putD x s.n (.row [sl tx 2 []])) 50 (.pointer (some ⟨s.n, 0, none⟩)) = some tab0 := fun x => ld50 (get_put_same _)
  by_cases he : e = 0
  · subst he
    obtain ⟨y, rfl, hx, hj, hjl, _⟩ := hok rfl
    simp only
    rw [if_neg (by simp)]
    by_cases h4 : 4096 < k
    · have h4' : (k : Int) > 4096 := by omega
      rw [if_pos h4]
      simp only [f37, o_bool, o_alloc, o_box, o_build, o_buildSlice, o_load, o_store, o_nilCheck, o_bop, o_uop, o_conv, o_slc, o_fieldAddr, o_field, o_indexAddr, o_index, o_extract, o_lookup, o_mapUpdate, o_makeSlice, o_clear, o_makeMap, o_mapEntry, o_entryStore, o_delete, o_len, o_append, o_min, o_max, o_tgt, bindS, many1, jnE, boolS, gdB, fst', snd', hal, h74, (ext3 _ _ _).1, (ext3 _ _ _).2.1, (ext3 _ _ _).2.2, b_neq, decide_true, Bool.not_true, condF, bop_gtr, h4', condT, bld50_0, st0 _ hg1, ld0]
      exact One.ret ⟨⟨2, rfl⟩, hS1.put (Nat.le_refl _) _⟩
    · have h4' : ¬ (k : Int) > 4096 := by omega
      rw [if_neg h4]
      have hwk : IntKind.i64.wrap (k : Int) = (k : Int) := wrap_i64 (by omega) (by omega)
      simp only [f37, o_bool, o_alloc, o_box, o_build, o_buildSlice, o_load, o_store, o_nilCheck, o_bop, o_uop, o_conv, o_slc, o_fieldAddr, o_field, o_indexAddr, o_index, o_extract, o_lookup, o_mapUpdate, o_makeSlice, o_clear, o_makeMap, o_mapEntry, o_entryStore, o_delete, o_len, o_append, o_min, o_max, o_tgt, bindS, many1, jnE, boolS, gdB, fst', snd', hal, h74, (ext3 _ _ _).1, (ext3 _ _ _).2.1, (ext3 _ _ _).2.2, b_neq, decide_true, decide_false, Bool.not_true, condF, bop_gtr, h4', conv_int u70 u3, hwk]
      refine loop_rule (fun d (x : Value × Value × Value × Value × Value × Value × Value × Value × Value × Value × Value × Value) (s' : SH) => ∃ (q a : Nat) (acc : List Str), q + d = k ∧ acc.length = q ∧ a ≤ bs.length ∧ (∀ y ∈ acc, y.length ≤ 256) ∧ goS bs d a acc = goS bs k j [] ∧ Sm s.n s s' ∧ HP.get s'.h s.n = some (.row [fzV 2 #[]]) ∧ s.n + 1 ≤ s'.n ∧ x.1 = .int .i64 (a : Int) ∧ Grow (s.n + 1) 1 tx s' x.2.2.2.1 acc ∧ x.2.2.2.2.1 = encStr (acc.getLastD []) ∧ x.2.2.2.2.2.2.2.2.2.1 = .int .i64 (q : Int)) (fun r => One r fun w s' => (∃ m', w = tupS m' (goS bs k j [])) ∧ Sm s.n s s') ?_ _ k _ _ ⟨0, j, [], by omega, rfl, hjl, (fun y hy => (List.not_mem_nil hy).elim), rfl, hS1, hg1, by omega, rfl, .inl ⟨rfl, .inl rfl⟩, rfl, rfl⟩ (by show k < 2 ^ 64; omega)
      rintro d ⟨x1, x2, x3, x4, x5, x6, x7, x8, x9, x10, x11, x12⟩ s' ⟨q, a, acc, hd, hq, ha, hall, hgo, hsm, hg, hn, e1, hG, e2, e3⟩ nx hnx
      simp only at e1 e2 e3 hG
      subst e1 e2 e3
      by_cases h0 : d = 0
      · subst h0
        have hng : ¬ ((q : Int) < (k : Int)) := by omega
        obtain ⟨mm, rfl⟩ := Grow.form hG
        have st1 : storeD Try.prog s' 50 (.pointer (some ⟨s.n, 0, none⟩)) (.agg #[sl tx mm acc]) = some (putD s' s.n (.row [sl tx mm acc])) := st50 hg rfl rfl
        have ld1 : loadD Try.prog (putD s' s.n (.row [sl tx mm acc])) 50 (.pointer (some ⟨s.n, 0, none⟩)) = some (.agg #[sl tx mm acc]) := ld50 (get_put_same _)
        simp only [f37_l0, o_bool, o_alloc, o_box, o_build, o_buildSlice, o_load, o_store, o_nilCheck, o_bop, o_uop, o_conv, o_slc, o_fieldAddr, o_field, o_indexAddr, o_index, o_extract, o_lookup, o_mapUpdate, o_makeSlice, o_clear, o_makeMap, o_mapEntry, o_entryStore, o_delete, o_len, o_append, o_min, o_max, o_tgt, bindS, many1, jnE, boolS, gdB, fst', snd', bop_lss, hng, decide_false, condF, beq_yes, condT, bld48s, bld50s, st1, ld1]
        rw [← hgo]
        exact One.ret ⟨⟨mm, rfl⟩, hsm.put (Nat.le_refl _) _⟩
      · obtain ⟨d, rfl⟩ : ∃ d', d = d' + 1 := ⟨d - 1, by omega⟩
        have hlt : ((q : Int) < (k : Int)) := by omega
        have hw : IntKind.i64.wrap ((q : Int) + 1) = ((q + 1 : Nat) : Int) := by rw [wrap_i64 (by omega) (by omega)]; rfl
        have hlast : (acc.getLastD []).length ≤ 256 := by
          exact lastD_le hall
        obtain ⟨s2, h89, hs2⟩ := c89 (n := n) (m := m) (s := s') bs a (acc.getLastD []) ha hb hlast
        have hnx2 := nextS_ok (bs := bs) (i := a) (last := acc.getLastD []) ha
        have hstep : goS bs (d + 1) a acc = if (nextS bs a (acc.getLastD [])).2.2 ≠ 0 then ([], 0, (nextS bs a (acc.getLastD [])).2.2) else if (!acc.isEmpty && !Op.bytesLess (acc.getLastD []) (nextS bs a (acc.getLastD [])).1) = true then ([], 0, 150) else goS bs d (nextS bs a (acc.getLastD [])).2.1 (acc ++ [(nextS bs a (acc.getLastD [])).1]) := rfl
        generalize nextS bs a (acc.getLastD []) = r at h89 hnx2 hstep
        obtain ⟨x, a2, e⟩ := r
        simp only at hnx2 hstep
        have t : tupT (x, a2, e) = .tuple #[encStr x, .int .i64 (a2 : Int), .int .i64 e] := rfl
        rw [t] at h89
        have hg2 : HP.get s2.h s.n = some (.row [fzV 2 #[]]) := by rw [hs2.2 _ (by omega), hg]
        have hsm2 : Sm s.n s s2 := hsm.trans (Sm.weak hs2 hsm.1)
        have hn2 := hs2.1
        by_cases he : e = 0
        · subst he
          obtain ⟨hAt, hx256⟩ := hnx2 rfl
          rw [if_neg (by simp)] at hstep
          have hne : decide (((q : Int)) > 0) = !acc.isEmpty := by
            cases acc with
            | nil => simp only [List.length_nil] at hq; subst hq; rfl
            | cons y l => simp only [List.length_cons] at hq; rw [decide_eq_true (by omega)]; rfl
          have hGs : Grow (s.n + 1) 1 tx s2 x4 acc := hG.mono hs2.1 fun i hi hi2 _ => hs2.2 i hi2
          obtain ⟨v', s3, e4, w1, w2, w3⟩ := gapp45 (m2 := 1) (ys := [x]) hGs (by omega) (by simp only [List.length_singleton]; omega)
          have w2n := w2.1
          have go : (!acc.isEmpty && !Op.bytesLess (acc.getLastD []) x) = false → One (nx (.int .i64 (a2 : Int), x2, x3, v', encStr x, .int .i64 (q : Int), encStr x, .int .i64 (a2 : Int), .int .i64 0, .int .i64 ((q + 1 : Nat) : Int), .bool false, .bool false) s3) fun w s' => (∃ m', w = tupS m' (goS bs k j [])) ∧ Sm s.n s s' := fun hb => by
            rw [hb, if_neg (by simp)] at hstep
            refine hnx d (_, _, _, _, _, _, _, _, _, _, _, _) _ (by omega) ⟨q + 1, a2, acc ++ [x], by omega, by rw [List.length_append, hq]; rfl, hAt.le.2, fun y hy => ?_, by rw [← hgo, hstep], hsm2.trans ⟨w2.1, fun i hi => w2.2 i (by omega)⟩, by rw [w2.2 _ (by omega), hg2], by omega, rfl, w1, by rw [List.getLastD_concat], rfl⟩
            rcases List.mem_append.1 hy with hy | hy
            · exact hall y hy
            · rw [List.mem_singleton] at hy; subst hy; exact hx256
          cases hemp : acc.isEmpty with
          | true =>
            rw [hemp] at hne go
            simp only [f37_l0, o_bool, o_alloc, o_box, o_build, o_buildSlice, o_load, o_store, o_nilCheck, o_bop, o_uop, o_conv, o_slc, o_fieldAddr, o_field, o_indexAddr, o_index, o_extract, o_lookup, o_mapUpdate, o_makeSlice, o_clear, o_makeMap, o_mapEntry, o_entryStore, o_delete, o_len, o_append, o_min, o_max, o_tgt, bindS, many1, jnE, boolS, gdB, fst', snd', bop_lss, hlt, decide_true, condT, h89, (ext3 _ _ _).1, (ext3 _ _ _).2.1, (ext3 _ _ _).2.2, b_neq, Bool.not_true, condF, bop_gtr, hne, bs45t, e4, bop_add, hw]
            exact go rfl
          | false =>
            rw [hemp] at hne go hstep
            have hle : bopD Try.prog .leq 9 (encStr x) (encStr (acc.getLastD [])) = some (.bool (!Op.bytesLess (acc.getLastD []) x)) := by rw [bop_sle, le_not]
            cases hb2 : Op.bytesLess (acc.getLastD []) x with
            | true =>
              rw [hb2] at hle go
              simp only [f37_l0, o_bool, o_alloc, o_box, o_build, o_buildSlice, o_load, o_store, o_nilCheck, o_bop, o_uop, o_conv, o_slc, o_fieldAddr, o_field, o_indexAddr, o_index, o_extract, o_lookup, o_mapUpdate, o_makeSlice, o_clear, o_makeMap, o_mapEntry, o_entryStore, o_delete, o_len, o_append, o_min, o_max, o_tgt, bindS, many1, jnE, boolS, gdB, fst', snd', bop_lss, hlt, decide_true, condT, h89, (ext3 _ _ _).1, (ext3 _ _ _).2.1, (ext3 _ _ _).2.2, b_neq, Bool.not_true, Bool.not_false, condF, bop_gtr, hne, hle, bs45t, e4, bop_add, hw]
              exact go rfl
            | false =>
              rw [hb2] at hle hstep
              rw [if_pos (show (!false && !false) = true from rfl)] at hstep
              simp only [f37_l0, o_bool, o_alloc, o_box, o_build, o_buildSlice, o_load, o_store, o_nilCheck, o_bop, o_uop, o_conv, o_slc, o_fieldAddr, o_field, o_indexAddr, o_index, o_extract, o_lookup, o_mapUpdate, o_makeSlice, o_clear, o_makeMap, o_mapEntry, o_entryStore, o_delete, o_len, o_append, o_min, o_max, o_tgt, bindS, many1, jnE, boolS, gdB, fst', snd', bop_lss, hlt, decide_true, condT, h89, (ext3 _ _ _).1, (ext3 _ _ _).2.1, (ext3 _ _ _).2.2, b_neq, Bool.not_true, Bool.not_false, condF, bop_gtr, hne, hle, bld50_0, st0 _ hg2, ld0]
              rw [← hgo, hstep]
              exact One.ret ⟨⟨2, rfl⟩, hsm2.put (Nat.le_refl _) _⟩
        · rw [if_pos he] at hstep
          simp only [f37_l0, o_bool, o_alloc, o_box, o_build, o_buildSlice, o_load, o_store, o_nilCheck, o_bop, o_uop, o_conv, o_slc, o_fieldAddr, o_field, o_indexAddr, o_index, o_extract, o_lookup, o_mapUpdate, o_makeSlice, o_clear, o_makeMap, o_mapEntry, o_entryStore, o_delete, o_len, o_append, o_min, o_max, o_tgt, bindS, many1, jnE, boolS, gdB, fst', snd', bop_lss, hlt, decide_true, condT, h89, (ext3 _ _ _).1, (ext3 _ _ _).2.1, (ext3 _ _ _).2.2, b_neq, he, decide_false, Bool.not_false, bld50_0, st0 _ hg2, ld0]
          rw [← hgo, hstep]
          exact One.ret ⟨⟨2, rfl⟩, hsm2.put (Nat.le_refl _) _⟩
  · simp only
    rw [if_pos he]
    simp only [f37, o_bool, o_alloc, o_box, o_build, o_buildSlice, o_load, o_store, o_nilCheck, o_bop, o_uop, o_conv, o_slc, o_fieldAddr, o_field, o_indexAddr, o_index, o_extract, o_lookup, o_mapUpdate, o_makeSlice, o_clear, o_makeMap, o_mapEntry, o_entryStore, o_delete, o_len, o_append, o_min, o_max, o_tgt, bindS, many1, jnE, boolS, gdB, fst', snd', hal, h74, (ext3 _ _ _).1, (ext3 _ _ _).2.1, (ext3 _ _ _).2.2, b_neq, he, decide_false, Bool.not_false, condT, bld50_0, st0 _ hg1, ld0]
    exact One.ret ⟨⟨2, rfl⟩, hS1.put (Nat.le_refl _) _⟩
end Go.Proofs.Ytmhmbmogodofeaa.S
