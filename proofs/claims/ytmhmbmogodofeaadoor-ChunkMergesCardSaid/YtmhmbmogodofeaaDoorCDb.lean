import Derived.Test.YtmhmbmogodofeaaDoorCDa
set_option autoImplicit false
set_option linter.unusedVariables false
set_option linter.unusedSimpArgs false
set_option maxRecDepth 100000
namespace Go.Proofs.YtmhmbmogodofeaaDoor.S
open Go.FS Go.RowKit
attribute [local congr] bind_cg cond_cg gd_cg
theorem mk24 (s : SH) (c : Int) (h0 : 0 ≤ c) (h1 : c ≤ 1000000) : makeSliceD Tryd.prog false s 24 (.int .i64 0) (.int .i64 c) = some (sl sp (s.n + 3) [], newD s (.tok 0 2)) := by
  have hi : Tryd.prog.info? 40 = some Tryd.t40 := by kernel_rfl
  have hb : (Tryd.t40.bytes : Nat) = 16 := by kernel_rfl
  have hs : (Tryd.t40.size : Nat) = 2 := by kernel_rfl
  unfold makeSliceD
  rw [u24]
  simp only [hi, bindS, zr40, hb, hs]
  have e : (decide ((0 : Int) ≤ 0) && decide ((0 : Int) ≤ c) && decide (((16 : Nat) : Int) * c ≤ 140737488355328) && decide (c ≤ 140737488355328) && Nat.beq [Value.int .i64 0, Value.int .u64 0].length 2) = true := by
    rw [decide_eq_true h0, decide_eq_true (show ((16 : Nat) : Int) * c ≤ 140737488355328 by omega), decide_eq_true (show c ≤ 140737488355328 by omega)]; rfl
  rw [e, condT]
  rfl
theorem cmpN_lt {a b : Int} : (cmpN a b < 0) = (a < b) := by
  unfold cmpN
  by_cases h : a < b
  · simp [h]
  · by_cases k : b < a <;> simp [h, k]
theorem cmpN_eq {a b : Int} : (cmpN a b = 0) = (a = b) := by
  unfold cmpN
  by_cases h : a < b
  · simp [h]; omega
  · by_cases k : b < a
    · simp [h, k]; omega
    · simp [h, k]; omega
/-- A slice without its first one. -/
theorem tl24 (s : SH) (m : Nat) (x : Spl) (l : List Spl) : ∃ m', slcD Tryd.prog s 24 (sl sp m (x :: l)) (some (.int .i64 1)) none none = some (sl sp m' l) := by
  obtain ⟨m', e⟩ := slc_from (P := Tryd.prog) (s := s) (k := .i64) (m := m) (j := 1) (xs := x :: l) (enc := sp) u24 z40 sp_len (by simp)
  exact ⟨m', e⟩
theorem ixs24_0 {m : Nat} {x : Spl} {l : List Spl} : indexAddrD Tryd.prog 24 (sl sp m (x :: l)) (.int .i64 0) = some (fpV (sp x).toArray 0) := ixs24 (k := .i64) (i := 0) sp_len (by simp)
def MInv (s : SH) (a b : List Spl) (d : Nat) (x : Value × Value × Value × Value × Value × Value) (s' : SH) : Prop :=
  Sm s.n s s' ∧ ∃ a' b' out ma mb, x.1 = sl sp ma a' ∧ x.2.1 = sl sp mb b' ∧ Grow s.n 2 sp s' x.2.2.1 out ∧ a'.length + b'.length = d ∧ out.length + d ≤ a.length + b.length ∧ mrgS a b = out ++ mrgS a' b'
theorem c55 {n ma mb : Nat} {s : SH} (a b : List Spl) (ha : a.length ≤ 400000) (hb : b.length ≤ 400000) : ∃ v s', callD Tryd.prog AB (n + 4) (.fn 55) [sl sp ma a, sl sp mb b, .func (.func 56) #[] #[]] s = some [(v, s')] ∧ Grow s.n 2 sp s' v (mrgS a b) ∧ Sm s.n s s' := by
  rw [call_fn (fn := Tryd.f55) rfl rfl (by kernel_rfl)]
  suffices h : One (bodyD Tryd.prog false (callD Tryd.prog AB (n + 3)) AB.N 55 Tryd.f55 [sl sp ma a, sl sp mb b, .func (.func 56) #[] #[]] s) fun v s' => Grow s.n 2 sp s' v (mrgS a b) ∧ Sm s.n s s' by
    obtain ⟨v, s', e, h1, h2⟩ := h
    exact ⟨v, s', e, h1, h2⟩
  rw [f55_r]
  have hw : IntKind.i64.wrap ((a.length : Int) + (b.length : Int)) = ((a.length + b.length : Nat) : Int) := by rw [wrap_i64 (by omega) (by omega)]; rfl
  simp only [f55, o_bool, o_alloc, o_box, o_build, o_buildSlice, o_load, o_store, o_nilCheck, o_bop, o_uop, o_conv, o_slc, o_fieldAddr, o_field, o_indexAddr, o_index, o_extract, o_lookup, o_mapUpdate, o_makeSlice, o_makeMap, o_mapEntry, o_entryStore, o_delete, o_len, o_append, o_min, o_max, o_tgt, bindS, many1, jnE, boolS, gdB, fst', snd', len_sl u24, bop_add, hw, mk24 s _ (show (0 : Int) ≤ ((a.length + b.length : Nat) : Int) by omega) (by omega)]
  refine loop_rule (MInv s a b) (fun r => One r fun v s' => Grow s.n 2 sp s' v (mrgS a b) ∧ Sm s.n s s') ?_ (2 ^ 64) (a.length + b.length) _ _ ⟨(Sm.refl s.n s).new (Nat.le_refl _) _, a, b, [], ma, mb, rfl, rfl, .inr ⟨s.n, Nat.le_refl _, by rw [newD_n]; omega, rfl, get_new rfl⟩, rfl, by simp, rfl⟩ (by omega)
  rintro d ⟨x1, x2, x3, x4, x5, x6⟩ s' ⟨hsm, a', b', out, m1, m2, h1, h2, hg, hd, hl, he⟩ nx hnx
  simp only at h1 h2 hg
  subst h1 h2
  have tg : ∀ v : Value, tgtD (.func (.func 56) #[] #[]) [v] = some (.fn 56, [v]) := fun v => rfl
  cases a' with
  | nil =>
    have h0 : ¬ (((0 : Nat) : Int) > 0) := by omega
    rw [mrgS_nil] at he
    obtain ⟨v1, s1, e1, w1, w2, w3⟩ := gapp24 (m2 := m1) (ys := []) hg hsm.1 (by simp only [List.length_nil] at *; omega)
    rw [List.append_nil] at w1
    obtain ⟨v2, s2, e2, w4, w5, w6⟩ := gapp24 (m2 := m2) (ys := b') w1 (by have := hsm.1; have := w2.1; omega) (by simp only [List.length_nil] at *; omega)
    simp only [f55_l0, o_bool, o_alloc, o_box, o_build, o_buildSlice, o_load, o_store, o_nilCheck, o_bop, o_uop, o_conv, o_slc, o_fieldAddr, o_field, o_indexAddr, o_index, o_extract, o_lookup, o_mapUpdate, o_makeSlice, o_makeMap, o_mapEntry, o_entryStore, o_delete, o_len, o_append, o_min, o_max, o_tgt, bindS, many1, jnE, boolS, gdB, fst', snd', len_sl u24, List.length_nil, bop_gtr, h0, decide_false, condF, beq_yes, condT, e1, e2]
    exact One.ret ⟨by rw [he]; exact w4, (hsm.trans w2).trans w5⟩
  | cons x a' =>
    have h0 : (((x :: a').length : Nat) : Int) > 0 := by rw [List.length_cons]; omega
    cases b' with
    | nil =>
      have h00 : ¬ (((0 : Nat) : Int) > 0) := by omega
      rw [mrgS_nil2] at he
      obtain ⟨v1, s1, e1, w1, w2, w3⟩ := gapp24 (m2 := m1) (ys := x :: a') hg hsm.1 (by simp only [List.length_nil, List.length_cons] at *; omega)
      obtain ⟨v2, s2, e2, w4, w5, w6⟩ := gapp24 (m2 := m2) (ys := []) w1 (by have := hsm.1; have := w2.1; omega) (by simp only [List.length_nil, List.length_append, List.length_cons] at *; omega)
      rw [List.append_nil] at w4
      simp only [f55_l0, o_bool, o_alloc, o_box, o_build, o_buildSlice, o_load, o_store, o_nilCheck, o_bop, o_uop, o_conv, o_slc, o_fieldAddr, o_field, o_indexAddr, o_index, o_extract, o_lookup, o_mapUpdate, o_makeSlice, o_makeMap, o_mapEntry, o_entryStore, o_delete, o_len, o_append, o_min, o_max, o_tgt, bindS, many1, jnE, boolS, gdB, fst', snd', len_sl u24, List.length_nil, bop_gtr, h0, h00, decide_true, decide_false, condF, beq_yes, condT, e1, e2]
      exact One.ret ⟨by rw [he]; exact w4, (hsm.trans w2).trans w5⟩
    | cons y b' =>
      have hy0 : (((y :: b').length : Nat) : Int) > 0 := by rw [List.length_cons]; omega
      have q1 := oneS (c56 (n := n + 2) (s := s') x)
      have q2 := oneS (c56 (n := n + 2) (s := s') y)
      have q3 := oneS (c91 (n := n + 1) (s := s') x.1 y.1)
      rw [mrgS_cons] at he
      simp only [List.length_cons] at hd
      simp only [f55_l0, o_bool, o_alloc, o_box, o_build, o_buildSlice, o_load, o_store, o_nilCheck, o_bop, o_uop, o_conv, o_slc, o_fieldAddr, o_field, o_indexAddr, o_index, o_extract, o_lookup, o_mapUpdate, o_makeSlice, o_makeMap, o_mapEntry, o_entryStore, o_delete, o_len, o_append, o_min, o_max, o_tgt, bindS, many1, jnE, boolS, gdB, fst', snd', len_sl u24, bop_gtr, h0, hy0, decide_true, condT, ixs24_0, ld_sp, tg, q1, q2, q3, eqO_s, Bool.and_self, bop_lss, cmpN_lt]
      by_cases c1 : x.1 < y.1
      · rw [if_pos c1] at he
        obtain ⟨v1, s1, e1, w1, w2, w3⟩ := gapp24 (m2 := 1) (ys := [x]) hg hsm.1 (by simp only [List.length_singleton]; omega)
        obtain ⟨m3, e2⟩ := tl24 s1 m1 x a'
        simp only [c1, decide_true, condT, ixs24_0, ld_sp, bs24, e1, e2, bindS]
        refine hnx (d - 1) (_, _, _, _, _, _) _ (by omega) ⟨hsm.trans w2, a', y :: b', out ++ [x], m3, m2, rfl, rfl, w1, by rw [List.length_cons]; omega, by simp only [List.length_append, List.length_singleton]; omega, by rw [he, List.append_assoc]; rfl⟩
      · rw [if_neg c1] at he
        simp only [c1, decide_false, condF, bop_eql, cmpN_eq]
        by_cases c2 : x.1 = y.1
        · rw [if_pos c2] at he
          obtain ⟨m3, e2⟩ := tl24 s' m1 x a'
          simp only [c2, decide_true, condT, e2, bindS]
          exact hnx (d - 1) (_, _, _, _, _, _) _ (by omega) ⟨hsm, a', y :: b', out, m3, m2, rfl, rfl, hg, by rw [List.length_cons]; omega, by omega, he⟩
        · rw [if_neg c2] at he
          obtain ⟨v1, s1, e1, w1, w2, w3⟩ := gapp24 (m2 := 1) (ys := [y]) hg hsm.1 (by simp only [List.length_singleton]; omega)
          obtain ⟨m3, e2⟩ := tl24 s1 m2 y b'
          simp only [c2, decide_false, condF, ixs24_0, ld_sp, bs24, e1, e2, bindS]
          refine hnx (d - 1) (_, _, _, _, _, _) _ (by omega) ⟨hsm.trans w2, x :: a', b', out ++ [y], m1, m3, rfl, rfl, w1, by rw [List.length_cons]; omega, by simp only [List.length_append, List.length_singleton]; omega, by rw [he, List.append_assoc]; rfl⟩
theorem c24 {n ma mb : Nat} {s : SH} (a b : List Spl) (ha : a.length ≤ 400000) (hb : b.length ≤ 400000) : ∃ m s', callD Tryd.prog AB (n + 5) (.fn 24) [sl sp ma a, sl sp mb b] s = some [(sl sp m (mrgS a b), s')] ∧ Sm s.n s s' := by
  obtain ⟨v, s', e, hg, hs⟩ := c55 (n := n) (ma := ma) (mb := mb) (s := s) a b ha hb
  obtain ⟨m, rfl⟩ := Grow.form hg
  refine ⟨m, s', ?_, hs⟩
  rw [call_fn (fn := Tryd.f24) rfl rfl (by kernel_rfl)]
  show bodyD Tryd.prog false _ _ 24 Tryd.f24 _ s = _
  rw [f24_r]
  simp only [f24, o_bool, o_alloc, o_box, o_build, o_buildSlice, o_load, o_store, o_nilCheck, o_bop, o_uop, o_conv, o_slc, o_fieldAddr, o_field, o_indexAddr, o_index, o_extract, o_lookup, o_mapUpdate, o_makeSlice, o_makeMap, o_mapEntry, o_entryStore, o_delete, o_len, o_append, o_min, o_max, o_tgt, bindS, many1, jnE, boolS, gdB, fst', snd', e]
end Go.Proofs.YtmhmbmogodofeaaDoor.S
