import Derived.Test.YtmhmbmogodofeaaCLc
set_option autoImplicit false
set_option linter.unusedVariables false
set_option linter.unusedSimpArgs false
set_option maxRecDepth 100000
namespace Go.Proofs.Ytmhmbmogodofeaa.S
open Go.FS Go.RowKit
attribute [local congr] bind_cg cond_cg gd_cg
theorem bodied119 : bodied Try.prog 119 = true := by kernel_rfl
theorem cmpN_nat (a b : Nat) : cmpN (a : Int) (b : Int) = if a < b then -1 else if b < a then 1 else 0 := by
  unfold cmpN
  simp only [Int.ofNat_lt]
theorem cmpLL_ends {a b : List Lab} (h : cmpLL a b = cmpLL (a.drop (min a.length b.length)) (b.drop (min a.length b.length))) : cmpLL a b = cmpN (a.length : Int) (b.length : Int) := by
  rw [h, cmpN_nat]
  rcases Nat.lt_trichotomy a.length b.length with h1 | h1 | h1
  · rw [Nat.min_eq_left (by omega), List.drop_length, if_pos h1]
    cases hb : b.drop a.length with
    | nil => have := congrArg List.length hb; rw [List.length_drop] at this; simp at this; omega
    | cons x l => rfl
  · rw [h1, Nat.min_self, ← h1, List.drop_length, h1, List.drop_length, if_neg (by omega), if_neg (by omega)]; rfl
  · rw [Nat.min_eq_right (by omega), List.drop_length, if_neg (by omega), if_pos h1]
    cases ha : a.drop b.length with
    | nil => have := congrArg List.length ha; rw [List.length_drop] at this; simp at this; omega
    | cons x l => rfl
theorem c23 {n m m' : Nat} {s : SH} (a b : List Lab) (ha : a.length < 2 ^ 62) (hb : b.length < 2 ^ 62) : callD Try.prog AB (n + 6) (.fn 23) [sl lab m a, sl lab m' b] s = some [(.int .i64 (cmpLL a b), s)] := by
  refine cut_call (fn := Try.f23) rfl rfl (by kernel_rfl) (v := .int .i64 (cmpLL a b)) (fun _ h => by cases h) (.int _ _) ?_
  show One (bodyD Try.prog false _ _ 23 Try.f23 _ s) _
  rw [f23_r]
  have hal : allocD Try.prog s 3 = some (.pointer (some ⟨s.n, 0, none⟩), newD s (.row [.int .i64 0])) := alloc_at zr3
  have h69 := c69 (n := n + 4) (s := newD s (.row [.int .i64 0])) (sl lab m a) (sl lab m' b) rfl rfl rfl rfl
  simp only [f23, o_bool, o_alloc, o_box, o_build, o_buildSlice, o_load, o_store, o_nilCheck, o_bop, o_uop, o_conv, o_slc, o_fieldAddr, o_field, o_indexAddr, o_index, o_extract, o_lookup, o_mapUpdate, o_makeMap, o_mapEntry, o_entryStore, o_delete, o_len, o_append, o_min, o_max, o_tgt, bindS, many1, jnE, boolS, gdB, fst', snd', hal, h69, newD_n]
  have g0 : HP.get (newD (newD (newD s (.row [.int .i64 0])) (.row [sl lab m a])) (.row [sl lab m' b])).h s.n = some (.row [.int .i64 0]) := by
    rw [get_old (by simp only [newD_n]; omega), get_old (by simp only [newD_n]; omega), get_new rfl]
  have g1 : HP.get (newD (newD (newD s (.row [.int .i64 0])) (.row [sl lab m a])) (.row [sl lab m' b])).h (s.n + 1) = some (.row [sl lab m a]) := by
    rw [get_old (by simp only [newD_n]; omega), get_new (by simp only [newD_n])]
  have g2 : HP.get (newD (newD (newD s (.row [.int .i64 0])) (.row [sl lab m a])) (.row [sl lab m' b])).h (s.n + 1 + 1) = some (.row [sl lab m' b]) := get_new (by simp only [newD_n])
  have gs : Sm s.n s (newD (newD (newD s (.row [.int .i64 0])) (.row [sl lab m a])) (.row [sl lab m' b])) := ((((Sm.refl s.n s).new (Nat.le_refl _) _).new (by simp only [newD_n]; omega) _).new (by simp only [newD_n]; omega) _)
  have gn : (newD (newD (newD s (.row [.int .i64 0])) (.row [sl lab m a])) (.row [sl lab m' b])).n = s.n + 3 := by simp only [newD_n]
  generalize newD (newD (newD s (.row [.int .i64 0])) (.row [sl lab m a])) (.row [sl lab m' b]) = s5 at g0 g1 g2 gs gn
  generalize htl : [sl lab m a, _, _, _, _, _, _, _, _, _, _, _, _, _, _, _, _, _, _, _, _, _, _, _, _, _, _, _, _, _] = tl
  have hrun := c119 (n := n + 3) (l := s5.n) (a1 := s.n + 1) (a2 := s.n + 1 + 1) (m1 := m) (m2 := m') (s := newD s5 (.loop 0 none 23 tl [11, 12] (cdp Try.f23 [1, 0, 1, 0, 0]) (cdp Try.f23 [1, 0, 1, 0, 1]))) (xs := a) (ys := b) ha hb
    (fun i s' => Sm s.n s s' ∧ s5.n + 1 ≤ s'.n ∧ HP.get s'.h s.n = some (.row [.int .i64 0]) ∧ HP.get s'.h (s.n + 1) = some (.row [sl lab m a]) ∧ HP.get s'.h (s.n + 1 + 1) = some (.row [sl lab m' b]) ∧ HP.get s'.h s5.n = some (.loop 0 none 23 tl [11, 12] (cdp Try.f23 [1, 0, 1, 0, 0]) (cdp Try.f23 [1, 0, 1, 0, 1])) ∧ cmpLL a b = cmpLL (a.drop i) (b.drop i))
    (fun s' => Sm s.n s s' ∧ HP.get s'.h s.n = some (.row [.int .i64 (cmpLL a b)]) ∧ HP.get s'.h s5.n = some (.loop 2 (some .ret) 23 tl [11, 12] (cdp Try.f23 [1, 0, 1, 0, 0]) (cdp Try.f23 [1, 0, 1, 0, 1])))
    (fun i s' h => ⟨h.2.2.2.1, h.2.2.2.2.1⟩)
    ⟨gs.new (by omega) _, by rw [newD_n]; omega, by rw [get_old (by omega), g0], by rw [get_old (by omega), g1], by rw [get_old (by omega), g2], get_new rfl, rfl⟩ ?_
  · obtain ⟨v, s2, hC, hq⟩ := hrun
    have htg : tgtD (.func (.func 119) #[] #[.pointer (some ⟨s.n + 1, 0, none⟩), .pointer (some ⟨s.n + 1 + 1, 0, none⟩)]) [.func (.yield s5.n) #[] #[]] = some (.fn 119, [.func (.yield s5.n) #[] #[], .pointer (some ⟨s.n + 1, 0, none⟩), .pointer (some ⟨s.n + 1 + 1, 0, none⟩)]) := rfl
    rcases hq with ⟨q1, q2, q3⟩ | ⟨q1, q2, q3, q4, q5, q6, q7⟩
    · rw [rng_ret htg bodied119 hC q3 (by decide)]
      have hr : HP.get (delD s2 s5.n).h s.n = some (.row [.int .i64 (cmpLL a b)]) := by rw [get_del (by omega), q2]
      have hl : loadD Try.prog (delD s2 s5.n) 3 (.pointer (some ⟨s.n, 0, none⟩)) = some (.int .i64 (cmpLL a b)) := by rw [load_row hr, part_one a3]; rfl
      simp only [o_bool, o_alloc, o_box, o_build, o_buildSlice, o_load, o_store, o_nilCheck, o_bop, o_uop, o_conv, o_slc, o_fieldAddr, o_field, o_indexAddr, o_index, o_extract, o_lookup, o_mapUpdate, o_makeMap, o_mapEntry, o_entryStore, o_delete, o_len, o_append, o_min, o_max, o_tgt, bindS, many1, jnE, boolS, gdB, fst', snd', hl]
      exact One.ret ⟨rfl, ⟨q1.1, fun j hj => by rw [get_del (by omega), q1.2 j hj]⟩⟩
    · rw [rng_none htg bodied119 hC q6 (by decide)]
      have hr : HP.get (delD s2 s5.n).h s.n = some (.row [.int .i64 0]) := by rw [get_del (by omega), q3]
      have e := cmpLL_ends q7
      have h71 := c71 (n := n + 3) (s := delD s2 s5.n) (a.length : Int) (b.length : Int)
      rw [← e] at h71
      have hst : storeD Try.prog (delD s2 s5.n) 3 (.pointer (some ⟨s.n, 0, none⟩)) (.int .i64 (cmpLL a b)) = some (putD (delD s2 s5.n) s.n (.row [.int .i64 (cmpLL a b)])) := store_row z3 hr rfl rfl rfl (by decide)
      have hl : loadD Try.prog (putD (delD s2 s5.n) s.n (.row [.int .i64 (cmpLL a b)])) 3 (.pointer (some ⟨s.n, 0, none⟩)) = some (.int .i64 (cmpLL a b)) := by rw [load_row (get_put_same _), part_one a3]; rfl
      simp only [o_bool, o_alloc, o_box, o_build, o_buildSlice, o_load, o_store, o_nilCheck, o_bop, o_uop, o_conv, o_slc, o_fieldAddr, o_field, o_indexAddr, o_index, o_extract, o_lookup, o_mapUpdate, o_makeMap, o_mapEntry, o_entryStore, o_delete, o_len, o_append, o_min, o_max, o_tgt, bindS, many1, jnE, boolS, gdB, fst', snd', len_sl u23, h71, hst, hl]
      exact One.ret ⟨rfl, ⟨by have := q1.1; rw [putD_n, delD_n]; exact this, fun j hj => by rw [get_put_other (by omega), get_del (by omega), q1.2 j hj]⟩⟩
  · rintro i h1 h2 s7 ⟨hsm, hn1, k0, k1, k2, hL1, hc⟩
    rw [List.drop_eq_getElem_cons h1, List.drop_eq_getElem_cons h2] at hc
    have hc : cmpLL a b = if cmpL1 a[i] b[i] = 0 then cmpLL (a.drop (i + 1)) (b.drop (i + 1)) else cmpL1 a[i] b[i] := hc
    generalize a[i] = x at hc
    generalize b[i] = y at hc
    have hr : roundD Try.prog AB.row (callD Try.prog AB (n + 3)) AB.N s5.n [.agg (lab x).toArray, .agg (lab y).toArray] s7 = f23_r0 (dOps Try.prog) (callD Try.prog AB (n + 3)) AB.N s5.n (.pointer (some ⟨s.n, 0, none⟩)) (.agg (lab x).toArray) (.agg (lab y).toArray) s7 := by
      subst htl
      exact f23_r0_e rfl (loop_of hL1) _ _
    rw [call_yld, hr]
    have hst1 : storeD Try.prog (newD s7 (.row (lab lz))) 106 (.pointer (some ⟨s7.n, 0, none⟩)) (.agg (lab x).toArray) = some (putD (newD s7 (.row (lab lz))) s7.n (.row (lab x))) := st106 (get_new rfl)
    simp only [f23_r0, o_bool, o_alloc, o_box, o_build, o_buildSlice, o_load, o_store, o_nilCheck, o_bop, o_uop, o_conv, o_slc, o_fieldAddr, o_field, o_indexAddr, o_index, o_extract, o_lookup, o_mapUpdate, o_makeMap, o_mapEntry, o_entryStore, o_delete, o_len, o_append, o_min, o_max, o_tgt, bindS, many1, jnE, boolS, gdB, fst', snd', al106, hst1]
    have p1 : Sm s7.n s7 (putD (newD s7 (.row (lab lz))) s7.n (.row (lab x))) := ((Sm.refl s7.n s7).new (Nat.le_refl _) _).put (Nat.le_refl _) _
    have p2 : HP.get (putD (newD s7 (.row (lab lz))) s7.n (.row (lab x))).h s7.n = some (.row (lab x)) := get_put_same _
    have p3 : (putD (newD s7 (.row (lab lz))) s7.n (.row (lab x))).n = s7.n + 1 := by rw [putD_n, newD_n]
    generalize putD (newD s7 (.row (lab lz))) s7.n (.row (lab x)) = s8 at p1 p2 p3
    have hst2 : storeD Try.prog (newD s8 (.row (lab lz))) 106 (.pointer (some ⟨s8.n, 0, none⟩)) (.agg (lab y).toArray) = some (putD (newD s8 (.row (lab lz))) s8.n (.row (lab y))) := st106 (get_new rfl)
    simp only [hst2, bindS]
    have r1 : Sm s7.n s7 (putD (newD s8 (.row (lab lz))) s8.n (.row (lab y))) := (p1.new (by omega) _).put (by omega) _
    have r2 : HP.get (putD (newD s8 (.row (lab lz))) s8.n (.row (lab y))).h s7.n = some (.row (lab x)) := by rw [get_put_other (by omega), get_old (by omega), p2]
    have r3 : HP.get (putD (newD s8 (.row (lab lz))) s8.n (.row (lab y))).h s8.n = some (.row (lab y)) := get_put_same _
    have r4 : (putD (newD s8 (.row (lab lz))) s8.n (.row (lab y))).n = s7.n + 2 := by rw [putD_n, newD_n, p3]
    generalize putD (newD s8 (.row (lab lz))) s8.n (.row (lab y)) = s9 at r1 r2 r3 r4
    have hL9 : HP.get s9.h s5.n = some (.loop 0 none 23 tl [11, 12] (cdp Try.f23 [1, 0, 1, 0, 0]) (cdp Try.f23 [1, 0, 1, 0, 1])) := by rw [r1.2 _ (by omega), hL1]
    simp only [begin_of hL9, bindS]
    have t1 : Sm s5.n s7 (putD s9 s5.n (.loop 1 none 23 tl [11, 12] (cdp Try.f23 [1, 0, 1, 0, 0]) (cdp Try.f23 [1, 0, 1, 0, 1]))) := (Sm.weak r1 (by omega)).put (Nat.le_refl _) _
    have t2 : HP.get (putD s9 s5.n (.loop 1 none 23 tl [11, 12] (cdp Try.f23 [1, 0, 1, 0, 0]) (cdp Try.f23 [1, 0, 1, 0, 1]))).h s7.n = some (.row (lab x)) := by rw [get_put_other (by omega), r2]
    have t3 : HP.get (putD s9 s5.n (.loop 1 none 23 tl [11, 12] (cdp Try.f23 [1, 0, 1, 0, 0]) (cdp Try.f23 [1, 0, 1, 0, 1]))).h s8.n = some (.row (lab y)) := by rw [get_put_other (by omega), r3]
    have t4 : HP.get (putD s9 s5.n (.loop 1 none 23 tl [11, 12] (cdp Try.f23 [1, 0, 1, 0, 0]) (cdp Try.f23 [1, 0, 1, 0, 1]))).h s5.n = some (.loop 1 none 23 tl [11, 12] (cdp Try.f23 [1, 0, 1, 0, 0]) (cdp Try.f23 [1, 0, 1, 0, 1])) := get_put_same _
    generalize putD s9 s5.n (.loop 1 none 23 tl [11, 12] (cdp Try.f23 [1, 0, 1, 0, 0]) (cdp Try.f23 [1, 0, 1, 0, 1])) = s10 at t1 t2 t3 t4
    have w0 : HP.get s10.h s.n = some (.row [.int .i64 0]) := by rw [t1.2 _ (by omega), k0]
    simp only [fld106_0, fld106_1, lds0 t2, lds1 t2, lds0 t3, lds1 t3, o_bool, o_alloc, o_box, o_build, o_buildSlice, o_load, o_store, o_nilCheck, o_bop, o_uop, o_conv, o_slc, o_fieldAddr, o_field, o_indexAddr, o_index, o_extract, o_lookup, o_mapUpdate, o_makeMap, o_mapEntry, o_entryStore, o_delete, o_len, o_append, o_min, o_max, o_tgt, bindS, many1, jnE, boolS, gdB, fst', snd', c70 (n := n) x y, b_neq]
    have t5 := t1.1
    by_cases hz : cmpL1 x y = 0
    · rw [if_pos hz] at hc
      simp only [hz, decide_true, Bool.not_true, condF, setLoop_of t4, Option.map_some]
      refine ⟨true, _, rfl, fun _ => ⟨⟨?_, fun j hj => ?_⟩, ?_, ?_, ?_, ?_, get_put_same _, hc⟩, fun h => by cases h⟩
      · have := hsm.1; rw [putD_n]; omega
      · rw [get_put_other (by omega), t1.2 _ (by omega), hsm.2 j hj]
      · rw [putD_n]; omega
      · rw [get_put_other (by omega), w0]
      · rw [get_put_other (by omega), t1.2 _ (by omega), k1]
      · rw [get_put_other (by omega), t1.2 _ (by omega), k2]
    · rw [if_neg hz] at hc
      have hst : storeD Try.prog s10 3 (.pointer (some ⟨s.n, 0, none⟩)) (.int .i64 (cmpL1 x y)) = some (putD s10 s.n (.row [.int .i64 (cmpL1 x y)])) := store_row z3 w0 rfl rfl rfl (by decide)
      have hL : HP.get (putD s10 s.n (.row [.int .i64 (cmpL1 x y)])).h s5.n = some (.loop 1 none 23 tl [11, 12] (cdp Try.f23 [1, 0, 1, 0, 0]) (cdp Try.f23 [1, 0, 1, 0, 1])) := by rw [get_put_other (by omega), t4]
      simp only [hz, decide_false, Bool.not_false, condT, hst, bindS, setLoop_of hL, Option.map_some]
      refine ⟨false, _, rfl, (fun h => by cases h), fun _ => ⟨⟨?_, fun j hj => ?_⟩, ?_, get_put_same _⟩⟩
      · have := hsm.1; rw [putD_n, putD_n]; omega
      · rw [get_put_other (by omega), get_put_other (by omega), t1.2 _ (by omega), hsm.2 j hj]
      · rw [get_put_other (by omega), get_put_same, hc]
theorem run4 {n ma mb mc : Nat} (s : SH) (a b c : List Lab) : ∃ s', callD Try.prog AB (n + 13) (.fn 4) [sl lab ma a, sl lab mb b, sl lab mc c] s = some [(.bool true, s')] := by
  rw [call_fn (fn := Try.f4) rfl rfl (by kernel_rfl)]
  show ∃ s', bodyD Try.prog false _ _ 4 Try.f4 _ s = _
  rw [f4_r]
  have h17 := c17 (n := n + 11) (s := s)
  obtain ⟨m1, s1, e1, _⟩ := c18 (n := n + 11) (m := ma) (s := s) a
  obtain ⟨m2, s2, e2, _⟩ := c18 (n := n + 11) (m := mb) (s := s1) b
  obtain ⟨m3, s3, e3, _⟩ := c18 (n := n + 11) (m := mc) (s := s2) c
  have la := (few4_S a).1
  have lb := (few4_S b).1
  have lc := (few4_S c).1
  simp only [f4, o_bool, o_alloc, o_box, o_build, o_buildSlice, o_load, o_store, o_nilCheck, o_bop, o_uop, o_conv, o_slc, o_fieldAddr, o_field, o_indexAddr, o_index, o_extract, o_lookup, o_mapUpdate, o_makeMap, o_mapEntry, o_entryStore, o_delete, o_len, o_append, o_min, o_max, o_tgt, bindS, many1, jnE, boolS, gdB, fst', snd', h17, uop_not, Bool.not_true, condF, e1, e2, e3]
  generalize few4 a = a at la
  generalize few4 b = b at lb
  generalize few4 c = c at lc
  have g := cmpLL_good
  have r1 := g.rng a b
  have r2 := g.rng b c
  have r3 := g.rng a c
  have an := g.anti a b
  have tr := g.tr a b c
  have tr0 : cmpLL a b ≤ 0 → cmpLL b c ≤ 0 → cmpLL a c = 0 → _ := fun h1 h2 h3 => g.tr0 h1 h2 h3
  have q0 : decide (cmpLL a b = 0) = decide (a = b) := by
    by_cases h : a = b
    · rw [decide_eq_true h, decide_eq_true ((g.eq _ _).2 h)]
    · rw [decide_eq_false h, decide_eq_false (fun e => h ((g.eq _ _).1 e))]
  have hw : IntKind.i64.wrap (0 - cmpLL b a) = cmpLL a b := by rw [wrap_i64 (by omega) (by omega)]; omega
  have d1 : ¬ cmpLL a b < -1 := by omega
  have d2 : ¬ cmpLL a b > 1 := by omega
  have hbb : ∀ x : Bool, bopD Try.prog .neq 4 (.bool x) (.bool x) = some (.bool false) := fun x => by cases x <;> rfl
  simp only [c23 (n := n + 6) (m := m1) (m' := m2) a b la lb, c23 (n := n + 6) (m := m2) (m' := m3) b c lb lc, c23 (n := n + 6) (m := m1) (m' := m3) a c la lc, c23 (n := n + 6) (m := m2) (m' := m1) b a lb la, bindS, many1, uop_neg, hw, b_neq, decide_true, Bool.not_true, gdB, condF, bop_eql, q0,
    c21 (n := n + 11) (m := m1) (m' := m2) a b la, hbb, bop_lss, d1, decide_false, bop_gtr, d2, boolS, jnE]
  rw [← q0]
  by_cases x : cmpLL a b > 0
  · rw [decide_eq_true x, condT]; exact ⟨_, rfl⟩
  by_cases y : cmpLL b c > 0
  · rw [decide_eq_false x, condF, decide_eq_true y, condT]; exact ⟨_, rfl⟩
  rw [decide_eq_false x, condF, decide_eq_false y, condF]
  have z := tr (by omega) (by omega)
  simp only [bop_leq, z, decide_true, bindS, gdB, condT]
  by_cases t : cmpLL a c < 0
  · rw [decide_eq_true t, condT]; exact ⟨_, rfl⟩
  · rw [decide_eq_false t, condF]
    obtain ⟨u, v⟩ := tr0 (by omega) (by omega) (by omega)
    rw [decide_eq_true u, decide_eq_true v, condT]; exact ⟨_, rfl⟩
end Go.Proofs.Ytmhmbmogodofeaa.S
