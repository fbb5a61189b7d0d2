import Derived.Test.YtmhmbmogodofeaaC21d
import Derived.Test.YtmhmbmogodofeaaP21
set_option autoImplicit false
set_option linter.unusedVariables false
set_option linter.unusedSimpArgs false
set_option maxRecDepth 100000
namespace Go.Proofs.Ytmhmbmogodofeaa.S
open Go.FS Go.RowKit
attribute [local congr] bind_cg cond_cg gd_cg
theorem c45 {n : Nat} {s : SH} : callD Try.prog AT (n + 1) (.fn 45) [] s = some [(.bool true, s)] := by
  rw [call_i (i := yes) rfl]; rfl
theorem lk_up (es : List En) (c : Nat) (k : Int) (l : List Rg) (j : Int) : lk (upE es c k l).1 j = if j = k then l else lk es j := by
  induction es with
  | nil =>
    simp only [upE, lk]
    by_cases h : j = k
    · rw [if_pos h, if_pos h.symm]
    · rw [if_neg h, if_neg (fun e => h e.symm)]
  | cons e es ih =>
    unfold upE
    split
    · next h =>
      simp only [lk]
      by_cases hj : j = k
      · rw [if_pos hj, if_pos hj.symm]
      · rw [if_neg hj, if_neg (fun e => hj e.symm), if_neg (fun e' => hj (by rw [← e', h]))]
    · next h =>
      simp only [lk, ih]
      by_cases hj : j = k
      · rw [if_pos hj, if_neg (fun e' => h (by rw [e', hj])), if_pos hj]
      · simp only [hj, if_false]
/-- One Add of 5. -/
theorem add5 {n p m c mm B : Nat} {s : SH} {es : List En} (ht : TombAt s p m) (hm : HP.get s.h m = some (.map (es.map ent) c)) (hp : p < s.n) (hmn : m < s.n) (r : Rg) (hB : most es B) (hbd : (B + 2) * 16 ≤ 140737488355328) :
    ∃ es' c' s', callD Try.prog AT (n + 3) (.fn 47) [.pointer (some ⟨p, 0, none⟩), .agg (rg r).toArray, sl u6 mm [5]] s = some [(.int .i64 (if rightR r [5] then 0 else 2), s')] ∧ s'.n = s.n ∧ (∀ j, j ≠ m → HP.get s'.h j = HP.get s.h j) ∧ HP.get s'.h m = some (.map (es'.map ent) c') ∧ most es' (B + 1) ∧ (∀ j, lk es' j = if j = 5 then joinAll (lk es 5) [r] else lk es j) := by
  have h := c47 (n := n) (mm := mm) ht hm hp hmn r [5] hB (by simpa using hbd)
  by_cases hr : rightR r [5] = true
  · refine ⟨(upE es c 5 (joinF (lk es 5) r)).1, (upE es c 5 (joinF (lk es 5) r)).2, _, h, ?_, fun j hj => ?_, ?_, ?_, fun j => ?_⟩
    · rw [if_pos hr]; rfl
    · rw [if_pos hr, get_put_other hj]
    · rw [if_pos hr, get_put_same]; rfl
    · refine most_up (fun e he => Nat.le_succ_of_le (hB e he)) _ _ _ ?_
      have := joinF_len (lk es 5) r
      have := most_lk hB 5
      omega
    · rw [lk_up]
      unfold joinAll
      simp only [List.foldl_cons, List.foldl_nil, hr, if_true]
  · refine ⟨es, c, _, h, ?_, fun j hj => ?_, ?_, fun e he => Nat.le_succ_of_le (hB e he), fun j => ?_⟩
    · rw [if_neg hr]
    · rw [if_neg hr]
    · rw [if_neg hr]; exact hm
    · have e : joinAll (lk es 5) [r] = lk es 5 := by unfold joinAll; simp only [List.foldl_cons, List.foldl_nil, hr, if_false, Bool.false_eq_true]
      rw [e]
      by_cases hj : j = 5
      · rw [if_pos hj, hj]
      · rw [if_neg hj]
theorem joinAll_app (l : List Rg) (a b : List Rg) : joinAll l (a ++ b) = joinAll (joinAll l a) b := by unfold joinAll; rw [List.foldl_append]
def inAny (L : List Rg) (t : Int) : Bool := L.any fun r => rightR r [5] && (decide (t ≥ r.1) && decide (t ≤ r.2))
theorem bs67 (s : SH) (k : Int) : buildSliceD Try.prog false s 67 1 [(0, .int .u64 k)] = some (sl u6 1 [k], s) := by kernel_rfl
theorem b_eqb {t : TypeId} (hu : Try.prog.underlying t = some .bool) (a b : Bool) : bopD Try.prog .eql t (.bool a) (.bool b) = some (.bool (a == b)) := bop_bool hu a b
theorem cov_cov (l : List Rg) (t : Int) : cov l t = true ↔ cov' l t := by
  unfold cov cov'
  rw [List.any_eq_true]
  constructor
  · rintro ⟨r, hr, h⟩
    simp only [Bool.and_eq_true, decide_eq_true_eq] at h
    exact ⟨r, hr, h.1, h.2⟩
  · rintro ⟨r, hr, h1, h2⟩
    exact ⟨r, hr, by simp only [Bool.and_eq_true, decide_eq_true_eq]; exact ⟨h1, h2⟩⟩
theorem cov_in (L : List Rg) (t : Int) : cov (joinAll [] L) t = inAny L t := by
  obtain ⟨_, h⟩ := joinAll_ok L [] trivial
  have h := h t
  have e : cov (joinAll [] L) t = true ↔ inAny L t = true := by
    rw [cov_cov, h]
    unfold inAny cov'
    rw [List.any_eq_true]
    simp only [List.not_mem_nil, false_and, exists_false, false_or, Bool.and_eq_true, decide_eq_true_eq]
  cases ha : cov (joinAll [] L) t <;> cases hb : inAny L t <;> simp_all
theorem run14 {n : Nat} (s : SH) (L : List Rg) (a : Int) : ∃ s', callD Try.prog AT (n + 7) (.fn 14) [sl rg 0 L, .int .i64 a] s = some [(.bool true, s')] := by
  rw [call_fn (fn := Try.f14) rfl rfl (by kernel_rfl)]
  show ∃ s', bodyD Try.prog false _ _ 14 Try.f14 _ s = _
  rw [f14_r]
  have hmin : minD Try.prog (.int .i64 (L.length : Int)) [.int .i64 20] = some (.int .i64 ((min L.length 20 : Nat) : Int)) := min_nat .i64 L.length 20
  have hN : min L.length 20 ≤ 20 := Nat.min_le_right _ _
  have hNl : min L.length 20 ≤ L.length := Nat.min_le_left _ _
  simp only [f14, o_bool, o_alloc, o_box, o_build, o_buildSlice, o_load, o_store, o_nilCheck, o_bop, o_uop, o_conv, o_slc, o_fieldAddr, o_field, o_indexAddr, o_index, o_extract, o_lookup, o_mapUpdate, o_makeMap, o_mapEntry, o_entryStore, o_delete, o_len, o_append, o_min, o_max, o_tgt, bindS, many1, jnE, boolS, gdB, fst', snd', c45, uop_not, Bool.not_true, condF, c46, newD_n, len_sl u80, hmin, c20 a 35184372088833 (by decide)]
  generalize min L.length 20 = N at hN hNl
  generalize among a 35184372088833 = t
  -- the two tombs
  generalize h0 : newD (newD (newD (newD s (.map [] 0)) (.row [.map (some s.n)])) (.map [] 0)) (.row [.map (some (s.n + 1 + 1))]) = s4
  have hn4 : s4.n = s.n + 4 := by rw [← h0]; simp only [newD_n]
  have g0 : HP.get s4.h s.n = some (.map (([] : List En).map ent) 0) := by rw [← h0, get_old (by simp only [newD_n]; omega), get_old (by simp only [newD_n]; omega), get_old (by simp only [newD_n]; omega), get_new rfl]; rfl
  have g1 : TombAt s4 (s.n + 1) s.n := by unfold TombAt; rw [← h0, get_old (by simp only [newD_n]; omega), get_old (by simp only [newD_n]; omega), get_new (by simp only [newD_n])]
  have g2 : HP.get s4.h (s.n + 1 + 1) = some (.map (([] : List En).map ent) 0) := by rw [← h0, get_old (by simp only [newD_n]; omega), get_new (by simp only [newD_n])]; rfl
  have g3 : TombAt s4 (s.n + 1 + 1 + 1) (s.n + 1 + 1) := by unfold TombAt; rw [← h0, get_new (by simp only [newD_n])]
  clear h0
  have hlT : (L.take N).length = N := by rw [List.length_take]; omega
  refine list_rule (L.take N) (fun i (x : Value × Value) (s' : SH) => x.2 = .int .i64 i ∧ x.1 = .bool (inAny (L.take i) t) ∧ s'.n = s4.n ∧ TombAt s' (s.n + 1) s.n ∧ TombAt s' (s.n + 1 + 1 + 1) (s.n + 1 + 1) ∧ HP.get s'.h (s.n + 1 + 1) = some (.map (([] : List En).map ent) 0) ∧ ∃ es c, HP.get s'.h s.n = some (.map (es.map ent) c) ∧ most es i ∧ lk es 5 = joinAll [] (L.take i) ∧ lk es 6 = []) (fun (q : Option (List (Value × SH))) => ∃ s', q = some [(.bool true, s')]) ?_ ?_ ?h0 (by show (L.take N).length < 2 ^ 64; omega)
  case h0 => exact ⟨rfl, rfl, rfl, g1, g3, g2, [], 0, g0, fun e he => absurd he List.not_mem_nil, rfl, rfl⟩
  · rintro i hi ⟨x1, x2⟩ s' ⟨h1, h2, h3, h4, h5, h6, es, c, h7, h8, h9, h10⟩ nx hnx
    simp only at h1 h2
    subst h1 h2
    rw [hlT] at hi
    have hiL : i < L.length := by omega
    have hlt : (i : Int) < (N : Int) := by omega
    have hw : IntKind.i64.wrap ((i : Int) + 1) = ((i + 1 : Nat) : Int) := by rw [wrap_i64 (by omega) (by omega)]; rfl
    have hld : ∀ s' : SH, loadD Try.prog s' 69 (fpV (rg L[i]).toArray 0) = some (.agg (rg L[i]).toArray) := fun s' => by rw [load_fp, part_agg a69 z69 (l := rg L[i]) rfl rfl]
    have hl0 : ∀ s' : SH, loadD Try.prog s' 3 (fpV (rg L[i]).toArray 0) = some (.int .i64 L[i].1) := fun s' => by rw [load_fp, part_one a3]; rfl
    have hl1 : ∀ s' : SH, loadD Try.prog s' 3 (fpV (rg L[i]).toArray 1) = some (.int .i64 L[i].2) := fun s' => by rw [load_fp, part_one a3]; rfl
    obtain ⟨es', c', s'', e1, e2, e3, e4, e5, e6⟩ := add5 (n := n + 3) (mm := 1) h4 h7 (by omega) (by omega) L[i] h8 (by omega)
    have hts : L.take (i + 1) = L.take i ++ [L[i]] := List.take_succ_eq_append_getElem hiL
    have hin : inAny (L.take (i + 1)) t = (inAny (L.take i) t || (rightR L[i] [5] && (decide (t ≥ L[i].1) && decide (t ≤ L[i].2)))) := by
      rw [hts]; unfold inAny; rw [List.any_append]; simp
    simp only [f14_l0, o_bool, o_alloc, o_box, o_build, o_buildSlice, o_load, o_store, o_nilCheck, o_bop, o_uop, o_conv, o_slc, o_fieldAddr, o_field, o_indexAddr, o_index, o_extract, o_lookup, o_mapUpdate, o_makeMap, o_mapEntry, o_entryStore, o_delete, o_len, o_append, o_min, o_max, o_tgt, bindS, many1, jnE, boolS, gdB, fst', snd', bop_lss, hlt, decide_true, condT, ixs80 rg_len hiL, hld, bs67, e1, bop_eql]
    have fin : ∀ b, b = inAny (L.take (i + 1)) t → ∃ s_1, nx (.bool b, .int .i64 ((i + 1 : Nat) : Int)) s'' = some [(.bool true, s_1)] := fun b hb => hnx _ _ ⟨rfl, by rw [hb], by omega, by unfold TombAt; rw [e3 _ (by omega)]; exact h4, by unfold TombAt; rw [e3 _ (by omega)]; exact h5, by rw [e3 _ (by omega)]; exact h6, es', c', e4, e5, by rw [e6, if_pos rfl, h9, hts, joinAll_app], by rw [e6, if_neg (by decide)]; exact h10⟩
    by_cases hr : rightR L[i] [5] = true
    · simp only [hr, if_true, decide_true, condT, flf69_0, flf69_1, hl0, hl1, o_bool, o_alloc, o_box, o_build, o_buildSlice, o_load, o_store, o_nilCheck, o_bop, o_uop, o_conv, o_slc, o_fieldAddr, o_field, o_indexAddr, o_index, o_extract, o_lookup, o_mapUpdate, o_makeMap, o_mapEntry, o_entryStore, o_delete, o_len, o_append, o_min, o_max, o_tgt, bindS, many1, jnE, boolS, gdB, fst', snd', bop_geq, bop_leq]
      by_cases c1 : t ≥ L[i].1
      · by_cases c2 : t ≤ L[i].2
        · simp only [c1, c2, decide_true, condT, bop_add, bindS, hw]
          exact fin _ (by rw [hin, hr, decide_eq_true c1, decide_eq_true c2]; simp)
        · simp only [c1, c2, decide_true, decide_false, condT, condF, bop_add, bindS, hw]
          exact fin _ (by rw [hin, hr, decide_eq_true c1, decide_eq_false c2]; simp)
      · simp only [c1, decide_false, condF, bop_add, bindS, hw]
        exact fin _ (by rw [hin, hr, decide_eq_false c1]; simp)
    · have h20 : ((2 : Int) = 0) = False := by decide
      simp only [hr, if_false, h20, decide_false, condF, o_bool, o_alloc, o_box, o_build, o_buildSlice, o_load, o_store, o_nilCheck, o_bop, o_uop, o_conv, o_slc, o_fieldAddr, o_field, o_indexAddr, o_index, o_extract, o_lookup, o_mapUpdate, o_makeMap, o_mapEntry, o_entryStore, o_delete, o_len, o_append, o_min, o_max, o_tgt, bindS, many1, jnE, boolS, gdB, fst', snd', bop_add, hw, Bool.false_eq_true]
      exact fin _ (by rw [hin]; simp [hr])
  · rintro ⟨x1, x2⟩ s' ⟨h1, h2, h3, h4, h5, h6, es, c, h7, h8, h9, h10⟩ nx
    simp only at h1 h2
    subst h1 h2
    rw [hlT]
    have hnlt : ¬ ((N : Int) < (N : Int)) := by omega
    have hw : IntKind.i64.wrap ((N : Int) - 1) = (N : Int) - 1 := wrap_i64 (by omega) (by omega)
    rw [hlT] at h8 h9
    simp only [f14_l0, o_bool, o_alloc, o_box, o_build, o_buildSlice, o_load, o_store, o_nilCheck, o_bop, o_uop, o_conv, o_slc, o_fieldAddr, o_field, o_indexAddr, o_index, o_extract, o_lookup, o_mapUpdate, o_makeMap, o_mapEntry, o_entryStore, o_delete, o_len, o_append, o_min, o_max, o_tgt, bindS, many1, jnE, boolS, gdB, fst', snd', bop_lss, hnlt, decide_false, condF, beq_yes, condT, b_sub, hw, hlT]
    -- the way back
    refine loop_rule (fun d (x : Value) (s'' : SH) => d ≤ N ∧ x = .int .i64 ((d : Int) - 1) ∧ s''.n = s4.n ∧ TombAt s'' (s.n + 1) s.n ∧ TombAt s'' (s.n + 1 + 1 + 1) (s.n + 1 + 1) ∧ HP.get s''.h s.n = some (.map (es.map ent) c) ∧ ∃ es2 c2 M, HP.get s''.h (s.n + 1 + 1) = some (.map (es2.map ent) c2) ∧ most es2 (2 * (N - d)) ∧ lk es2 5 = joinAll [] M ∧ ∀ r, r ∈ M ↔ r ∈ (L.take N).drop d) (fun (q : Option (List (Value × SH))) => ∃ s', q = some [(.bool true, s')]) ?_ _ N _ s' ⟨Nat.le_refl _, rfl, h3, h4, h5, h7, [], 0, [], h6, fun e he => absurd he List.not_mem_nil, rfl, fun r => by rw [List.drop_of_length_le (by omega)]⟩ (by show N < 2 ^ 64; omega)
    rintro d x s'' ⟨hd, rfl, k1, k2, k3, k4, es2, c2, M, k5, k6, k7, k8⟩ nx hnx
    by_cases hd0 : d = 0
    · subst hd0
      have hge : ¬ (((0 : Nat) : Int) - 1 ≥ 0) := by omega
      have hM : lk es2 5 = lk es 5 := by
        rw [k7, h9]
        exact joinAll_perm fun r => by rw [k8 r, List.drop_zero]
      have hB : (lk es 5).length ≤ N := most_lk h8 5
      obtain ⟨q1, _, f1⟩ := c50 (n := n + 1) (k := 5) k2 k4 (by omega) (by omega) (by omega)
      obtain ⟨q2, _, f2⟩ := c50 (n := n + 1) (k := 5) k3 k5 (by omega) (by omega) (by rw [hM]; omega)
      have f3 := c49 (n := n + 5) (m := q1) (m' := q2) (s := s'') (lk es 5) (lk es2 5) (by omega)
      have f4 := c48 (n := n + 3) (k := 5) (t := t) k2 k4 (by omega) (by omega) (by omega)
      have f5 := c48 (n := n + 3) (k := 6) (t := t) k2 k4 (by omega) (by omega) (by rw [h10]; decide)
      have hc : cov (lk es 5) t = inAny (L.take N) t := by rw [h9, cov_in]
      have hc6 : cov (lk es 6) t = false := by rw [h10]; rfl
      have hxx : (inAny (L.take N) t == inAny (L.take N) t) = true := by simp
      have hdd : decide (lk es 5 = lk es2 5) = true := decide_eq_true hM.symm
      simp only [f14_l1, o_bool, o_alloc, o_box, o_build, o_buildSlice, o_load, o_store, o_nilCheck, o_bop, o_uop, o_conv, o_slc, o_fieldAddr, o_field, o_indexAddr, o_index, o_extract, o_lookup, o_mapUpdate, o_makeMap, o_mapEntry, o_entryStore, o_delete, o_len, o_append, o_min, o_max, o_tgt, bindS, many1, jnE, boolS, gdB, fst', snd', bop_geq, hge, decide_false, condF, beq_yes, condT, f4, hc, b_eqb u4, hxx, f1, f2, f3, hdd, f5, hc6, uop_not, Bool.not_false]
      exact ⟨_, rfl⟩
    · have hge : ((d : Int) - 1 ≥ 0) := by omega
      obtain ⟨i, rfl⟩ : ∃ i, d = i + 1 := ⟨d - 1, by omega⟩
      have hi1 : ((i + 1 : Nat) : Int) - 1 = (i : Int) := by omega
      rw [hi1] at hge ⊢
      have hiL : i < L.length := by omega
      have hw : IntKind.i64.wrap ((i : Int) - 1) = (i : Int) - 1 := wrap_i64 (by omega) (by omega)
      have hld : ∀ s' : SH, loadD Try.prog s' 69 (fpV (rg L[i]).toArray 0) = some (.agg (rg L[i]).toArray) := fun s' => by rw [load_fp, part_agg a69 z69 (l := rg L[i]) rfl rfl]
      obtain ⟨es3, c3, s3, e1, e2, e3, e4, e5, e6⟩ := add5 (n := n + 3) (mm := 1) k3 k5 (by omega) (by omega) L[i] k6 (by omega)
      obtain ⟨es5, c5, s5, w1, w2, w3, w4, w5, w6⟩ := add5 (n := n + 3) (mm := 1) (p := s.n + 1 + 1 + 1) (s := s3) (by unfold TombAt; rw [e3 _ (by omega)]; exact k3) e4 (by omega) (by omega) L[i] e5 (by omega)
      simp only [f14_l1, o_bool, o_alloc, o_box, o_build, o_buildSlice, o_load, o_store, o_nilCheck, o_bop, o_uop, o_conv, o_slc, o_fieldAddr, o_field, o_indexAddr, o_index, o_extract, o_lookup, o_mapUpdate, o_makeMap, o_mapEntry, o_entryStore, o_delete, o_len, o_append, o_min, o_max, o_tgt, bindS, many1, jnE, boolS, gdB, fst', snd', bop_geq, hge, decide_true, condT, ixs80 rg_len hiL, hld, bs67, e1, w1, b_sub, hw]
      refine hnx i _ _ (by omega) ⟨by omega, rfl, by omega, by unfold TombAt; rw [w3 _ (by omega), e3 _ (by omega)]; exact k2, by unfold TombAt; rw [w3 _ (by omega), e3 _ (by omega)]; exact k3, by rw [w3 _ (by omega), e3 _ (by omega)]; exact k4, es5, c5, M ++ [L[i]] ++ [L[i]], w4, fun e he => by have := w5 e he; omega, ?_, fun r => ?_⟩
      · rw [w6, if_pos rfl, e6, if_pos rfl, k7, joinAll_app, joinAll_app]
      · have hdr : (L.take N).drop i = L[i] :: (L.take N).drop (i + 1) := by
          have hi' : i < (L.take N).length := by omega
          rw [List.drop_eq_getElem_cons hi', List.getElem_take]
        rw [hdr]
        simp only [List.mem_append, k8 r, List.mem_cons, List.not_mem_nil, or_false]
        constructor
        · rintro ((u | u) | u)
          · exact .inr u
          · exact .inl u
          · exact .inl u
        · rintro (u | u)
          · exact .inr u
          · exact .inl (.inl u)
end Go.Proofs.Ytmhmbmogodofeaa.S
