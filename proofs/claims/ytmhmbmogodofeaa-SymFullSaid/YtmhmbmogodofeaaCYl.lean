import Derived.Test.YtmhmbmogodofeaaCYk
set_option autoImplicit false
set_option linter.unusedVariables false
set_option linter.unusedSimpArgs false
set_option maxRecDepth 100000
namespace Go.Proofs.Ytmhmbmogodofeaa.S
open Go.FS Go.RowKit
attribute [local congr] bind_cg cond_cg gd_cg
/-! The plain law of a table. -/
theorem goS_put {bs : List UInt8} : ∀ (rest acc : List Str) (a j : Nat), At bs a (encT (acc.getLastD []) rest) j → Ris (acc ++ rest) → (∀ x ∈ rest, x.length ≤ 256) → goS bs rest.length a acc = (acc ++ rest, j, 0)
  | [], acc, a, j, h, _, _ => by
    obtain ⟨h, _⟩ := h
    have h : j = a + 0 := h
    show (acc, a, (0 : Int)) = _
    rw [List.append_nil, h]; rfl
  | x :: rest, acc, a, j, h, hr, hx => by
    have h : At bs a ((vput (comL (acc.getLastD []) x) ++ (vput (x.drop (comL (acc.getLastD []) x)).length ++ x.drop (comL (acc.getLastD []) x))) ++ encT x rest) j := h
    obtain ⟨j1, h1, h2⟩ := h.split
    have hn := nextS_put h1 (hx x (List.mem_cons_self ..))
    have e : acc ++ x :: rest = (acc ++ [x]) ++ rest := by rw [List.append_assoc]; rfl
    have hc : (!acc.isEmpty && !Op.bytesLess (acc.getLastD []) x) = false := by
      rcases List.eq_nil_or_concat acc with rfl | ⟨l', y, rfl⟩
      · rfl
      · rw [List.concat_eq_append, List.getLastD_concat]
        rw [List.concat_eq_append, List.append_assoc] at hr
        have hr := (List.pairwise_append.1 hr).2.1
        have : lt' y x := (List.pairwise_cons.1 hr).1 x (by simp)
        unfold lt' at this
        rw [this, Bool.not_true, Bool.and_false]
    have ih := goS_put rest (acc ++ [x]) j1 j (by rw [List.getLastD_concat]; exact h2) (by rw [← e]; exact hr) fun y hy => hx y (List.mem_cons_of_mem _ hy)
    show (match nextS bs a (acc.getLastD []) with
      | (x, j2, e) => if e ≠ 0 then ([], 0, e) else if (!acc.isEmpty && !Op.bytesLess (acc.getLastD []) x) = true then ([], 0, 150) else goS bs rest.length j2 (acc ++ [x])) = _
    rw [hn]
    simp only
    rw [if_neg (by simp), hc, if_neg (by simp), ih, e]
theorem goS_ok {bs : List UInt8} : ∀ (d a : Nat) (acc : List Str), a ≤ bs.length → (goS bs d a acc).2.2 = 0 → ∃ rest, (goS bs d a acc).1 = acc ++ rest ∧ rest.length = d ∧ At bs a (encT (acc.getLastD []) rest) (goS bs d a acc).2.1 ∧ ∀ x ∈ rest, x.length ≤ 256
  | 0, a, acc, ha, _ => ⟨[], (List.append_nil _).symm, rfl, At.nil ha, fun x h => (List.not_mem_nil h).elim⟩
  | d + 1, a, acc, ha, h => by
    have e : goS bs (d + 1) a acc = (match nextS bs a (acc.getLastD []) with
      | (x, j2, e) => if e ≠ 0 then ([], 0, e) else if (!acc.isEmpty && !Op.bytesLess (acc.getLastD []) x) = true then ([], 0, 150) else goS bs d j2 (acc ++ [x])) := rfl
    have hk := nextS_ok (bs := bs) (i := a) (last := acc.getLastD []) ha
    rw [e] at h ⊢
    generalize nextS bs a (acc.getLastD []) = r at h hk
    obtain ⟨x, j2, er⟩ := r
    simp only at h hk ⊢
    by_cases he : er = 0
    · subst he
      obtain ⟨k1, k2⟩ := hk rfl
      rw [if_neg (by simp)] at h ⊢
      by_cases hc : (!acc.isEmpty && !Op.bytesLess (acc.getLastD []) x) = true
      · rw [if_pos hc] at h; exact absurd h (by decide)
      · rw [if_neg hc] at h ⊢
        obtain ⟨rest, q1, q2, q3, q4⟩ := goS_ok d j2 (acc ++ [x]) k1.le.2 h
        rw [List.getLastD_concat] at q3
        refine ⟨x :: rest, by rw [q1, List.append_assoc]; rfl, by rw [List.length_cons, q2], k1.app q3, fun y hy => ?_⟩
        rcases List.mem_cons.1 hy with rfl | hy
        · exact k2
        · exact q4 y hy
    · rw [if_pos he] at h; exact absurd h he
theorem goS_err {bs : List UInt8} : ∀ (d a : Nat) (acc : List Str), (goS bs d a acc).2.2 ≠ 0 → (goS bs d a acc).1 = [] ∧ (goS bs d a acc).2.1 = 0
  | 0, a, acc, h => absurd rfl h
  | d + 1, a, acc, h => by
    have e : goS bs (d + 1) a acc = (match nextS bs a (acc.getLastD []) with
      | (x, j2, e) => if e ≠ 0 then ([], 0, e) else if (!acc.isEmpty && !Op.bytesLess (acc.getLastD []) x) = true then ([], 0, 150) else goS bs d j2 (acc ++ [x])) := rfl
    rw [e] at h ⊢
    generalize nextS bs a (acc.getLastD []) = r at h
    obtain ⟨x, j2, er⟩ := r
    simp only at h ⊢
    by_cases he : er = 0
    · subst he
      rw [if_neg (by simp)] at h ⊢
      by_cases hc : (!acc.isEmpty && !Op.bytesLess (acc.getLastD []) x) = true
      · rw [if_pos hc]; exact ⟨rfl, rfl⟩
      · rw [if_neg hc] at h ⊢
        exact goS_err d j2 (acc ++ [x]) h
    · rw [if_pos he]; exact ⟨rfl, rfl⟩
theorem readS_put {bs : List UInt8} {i j : Nat} {T : List Str} (h : At bs i (putS T) j) (hr : Ris T) (hl : T.length ≤ 4096) (hx : ∀ x ∈ T, x.length ≤ 256) : readS bs i = (T, j, 0) := by
  obtain ⟨j1, h1, h2⟩ := h.split
  unfold readS
  rw [vread_at h1 (by omega)]
  simp only
  rw [if_neg (by simp), if_neg (by omega), goS_put T [] j1 j h2 hr hx]
  rfl
theorem readS_ok {bs : List UInt8} {i : Nat} (hi : i ≤ bs.length) (h : (readS bs i).2.2 = 0) : At bs i (putS (readS bs i).1) (readS bs i).2.1 ∧ (readS bs i).1.length ≤ 4096 ∧ ∀ x ∈ (readS bs i).1, x.length ≤ 256 := by
  have hv := vread_at' (bs := bs) (i := i) hi
  unfold readS at h ⊢
  generalize vread bs i = r at h hv
  obtain ⟨k, j, e⟩ := r
  simp only at h hv ⊢
  by_cases he : e = 0
  · subst he
    obtain ⟨h1, hk⟩ := hv rfl
    rw [if_neg (by simp)] at h ⊢
    by_cases h4 : 4096 < k
    · rw [if_pos h4] at h; exact absurd h (by decide)
    · rw [if_neg h4] at h ⊢
      obtain ⟨rest, q1, q2, q3, q4⟩ := goS_ok k j [] h1.le.2 h
      rw [List.nil_append] at q1
      rw [q1]
      refine ⟨?_, by omega, q4⟩
      unfold putS
      rw [q2]
      exact h1.app q3
  · rw [if_pos he] at h; exact absurd h he
theorem readS_err (bs : List UInt8) (i : Nat) (h : (readS bs i).2.2 ≠ 0) : (readS bs i).1 = [] ∧ (readS bs i).2.1 = 0 := by
  unfold readS at h ⊢
  generalize vread bs i = r at h
  obtain ⟨k, j, e⟩ := r
  simp only at h ⊢
  by_cases he : e = 0
  · subst he
    rw [if_neg (by simp)] at h ⊢
    by_cases h4 : 4096 < k
    · rw [if_pos h4]; exact ⟨rfl, rfl⟩
    · rw [if_neg h4] at h ⊢
      exact goS_err k j [] h
  · rw [if_pos he]; exact ⟨rfl, rfl⟩
theorem bad_ok {l : List Str} (h : bad l = false) : (mkT l).length ≤ 4096 ∧ ∀ x ∈ mkT l, x.length ≤ 256 := by
  unfold bad at h
  rw [Bool.or_eq_false_iff] at h
  refine ⟨by have := of_decide_eq_false h.1; omega, fun x hx => ?_⟩
  have := List.any_eq_false.1 h.2 x hx
  simp only [decide_eq_true_eq] at this
  omega
/-! Helpers' contracts. -/
theorem c30 {n : Nat} {s : SH} : callD Try.prog AB (n + 1) (.fn 30) [] s = some [(.bool true, s)] := by
  rw [call_i (i := yes) rfl]; rfl
theorem c26 {n m m' : Nat} {s : SH} (a b : List UInt8) : callD Try.prog AB (n + 1) (.fn 26) [sl by' m a, sl by' m' b] s = some [(.bool (decide (a = b)), s)] := by
  refine cut_call (fn := Try.f26) rfl rfl (by kernel_rfl) (v := .bool (decide (a = b))) (fun _ h => by cases h) (.bool _) ?_
  show One (bodyD Try.prog false _ _ 26 Try.f26 _ s) _
  rw [f26_r]
  simp only [f26, o_bool, o_alloc, o_box, o_build, o_buildSlice, o_load, o_store, o_nilCheck, o_bop, o_uop, o_conv, o_slc, o_fieldAddr, o_field, o_indexAddr, o_index, o_extract, o_lookup, o_mapUpdate, o_makeSlice, o_clear, o_makeMap, o_mapEntry, o_entryStore, o_delete, o_len, o_append, o_min, o_max, o_tgt, bindS, many1, jnE, boolS, gdB, fst', snd', conv_bt, bop_seq 9 _ _ rfl]
  exact One.ret ⟨rfl, .refl s⟩
theorem c38 {n m : Nat} {s : SH} (a : List UInt8) (ha : a.length < 2 ^ 46) : ∃ v s', callD Try.prog AB (n + 1) (.fn 38) [sl by' m a] s = some [(v, s')] ∧ Grow s.n 1 by' s' v a ∧ Sm s.n s s' := by
  rw [call_fn (fn := Try.f38) rfl rfl (by kernel_rfl)]
  show ∃ v s', bodyD Try.prog false _ _ 38 Try.f38 _ s = _ ∧ _
  rw [f38_r]
  obtain ⟨v2, s2, e2, w1, w2, w3⟩ := gapp35 (lo := s.n) (s := s) (m2 := m) (xs := []) (ys := a) (.inl ⟨rfl, .inr rfl⟩) (Nat.le_refl _) (by simp only [List.length_nil]; omega)
  simp only [f38, o_bool, o_alloc, o_box, o_build, o_buildSlice, o_load, o_store, o_nilCheck, o_bop, o_uop, o_conv, o_slc, o_fieldAddr, o_field, o_indexAddr, o_index, o_extract, o_lookup, o_mapUpdate, o_makeSlice, o_clear, o_makeMap, o_mapEntry, o_entryStore, o_delete, o_len, o_append, o_min, o_max, o_tgt, bindS, many1, jnE, boolS, gdB, fst', snd', bs35_0, e2]
  exact ⟨v2, s2, rfl, w1, w2⟩
def amongI (b : Int) (m : Nat) : Nat := (b % 2 ^ 64).toNat % m
theorem c20 {n : Nat} {s : SH} (b : Int) (m : Nat) (h0 : 1 ≤ m) (h1 : m < 2 ^ 62) : callD Try.prog AB (n + 1) (.fn 20) [.int .i64 b, .int .i64 (m : Int)] s = some [(.int .i64 (amongI b m : Int), s)] := by
  refine cut_call (fn := Try.f20) rfl rfl (by kernel_rfl) (v := .int .i64 (amongI b m : Int)) (fun _ h => by cases h) (.int _ _) ?_
  show One (bodyD Try.prog false _ _ 20 Try.f20 _ s) _
  rw [f20_r]
  have hng : ¬ ((m : Int) < 1) := by omega
  have hwm : IntKind.u64.wrap (m : Int) = (m : Int) := wrap_u64 (by omega) (by omega)
  have hwb : IntKind.u64.wrap b = (((b % 2 ^ 64).toNat : Nat) : Int) := by
    have e : IntKind.u64.wrap b = b % 2 ^ 64 := by
      simp only [IntKind.wrap, IntKind.signed, IntKind.bits, Bool.false_and, Bool.false_eq_true, if_false]
    rw [e]; omega
  have ht : Int.tmod (((b % 2 ^ 64).toNat : Nat) : Int) (m : Int) = (amongI b m : Int) := rfl
  have hlt : amongI b m < m := Nat.mod_lt _ (by omega)
  have hwa : IntKind.i64.wrap (amongI b m : Int) = (amongI b m : Int) := wrap_i64 (by omega) (by omega)
  simp only [f20, o_bool, o_alloc, o_box, o_build, o_buildSlice, o_load, o_store, o_nilCheck, o_bop, o_uop, o_conv, o_slc, o_fieldAddr, o_field, o_indexAddr, o_index, o_extract, o_lookup, o_mapUpdate, o_makeSlice, o_clear, o_makeMap, o_mapEntry, o_entryStore, o_delete, o_len, o_append, o_min, o_max, o_tgt, bindS, many1, jnE, boolS, gdB, fst', snd', bop_lss, hng, decide_false, condF, conv_int u3 u70, conv_int u70 u3, hwm, hwb, b_rem _ _ _ _ (show (m : Int) ≠ 0 by omega), ht, hwa]
  exact One.ret ⟨rfl, .refl s⟩
theorem among_lt (b : Int) {m : Nat} (h : 1 ≤ m) : amongI b m < m := Nat.mod_lt _ (by omega)
end Go.Proofs.Ytmhmbmogodofeaa.S
