import Derived.Test.YtmhmbmogodofeaaCYg
set_option autoImplicit false
set_option linter.unusedVariables false
set_option linter.unusedSimpArgs false
set_option maxRecDepth 100000
namespace Go.Proofs.Ytmhmbmogodofeaa.S
open Go.FS Go.RowKit
attribute [local congr] bind_cg cond_cg gd_cg
/-! Len, Get, Find, common. -/
theorem bx_tab (s : SH) (m : Nat) (l : List Str) : boxD s (.agg #[sl tx m l]) = some (.pointer (some ⟨s.n, 0, none⟩), newD s (.row [sl tx m l])) := box_at rfl rfl
theorem c33 {n m : Nat} {s : SH} (l : List Str) : callD Try.prog AB (n + 1) (.fn 33) [.agg #[sl tx m l]] s = some [(.int .i64 (l.length : Int), s)] := by
  refine cut_call (fn := Try.f33) rfl rfl (by kernel_rfl) (v := .int .i64 (l.length : Int)) (fun _ h => by cases h) (.int _ _) ?_
  show One (bodyD Try.prog false _ _ 33 Try.f33 _ s) _
  rw [f33_r]
  simp only [f33, o_bool, o_alloc, o_box, o_build, o_buildSlice, o_load, o_store, o_nilCheck, o_bop, o_uop, o_conv, o_slc, o_fieldAddr, o_field, o_indexAddr, o_index, o_extract, o_lookup, o_mapUpdate, o_makeSlice, o_clear, o_makeMap, o_mapEntry, o_entryStore, o_delete, o_len, o_append, o_min, o_max, o_tgt, bindS, many1, jnE, boolS, gdB, fst', snd', bx_tab, fld48_0, ld45 (get_new rfl), len_sl u45]
  exact One.ret ⟨rfl, (Ext.refl s).new _⟩
theorem c34 {n m i : Nat} {s : SH} (l : List Str) (hi : i < l.length) (hl : l.length < 2 ^ 62) : callD Try.prog AB (n + 1) (.fn 34) [.agg #[sl tx m l], .int .i64 (i : Int)] s = some [(.tuple #[encStr l[i], .int .i64 0], s)] := by
  refine cutT_call (fn := Try.f34) (l := [encStr l[i], .int .i64 0]) rfl rfl (by kernel_rfl) (fun c hc => ?_) ?_
  · simp only [List.mem_cons, List.not_mem_nil, or_false] at hc
    rcases hc with rfl | rfl
    · exact .string _
    · exact .int _ _
  show One (bodyD Try.prog false _ _ 34 Try.f34 _ s) _
  rw [f34_r]
  have h1 : ¬ ((i : Int) < 0) := by omega
  have h2 : ¬ ((i : Int) ≥ l.length) := by omega
  simp only [f34, o_bool, o_alloc, o_box, o_build, o_buildSlice, o_load, o_store, o_nilCheck, o_bop, o_uop, o_conv, o_slc, o_fieldAddr, o_field, o_indexAddr, o_index, o_extract, o_lookup, o_mapUpdate, o_makeSlice, o_clear, o_makeMap, o_mapEntry, o_entryStore, o_delete, o_len, o_append, o_min, o_max, o_tgt, bindS, many1, jnE, boolS, gdB, fst', snd', bx_tab, bop_lss, h1, decide_false, condF, fld48_0, ld45 (get_new rfl), len_sl u45, bop_geq, h2, ixt45 hi, ld_tx]
  exact One.ret ⟨_, rfl, _, rfl, (Ext.refl s).new _⟩
theorem bop_slt (x y : Str) : bopD Try.prog .lss 9 (encStr x) (encStr y) = some (.bool (Op.bytesLess x y)) := by
  have : bopD Try.prog .lss 9 (encStr x) (encStr y) = some (.bool (Op.bytesLess (⟨x.toArray⟩ : ByteArray).toList (⟨y.toArray⟩ : ByteArray).toList)) := rfl
  rw [this, ba_toList, ba_toList]
theorem bop_sle (x y : Str) : bopD Try.prog .leq 9 (encStr x) (encStr y) = some (.bool (Op.bytesLess x y || decide (x = y))) := by
  have : bopD Try.prog .leq 9 (encStr x) (encStr y) = some (.bool (Op.bytesLess (⟨x.toArray⟩ : ByteArray).toList (⟨y.toArray⟩ : ByteArray).toList || (⟨x.toArray⟩ : ByteArray).toList == (⟨y.toArray⟩ : ByteArray).toList)) := rfl
  rw [this, ba_toList, ba_toList]
  show some (Value.bool (Op.bytesLess x y || x == y)) = _
  congr 3
  rw [Bool.eq_iff_iff]; simp
theorem c162 {n : Nat} {s : SH} (x : Str) : callD Try.prog AB (n + 1) (.fn 162) [encStr x] s = some [(.bool false, s)] := by
  rw [call_fn (fn := Try.f162) rfl rfl (by kernel_rfl)]
  show bodyD Try.prog false _ _ 162 Try.f162 _ s = _
  rw [f162_r]
  simp only [f162, o_bool, o_alloc, o_box, o_build, o_buildSlice, o_load, o_store, o_nilCheck, o_bop, o_uop, o_conv, o_slc, o_fieldAddr, o_field, o_indexAddr, o_index, o_extract, o_lookup, o_mapUpdate, o_makeSlice, o_clear, o_makeMap, o_mapEntry, o_entryStore, o_delete, o_len, o_append, o_min, o_max, o_tgt, bindS, many1, jnE, boolS, gdB, fst', snd', bop_sne 9 x x rfl, decide_true, Bool.not_true]
theorem c134 {n : Nat} {s : SH} (x y : Str) : callD Try.prog AB (n + 2) (.fn 134) [encStr x, encStr y] s = some [(.bool (Op.bytesLess x y), s)] := by
  rw [call_fn (fn := Try.f134) rfl rfl (by kernel_rfl)]
  show bodyD Try.prog false _ _ 134 Try.f134 _ s = _
  rw [f134_r]
  simp only [f134, o_bool, o_alloc, o_box, o_build, o_buildSlice, o_load, o_store, o_nilCheck, o_bop, o_uop, o_conv, o_slc, o_fieldAddr, o_field, o_indexAddr, o_index, o_extract, o_lookup, o_mapUpdate, o_makeSlice, o_clear, o_makeMap, o_mapEntry, o_entryStore, o_delete, o_len, o_append, o_min, o_max, o_tgt, bindS, many1, jnE, boolS, gdB, fst', snd', c162, condF, bop_slt]
theorem shr1 (y : Nat) : bopD Try.prog .shr 201 (.int .u64 (y : Int)) (.int .u64 1) = some (.int .u64 ((y / 2 : Nat) : Int)) := by
  rw [bop_int]
  simp only [intS]
  rw [if_neg (by decide)]
  have e : ((2 : Int) ^ min (Int.toNat 1) IntKind.u64.bits) = ((2 : Nat) : Int) := by decide
  rw [e, ← Int.ofNat_fdiv]
theorem ris_lt {l : List Str} (h : Ris l) {i j : Nat} (hi : i < l.length) (hj : j < l.length) : Op.bytesLess l[i] l[j] = decide (i < j) := by
  have hp := List.pairwise_iff_getElem.1 h
  rcases Nat.lt_trichotomy i j with k | k | k
  · rw [decide_eq_true k]; exact hp i j hi hj k
  · subst k
    rw [decide_eq_false (Nat.lt_irrefl _)]
    cases e : Op.bytesLess l[i] l[i] with
    | false => rfl
    | true => exact absurd rfl (lt_ne e)
  · rw [decide_eq_false (by omega)]
    exact le_of_lt' (hp j i hj hi k)
theorem c86 {n m k : Nat} {s : SH} (l : List Str) (hr : Ris l) (hk : k < l.length) (hl : l.length < 2 ^ 62) : callD Try.prog AB (n + 3) (.fn 86) [sl tx m l, encStr l[k]] s = some [(.tuple #[.int .i64 (k : Int), .bool true], s)] := by
  rw [call_fn (fn := Try.f86) rfl rfl (by kernel_rfl)]
  suffices h : One (bodyD Try.prog false (callD Try.prog AB (n + 2)) AB.N 86 Try.f86 [sl tx m l, encStr l[k]] s) fun w s' => w = .tuple #[.int .i64 (k : Int), .bool true] ∧ s' = s by
    obtain ⟨w, s', e, rfl, rfl⟩ := h
    exact e
  rw [f86_r]
  simp only [f86, o_bool, o_alloc, o_box, o_build, o_buildSlice, o_load, o_store, o_nilCheck, o_bop, o_uop, o_conv, o_slc, o_fieldAddr, o_field, o_indexAddr, o_index, o_extract, o_lookup, o_mapUpdate, o_makeSlice, o_clear, o_makeMap, o_mapEntry, o_entryStore, o_delete, o_len, o_append, o_min, o_max, o_tgt, bindS, many1, jnE, boolS, gdB, fst', snd', len_sl u45]
  refine loop_rule (fun d (x : Value × Value × Value) (s' : SH) => s' = s ∧ ∃ i j : Nat, i + d = j ∧ i ≤ k ∧ k ≤ j ∧ j ≤ l.length ∧ x.1 = .int .i64 (i : Int) ∧ x.2.1 = .int .i64 (j : Int)) (fun r => One r fun w s' => w = .tuple #[.int .i64 (k : Int), .bool true] ∧ s' = s) ?_ _ l.length _ _ ⟨rfl, 0, l.length, by omega, Nat.zero_le _, Nat.le_of_lt hk, Nat.le_refl _, rfl, rfl⟩ (by show l.length < 2 ^ 64; omega)
  rintro d ⟨x1, x2, x3⟩ s' ⟨rfl, i, j, hd, hik, hkj, hjl, e1, e2⟩ nx hnx
  simp only at e1 e2
  subst e1 e2
  by_cases h0 : d = 0
  · have hi : i = k := by omega
    subst hi
    have hj : j = i := by omega
    subst hj
    have hng : ¬ ((j : Int) < (j : Int)) := by omega
    have hlt : (j : Int) < l.length := by omega
    simp only [f86_l0, o_bool, o_alloc, o_box, o_build, o_buildSlice, o_load, o_store, o_nilCheck, o_bop, o_uop, o_conv, o_slc, o_fieldAddr, o_field, o_indexAddr, o_index, o_extract, o_lookup, o_mapUpdate, o_makeSlice, o_clear, o_makeMap, o_mapEntry, o_entryStore, o_delete, o_len, o_append, o_min, o_max, o_tgt, bindS, many1, jnE, boolS, gdB, fst', snd', bop_lss, hng, decide_false, condF, beq_yes, condT, hlt, decide_true, ixt45 hk, ld_tx, bop_seq 9 _ _ rfl]
    exact One.ret ⟨rfl, rfl⟩
  · have hij : (i : Int) < (j : Int) := by omega
    have hw1 : IntKind.i64.wrap ((i : Int) + (j : Int)) = ((i + j : Nat) : Int) := by rw [wrap_i64 (by omega) (by omega)]; omega
    have hw2 : IntKind.u64.wrap ((i + j : Nat) : Int) = ((i + j : Nat) : Int) := wrap_u64 (by omega) (by omega)
    have hw3 : IntKind.i64.wrap (((i + j) / 2 : Nat) : Int) = (((i + j) / 2 : Nat) : Int) := wrap_i64 (by omega) (by omega)
    have hh : (i + j) / 2 < l.length := by omega
    have hw4 : IntKind.i64.wrap ((((i + j) / 2 : Nat) : Int) + 1) = (((i + j) / 2 + 1 : Nat) : Int) := by rw [wrap_i64 (by omega) (by omega)]; rfl
    simp only [f86_l0, o_bool, o_alloc, o_box, o_build, o_buildSlice, o_load, o_store, o_nilCheck, o_bop, o_uop, o_conv, o_slc, o_fieldAddr, o_field, o_indexAddr, o_index, o_extract, o_lookup, o_mapUpdate, o_makeSlice, o_clear, o_makeMap, o_mapEntry, o_entryStore, o_delete, o_len, o_append, o_min, o_max, o_tgt, bindS, many1, jnE, boolS, gdB, fst', snd', bop_lss, hij, decide_true, condT, bop_add, hw1, conv_int u3 u201, hw2, shr1, conv_int u201 u3, hw3, ixt45 hh, ld_tx, c134, ris_lt hr hh hk]
    by_cases hc : (i + j) / 2 < k
    · simp only [hc, decide_true, condT, hw4]
      exact hnx (j - ((i + j) / 2 + 1)) (_, _, _) _ (by omega) ⟨rfl, (i + j) / 2 + 1, j, by omega, by omega, hkj, hjl, rfl, rfl⟩
    · simp only [hc, decide_false, condF]
      exact hnx ((i + j) / 2 - i) (_, _, _) _ (by omega) ⟨rfl, i, (i + j) / 2, by omega, hik, by omega, by omega, rfl, rfl⟩
theorem c35 {n m k : Nat} {s : SH} (l : List Str) (hr : Ris l) (hk : k < l.length) (hl : l.length < 2 ^ 62) : callD Try.prog AB (n + 4) (.fn 35) [.agg #[sl tx m l], encStr l[k]] s = some [(.tuple #[.int .i64 (k : Int), .bool true], s)] := by
  refine cutT_call (fn := Try.f35) (l := [.int .i64 (k : Int), .bool true]) rfl rfl (by kernel_rfl) (fun c hc => ?_) ?_
  · simp only [List.mem_cons, List.not_mem_nil, or_false] at hc
    rcases hc with rfl | rfl
    · exact .int _ _
    · exact .bool _
  show One (bodyD Try.prog false _ _ 35 Try.f35 _ s) _
  rw [f35_r]
  simp only [f35, o_bool, o_alloc, o_box, o_build, o_buildSlice, o_load, o_store, o_nilCheck, o_bop, o_uop, o_conv, o_slc, o_fieldAddr, o_field, o_indexAddr, o_index, o_extract, o_lookup, o_mapUpdate, o_makeSlice, o_clear, o_makeMap, o_mapEntry, o_entryStore, o_delete, o_len, o_append, o_min, o_max, o_tgt, bindS, many1, jnE, boolS, gdB, fst', snd', bx_tab, fld48_0, ld45 (get_new rfl), c86 (n := n) l hr hk hl, (ext2 _ _).1, (ext2 _ _).2]
  exact One.ret ⟨_, rfl, _, rfl, (Ext.refl s).new _⟩
/-- How many bytes two texts begin with. -/
def comL : Str → Str → Nat
  | a :: x, b :: y => if a = b then comL x y + 1 else 0
  | _, _ => 0
theorem comL_le : ∀ (x y : Str), comL x y ≤ x.length ∧ comL x y ≤ y.length
  | [], y => ⟨Nat.zero_le _, Nat.zero_le _⟩
  | a :: x, [] => ⟨Nat.zero_le _, Nat.zero_le _⟩
  | a :: x, b :: y => by
    have := comL_le x y
    show (if a = b then comL x y + 1 else 0) ≤ _ ∧ (if a = b then comL x y + 1 else 0) ≤ _
    simp only [List.length_cons]
    split <;> omega
theorem comL_drop {x y : Str} {i : Nat} (h : x.take i = y.take i) (hx : i ≤ x.length) (hy : i ≤ y.length) : comL x y = i + comL (x.drop i) (y.drop i) := by
  induction i generalizing x y with
  | zero => simp
  | succ i ih =>
    match x, y, hx, hy with
    | a :: x, b :: y, hx, hy =>
      simp only [List.take_succ_cons, List.cons.injEq] at h
      simp only [List.length_cons] at hx hy
      have := ih h.2 (by omega) (by omega)
      show (if a = b then comL x y + 1 else 0) = _
      rw [if_pos h.1, List.drop_succ_cons, List.drop_succ_cons]; omega
theorem comL_take (x y : Str) : x.take (comL x y) = y.take (comL x y) := by
  induction x generalizing y with
  | nil => rfl
  | cons a x ih =>
    cases y with
    | nil => rfl
    | cons b y =>
      show (a :: x).take (if a = b then comL x y + 1 else 0) = (b :: y).take (if a = b then comL x y + 1 else 0)
      split
      · rename_i h
        rw [List.take_succ_cons, List.take_succ_cons, ih y, h]
      · rfl
theorem idx_tx {i : Nat} {x : Str} {k : IntKind} (hi : i < x.length) : indexD Try.prog 9 (encStr x) (.int k (i : Int)) = some (.int .u8 ((x[i]).toNat : Int)) := idx_str (b := ⟨x.toArray⟩) hi
theorem c88 {n : Nat} {s : SH} (x y : Str) (hx : x.length < 2 ^ 62) (hy : y.length < 2 ^ 62) : callD Try.prog AB (n + 1) (.fn 88) [encStr x, encStr y] s = some [(.int .i64 (comL x y : Int), s)] := by
  rw [call_fn (fn := Try.f88) rfl rfl (by kernel_rfl)]
  suffices h : One (bodyD Try.prog false (callD Try.prog AB n) AB.N 88 Try.f88 [encStr x, encStr y] s) fun w s' => w = .int .i64 (comL x y : Int) ∧ s' = s by
    obtain ⟨w, s', e, rfl, rfl⟩ := h
    exact e
  rw [f88_r]
  have hz : (x.zip y).length = min x.length y.length := List.length_zip
  simp only [f88, o_bool, o_alloc, o_box, o_build, o_buildSlice, o_load, o_store, o_nilCheck, o_bop, o_uop, o_conv, o_slc, o_fieldAddr, o_field, o_indexAddr, o_index, o_extract, o_lookup, o_mapUpdate, o_makeSlice, o_clear, o_makeMap, o_mapEntry, o_entryStore, o_delete, o_len, o_append, o_min, o_max, o_tgt, bindS, many1, jnE, boolS, gdB, fst', snd', len_tx, min_nat]
  refine list_one (x.zip y) (fun i (w : Value × Value × Value) (s' : SH) => s' = s ∧ w.2.2 = .int .i64 (i : Int) ∧ x.take i = y.take i) ?_ ?_ ⟨rfl, rfl, rfl⟩ (by show (x.zip y).length < 2 ^ 64; omega)
  · rintro i hi ⟨x1, x2, x3⟩ s' ⟨rfl, e1, ht⟩ nx hnx
    simp only at e1
    subst e1
    have h1 : i < x.length := by omega
    have h2 : i < y.length := by omega
    have hlt : (i : Int) < ((min x.length y.length : Nat) : Int) := by omega
    have hw : IntKind.i64.wrap ((i : Int) + 1) = ((i + 1 : Nat) : Int) := by rw [wrap_i64 (by omega) (by omega)]; rfl
    have hcd := comL_drop ht (by omega) (by omega)
    rw [List.drop_eq_getElem_cons h1, List.drop_eq_getElem_cons h2] at hcd
    simp only [f88_l0, o_bool, o_alloc, o_box, o_build, o_buildSlice, o_load, o_store, o_nilCheck, o_bop, o_uop, o_conv, o_slc, o_fieldAddr, o_field, o_indexAddr, o_index, o_extract, o_lookup, o_mapUpdate, o_makeSlice, o_clear, o_makeMap, o_mapEntry, o_entryStore, o_delete, o_len, o_append, o_min, o_max, o_tgt, bindS, many1, jnE, boolS, gdB, fst', snd', bop_lss, hlt, decide_true, condT, idx_tx h1, idx_tx h2, b_neq]
    by_cases hq : x[i] = y[i]
    · have hq' : ((x[i]).toNat : Int) = (y[i]).toNat := by rw [hq]
      simp only [hq', decide_true, Bool.not_true, condF, bop_add, bindS, hw]
      refine hnx (_, _, _) _ ⟨rfl, rfl, ?_⟩
      rw [List.take_succ_eq_append_getElem h1, List.take_succ_eq_append_getElem h2, ht, hq]
    · have hq' : ¬ ((x[i]).toNat : Int) = (y[i]).toNat := fun e => hq (UInt8.toNat_inj.1 (by omega))
      simp only [hq', decide_false, Bool.not_false, condT]
      have : comL x y = i := by
        rw [hcd]
        show i + (if x[i] = y[i] then _ else 0) = i
        rw [if_neg hq]; omega
      exact One.ret ⟨by rw [this], rfl⟩
  · rintro ⟨x1, x2, x3⟩ s' ⟨rfl, e1, ht⟩ nx
    simp only at e1
    subst e1
    rw [hz] at ht ⊢
    have hnlt : ¬ (((min x.length y.length : Nat) : Int) < ((min x.length y.length : Nat) : Int)) := by omega
    have hcd := comL_drop ht (by omega) (by omega)
    have h0 := comL_le (x.drop (min x.length y.length)) (y.drop (min x.length y.length))
    simp only [List.length_drop] at h0
    have : comL x y = min x.length y.length := by omega
    simp only [f88_l0, o_bool, o_alloc, o_box, o_build, o_buildSlice, o_load, o_store, o_nilCheck, o_bop, o_uop, o_conv, o_slc, o_fieldAddr, o_field, o_indexAddr, o_index, o_extract, o_lookup, o_mapUpdate, o_makeSlice, o_clear, o_makeMap, o_mapEntry, o_entryStore, o_delete, o_len, o_append, o_min, o_max, o_tgt, bindS, many1, jnE, boolS, gdB, fst', snd', bop_lss, hnlt, decide_false, condF, beq_yes, condT]
    exact One.ret ⟨by rw [this], rfl⟩
end Go.Proofs.Ytmhmbmogodofeaa.S
