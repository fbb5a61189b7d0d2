import Derived.Test.YtmhmbmogodofeaaCVb
set_option autoImplicit false
set_option linter.unusedVariables false
set_option linter.unusedSimpArgs false
set_option maxRecDepth 100000
namespace Go.Proofs.Ytmhmbmogodofeaa.S
open Go.FS Go.RowKit
attribute [local congr] bind_cg cond_cg gd_cg
/-- Bytes read. -/
def bread (bs : List UInt8) (i : Nat) : List UInt8 × Nat × Int :=
  match vread bs i with
  | (n, j, e) => if e ≠ 0 then ([], 0, e) else if 65536 < n then ([], 0, 3) else if bs.length - j < n then ([], 0, 7) else ((bs.take (j + n)).drop j, j + n, 0)
theorem vread_ok {bs : List UInt8} {i : Nat} (hi : i ≤ bs.length) (h : (vread bs i).2.2 = 0) : ∃ y, (vread bs i).1 = y ∧ y < 2 ^ 64 ∧ i < (vread bs i).2.1 ∧ (vread bs i).2.1 ≤ bs.length ∧ (bs.take (vread bs i).2.1).drop i = vput y := by
  unfold vread at h ⊢
  cases hv : vgo (bs.drop i) 0 0 with
  | error e =>
    rw [hv] at h
    exfalso
    have : ∀ (l : List UInt8) (k acc : Nat) (e : Int), vgo l k acc = .error e → e ≠ 0 := by
      intro l
      induction l with
      | nil => intro k acc e h; unfold vgo at h; injection h with h; omega
      | cons x l ih =>
        intro k acc e h
        unfold vgo at h
        split at h
        · injection h with h; omega
        · split at h
          · cases h
          · exact ih _ _ _ h
    exact this _ _ _ _ hv h
  | ok p =>
    obtain ⟨n, j⟩ := p
    obtain ⟨y, k1, k2, k3, k4, k5, k6⟩ := vgo_ok _ _ _ _ _ (by omega) hv
    simp only [Nat.mul_zero, Nat.pow_zero, Nat.mul_one, Nat.zero_add] at k4 k5
    rw [List.length_drop] at k2
    refine ⟨y, k4, k5, by show i < i + j; omega, by show i + j ≤ _; omega, ?_⟩
    show (bs.take (i + j)).drop i = _
    rw [← k3, Nat.sub_zero, List.drop_take]
    congr 1; omega
def tupB (m : Nat) (r : List UInt8 × Nat × Int) : Value := .tuple #[sl by' m r.1, .int .i64 (r.2.1 : Int), .int .i64 r.2.2]
theorem ext3 (a b c : Value) : extractD (.tuple #[a, b, c]) 0 = some a ∧ extractD (.tuple #[a, b, c]) 1 = some b ∧ extractD (.tuple #[a, b, c]) 2 = some c := by cases a <;> exact ⟨rfl, rfl, rfl⟩
theorem ext2 (a b : Value) : extractD (.tuple #[a, b]) 0 = some a ∧ extractD (.tuple #[a, b]) 1 = some b := by cases a <;> exact ⟨rfl, rfl⟩
theorem c137 {n m : Nat} {s : SH} (bs : List UInt8) (i : Nat) (hi : i ≤ bs.length) (hb : bs.length < 2 ^ 46) : ∃ m' s', callD Try.prog AB (n + 2) (.fn 137) [sl by' m bs, .int .i64 (i : Int)] s = some [(tupB m' (bread bs i), s')] ∧ Sm s.n s s' := by
  rw [call_fn (fn := Try.f137) rfl rfl (by kernel_rfl)]
  show ∃ m' s', bodyD Try.prog false _ _ 137 Try.f137 _ s = _ ∧ _
  rw [f137_r]
  have h74 := c74 (n := n) (m := m) (s := s) bs i hi (by omega)
  have hok := vread_ok (bs := bs) (i := i) hi
  unfold bread
  generalize vread bs i = r at h74 hok
  obtain ⟨x, j, e⟩ := r
  simp only at hok
  have t : tup3 (x, j, e) = .tuple #[.int .u64 (x : Int), .int .i64 (j : Int), .int .i64 e] := rfl
  rw [t] at h74
  by_cases he : e = 0
  · subst he
    obtain ⟨y, rfl, hx, hj, hjl, _⟩ := hok rfl
    have hwl : IntKind.i64.wrap ((bs.length : Int) - (j : Int)) = ((bs.length - j : Nat) : Int) := by rw [wrap_i64 (by omega) (by omega)]; omega
    have hwu : IntKind.u64.wrap ((bs.length - j : Nat) : Int) = ((bs.length - j : Nat) : Int) := wrap_u64 (by omega) (by omega)
    have h00 : ((0 : Int) = 0) := rfl
    by_cases h1 : 65536 < x
    · have h1' : (x : Int) > 65536 := by omega
      simp only [f137, o_bool, o_alloc, o_box, o_build, o_buildSlice, o_load, o_store, o_nilCheck, o_bop, o_uop, o_conv, o_slc, o_fieldAddr, o_field, o_indexAddr, o_index, o_extract, o_lookup, o_mapUpdate, o_makeMap, o_mapEntry, o_entryStore, o_delete, o_len, o_append, o_min, o_max, o_tgt, bindS, many1, jnE, boolS, gdB, fst', snd', h74, (ext3 _ _ _).1, (ext3 _ _ _).2.1, (ext3 _ _ _).2.2, b_neq, decide_true, Bool.not_true, condF, bop_gtr, h1', condT]
      exact ⟨2, s, by simp only [ne_eq, not_true_eq_false, if_false, h1, if_true]; rfl, .refl _ _⟩
    · have h1' : ¬ ((x : Int) > 65536) := by omega
      by_cases h2 : bs.length - j < x
      · have h2' : (x : Int) > ((bs.length - j : Nat) : Int) := by omega
        simp only [f137, o_bool, o_alloc, o_box, o_build, o_buildSlice, o_load, o_store, o_nilCheck, o_bop, o_uop, o_conv, o_slc, o_fieldAddr, o_field, o_indexAddr, o_index, o_extract, o_lookup, o_mapUpdate, o_makeMap, o_mapEntry, o_entryStore, o_delete, o_len, o_append, o_min, o_max, o_tgt, bindS, many1, jnE, boolS, gdB, fst', snd', h74, (ext3 _ _ _).1, (ext3 _ _ _).2.1, (ext3 _ _ _).2.2, b_neq, decide_true, decide_false, Bool.not_true, condF, bop_gtr, h1', len_sl u35, b_sub, hwl, conv_int u3 u70, hwu, h2', condT]
        exact ⟨2, s, by simp only [ne_eq, not_true_eq_false, if_false, h1, h2, if_true]; rfl, .refl _ _⟩
      · have h2' : ¬ ((x : Int) > ((bs.length - j : Nat) : Int)) := by omega
        have hwx : IntKind.i64.wrap (x : Int) = (x : Int) := wrap_i64 (by omega) (by omega)
        have hwa : IntKind.i64.wrap ((j : Int) + (x : Int)) = ((j + x : Nat) : Int) := by rw [wrap_i64 (by omega) (by omega)]; omega
        obtain ⟨m', hs⟩ := slc_both (P := Try.prog) (s := s) (t := 35) (m := m) (k := .i64) (k' := .i64) (i := j) (j := j + x) (xs := bs) u35 z5 by_len (by omega) (by omega)
        have hl : ((bs.take (j + x)).drop j).length = x := by rw [List.length_drop, List.length_take]; omega
        obtain ⟨v2, s2, e2, w1, w2, w3⟩ := gapp35 (lo := s.n) (s := s) (m2 := m') (xs := []) (ys := (bs.take (j + x)).drop j) (.inl ⟨rfl, .inr rfl⟩) (Nat.le_refl _) (by rw [hl]; simp only [List.length_nil]; omega)
        obtain ⟨m3, rfl⟩ := Grow.form w1
        simp only [f137, o_bool, o_alloc, o_box, o_build, o_buildSlice, o_load, o_store, o_nilCheck, o_bop, o_uop, o_conv, o_slc, o_fieldAddr, o_field, o_indexAddr, o_index, o_extract, o_lookup, o_mapUpdate, o_makeMap, o_mapEntry, o_entryStore, o_delete, o_len, o_append, o_min, o_max, o_tgt, bindS, many1, jnE, boolS, gdB, fst', snd', h74, (ext3 _ _ _).1, (ext3 _ _ _).2.1, (ext3 _ _ _).2.2, b_neq, decide_true, decide_false, Bool.not_true, condF, bop_gtr, h1', len_sl u35, b_sub, hwl, conv_int u3 u70, hwu, h2', conv_int u70 u3, hwx, bop_add, hwa, bs35_0, hs, e2]
        exact ⟨m3, s2, by simp only [ne_eq, not_true_eq_false, if_false, h1, h2, List.nil_append]; rfl, w2⟩
  · simp only [f137, o_bool, o_alloc, o_box, o_build, o_buildSlice, o_load, o_store, o_nilCheck, o_bop, o_uop, o_conv, o_slc, o_fieldAddr, o_field, o_indexAddr, o_index, o_extract, o_lookup, o_mapUpdate, o_makeMap, o_mapEntry, o_entryStore, o_delete, o_len, o_append, o_min, o_max, o_tgt, bindS, many1, jnE, boolS, gdB, fst', snd', h74, (ext3 _ _ _).1, (ext3 _ _ _).2.1, (ext3 _ _ _).2.2, b_neq, he, decide_false, Bool.not_false, condT]
    exact ⟨2, s, by simp only [ne_eq, he, not_false_eq_true, if_true]; rfl, .refl _ _⟩
/-- May a byte stand in a name? -/
def letter (c : Nat) (first : Bool) : Bool := decide (c = 95) || (decide (97 ≤ c ∧ c ≤ 122) || (decide (65 ≤ c ∧ c ≤ 90) || (decide (48 ≤ c ∧ c ≤ 57) && !first)))
theorem c118 {n : Nat} {s : SH} (c : Nat) (b : Bool) : callD Try.prog AB (n + 1) (.fn 118) [.int .u8 (c : Int), .bool b] s = some [(.bool (letter c b), s)] := by
  refine cut_call (fn := Try.f118) rfl rfl (by kernel_rfl) (v := .bool (letter c b)) (fun _ h => by cases h) (.bool _) ?_
  show One (bodyD Try.prog false _ _ 118 Try.f118 _ s) _
  rw [f118_r]
  by_cases h1 : c = 95
  · have h1' : (c : Int) = 95 := by omega
    simp only [f118, o_bool, o_alloc, o_box, o_build, o_buildSlice, o_load, o_store, o_nilCheck, o_bop, o_uop, o_conv, o_slc, o_fieldAddr, o_field, o_indexAddr, o_index, o_extract, o_lookup, o_mapUpdate, o_makeMap, o_mapEntry, o_entryStore, o_delete, o_len, o_append, o_min, o_max, o_tgt, bindS, many1, jnE, boolS, gdB, fst', snd', bop_eql, h1', decide_true, condT]
    exact One.ret ⟨by unfold letter; rw [decide_eq_true h1]; rfl, .refl s⟩
  · have h1' : ¬ ((c : Int) = 95) := by omega
    have d1 : decide (c = 95) = false := decide_eq_false h1
    by_cases h2 : 97 ≤ c ∧ c ≤ 122
    · have a1 : (c : Int) ≥ 97 := by omega
      have a2 : (c : Int) ≤ 122 := by omega
      simp only [f118, o_bool, o_alloc, o_box, o_build, o_buildSlice, o_load, o_store, o_nilCheck, o_bop, o_uop, o_conv, o_slc, o_fieldAddr, o_field, o_indexAddr, o_index, o_extract, o_lookup, o_mapUpdate, o_makeMap, o_mapEntry, o_entryStore, o_delete, o_len, o_append, o_min, o_max, o_tgt, bindS, many1, jnE, boolS, gdB, fst', snd', bop_eql, h1', decide_true, decide_false, condT, condF, bop_geq, bop_leq, a1, a2]
      exact One.ret ⟨by unfold letter; rw [d1, decide_eq_true h2]; rfl, .refl s⟩
    · have d2 : decide (97 ≤ c ∧ c ≤ 122) = false := decide_eq_false h2
      -- what is asked next
      have next : ∀ (j : Bool), j = false → One (cond j (some [(Value.bool true, s)]) ((bopD Try.prog .geq 5 (.int .u8 (c : Int)) (.int .u8 48)).bind fun v19 => gd v19 ((bopD Try.prog .leq 5 (.int .u8 (c : Int)) (.int .u8 57)).bind fun v20 => (boolD v20).bind fun b23 => cond b23 ((uopD Try.prog .not (.bool b)).bind fun v24 => some [(v24, s)]) (some [(.bool false, s)])) ((boolD (.bool false)).bind fun b23 => cond b23 ((uopD Try.prog .not (.bool b)).bind fun v24 => some [(v24, s)]) (some [(.bool false, s)])) none)) (fun v s' => ¬ (65 ≤ c ∧ c ≤ 90) → v = .bool (letter c b) ∧ Ext s s') := by
        intro j hj
        subst hj
        rw [condF]
        by_cases h4 : 48 ≤ c
        · have a1 : (c : Int) ≥ 48 := by omega
          by_cases h5 : c ≤ 57
          · have a2 : (c : Int) ≤ 57 := by omega
            simp only [bop_geq, bop_leq, a1, a2, decide_true, bindS, gdB, boolS, condT, uop_not]
            refine One.ret fun h3 => ⟨?_, .refl s⟩
            unfold letter; rw [d1, d2, decide_eq_false h3, decide_eq_true ⟨h4, h5⟩]; simp
          · have a2 : ¬ ((c : Int) ≤ 57) := by omega
            simp only [bop_geq, bop_leq, a1, a2, decide_true, decide_false, bindS, gdB, boolS, condT, condF]
            refine One.ret fun h3 => ⟨?_, .refl s⟩
            unfold letter; rw [d1, d2, decide_eq_false h3, decide_eq_false (fun h => h5 h.2)]; simp
        · have a1 : ¬ ((c : Int) ≥ 48) := by omega
          simp only [bop_geq, a1, decide_false, bindS, gdB, boolS, condF]
          refine One.ret fun h3 => ⟨?_, .refl s⟩
          unfold letter; rw [d1, d2, decide_eq_false h3, decide_eq_false (fun h => h4 h.1)]; simp
      -- capitals
      by_cases h3 : 65 ≤ c ∧ c ≤ 90
      · have b1 : (c : Int) ≥ 65 := by omega
        have b2 : (c : Int) ≤ 90 := by omega
        have r : letter c b = true := by unfold letter; rw [d1, d2, decide_eq_true h3]; rfl
        by_cases a1 : (c : Int) ≥ 97
        · omega
        · simp only [f118, o_bool, o_alloc, o_box, o_build, o_buildSlice, o_load, o_store, o_nilCheck, o_bop, o_uop, o_conv, o_slc, o_fieldAddr, o_field, o_indexAddr, o_index, o_extract, o_lookup, o_mapUpdate, o_makeMap, o_mapEntry, o_entryStore, o_delete, o_len, o_append, o_min, o_max, o_tgt, bindS, many1, jnE, boolS, gdB, fst', snd', bop_eql, h1', decide_true, decide_false, condT, condF, bop_geq, bop_leq, a1, b1, b2]
          exact One.ret ⟨by rw [r], .refl s⟩
      · have nx := next false rfl
        simp only [condF] at nx
        have nx := nx.mono fun v s' h => h h3
        by_cases a1 : (c : Int) ≥ 97
        · have a2 : ¬ ((c : Int) ≤ 122) := by omega
          have b1 : (c : Int) ≥ 65 := by omega
          have b2 : ¬ ((c : Int) ≤ 90) := by omega
          simp only [f118, o_bool, o_alloc, o_box, o_build, o_buildSlice, o_load, o_store, o_nilCheck, o_bop, o_uop, o_conv, o_slc, o_fieldAddr, o_field, o_indexAddr, o_index, o_extract, o_lookup, o_mapUpdate, o_makeMap, o_mapEntry, o_entryStore, o_delete, o_len, o_append, o_min, o_max, o_tgt, bindS, many1, jnE, boolS, gdB, fst', snd', bop_eql, h1', decide_true, decide_false, condT, condF, bop_geq, bop_leq, a1, a2, b1, b2]
          simp only [o_bool, o_alloc, o_box, o_build, o_buildSlice, o_load, o_store, o_nilCheck, o_bop, o_uop, o_conv, o_slc, o_fieldAddr, o_field, o_indexAddr, o_index, o_extract, o_lookup, o_mapUpdate, o_makeMap, o_mapEntry, o_entryStore, o_delete, o_len, o_append, o_min, o_max, o_tgt, bindS, many1, jnE, boolS, gdB, fst', snd', bop_geq, bop_leq] at nx
          exact nx
        · by_cases b1 : (c : Int) ≥ 65
          · have b2 : ¬ ((c : Int) ≤ 90) := by omega
            simp only [f118, o_bool, o_alloc, o_box, o_build, o_buildSlice, o_load, o_store, o_nilCheck, o_bop, o_uop, o_conv, o_slc, o_fieldAddr, o_field, o_indexAddr, o_index, o_extract, o_lookup, o_mapUpdate, o_makeMap, o_mapEntry, o_entryStore, o_delete, o_len, o_append, o_min, o_max, o_tgt, bindS, many1, jnE, boolS, gdB, fst', snd', bop_eql, h1', decide_true, decide_false, condT, condF, bop_geq, bop_leq, a1, b1, b2]
            simp only [o_bool, o_alloc, o_box, o_build, o_buildSlice, o_load, o_store, o_nilCheck, o_bop, o_uop, o_conv, o_slc, o_fieldAddr, o_field, o_indexAddr, o_index, o_extract, o_lookup, o_mapUpdate, o_makeMap, o_mapEntry, o_entryStore, o_delete, o_len, o_append, o_min, o_max, o_tgt, bindS, many1, jnE, boolS, gdB, fst', snd', bop_geq, bop_leq] at nx
            exact nx
          · simp only [f118, o_bool, o_alloc, o_box, o_build, o_buildSlice, o_load, o_store, o_nilCheck, o_bop, o_uop, o_conv, o_slc, o_fieldAddr, o_field, o_indexAddr, o_index, o_extract, o_lookup, o_mapUpdate, o_makeMap, o_mapEntry, o_entryStore, o_delete, o_len, o_append, o_min, o_max, o_tgt, bindS, many1, jnE, boolS, gdB, fst', snd', bop_eql, h1', decide_true, decide_false, condT, condF, bop_geq, bop_leq, a1, b1]
            simp only [o_bool, o_alloc, o_box, o_build, o_buildSlice, o_load, o_store, o_nilCheck, o_bop, o_uop, o_conv, o_slc, o_fieldAddr, o_field, o_indexAddr, o_index, o_extract, o_lookup, o_mapUpdate, o_makeMap, o_mapEntry, o_entryStore, o_delete, o_len, o_append, o_min, o_max, o_tgt, bindS, many1, jnE, boolS, gdB, fst', snd', bop_geq, bop_leq] at nx
            exact nx

attribute [local congr] bind_cg cond_cg gd_cg
abbrev Lab := ByteArray × ByteArray
def lab (a : Lab) : List Value := [.string a.1, .string a.2]
theorem lab_len (a : Lab) : (lab a).length = 2 := rfl
theorem lab_str (n k : Nat) (a : Lab) : (lab a).map (stripN (k + 1) n) = lab a := rfl
/-- All letters of a name. -/
def okN : List UInt8 → Bool → Bool
  | [], _ => true
  | c :: l, first => letter c.toNat first && okN l false
def namedB (b : ByteArray) : Bool := okN b.data.toList true && (!(b.toList == ByteArray.toList ⟨#[]⟩) && decide (b.size ≤ 64))
theorem idx_str {i : Nat} {b : ByteArray} {k : IntKind} (hi : i < b.data.toList.length) : indexD Try.prog 9 (.string b) (.int k (i : Int)) = some (.int .u8 ((b.data.toList[i]).toNat : Int)) := by
  have h0 : decide ((0 : Int) ≤ (i : Int)) = true := by simp
  simp only [indexD, u9, h0, condT, Int.toNat_natCast, List.getElem?_eq_getElem hi, Option.map_some]
theorem c68 {n : Nat} {s : SH} (b : ByteArray) (hb : b.size < 2 ^ 62) : callD Try.prog AB (n + 2) (.fn 68) [.string b] s = some [(.bool (namedB b), s)] := by
  refine cut_call (fn := Try.f68) rfl rfl (by kernel_rfl) (v := .bool (namedB b)) (fun _ h => by cases h) (.bool _) ?_
  show One (bodyD Try.prog false _ _ 68 Try.f68 _ s) _
  rw [f68_r]
  have hsz : b.data.toList.length = b.size := rfl
  simp only [f68, o_bool, o_alloc, o_box, o_build, o_buildSlice, o_load, o_store, o_nilCheck, o_bop, o_uop, o_conv, o_slc, o_fieldAddr, o_field, o_indexAddr, o_index, o_extract, o_lookup, o_mapUpdate, o_makeMap, o_mapEntry, o_entryStore, o_delete, o_len, o_append, o_min, o_max, o_tgt, bindS, many1, jnE, boolS, gdB, fst', snd', len_str u9]
  refine list_one b.data.toList (fun i (x : Value × Value × Value) (s' : SH) => s = s' ∧ x.1 = .bool false ∧ x.2.2 = .int .i64 i ∧ okN b.data.toList true = okN (b.data.toList.drop i) (decide (i = 0))) ?_ ?_ ⟨rfl, rfl, rfl, rfl⟩ (by show b.data.toList.length < 2 ^ 64; omega)
  · rintro i hi ⟨x1, x2, x3⟩ s' ⟨rfl, h1, h2, h3⟩ nx hnx
    simp only at h1 h2
    subst h1 h2
    have hlt : (i : Int) < b.size := by omega
    have hw : IntKind.i64.wrap ((i : Int) + 1) = ((i + 1 : Nat) : Int) := by rw [wrap_i64 (by omega) (by omega)]; rfl
    have h0 : decide ((i : Int) = 0) = decide (i = 0) := by simp
    rw [List.drop_eq_getElem_cons hi] at h3
    simp only [f68_l0, o_bool, o_alloc, o_box, o_build, o_buildSlice, o_load, o_store, o_nilCheck, o_bop, o_uop, o_conv, o_slc, o_fieldAddr, o_field, o_indexAddr, o_index, o_extract, o_lookup, o_mapUpdate, o_makeMap, o_mapEntry, o_entryStore, o_delete, o_len, o_append, o_min, o_max, o_tgt, bindS, many1, jnE, boolS, gdB, fst', snd', bop_lss, hlt, decide_true, condT, idx_str hi, bop_eql, h0, c118 (n := n), uop_not]
    generalize b.data.toList[i] = c at h3
    cases hl : letter c.toNat (decide (i = 0)) with
    | false =>
      simp only [Bool.not_false, condT]
      refine One.ret ⟨?_, .refl s⟩
      unfold namedB; rw [h3]; simp only [okN, hl, Bool.false_and]
    | true =>
      simp only [Bool.not_true, condF, bop_add, bindS, hw]
      refine hnx (_, _, _) _ ⟨rfl, rfl, rfl, ?_⟩
      rw [h3]; simp only [okN, hl, Bool.true_and]; rfl
  · rintro ⟨x1, x2, x3⟩ s' ⟨rfl, h1, h2, h3⟩ nx
    simp only at h1 h2
    subst h1 h2
    have hnlt : ¬ ((b.data.toList.length : Int) < b.size) := by omega
    have hk : okN b.data.toList true = true := by rw [h3, List.drop_length]; rfl
    simp only [f68_l0, o_bool, o_alloc, o_box, o_build, o_buildSlice, o_load, o_store, o_nilCheck, o_bop, o_uop, o_conv, o_slc, o_fieldAddr, o_field, o_indexAddr, o_index, o_extract, o_lookup, o_mapUpdate, o_makeMap, o_mapEntry, o_entryStore, o_delete, o_len, o_append, o_min, o_max, o_tgt, bindS, many1, jnE, boolS, gdB, fst', snd', bop_lss, hnlt, decide_false, condF, beq_yes, condT, bop_sne, len_str u9, bop_leq]
    unfold namedB
    rw [hk, Bool.true_and]
    cases hq : (b.toList == ByteArray.toList ⟨#[]⟩) with
    | true =>
      simp only [Bool.not_true, condF]
      exact One.ret ⟨rfl, .refl s⟩
    | false =>
      simp only [Bool.not_false, condT]
      have : decide ((b.size : Int) ≤ 64) = decide (b.size ≤ 64) := by
        by_cases h : b.size ≤ 64
        · rw [decide_eq_true h, decide_eq_true (by omega)]
        · rw [decide_eq_false h, decide_eq_false (by omega)]
      exact One.ret ⟨by rw [this, Bool.true_and], .refl s⟩
/-- Not ahead of. -/
def sle (a b : ByteArray) : Bool := Op.bytesLess a.toList b.toList || a.toList == b.toList
theorem bop_sle (t : TypeId) (a b : ByteArray) : bopD Try.prog .leq t (.string a) (.string b) = some (.bool (sle a b)) := rfl
def chk : ByteArray → List Lab → Bool
  | _, [] => true
  | last, a :: l => namedB a.1 && (!sle a.1 last && (!(a.2.toList == ByteArray.toList ⟨#[]⟩) && (!decide (256 < a.2.size) && chk a.1 l)))
theorem chk_cons (last : ByteArray) (a : Lab) (l : List Lab) : chk last (a :: l) = (namedB a.1 && (!sle a.1 last && (!(a.2.toList == ByteArray.toList ⟨#[]⟩) && (!decide (256 < a.2.size) && chk a.1 l)))) := rfl
/-- May a set be? -/
def okL (l : List Lab) : Bool := !decide (l.length = 0) && (!decide (16 < l.length) && chk ⟨#[]⟩ l)
def SmallL (l : List Lab) : Prop := l.length < 2 ^ 62 ∧ ∀ a ∈ l, a.1.size < 2 ^ 46 ∧ a.2.size < 2 ^ 46
theorem lds0 {s : SH} {id : Nat} {a : Lab} (h : HP.get s.h id = some (.row (lab a))) : loadD Try.prog s 9 (.pointer (some ⟨id, 0, none⟩)) = some (.string a.1) := by rw [load_row h, part_one a9]; rfl
theorem lds1 {s : SH} {id : Nat} {a : Lab} (h : HP.get s.h id = some (.row (lab a))) : loadD Try.prog s 9 (.pointer (some ⟨id, 1, none⟩)) = some (.string a.2) := by rw [load_row h, part_one a9]; rfl
theorem ld_lab {s : SH} (a : Lab) : loadD Try.prog s 106 (fpV (lab a).toArray 0) = some (.agg (lab a).toArray) := by rw [load_fp, part_agg a106 z106 (l := lab a) rfl rfl]
theorem ld106 {s : SH} {id : Nat} {a : Lab} (h : HP.get s.h id = some (.row (lab a))) : loadD Try.prog s 106 (.pointer (some ⟨id, 0, none⟩)) = some (.agg (lab a).toArray) := by rw [load_row h, part_agg a106 z106 (l := lab a) rfl rfl]
def lz : Lab := (⟨#[]⟩, ⟨#[]⟩)
theorem al106 (s : SH) : allocD Try.prog s 106 = some (.pointer (some ⟨s.n, 0, none⟩), newD s (.row (lab lz))) := alloc_at zr106
theorem st106 {s : SH} {id : Nat} {a b : Lab} (h : HP.get s.h id = some (.row (lab b))) : storeD Try.prog s 106 (.pointer (some ⟨id, 0, none⟩)) (.agg (lab a).toArray) = some (putD s id (.row (lab a))) := store_row z106 h rfl rfl rfl (by simp [lab])
theorem c22 {n m : Nat} {s : SH} (l : List Lab) (hl : SmallL l) : callD Try.prog AB (n + 3) (.fn 22) [sl lab m l] s = some [(.int .i64 (if okL l then 0 else 40), s)] := by
  refine cut_call (fn := Try.f22) rfl rfl (by kernel_rfl) (v := .int .i64 (if okL l then 0 else 40)) (fun _ h => by cases h) (.int _ _) ?_
  show One (bodyD Try.prog false _ _ 22 Try.f22 _ s) _
  rw [f22_r]
  simp only [f22, o_bool, o_alloc, o_box, o_build, o_buildSlice, o_load, o_store, o_nilCheck, o_bop, o_uop, o_conv, o_slc, o_fieldAddr, o_field, o_indexAddr, o_index, o_extract, o_lookup, o_mapUpdate, o_makeMap, o_mapEntry, o_entryStore, o_delete, o_len, o_append, o_min, o_max, o_tgt, bindS, many1, jnE, boolS, gdB, fst', snd', len_sl u23, bop_eql, bop_gtr]
  by_cases h0 : l.length = 0
  · have h0' : (l.length : Int) = 0 := by omega
    simp only [h0', decide_true, condT]
    exact One.ret ⟨by unfold okL; rw [decide_eq_true h0]; rfl, .refl s⟩
  · have h0' : ¬ ((l.length : Int) = 0) := by omega
    by_cases h16 : 16 < l.length
    · have h16' : (l.length : Int) > 16 := by omega
      simp only [h0', h16', decide_true, decide_false, condT, condF, o_bool, o_alloc, o_box, o_build, o_buildSlice, o_load, o_store, o_nilCheck, o_bop, o_uop, o_conv, o_slc, o_fieldAddr, o_field, o_indexAddr, o_index, o_extract, o_lookup, o_mapUpdate, o_makeMap, o_mapEntry, o_entryStore, o_delete, o_len, o_append, o_min, o_max, o_tgt, bindS, many1, jnE, boolS, gdB, fst', snd', len_sl u23, bop_gtr]
      exact One.ret ⟨by unfold okL; rw [decide_eq_false h0, decide_eq_true h16]; rfl, .refl s⟩
    · have h16' : ¬ ((l.length : Int) > 16) := by omega
      simp only [h0', h16', decide_false, condF, o_bool, o_alloc, o_box, o_build, o_buildSlice, o_load, o_store, o_nilCheck, o_bop, o_uop, o_conv, o_slc, o_fieldAddr, o_field, o_indexAddr, o_index, o_extract, o_lookup, o_mapUpdate, o_makeMap, o_mapEntry, o_entryStore, o_delete, o_len, o_append, o_min, o_max, o_tgt, bindS, many1, jnE, boolS, gdB, fst', snd', len_sl u23, bop_gtr]
      have hok : okL l = chk ⟨#[]⟩ l := by unfold okL; rw [decide_eq_false h0, decide_eq_false h16]; rfl
      rw [hok]
      refine list_one l (fun i (x : Value × Value × Value) (s' : SH) => Sm s.n s s' ∧ x.1 = .int .i64 0 ∧ x.2.2 = .int .i64 i ∧ ∃ last, x.2.1 = .string last ∧ chk ⟨#[]⟩ l = chk last (l.drop i)) ?_ ?_ ⟨.refl _ _, rfl, rfl, _, rfl, rfl⟩ (by show l.length < 2 ^ 64; have := hl.1; omega)
      · rintro i hi ⟨x1, x2, x3⟩ s' ⟨hsm, h1, h2, last, h3, h4⟩ nx hnx
        simp only at h1 h2 h3
        subst h1 h2 h3
        have hlt : (i : Int) < l.length := by omega
        have hw : IntKind.i64.wrap ((i : Int) + 1) = ((i + 1 : Nat) : Int) := by rw [wrap_i64 (by omega) (by omega)]; rfl
        have hsz := hl.2 _ (List.getElem_mem hi)
        rw [List.drop_eq_getElem_cons hi] at h4
        have ha : HP.get (putD (newD s' (.row (lab lz))) s'.n (.row (lab l[i]))).h s'.n = some (.row (lab l[i])) := get_put_same _
        have hsm2 : Sm s.n s (putD (newD s' (.row (lab lz))) s'.n (.row (lab l[i]))) := (hsm.new (by have := hsm.1; omega) _).put (by have := hsm.1; omega) _
        have hst : storeD Try.prog (newD s' (.row (lab lz))) 106 (.pointer (some ⟨s'.n, 0, none⟩)) (.agg (lab l[i]).toArray) = some (putD (newD s' (.row (lab lz))) s'.n (.row (lab l[i]))) := st106 (get_new rfl)
        simp only [f22_l0, o_bool, o_alloc, o_box, o_build, o_buildSlice, o_load, o_store, o_nilCheck, o_bop, o_uop, o_conv, o_slc, o_fieldAddr, o_field, o_indexAddr, o_index, o_extract, o_lookup, o_mapUpdate, o_makeMap, o_mapEntry, o_entryStore, o_delete, o_len, o_append, o_min, o_max, o_tgt, bindS, many1, jnE, boolS, gdB, fst', snd', bop_lss, hlt, decide_true, condT, ixs23 lab_len hi, ld_lab, al106, hst]
        generalize putD (newD s' (.row (lab lz))) s'.n (.row (lab l[i])) = s2 at ha hsm2
        generalize l[i] = a at ha h4 hsz
        simp only [fld106_0, fld106_1, lds0 ha, lds1 ha, o_bool, o_alloc, o_box, o_build, o_buildSlice, o_load, o_store, o_nilCheck, o_bop, o_uop, o_conv, o_slc, o_fieldAddr, o_field, o_indexAddr, o_index, o_extract, o_lookup, o_mapUpdate, o_makeMap, o_mapEntry, o_entryStore, o_delete, o_len, o_append, o_min, o_max, o_tgt, bindS, many1, jnE, boolS, gdB, fst', snd', c68 (n := n) a.1 (by omega), uop_not]
        rw [chk_cons] at h4
        cases q1 : namedB a.1 with
        | false =>
          simp only [Bool.not_false, condT]
          exact One.ret ⟨by rw [h4, q1]; rfl, hsm2⟩
        | true =>
          simp only [Bool.not_true, condF, o_bool, o_alloc, o_box, o_build, o_buildSlice, o_load, o_store, o_nilCheck, o_bop, o_uop, o_conv, o_slc, o_fieldAddr, o_field, o_indexAddr, o_index, o_extract, o_lookup, o_mapUpdate, o_makeMap, o_mapEntry, o_entryStore, o_delete, o_len, o_append, o_min, o_max, o_tgt, bindS, many1, jnE, boolS, gdB, fst', snd', fld106_0, lds0 ha, bop_sle]
          cases q2 : sle a.1 last with
          | true =>
            simp only [condT]
            exact One.ret ⟨by rw [h4, q1, q2]; rfl, hsm2⟩
          | false =>
            simp only [condF, o_bool, o_alloc, o_box, o_build, o_buildSlice, o_load, o_store, o_nilCheck, o_bop, o_uop, o_conv, o_slc, o_fieldAddr, o_field, o_indexAddr, o_index, o_extract, o_lookup, o_mapUpdate, o_makeMap, o_mapEntry, o_entryStore, o_delete, o_len, o_append, o_min, o_max, o_tgt, bindS, many1, jnE, boolS, gdB, fst', snd', fld106_1, lds1 ha, bop_seq]
            cases q3 : (a.2.toList == ByteArray.toList ⟨#[]⟩) with
            | true =>
              simp only [condT]
              exact One.ret ⟨by rw [h4, q1, q2, q3]; rfl, hsm2⟩
            | false =>
              simp only [condF, o_bool, o_alloc, o_box, o_build, o_buildSlice, o_load, o_store, o_nilCheck, o_bop, o_uop, o_conv, o_slc, o_fieldAddr, o_field, o_indexAddr, o_index, o_extract, o_lookup, o_mapUpdate, o_makeMap, o_mapEntry, o_entryStore, o_delete, o_len, o_append, o_min, o_max, o_tgt, bindS, many1, jnE, boolS, gdB, fst', snd', fld106_1, lds1 ha, len_str u9, bop_gtr]
              by_cases q4 : 256 < a.2.size
              · have q4' : (a.2.size : Int) > 256 := by omega
                simp only [q4', decide_true, condT]
                exact One.ret ⟨by rw [h4, q1, q2, q3, decide_eq_true q4]; rfl, hsm2⟩
              · have q4' : ¬ ((a.2.size : Int) > 256) := by omega
                simp only [q4', decide_false, condF, o_bool, o_alloc, o_box, o_build, o_buildSlice, o_load, o_store, o_nilCheck, o_bop, o_uop, o_conv, o_slc, o_fieldAddr, o_field, o_indexAddr, o_index, o_extract, o_lookup, o_mapUpdate, o_makeMap, o_mapEntry, o_entryStore, o_delete, o_len, o_append, o_min, o_max, o_tgt, bindS, many1, jnE, boolS, gdB, fst', snd', fld106_0, lds0 ha, bop_add, hw]
                exact hnx (_, _, _) _ ⟨hsm2, rfl, rfl, a.1, rfl, by rw [h4, q1, q2, q3, decide_eq_false q4]; rfl⟩
      · rintro ⟨x1, x2, x3⟩ s' ⟨hsm, h1, h2, last, h3, h4⟩ nx
        simp only at h1 h2 h3
        subst h1 h2 h3
        have hnlt : ¬ ((l.length : Int) < l.length) := by omega
        rw [List.drop_length] at h4
        simp only [f22_l0, o_bool, o_alloc, o_box, o_build, o_buildSlice, o_load, o_store, o_nilCheck, o_bop, o_uop, o_conv, o_slc, o_fieldAddr, o_field, o_indexAddr, o_index, o_extract, o_lookup, o_mapUpdate, o_makeMap, o_mapEntry, o_entryStore, o_delete, o_len, o_append, o_min, o_max, o_tgt, bindS, many1, jnE, boolS, gdB, fst', snd', bop_lss, hnlt, decide_false, condF, beq_yes, condT]
        exact One.ret ⟨by rw [h4]; rfl, hsm⟩
end Go.Proofs.Ytmhmbmogodofeaa.S
