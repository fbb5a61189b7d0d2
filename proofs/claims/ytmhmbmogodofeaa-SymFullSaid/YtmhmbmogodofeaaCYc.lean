import Derived.Test.YtmhmbmogodofeaaCVb
set_option autoImplicit false
set_option linter.unusedVariables false
set_option linter.unusedSimpArgs false
set_option maxRecDepth 100000
namespace Go.Proofs.Ytmhmbmogodofeaa.S
open Go.FS Go.RowKit
attribute [local congr] bind_cg cond_cg gd_cg
/-- Bytes read. -/
def bread (bs : List UInt8) (i : Nat) : List UInt8 × Nat × Int :=
  match vread bs i with
  | (n, j, e) => if e ≠ 0 then ([], 0, e) else if 65536 < n then ([], 0, 3) else if bs.length - j < n then ([], 0, 7) else ((bs.take (j + n)).drop j, j + n, 0)
theorem vread_ok {bs : List UInt8} {i : Nat} (hi : i ≤ bs.length) (h : (vread bs i).2.2 = 0) : ∃ y, (vread bs i).1 = y ∧ y < 2 ^ 64 ∧ i < (vread bs i).2.1 ∧ (vread bs i).2.1 ≤ bs.length ∧ (bs.take (vread bs i).2.1).drop i = vput y := by
  unfold vread at h ⊢
  cases hv : vgo (bs.drop i) 0 0 with
  | error e =>
    rw [hv] at h
    exfalso
    have : ∀ (l : List UInt8) (k acc : Nat) (e : Int), vgo l k acc = .error e → e ≠ 0 := by
      intro l
      induction l with
      | nil => intro k acc e h; unfold vgo at h; injection h with h; omega
      | cons x l ih =>
        intro k acc e h
        unfold vgo at h
        split at h
        · injection h with h; omega
        · split at h
          · cases h
          · exact ih _ _ _ h
    exact this _ _ _ _ hv h
  | ok p =>
    obtain ⟨n, j⟩ := p
    obtain ⟨y, k1, k2, k3, k4, k5, k6⟩ := vgo_ok _ _ _ _ _ (by omega) hv
    simp only [Nat.mul_zero, Nat.pow_zero, Nat.mul_one, Nat.zero_add] at k4 k5
    rw [List.length_drop] at k2
    refine ⟨y, k4, k5, by show i < i + j; omega, by show i + j ≤ _; omega, ?_⟩
    show (bs.take (i + j)).drop i = _
    rw [← k3, Nat.sub_zero, List.drop_take]
    congr 1; omega
def tupB (m : Nat) (r : List UInt8 × Nat × Int) : Value := .tuple #[sl by' m r.1, .int .i64 (r.2.1 : Int), .int .i64 r.2.2]
theorem ext3 (a b c : Value) : extractD (.tuple #[a, b, c]) 0 = some a ∧ extractD (.tuple #[a, b, c]) 1 = some b ∧ extractD (.tuple #[a, b, c]) 2 = some c := by cases a <;> exact ⟨rfl, rfl, rfl⟩
theorem ext2 (a b : Value) : extractD (.tuple #[a, b]) 0 = some a ∧ extractD (.tuple #[a, b]) 1 = some b := by cases a <;> exact ⟨rfl, rfl⟩
theorem c137 {n m : Nat} {s : SH} (bs : List UInt8) (i : Nat) (hi : i ≤ bs.length) (hb : bs.length < 2 ^ 46) : ∃ m' s', callD Try.prog AB (n + 2) (.fn 137) [sl by' m bs, .int .i64 (i : Int)] s = some [(tupB m' (bread bs i), s')] ∧ Sm s.n s s' := by
  rw [call_fn (fn := Try.f137) rfl rfl (by kernel_rfl)]
  show ∃ m' s', bodyD Try.prog false _ _ 137 Try.f137 _ s = _ ∧ _
  rw [f137_r]
  have h74 := c74 (n := n) (m := m) (s := s) bs i hi (by omega)
  have hok := vread_ok (bs := bs) (i := i) hi
  unfold bread
  generalize vread bs i = r at h74 hok
  obtain ⟨x, j, e⟩ := r
  simp only at hok
  have t : tup3 (x, j, e) = .tuple #[.int .u64 (x : Int), .int .i64 (j : Int), .int .i64 e] := rfl
  rw [t] at h74
  by_cases he : e = 0
  · subst he
    obtain ⟨y, rfl, hx, hj, hjl, _⟩ := hok rfl
    have hwl : IntKind.i64.wrap ((bs.length : Int) - (j : Int)) = ((bs.length - j : Nat) : Int) := by rw [wrap_i64 (by omega) (by omega)]; omega
    have hwu : IntKind.u64.wrap ((bs.length - j : Nat) : Int) = ((bs.length - j : Nat) : Int) := wrap_u64 (by omega) (by omega)
    have h00 : ((0 : Int) = 0) := rfl
    by_cases h1 : 65536 < x
    · have h1' : (x : Int) > 65536 := by omega
      simp only [f137, o_bool, o_alloc, o_box, o_build, o_buildSlice, o_load, o_store, o_nilCheck, o_bop, o_uop, o_conv, o_slc, o_fieldAddr, o_field, o_indexAddr, o_index, o_extract, o_lookup, o_mapUpdate, o_makeMap, o_mapEntry, o_entryStore, o_delete, o_len, o_append, o_min, o_max, o_tgt, bindS, many1, jnE, boolS, gdB, fst', snd', h74, (ext3 _ _ _).1, (ext3 _ _ _).2.1, (ext3 _ _ _).2.2, b_neq, decide_true, Bool.not_true, condF, bop_gtr, h1', condT]
      exact ⟨2, s, by simp only [ne_eq, not_true_eq_false, if_false, h1, if_true]; rfl, .refl _ _⟩
    · have h1' : ¬ ((x : Int) > 65536) := by omega
      by_cases h2 : bs.length - j < x
      · have h2' : (x : Int) > ((bs.length - j : Nat) : Int) := by omega
        simp only [f137, o_bool, o_alloc, o_box, o_build, o_buildSlice, o_load, o_store, o_nilCheck, o_bop, o_uop, o_conv, o_slc, o_fieldAddr, o_field, o_indexAddr, o_index, o_extract, o_lookup, o_mapUpdate, o_makeMap, o_mapEntry, o_entryStore, o_delete, o_len, o_append, o_min, o_max, o_tgt, bindS, many1, jnE, boolS, gdB, fst', snd', h74, (ext3 _ _ _).1, (ext3 _ _ _).2.1, (ext3 _ _ _).2.2, b_neq, decide_true, decide_false, Bool.not_true, condF, bop_gtr, h1', len_sl u35, b_sub, hwl, conv_int u3 u70, hwu, h2', condT]
        exact ⟨2, s, by simp only [ne_eq, not_true_eq_false, if_false, h1, h2, if_true]; rfl, .refl _ _⟩
      · have h2' : ¬ ((x : Int) > ((bs.length - j : Nat) : Int)) := by omega
        have hwx : IntKind.i64.wrap (x : Int) = (x : Int) := wrap_i64 (by omega) (by omega)
        have hwa : IntKind.i64.wrap ((j : Int) + (x : Int)) = ((j + x : Nat) : Int) := by rw [wrap_i64 (by omega) (by omega)]; omega
        obtain ⟨m', hs⟩ := slc_both (P := Try.prog) (s := s) (t := 35) (m := m) (k := .i64) (k' := .i64) (i := j) (j := j + x) (xs := bs) u35 z5 by_len (by omega) (by omega)
        have hl : ((bs.take (j + x)).drop j).length = x := by rw [List.length_drop, List.length_take]; omega
        obtain ⟨v2, s2, e2, w1, w2, w3⟩ := gapp35 (lo := s.n) (s := s) (m2 := m') (xs := []) (ys := (bs.take (j + x)).drop j) (.inl ⟨rfl, .inr rfl⟩) (Nat.le_refl _) (by rw [hl]; simp only [List.length_nil]; omega)
        obtain ⟨m3, rfl⟩ := Grow.form w1
        simp only [f137, o_bool, o_alloc, o_box, o_build, o_buildSlice, o_load, o_store, o_nilCheck, o_bop, o_uop, o_conv, o_slc, o_fieldAddr, o_field, o_indexAddr, o_index, o_extract, o_lookup, o_mapUpdate, o_makeMap, o_mapEntry, o_entryStore, o_delete, o_len, o_append, o_min, o_max, o_tgt, bindS, many1, jnE, boolS, gdB, fst', snd', h74, (ext3 _ _ _).1, (ext3 _ _ _).2.1, (ext3 _ _ _).2.2, b_neq, decide_true, decide_false, Bool.not_true, condF, bop_gtr, h1', len_sl u35, b_sub, hwl, conv_int u3 u70, hwu, h2', conv_int u70 u3, hwx, bop_add, hwa, bs35_0, hs, e2]
        exact ⟨m3, s2, by simp only [ne_eq, not_true_eq_false, if_false, h1, h2, List.nil_append]; rfl, w2⟩
  · simp only [f137, o_bool, o_alloc, o_box, o_build, o_buildSlice, o_load, o_store, o_nilCheck, o_bop, o_uop, o_conv, o_slc, o_fieldAddr, o_field, o_indexAddr, o_index, o_extract, o_lookup, o_mapUpdate, o_makeMap, o_mapEntry, o_entryStore, o_delete, o_len, o_append, o_min, o_max, o_tgt, bindS, many1, jnE, boolS, gdB, fst', snd', h74, (ext3 _ _ _).1, (ext3 _ _ _).2.1, (ext3 _ _ _).2.2, b_neq, he, decide_false, Bool.not_false, condT]
    exact ⟨2, s, by simp only [ne_eq, he, not_false_eq_true, if_true]; rfl, .refl _ _⟩
theorem idx_str {i : Nat} {b : ByteArray} {k : IntKind} (hi : i < b.data.toList.length) : indexD Try.prog 9 (.string b) (.int k (i : Int)) = some (.int .u8 ((b.data.toList[i]).toNat : Int)) := by
  have h0 : decide ((0 : Int) ≤ (i : Int)) = true := by simp
  simp only [indexD, u9, h0, condT, Int.toNat_natCast, List.getElem?_eq_getElem hi, Option.map_some]
theorem Grow.weak {α : Type} {lo lo' z : Nat} {enc : α → List Value} {s : SH} {v : Value} {xs : List α} (h : Grow lo' z enc s v xs) (hl : lo ≤ lo') : Grow lo z enc s v xs := by
  rcases h with h | ⟨id, h1, h2⟩
  · exact .inl h
  · exact .inr ⟨id, Nat.le_trans hl h1, h2⟩
theorem Sm.weak {lo lo' : Nat} {a b : SH} (h : Sm lo' a b) (hl : lo ≤ lo') : Sm lo a b := ⟨h.1, fun j hj => h.2 j (Nat.lt_of_lt_of_le hj hl)⟩
theorem conv_sb (s : SH) (b : ByteArray) : convertD Try.prog false s 9 35 (.string b) = some (sl by' 0 b.data.toList, s) := by
  simp only [convertD, u9, u35, u5, cond_false]
  congr 2
  unfold sl fz fzV
  rw [List.map_map]
  rfl
theorem bytesOf_by (bs : List UInt8) : bytesOf (bs.map by').flatten = some bs := by
  induction bs with
  | nil => rfl
  | cons b bs ih =>
    show (bytesOf (bs.map by').flatten).map (fun r => UInt8.ofNat (Int.toNat (b.toNat : Int)) :: r) = _
    rw [ih, Int.toNat_natCast, UInt8.ofNat_toNat]; rfl
theorem aggL_fz {α : Type} (enc : α → List Value) (xs : List α) : aggL ((xs.map enc).map fun e => Value.agg e.toArray) = some (xs.map enc).flatten := by
  induction xs with
  | nil => rfl
  | cons x xs ih =>
    show (aggL ((xs.map enc).map fun e => Value.agg e.toArray)).map ((enc x).toArray.toList ++ ·) = _
    rw [ih]; simp
theorem conv_bs (s : SH) (m : Nat) (bs : List UInt8) : convertD Try.prog false s 35 9 (sl by' m bs) = some (.string ⟨bs.toArray⟩, s) := by
  have hf : fzOk 1 ((bs.map by').map fun e => Value.agg e.toArray).toArray = true := fzOk_fz fun e he => by obtain ⟨x, _, rfl⟩ := List.mem_map.1 he; rfl
  have hc : cellsD s 1 ((bs.map by').map fun e => Value.agg e.toArray).toArray.size (.iface m (.tuple ((bs.map by').map fun e => Value.agg e.toArray).toArray)) = some (bs.map by').flatten := by
    simp only [cellsD, hf, Nat.ble_eq_true_of_le (Nat.le_refl _), Bool.and_self, condT]
    have : ((bs.map by').map fun e => Value.agg e.toArray).toArray.toList.take ((bs.map by').map fun e => Value.agg e.toArray).toArray.size = (bs.map by').map fun e => Value.agg e.toArray := by
      rw [List.take_of_length_le (by simp)]
    rw [this, aggL_fz]
  unfold sl fz fzV
  simp only [convertD, u9, u35, u5]
  rw [hc, bindS, bytesOf_by]; rfl
theorem bread_ok {bs : List UInt8} {i : Nat} (hi : i ≤ bs.length) (h : (bread bs i).2.2 = 0) : i < (bread bs i).2.1 ∧ (bread bs i).2.1 ≤ bs.length ∧ (bread bs i).1.length ≤ 65536 ∧ (bs.take (bread bs i).2.1).drop i = vput (bread bs i).1.length ++ (bread bs i).1 := by
  have hok := vread_ok (bs := bs) (i := i) hi
  unfold bread at h ⊢
  generalize vread bs i = r at h hok
  obtain ⟨x, j, e⟩ := r
  simp only at h hok ⊢
  by_cases he : e = 0
  · subst he
    obtain ⟨y, rfl, h2, h3, h4, h5⟩ := hok rfl
    by_cases h6 : 65536 < x
    · simp only [ne_eq, not_true_eq_false, if_false, h6, if_true] at h; exact absurd h (by decide)
    · by_cases h7 : bs.length - j < x
      · simp only [ne_eq, not_true_eq_false, if_false, h6, h7, if_true] at h; exact absurd h (by decide)
      · simp only [ne_eq, not_true_eq_false, if_false, h6, h7]
        have hl : ((bs.take (j + x)).drop j).length = x := by rw [List.length_drop, List.length_take]; omega
        refine ⟨by omega, by omega, by omega, ?_⟩
        rw [hl, ← h5]
        have e1 : (bs.take (j + x)).drop i = ((bs.take (j + x)).drop i).take (j - i) ++ ((bs.take (j + x)).drop i).drop (j - i) := (List.take_append_drop _ _).symm
        rw [e1, List.drop_drop]
        congr 1
        · rw [List.take_drop, List.take_take]
          congr 2
          omega
        · congr 1; omega
  · simp only [ne_eq, he, not_false_eq_true, if_true] at h
theorem bread_len (bs : List UInt8) (i : Nat) : (bread bs i).1.length ≤ bs.length := by
  unfold bread
  generalize vread bs i = r
  obtain ⟨x, j, e⟩ := r
  simp only
  split
  · simp
  · split
    · simp
    · split
      · simp
      · simp only [List.length_drop, List.length_take]; omega
def strB (l : List UInt8) : ByteArray := ⟨l.toArray⟩
/-- Bytes that stand at a place. -/
def At (bs : List UInt8) (i : Nat) (l : List UInt8) (j : Nat) : Prop := j = i + l.length ∧ i ≤ bs.length ∧ ∃ r, bs.drop i = l ++ r
section at_
variable {bs a b l : List UInt8} {i j k : Nat}
theorem At.le (h : At bs i l j) : i ≤ j ∧ j ≤ bs.length := by
  obtain ⟨rfl, h1, r, h2⟩ := h
  have := congrArg List.length h2
  rw [List.length_drop, List.length_append] at this; omega
theorem At.nil (h : i ≤ bs.length) : At bs i [] i := ⟨rfl, h, _, rfl⟩
theorem At.app (h : At bs i a j) (g : At bs j b k) : At bs i (a ++ b) k := by
  obtain ⟨rfl, h1, r, h2⟩ := h
  obtain ⟨rfl, g1, r', g2⟩ := g
  refine ⟨by rw [List.length_append]; omega, h1, r', ?_⟩
  rw [← List.drop_drop, h2, List.drop_left] at g2
  rw [h2, g2, List.append_assoc]
theorem At.split (h : At bs i (a ++ b) k) : ∃ j, At bs i a j ∧ At bs j b k := by
  obtain ⟨rfl, h1, r, h2⟩ := h
  have := congrArg List.length h2
  rw [List.length_drop, List.length_append, List.length_append] at this
  refine ⟨i + a.length, ⟨rfl, h1, b ++ r, by rw [h2, List.append_assoc]⟩, by rw [List.length_append]; omega, by omega, r, ?_⟩
  rw [← List.drop_drop, h2, List.append_assoc, List.drop_left]
theorem At.of_take (hi : i ≤ j) (hj : j ≤ bs.length) (h : (bs.take j).drop i = l) : At bs i l j := by
  subst h
  refine ⟨by rw [List.length_drop, List.length_take]; omega, by omega, bs.drop j, ?_⟩
  have e : bs.drop j = (bs.drop i).drop (j - i) := by rw [List.drop_drop]; congr 1; omega
  rw [List.drop_take, e, List.take_append_drop]
theorem At.take (h : At bs i l j) : (bs.take j).drop i = l := by
  obtain ⟨rfl, h1, r, h2⟩ := h
  rw [List.drop_take, h2, Nat.add_sub_cancel_left, List.take_left]
theorem At.all (l : List UInt8) : At l 0 l l.length := ⟨by simp, by omega, [], by simp⟩
theorem vread_at {x : Nat} (h : At bs i (vput x) j) (hx : x < 2 ^ 64) : vread bs i = (x, j, 0) := by
  obtain ⟨rfl, h1, r, h2⟩ := h
  unfold vread
  rw [h2, vgo_put r x x 0 0 (Nat.le_refl _) (by simpa using hx) (by omega) (fun h => by omega)]
  simp
theorem vread_at' (hi : i ≤ bs.length) (h : (vread bs i).2.2 = 0) : At bs i (vput (vread bs i).1) (vread bs i).2.1 ∧ (vread bs i).1 < 2 ^ 64 := by
  obtain ⟨y, h1, h2, h3, h4, h5⟩ := vread_ok hi h
  rw [h1]
  exact ⟨At.of_take (by omega) h4 h5, h2⟩
theorem bread_at (h : At bs i (vput l.length ++ l) j) (hl : l.length ≤ 65536) : bread bs i = (l, j, 0) := by
  obtain ⟨k, h1, h2⟩ := h.split
  unfold bread
  rw [vread_at h1 (by omega)]
  have e := h2.take
  have hle := h2.le
  obtain ⟨rfl, _, _⟩ := h2
  show (if (0 : Int) ≠ 0 then _ else _) = _
  rw [if_neg (by simp), if_neg (by omega), if_neg (by omega), e]
end at_
end Go.Proofs.Ytmhmbmogodofeaa.S
