import Derived.Test.YtmhmbmogodofeaaCYi
set_option autoImplicit false
set_option linter.unusedVariables false
set_option linter.unusedSimpArgs false
set_option maxRecDepth 100000
namespace Go.Proofs.Ytmhmbmogodofeaa.S
open Go.FS Go.RowKit
attribute [local congr] bind_cg cond_cg gd_cg
/-! Reading: one text. -/
theorem bop_sadd (x y : Str) (h : x.length + y.length < 2 ^ 62) : bopD Try.prog .add 9 (encStr x) (encStr y) = some (encStr (x ++ y)) := by
  have hs : ¬ (((⟨x.toArray⟩ : ByteArray).size + (⟨y.toArray⟩ : ByteArray).size : Nat) : Int) > IntKind.i64.max := by
    show ¬ ((x.length + y.length : Nat) : Int) > IntKind.i64.max
    have : IntKind.i64.max = 9223372036854775807 := by decide
    rw [this]; omega
  have e : Op.stringOp .add (⟨x.toArray⟩ : ByteArray) ⟨y.toArray⟩ = pure (Value.string ((⟨x.toArray⟩ : ByteArray) ++ ⟨y.toArray⟩)) := by
    unfold Op.stringOp
    simp only [hs, if_false]
  have : bopD Try.prog .add 9 (encStr x) (encStr y) = (pureD Try.prog (Op.stringOp .add (⟨x.toArray⟩ : ByteArray) ⟨y.toArray⟩)).or none := rfl
  rw [this, e]
  have e2 : (pureD Try.prog (pure (Value.string ((⟨x.toArray⟩ : ByteArray) ++ ⟨y.toArray⟩)))).or none = some (.string ((⟨x.toArray⟩ : ByteArray) ++ ⟨y.toArray⟩)) := rfl
  rw [e2, str_mk (x := x ++ y) (by rw [ByteArray.data_append]; simp)]
theorem conv_bt (s : SH) (m : Nat) (bs : List UInt8) : convertD Try.prog false s 35 9 (sl by' m bs) = some (encStr bs, s) := conv_bs s m bs
def nextS (bs : List UInt8) (i : Nat) (last : Str) : Str × Nat × Int :=
  match vread bs i with
  | (k, j, e) => if e ≠ 0 then ([], 0, e) else match bread bs j with
    | (x, j2, e2) => if e2 ≠ 0 then ([], 0, e2) else if last.length < k ∨ 256 < k + x.length then ([], 0, 150) else if comL last (last.take k ++ x) ≠ k then ([], 0, 150) else (last.take k ++ x, j2, 0)
def tupT (r : Str × Nat × Int) : Value := .tuple #[encStr r.1, .int .i64 (r.2.1 : Int), .int .i64 r.2.2]
theorem c89 {n m : Nat} {s : SH} (bs : List UInt8) (i : Nat) (last : Str) (hi : i ≤ bs.length) (hb : bs.length < 2 ^ 46) (hla : last.length ≤ 256) : ∃ s', callD Try.prog AB (n + 3) (.fn 89) [sl by' m bs, .int .i64 (i : Int), encStr last] s = some [(tupT (nextS bs i last), s')] ∧ Sm s.n s s' := by
  rw [call_fn (fn := Try.f89) rfl rfl (by kernel_rfl)]
  show ∃ s', bodyD Try.prog false _ _ 89 Try.f89 _ s = _ ∧ _
  rw [f89_r]
  have h74 := c74 (n := n + 1) (m := m) (s := s) bs i hi (by omega)
  have hok := vread_ok (bs := bs) (i := i) hi
  unfold nextS
  generalize vread bs i = r at h74 hok
  obtain ⟨k, j, e⟩ := r
  simp only at hok
  have t : tup3 (k, j, e) = .tuple #[.int .u64 (k : Int), .int .i64 (j : Int), .int .i64 e] := rfl
  rw [t] at h74
  by_cases he : e = 0
  · subst he
    obtain ⟨y, rfl, hx, hj, hjl, _⟩ := hok rfl
    obtain ⟨m2, s2, h137, hs2⟩ := c137 (n := n) (m := m) (s := s) bs j hjl hb
    have hbl := bread_len bs j
    have hbo := bread_ok (bs := bs) (i := j) hjl
    simp only
    generalize bread bs j = r at h137 hbl hbo
    obtain ⟨x, j2, e2⟩ := r
    simp only at hbl hbo
    have t : tupB m2 (x, j2, e2) = .tuple #[sl by' m2 x, .int .i64 (j2 : Int), .int .i64 e2] := rfl
    rw [t] at h137
    by_cases he2 : e2 = 0
    · subst he2
      have hx6 := (hbo rfl).2.2.1
      have hwl : IntKind.u64.wrap (last.length : Int) = (last.length : Int) := wrap_u64 (by omega) (by omega)
      by_cases h1 : last.length < k
      · have h1' : (k : Int) > (last.length : Int) := by omega
        simp only [f89, o_bool, o_alloc, o_box, o_build, o_buildSlice, o_load, o_store, o_nilCheck, o_bop, o_uop, o_conv, o_slc, o_fieldAddr, o_field, o_indexAddr, o_index, o_extract, o_lookup, o_mapUpdate, o_makeSlice, o_clear, o_makeMap, o_mapEntry, o_entryStore, o_delete, o_len, o_append, o_min, o_max, o_tgt, bindS, many1, jnE, boolS, gdB, fst', snd', h74, (ext3 _ _ _).1, (ext3 _ _ _).2.1, (ext3 _ _ _).2.2, b_neq, decide_true, Bool.not_true, condF, h137, len_tx, conv_int u3 u70, hwl, bop_gtr, h1', condT]
        exact ⟨s2, by simp only [ne_eq, not_true_eq_false, if_false, h1, true_or, if_true]; rfl, hs2⟩
      · have h1' : ¬ ((k : Int) > (last.length : Int)) := by omega
        have hwk : IntKind.i64.wrap (k : Int) = (k : Int) := wrap_i64 (by omega) (by omega)
        have hwa : IntKind.i64.wrap ((k : Int) + (x.length : Int)) = ((k + x.length : Nat) : Int) := by rw [wrap_i64 (by omega) (by omega)]; omega
        by_cases h2 : 256 < k + x.length
        · have h2' : ((k + x.length : Nat) : Int) > 256 := by omega
          simp only [f89, o_bool, o_alloc, o_box, o_build, o_buildSlice, o_load, o_store, o_nilCheck, o_bop, o_uop, o_conv, o_slc, o_fieldAddr, o_field, o_indexAddr, o_index, o_extract, o_lookup, o_mapUpdate, o_makeSlice, o_clear, o_makeMap, o_mapEntry, o_entryStore, o_delete, o_len, o_append, o_min, o_max, o_tgt, bindS, many1, jnE, boolS, gdB, fst', snd', h74, (ext3 _ _ _).1, (ext3 _ _ _).2.1, (ext3 _ _ _).2.2, b_neq, decide_true, decide_false, Bool.not_true, condF, h137, len_tx, conv_int u3 u70, hwl, bop_gtr, h1', condT, conv_int u70 u3, hwk, len_sl u35, bop_add, hwa, h2']
          exact ⟨s2, by simp only [ne_eq, not_true_eq_false, if_false, h1, h2, or_true, if_true]; rfl, hs2⟩
        · have h2' : ¬ (((k + x.length : Nat) : Int) > 256) := by omega
          have hsl : ∀ s : SH, slcD Try.prog s 9 (encStr last) none (some (.int .u64 (k : Int))) none = some (encStr (last.take k)) := fun s => slc_tx s last (by omega)
          have hadd := bop_sadd (last.take k) x (by rw [List.length_take]; omega)
          have h88 := c88 (n := n + 1) (s := s2) last (last.take k ++ x) (by omega) (by rw [List.length_append, List.length_take]; omega)
          by_cases h3 : comL last (last.take k ++ x) = k
          · rw [h3] at h88
            simp only [f89, o_bool, o_alloc, o_box, o_build, o_buildSlice, o_load, o_store, o_nilCheck, o_bop, o_uop, o_conv, o_slc, o_fieldAddr, o_field, o_indexAddr, o_index, o_extract, o_lookup, o_mapUpdate, o_makeSlice, o_clear, o_makeMap, o_mapEntry, o_entryStore, o_delete, o_len, o_append, o_min, o_max, o_tgt, bindS, many1, jnE, boolS, gdB, fst', snd', h74, (ext3 _ _ _).1, (ext3 _ _ _).2.1, (ext3 _ _ _).2.2, b_neq, decide_true, decide_false, Bool.not_true, condF, h137, len_tx, conv_int u3 u70, hwl, bop_gtr, h1', condT, conv_int u70 u3, hwk, len_sl u35, bop_add, hwa, h2', hsl, conv_bt, hadd, h88]
            exact ⟨s2, by simp only [ne_eq, not_true_eq_false, if_false, h1, h2, or_false, h3]; rfl, hs2⟩
          · have h3' : ¬ ((comL last (last.take k ++ x) : Nat) : Int) = (k : Int) := by omega
            simp only [f89, o_bool, o_alloc, o_box, o_build, o_buildSlice, o_load, o_store, o_nilCheck, o_bop, o_uop, o_conv, o_slc, o_fieldAddr, o_field, o_indexAddr, o_index, o_extract, o_lookup, o_mapUpdate, o_makeSlice, o_clear, o_makeMap, o_mapEntry, o_entryStore, o_delete, o_len, o_append, o_min, o_max, o_tgt, bindS, many1, jnE, boolS, gdB, fst', snd', h74, (ext3 _ _ _).1, (ext3 _ _ _).2.1, (ext3 _ _ _).2.2, b_neq, decide_true, decide_false, Bool.not_true, Bool.not_false, condF, h137, len_tx, conv_int u3 u70, hwl, bop_gtr, h1', condT, conv_int u70 u3, hwk, len_sl u35, bop_add, hwa, h2', hsl, conv_bt, hadd, h88, h3']
            exact ⟨s2, by simp only [ne_eq, not_true_eq_false, not_false_eq_true, if_true, if_false, h1, h2, or_false, h3]; rfl, hs2⟩
    · simp only [f89, o_bool, o_alloc, o_box, o_build, o_buildSlice, o_load, o_store, o_nilCheck, o_bop, o_uop, o_conv, o_slc, o_fieldAddr, o_field, o_indexAddr, o_index, o_extract, o_lookup, o_mapUpdate, o_makeSlice, o_clear, o_makeMap, o_mapEntry, o_entryStore, o_delete, o_len, o_append, o_min, o_max, o_tgt, bindS, many1, jnE, boolS, gdB, fst', snd', h74, (ext3 _ _ _).1, (ext3 _ _ _).2.1, (ext3 _ _ _).2.2, b_neq, decide_true, Bool.not_true, condF, h137, he2, decide_false, Bool.not_false, condT]
      exact ⟨s2, by simp only [ne_eq, he2, not_false_eq_true, not_true_eq_false, if_true, if_false]; rfl, hs2⟩
  · simp only [f89, o_bool, o_alloc, o_box, o_build, o_buildSlice, o_load, o_store, o_nilCheck, o_bop, o_uop, o_conv, o_slc, o_fieldAddr, o_field, o_indexAddr, o_index, o_extract, o_lookup, o_mapUpdate, o_makeSlice, o_clear, o_makeMap, o_mapEntry, o_entryStore, o_delete, o_len, o_append, o_min, o_max, o_tgt, bindS, many1, jnE, boolS, gdB, fst', snd', h74, (ext3 _ _ _).1, (ext3 _ _ _).2.1, (ext3 _ _ _).2.2, b_neq, he, decide_false, Bool.not_false, condT]
    exact ⟨s, by simp only [ne_eq, he, not_false_eq_true, if_true]; rfl, .refl _ _⟩
/-! The plain law of one text. -/
theorem nextS_put {bs : List UInt8} {i j : Nat} {last x : Str} (h : At bs i (vput (comL last x) ++ (vput (x.drop (comL last x)).length ++ x.drop (comL last x))) j) (hx : x.length ≤ 256) : nextS bs i last = (x, j, 0) := by
  obtain ⟨j1, h1, h2⟩ := h.split
  have hc := comL_le last x
  unfold nextS
  rw [vread_at h1 (by omega)]
  simp only
  rw [if_neg (by simp), bread_at h2 (by rw [List.length_drop]; omega)]
  have hs : last.take (comL last x) ++ x.drop (comL last x) = x := by rw [comL_take, List.take_append_drop]
  simp only
  rw [if_neg (by simp), if_neg (by rw [List.length_drop]; omega), hs, if_neg (by simp)]
theorem nextS_ok {bs : List UInt8} {i : Nat} {last : Str} (hi : i ≤ bs.length) (h : (nextS bs i last).2.2 = 0) :
    At bs i (vput (comL last (nextS bs i last).1) ++ (vput ((nextS bs i last).1.drop (comL last (nextS bs i last).1)).length ++ (nextS bs i last).1.drop (comL last (nextS bs i last).1))) (nextS bs i last).2.1 ∧ (nextS bs i last).1.length ≤ 256 := by
  have hv := vread_at' (bs := bs) (i := i) hi
  unfold nextS at h ⊢
  generalize vread bs i = r at h hv
  obtain ⟨k, j, e⟩ := r
  simp only at h hv ⊢
  by_cases he : e = 0
  · subst he
    obtain ⟨h1, hk⟩ := hv rfl
    have hb := bread_ok (bs := bs) (i := j) h1.le.2
    rw [if_neg (by simp)] at h ⊢
    generalize bread bs j = r at h hb
    obtain ⟨x, j2, e2⟩ := r
    simp only at h hb ⊢
    by_cases he2 : e2 = 0
    · subst he2
      obtain ⟨b1, b2, b3, b4⟩ := hb rfl
      rw [if_neg (by simp)] at h ⊢
      by_cases h2 : last.length < k ∨ 256 < k + x.length
      · rw [if_pos h2] at h; exact absurd h (by decide)
      · rw [if_neg h2] at h ⊢
        by_cases h3 : comL last (last.take k ++ x) = k
        · rw [if_neg (by simp [h3])]
          have hlk : (last.take k).length = k := by rw [List.length_take]; omega
          simp only
          rw [h3]
          have hd : (last.take k ++ x).drop k = x := by
            rw [List.drop_append_of_le_length (by omega), List.drop_eq_nil_of_le (by omega), List.nil_append]
          rw [hd]
          exact ⟨h1.app (At.of_take (by omega) b2 b4), by rw [List.length_append, hlk]; omega⟩
        · rw [if_pos h3] at h; exact absurd h (by decide)
    · rw [if_pos he2] at h; exact absurd h he2
  · rw [if_pos he] at h; exact absurd h he
theorem nextS_err (bs : List UInt8) (i : Nat) (last : Str) (h : (nextS bs i last).2.2 ≠ 0) : (nextS bs i last).1 = [] ∧ (nextS bs i last).2.1 = 0 := by
  unfold nextS at h ⊢
  generalize vread bs i = r at h
  obtain ⟨k, j, e⟩ := r
  simp only at h ⊢
  split
  · exact ⟨rfl, rfl⟩
  · rename_i he
    rw [if_neg he] at h
    split
    · exact ⟨rfl, rfl⟩
    · rename_i he2
      rw [if_neg he2] at h
      split
      · exact ⟨rfl, rfl⟩
      · rename_i h2
        rw [if_neg h2] at h
        split
        · exact ⟨rfl, rfl⟩
        · rename_i h3
          rw [if_neg h3] at h
          exact absurd rfl h
end Go.Proofs.Ytmhmbmogodofeaa.S
