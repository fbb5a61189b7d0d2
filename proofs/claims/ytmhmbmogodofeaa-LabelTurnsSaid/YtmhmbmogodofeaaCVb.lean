import Derived.Test.YtmhmbmogodofeaaCVa
set_option autoImplicit false
set_option linter.unusedVariables false
set_option linter.unusedSimpArgs false
set_option maxRecDepth 100000
namespace Go.Proofs.Ytmhmbmogodofeaa.S
open Go.FS Go.RowKit
attribute [local congr] bind_cg cond_cg gd_cg
theorem and127 (b : UInt8) : bopD Try.prog .and 5 (.int .u8 (b.toNat : Int)) (.int .u8 127) = some (.int .u8 ((b.toNat % 128 : Nat) : Int)) := by
  rw [bop_int]
  have key : ∀ k : Fin 256, IntKind.u8.wrap (((BitVec.ofInt 8 (k.val : Int) &&& BitVec.ofInt 8 127).toNat : Nat) : Int) = ((k.val % 128 : Nat) : Int) := by decide +kernel
  have this : IntKind.u8.wrap (((BitVec.ofInt 8 (b.toNat : Int) &&& BitVec.ofInt 8 127).toNat : Nat) : Int) = ((b.toNat % 128 : Nat) : Int) := key ⟨b.toNat, b.toNat_lt⟩
  exact congrArg (fun z => some (Value.int IntKind.u8 z)) this
theorem or64 {a q k : Nat} (ha : a < 2 ^ k) (hk : k ≤ 64) (hq : q * 2 ^ k < 2 ^ 64) : bopD Try.prog .or 70 (.int .u64 (a : Int)) (.int .u64 ((q * 2 ^ k : Nat) : Int)) = some (.int .u64 ((a + q * 2 ^ k : Nat) : Int)) := by
  rw [bop_int]
  have hk2 : (2 : Nat) ^ k ≤ 2 ^ 64 := Nat.pow_le_pow_right (by decide) hk
  have ha' : a < 2 ^ 64 := by omega
  have e1 : (BitVec.ofInt 64 (a : Int)).toNat = a := by rw [BitVec.ofInt_natCast, BitVec.toNat_ofNat, Nat.mod_eq_of_lt ha']
  have e2 : (BitVec.ofInt 64 ((q * 2 ^ k : Nat) : Int)).toNat = q * 2 ^ k := by rw [BitVec.ofInt_natCast, BitVec.toNat_ofNat, Nat.mod_eq_of_lt hq]
  have e3 : (BitVec.ofInt 64 (a : Int) ||| BitVec.ofInt 64 ((q * 2 ^ k : Nat) : Int)).toNat = a + q * 2 ^ k := by
    rw [BitVec.toNat_or, e1, e2, Nat.mul_comm q, Nat.or_comm, ← Nat.two_pow_add_eq_or_of_lt ha, Nat.add_comm]
  have hlt : a + q * 2 ^ k < 2 ^ 64 := by rw [← e3]; exact BitVec.isLt _
  exact congrArg (fun z => some (Value.int IntKind.u64 z)) (show IntKind.u64.wrap (((BitVec.ofInt 64 (a : Int) ||| BitVec.ofInt 64 ((q * 2 ^ k : Nat) : Int)).toNat : Nat) : Int) = _ by rw [e3, wrap_u64 (by omega) (by omega)])
theorem shl64 {a k : Nat} (hk : k ≤ 64) (h : a * 2 ^ k < 2 ^ 64) : bopD Try.prog .shl 70 (.int .u64 (a : Int)) (.int .i64 (k : Int)) = some (.int .u64 ((a * 2 ^ k : Nat) : Int)) := by
  rw [bop_int]
  simp only [intS, IntKind.bits]
  rw [if_neg (by omega), Int.toNat_natCast, Nat.min_eq_left hk]
  have e : (a : Int) * 2 ^ k = ((a * 2 ^ k : Nat) : Int) := by simp
  rw [e, wrap_u64 (by omega) (by omega)]
theorem vgo_cons (x : UInt8) (l : List UInt8) (i acc : Nat) : vgo (x :: l) i acc = if (i = 9 ∧ 1 < x.toNat) ∨ (0 < i ∧ x.toNat = 0) then .error 10 else if x.toNat < 128 then .ok (acc + x.toNat % 128 * 2 ^ (7 * i), i + 1) else vgo l (i + 1) (acc + x.toNat % 128 * 2 ^ (7 * i)) := rfl
/-- What Read answers. -/
def vread (bs : List UInt8) (i : Nat) : Nat × Nat × Int :=
  match vgo (bs.drop i) 0 0 with
  | .ok (n, j) => (n, i + j, 0)
  | .error e => (0, 0, e)
def tup3 (r : Nat × Nat × Int) : Value := .tuple #[.int .u64 (r.1 : Int), .int .i64 (r.2.1 : Int), .int .i64 r.2.2]
theorem c74 {n m : Nat} {s : SH} (bs : List UInt8) (i : Nat) (hi : i ≤ bs.length) (hb : bs.length < 2 ^ 62) : callD Try.prog AB (n + 1) (.fn 74) [sl by' m bs, .int .i64 (i : Int)] s = some [(tup3 (vread bs i), s)] := by
  rw [call_fn (fn := Try.f74) rfl rfl (by kernel_rfl)]
  suffices h : One (bodyD Try.prog false (callD Try.prog AB n) AB.N 74 Try.f74 [sl by' m bs, .int .i64 (i : Int)] s) fun v s' => v = tup3 (vread bs i) ∧ s' = s by
    obtain ⟨v, s', e, rfl, rfl⟩ := h
    exact e
  rw [f74_r]
  have h1 : ¬ ((i : Int) < 0) := by omega
  have h2 : ¬ ((i : Int) > bs.length) := by omega
  obtain ⟨m', hs⟩ := slc_from (P := Try.prog) (s := s) (t := 35) (m := m) (k := .i64) (xs := bs) u35 z5 by_len hi
  simp only [f74, o_bool, o_alloc, o_box, o_build, o_buildSlice, o_load, o_store, o_nilCheck, o_bop, o_uop, o_conv, o_slc, o_fieldAddr, o_field, o_indexAddr, o_index, o_extract, o_lookup, o_mapUpdate, o_makeMap, o_mapEntry, o_entryStore, o_delete, o_len, o_append, o_min, o_max, o_tgt, bindS, many1, jnE, boolS, gdB, fst', snd', bop_lss, h1, decide_false, condF, len_sl u35, bop_gtr, h2, hs]
  have hlen : (bs.drop i).length < 2 ^ 62 := by rw [List.length_drop]; omega
  unfold vread
  generalize bs.drop i = l at hlen
  refine list_one l (fun k (x : Value × Value × Value × Value × Value × Value × Value × Value) (s' : SH) => s = s' ∧ x.2.2.2.2.2.2.1 = .int .i64 k ∧ k ≤ 9 ∧ ∃ acc : Nat, x.2.2.2.1 = .int .u64 (acc : Int) ∧ acc < 2 ^ (7 * k) ∧ vgo l 0 0 = vgo (l.drop k) k acc) ?_ ?_ ⟨rfl, rfl, by omega, 0, rfl, by decide, rfl⟩ (by show l.length < 2 ^ 64; omega)
  · rintro k hk ⟨x1, x2, x3, x4, x5, x6, x7, x8⟩ s' ⟨rfl, g1, g2, acc, g3, g4, g5⟩ nx hnx
    simp only at g1 g3
    subst g1 g3
    have hlt : (k : Int) < l.length := by omega
    have hw : IntKind.i64.wrap ((k : Int) + 1) = ((k + 1 : Nat) : Int) := by rw [wrap_i64 (by omega) (by omega)]; rfl
    have hd : l.drop k = l[k] :: l.drop (k + 1) := List.drop_eq_getElem_cons hk
    rw [hd] at g5
    have hb8 : l[k].toNat < 256 := l[k].toNat_lt
    simp only [f74_l0, o_bool, o_alloc, o_box, o_build, o_buildSlice, o_load, o_store, o_nilCheck, o_bop, o_uop, o_conv, o_slc, o_fieldAddr, o_field, o_indexAddr, o_index, o_extract, o_lookup, o_mapUpdate, o_makeMap, o_mapEntry, o_entryStore, o_delete, o_len, o_append, o_min, o_max, o_tgt, bindS, many1, jnE, boolS, gdB, fst', snd', bop_lss, hlt, decide_true, condT, ixs35 by_len hk, ld_by, bop_eql, bop_gtr]
    generalize l[k] = x at g5 hb8
    rw [vgo_cons] at g5
    -- is it one that may not be?
    have err : (k = 9 ∧ 1 < x.toNat) ∨ (0 < k ∧ x.toNat = 0) → vgo l 0 0 = .error 10 := fun h => by rw [g5, if_pos h]
    by_cases k9 : k = 9
    · have k9' : (k : Int) = 9 := by omega
      by_cases x1' : 1 < x.toNat
      · have x1'' : (x.toNat : Int) > 1 := by omega
        simp only [k9', x1'', decide_true, condT]
        exact One.ret ⟨by rw [err (.inl ⟨k9, x1'⟩)]; rfl, rfl⟩
      · have x1'' : ¬ ((x.toNat : Int) > 1) := by omega
        have k0 : (k : Int) > 0 := by omega
        by_cases x0 : x.toNat = 0
        · have x0' : (x.toNat : Int) = 0 := by omega
          simp only [k9', x1'', decide_true, decide_false, condT, condF, show ((9 : Int) > 0) from by decide, x0', o_bool, o_alloc, o_box, o_build, o_buildSlice, o_load, o_store, o_nilCheck, o_bop, o_uop, o_conv, o_slc, o_fieldAddr, o_field, o_indexAddr, o_index, o_extract, o_lookup, o_mapUpdate, o_makeMap, o_mapEntry, o_entryStore, o_delete, o_len, o_append, o_min, o_max, o_tgt, bindS, many1, jnE, boolS, gdB, fst', snd', bop_gtr, bop_eql, boolS]
          exact One.ret ⟨by rw [err (.inr ⟨by omega, x0⟩)]; rfl, rfl⟩
        · have x0' : ¬ ((x.toNat : Int) = 0) := by omega
          have hx1 : x.toNat = 1 := by omega
          have x128 : ((1 : Int) < 128) := by decide
          have hno : ¬ ((k = 9 ∧ 1 < x.toNat) ∨ (0 < k ∧ x.toNat = 0)) := by rintro (⟨_, h⟩ | ⟨_, h⟩) <;> omega
          rw [if_neg hno, if_pos (by omega)] at g5
          subst k9
          have hw7 : IntKind.i64.wrap (7 * ((9 : Nat) : Int)) = ((63 : Nat) : Int) := by decide
          have hconv : IntKind.u64.wrap (((x.toNat % 128 : Nat) : Int)) = ((x.toNat % 128 : Nat) : Int) := wrap_u64 (by omega) (by omega)
          have hsm : x.toNat % 128 * 2 ^ 63 < 2 ^ 64 := by rw [hx1]; decide
          have hlx : (x.toNat : Int) < 128 := by omega
          have hadd : IntKind.i64.wrap (IntKind.i64.wrap ((i : Int) + ((9 : Nat) : Int)) + 1) = ((i + (9 + 1) : Nat) : Int) := by rw [wrap_i64 (n := (i : Int) + ((9 : Nat) : Int)) (by omega) (by omega), wrap_i64 (by omega) (by omega)]; omega
          have k0' : (((9 : Nat) : Int) > 0) := by decide
          have k9'' : decide (((9 : Nat) : Int) = 9) = true := by decide
          simp only [k9'', x1'', x0', k0', decide_true, decide_false, condT, condF, o_bool, o_alloc, o_box, o_build, o_buildSlice, o_load, o_store, o_nilCheck, o_bop, o_uop, o_conv, o_slc, o_fieldAddr, o_field, o_indexAddr, o_index, o_extract, o_lookup, o_mapUpdate, o_makeMap, o_mapEntry, o_entryStore, o_delete, o_len, o_append, o_min, o_max, o_tgt, bindS, many1, jnE, boolS, gdB, fst', snd', bop_gtr, bop_eql, boolS, and127, conv_int u5 u70, hconv, bop_mul, hw7, shl64 (show 63 ≤ 64 by decide) hsm, or64 g4 (show 63 ≤ 64 by decide) hsm, bop_lss, hlx, bop_add, hadd]
          exact One.ret ⟨by rw [g5]; rfl, rfl⟩
    · have k9' : ¬ ((k : Int) = 9) := by omega
      have hw7 : IntKind.i64.wrap (7 * (k : Int)) = ((7 * k : Nat) : Int) := by rw [wrap_i64 (by omega) (by omega)]; omega
      have hconv : IntKind.u64.wrap (((x.toNat % 128 : Nat) : Int)) = ((x.toNat % 128 : Nat) : Int) := wrap_u64 (by omega) (by omega)
      have hp : (2 : Nat) ^ (7 * k) ≤ 2 ^ (7 * 8) := Nat.pow_le_pow_right (by decide) (by omega)
      have hsm : x.toNat % 128 * 2 ^ (7 * k) < 2 ^ 64 := by
        calc x.toNat % 128 * 2 ^ (7 * k) ≤ 127 * 2 ^ (7 * 8) := Nat.mul_le_mul (by omega) hp
          _ < 2 ^ 64 := by decide
      have hadd : IntKind.i64.wrap (IntKind.i64.wrap ((i : Int) + (k : Int)) + 1) = ((i + (k + 1) : Nat) : Int) := by rw [wrap_i64 (n := (i : Int) + (k : Int)) (by omega) (by omega), wrap_i64 (by omega) (by omega)]; omega
      have hacc : acc + x.toNat % 128 * 2 ^ (7 * k) < 2 ^ (7 * (k + 1)) := by
        rw [pow7, Nat.mul_comm (2 ^ (7 * k)) 128]
        calc acc + x.toNat % 128 * 2 ^ (7 * k) < 2 ^ (7 * k) + x.toNat % 128 * 2 ^ (7 * k) := Nat.add_lt_add_right g4 _
          _ = (1 + x.toNat % 128) * 2 ^ (7 * k) := by rw [Nat.add_mul, Nat.one_mul]
          _ ≤ 128 * 2 ^ (7 * k) := Nat.mul_le_mul_right _ (by omega)
      -- on
      have on : ¬ (0 < k ∧ x.toNat = 0) → One (bif decide ((x.toNat : Int) < 128) then some [(Value.tuple #[.int .u64 ((acc + x.toNat % 128 * 2 ^ (7 * k) : Nat) : Int), .int .i64 ((i + (k + 1) : Nat) : Int), .int .i64 0], s)] else nx (x1, x2, x3, .int .u64 ((acc + x.toNat % 128 * 2 ^ (7 * k) : Nat) : Int), .int .i64 (k : Int), .int .u8 (x.toNat : Int), .int .i64 ((k + 1 : Nat) : Int), .bool false) s) (fun v s' => v = tup3 (match vgo l 0 0 with | .ok (n, j) => (n, i + j, 0) | .error e => (0, 0, e)) ∧ s' = s) := by
        intro h0
        have hno : ¬ ((k = 9 ∧ 1 < x.toNat) ∨ (0 < k ∧ x.toNat = 0)) := fun h => h.elim (fun h => k9 h.1) h0
        rw [if_neg hno] at g5
        by_cases hlx : x.toNat < 128
        · rw [if_pos hlx] at g5
          rw [decide_eq_true (show (x.toNat : Int) < 128 by omega), condT]
          exact One.ret ⟨by rw [g5]; rfl, rfl⟩
        · rw [if_neg hlx] at g5
          rw [decide_eq_false (show ¬ (x.toNat : Int) < 128 by omega), condF]
          exact hnx (_, _, _, _, _, _, _, _) _ ⟨rfl, rfl, by omega, _, rfl, hacc, g5⟩
      by_cases k0 : 0 < k
      · have k0' : (k : Int) > 0 := by omega
        by_cases x0 : x.toNat = 0
        · have x0' : (x.toNat : Int) = 0 := by omega
          simp only [k9', k0', x0', decide_true, decide_false, condT, condF, o_bool, o_alloc, o_box, o_build, o_buildSlice, o_load, o_store, o_nilCheck, o_bop, o_uop, o_conv, o_slc, o_fieldAddr, o_field, o_indexAddr, o_index, o_extract, o_lookup, o_mapUpdate, o_makeMap, o_mapEntry, o_entryStore, o_delete, o_len, o_append, o_min, o_max, o_tgt, bindS, many1, jnE, boolS, gdB, fst', snd', bop_gtr, bop_eql, boolS]
          exact One.ret ⟨by rw [err (.inr ⟨k0, x0⟩)]; rfl, rfl⟩
        · have x0' : ¬ ((x.toNat : Int) = 0) := by omega
          simp only [k9', k0', x0', decide_true, decide_false, condT, condF, o_bool, o_alloc, o_box, o_build, o_buildSlice, o_load, o_store, o_nilCheck, o_bop, o_uop, o_conv, o_slc, o_fieldAddr, o_field, o_indexAddr, o_index, o_extract, o_lookup, o_mapUpdate, o_makeMap, o_mapEntry, o_entryStore, o_delete, o_len, o_append, o_min, o_max, o_tgt, bindS, many1, jnE, boolS, gdB, fst', snd', bop_gtr, bop_eql, boolS, and127, conv_int u5 u70, hconv, bop_mul, hw7, shl64 (show 7 * k ≤ 64 by omega) hsm, or64 g4 (show 7 * k ≤ 64 by omega) hsm, bop_lss, bop_add, hadd, hw]
          exact on (fun h => x0 h.2)
      · have k0' : ¬ ((k : Int) > 0) := by omega
        simp only [k9', k0', decide_true, decide_false, condT, condF, o_bool, o_alloc, o_box, o_build, o_buildSlice, o_load, o_store, o_nilCheck, o_bop, o_uop, o_conv, o_slc, o_fieldAddr, o_field, o_indexAddr, o_index, o_extract, o_lookup, o_mapUpdate, o_makeMap, o_mapEntry, o_entryStore, o_delete, o_len, o_append, o_min, o_max, o_tgt, bindS, many1, jnE, boolS, gdB, fst', snd', bop_gtr, bop_eql, boolS, and127, conv_int u5 u70, hconv, bop_mul, hw7, shl64 (show 7 * k ≤ 64 by omega) hsm, or64 g4 (show 7 * k ≤ 64 by omega) hsm, bop_lss, bop_add, hadd, hw]
        exact on (fun h => k0 h.1)
  · rintro ⟨x1, x2, x3, x4, x5, x6, x7, x8⟩ s' ⟨rfl, g1, g2, acc, g3, g4, g5⟩ nx
    simp only at g1 g3
    subst g1 g3
    have hnlt : ¬ ((l.length : Int) < l.length) := by omega
    rw [List.drop_length] at g5
    simp only [f74_l0, o_bool, o_alloc, o_box, o_build, o_buildSlice, o_load, o_store, o_nilCheck, o_bop, o_uop, o_conv, o_slc, o_fieldAddr, o_field, o_indexAddr, o_index, o_extract, o_lookup, o_mapUpdate, o_makeMap, o_mapEntry, o_entryStore, o_delete, o_len, o_append, o_min, o_max, o_tgt, bindS, many1, jnE, boolS, gdB, fst', snd', bop_lss, hnlt, decide_false, condF, beq_yes, condT]
    exact One.ret ⟨by rw [g5]; rfl, rfl⟩
end Go.Proofs.Ytmhmbmogodofeaa.S
