import Derived.Test.YtmhmbmogodofeaaCSc
set_option autoImplicit false
set_option linter.unusedVariables false
set_option linter.unusedSimpArgs false
set_option maxRecDepth 100000
namespace Go.Proofs.Ytmhmbmogodofeaa.S
open Go.FS Go.RowKit
attribute [local congr] bind_cg cond_cg gd_cg
/-! Merging keeps a row of so many labels. -/
theorem jn_rule {α β : Type} {r : α} {f : α → β} (P : α → Prop) (Q : β → Prop) (h1 : P r) (h2 : ∀ k, P k → Q (f k)) : Q (jn r f) := by rw [jnE]; exact h2 r h1
theorem c160s {id k c : Nat} (hk : k < 2 ^ 60) : ∀ (N D a m b : Nat) (s : SH) (R : List Lab), R.length = k → N + 3 ≤ D → b - a ≤ N → a < m → m < b → b ≤ k → LR id s R → AllS R →
    ∃ s', callD Try.prog AB D (.fn 160) [rl id k c, .int .i64 (a : Int), .int .i64 (m : Int), .int .i64 (b : Int), cmpF] s = some [(.tuple #[], s')] ∧ Sh id k s s'
  | 0, D, a, m, b, s, R, _, _, h2, h3, h4, _, _, _ => by omega
  | N + 1, D, a, m, b, s, R, hR, hD, h2, h3, h4, hb, hs, hP => by
    obtain ⟨e, rfl⟩ : ∃ e, D = e + 3 := ⟨D - 3, by omega⟩
    have IH := c160s (id := id) (c := c) hk N (e + 2)
    rw [call_fn (fn := Try.f160) rfl rfl (by kernel_rfl)]
    suffices h : One (bodyD Try.prog false (callD Try.prog AB (e + 2)) AB.N 160 Try.f160 [rl id k c, .int .i64 (a : Int), .int .i64 (m : Int), .int .i64 (b : Int), cmpF] s) fun w s' => w = .tuple #[] ∧ Sh id k s s' by
      obtain ⟨w, s', e, rfl, h⟩ := h
      exact ⟨s', e, h⟩
    rw [f160_r]
    have w1 : IntKind.i64.wrap ((m : Int) - (a : Int)) = ((m - a : Nat) : Int) := by rw [wrap_i64 (by omega) (by omega)]; omega
    have w2 : IntKind.i64.wrap ((b : Int) - (m : Int)) = ((b - m : Nat) : Int) := by rw [wrap_i64 (by omega) (by omega)]; omega
    have hS0 : Sh id k s s := ⟨⟨R, hs, hR, hP⟩, .refl _ _⟩
    -- the middle of two
    have mid : ∀ i j : Nat, i < k + 1 → j < k + 1 → IntKind.i64.wrap ((i : Int) + (j : Int)) = ((i + j : Nat) : Int) ∧ IntKind.u64.wrap ((i + j : Nat) : Int) = ((i + j : Nat) : Int) ∧ IntKind.i64.wrap (((i + j) / 2 : Nat) : Int) = (((i + j) / 2 : Nat) : Int) ∧ IntKind.i64.wrap ((((i + j) / 2 : Nat) : Int) + 1) = (((i + j) / 2 + 1 : Nat) : Int) := fun i j hi hj => by
      refine ⟨by rw [wrap_i64 (by omega) (by omega)]; omega, wrap_u64 (by omega) (by omega), wrap_i64 (by omega) (by omega), by rw [wrap_i64 (by omega) (by omega)]; rfl⟩
    by_cases c1 : m - a = 1
    · have c1' : ((m - a : Nat) : Int) = 1 := by omega
      simp only [f160, o_bool, o_alloc, o_box, o_build, o_buildSlice, o_load, o_store, o_nilCheck, o_bop, o_uop, o_conv, o_slc, o_fieldAddr, o_field, o_indexAddr, o_index, o_extract, o_len, o_append, o_tgt, bindS, many1, boolS, gdB, fst', snd', b_sub, w1, bop_eql, c1', decide_true, condT]
      refine loop_rule (fun d (x : Value × Value × Value) (s' : SH) => ∃ i j : Nat, i + d = j ∧ m ≤ i ∧ j ≤ b ∧ x.1 = .int .i64 (i : Int) ∧ x.2.1 = .int .i64 (j : Int) ∧ s' = s) (fun r => One r fun w s' => w = .tuple #[] ∧ Sh id k s s') ?_ _ (b - m) _ _ ⟨m, b, by omega, Nat.le_refl _, Nat.le_refl _, rfl, rfl, rfl⟩ (by show _ < 2 ^ 64; omega)
      rintro d ⟨x1, x2, x3⟩ s' ⟨i, j, hij, him, hjb, e1, e2, rfl⟩ nx hnx
      simp only at e1 e2
      subst e1 e2
      by_cases hd : d = 0
      · have hng : ¬ ((i : Int) < (j : Int)) := by omega
        simp only [f160_l0, o_bool, o_alloc, o_box, o_build, o_buildSlice, o_load, o_store, o_nilCheck, o_bop, o_uop, o_conv, o_slc, o_fieldAddr, o_field, o_indexAddr, o_index, o_extract, o_lookup, o_mapUpdate, o_makeSlice, o_clear, o_makeMap, o_mapEntry, o_entryStore, o_delete, o_len, o_append, o_min, o_max, o_tgt, bindS, many1, jnE, boolS, gdB, fst', snd', bop_lss, hng, decide_false, condF, beq_yes, condT]
        have w3 : IntKind.i64.wrap ((i : Int) - 1) = ((i - 1 : Nat) : Int) := by rw [wrap_i64 (by omega) (by omega)]; omega
        refine loop_rule (fun d (x : Value) (s2 : SH) => ∃ q : Nat, d = i - q ∧ x = .int .i64 (q : Int) ∧ Sh id k s' s2) (fun r => One r fun w s2 => w = .tuple #[] ∧ Sh id k s' s2) ?_ _ (i - a) _ _ ⟨a, rfl, rfl, hS0⟩ (by show _ < 2 ^ 64; omega)
        rintro d2 x s2 ⟨q, hq, rfl, ⟨⟨R1, k1, k2, hP1⟩, hU⟩⟩ nx2 hnx2
        by_cases hqi : q < i - 1
        · have hlt : (q : Int) < ((i - 1 : Nat) : Int) := by omega
          have w4 : IntKind.i64.wrap ((q : Int) + 1) = ((q + 1 : Nat) : Int) := by rw [wrap_i64 (by omega) (by omega)]; rfl
          obtain ⟨s3, s4, e3, e4, e5⟩ := sw2 (x := q) (y := q + 1) k1 k2 hP1 (by omega) (by omega) (hP1 (R1[q + 1]'(by omega)) (List.getElem_mem _)) (hP1 (R1[q]'(by omega)) (List.getElem_mem _))
          simp only [f160_l1, o_bool, o_alloc, o_box, o_build, o_buildSlice, o_load, o_store, o_nilCheck, o_bop, o_uop, o_conv, o_slc, o_fieldAddr, o_field, o_indexAddr, o_index, o_extract, o_lookup, o_mapUpdate, o_makeSlice, o_clear, o_makeMap, o_mapEntry, o_entryStore, o_delete, o_len, o_append, o_min, o_max, o_tgt, bindS, many1, jnE, boolS, gdB, fst', snd', b_sub, w3, bop_lss, hlt, decide_true, condT, bop_add, w4, ix22 (show q + 1 < k by omega), ix22 (show q < k by omega), ldr k1 (show q + 1 < R1.length by omega), ldr k1 (show q < R1.length by omega), e3, e4]
          exact hnx2 (i - (q + 1)) _ _ (by omega) ⟨q + 1, rfl, rfl, Sh.trans ⟨⟨R1, k1, k2, hP1⟩, hU⟩ e5⟩
        · have hnlt : ¬ (q : Int) < ((i - 1 : Nat) : Int) := by omega
          simp only [f160_l1, o_bool, o_alloc, o_box, o_build, o_buildSlice, o_load, o_store, o_nilCheck, o_bop, o_uop, o_conv, o_slc, o_fieldAddr, o_field, o_indexAddr, o_index, o_extract, o_lookup, o_mapUpdate, o_makeSlice, o_clear, o_makeMap, o_mapEntry, o_entryStore, o_delete, o_len, o_append, o_min, o_max, o_tgt, bindS, many1, jnE, boolS, gdB, fst', snd', b_sub, w3, bop_lss, hnlt, decide_false, condF, beq_yes, condT]
          exact One.ret ⟨rfl, ⟨R1, k1, k2, hP1⟩, hU⟩
      · have hij' : (i : Int) < (j : Int) := by omega
        obtain ⟨m1, m2, m3, m4⟩ := mid i j (by omega) (by omega)
        have hh : (i + j) / 2 < R.length := by omega
        obtain ⟨z, h66, hz⟩ := c66 (n := e) (s := s') (R[(i + j) / 2]'hh) (R[a]'(by omega))
        have h66 := oneS h66
        simp only [f160_l0, o_bool, o_alloc, o_box, o_build, o_buildSlice, o_load, o_store, o_nilCheck, o_bop, o_uop, o_conv, o_slc, o_fieldAddr, o_field, o_indexAddr, o_index, o_extract, o_lookup, o_mapUpdate, o_makeSlice, o_clear, o_makeMap, o_mapEntry, o_entryStore, o_delete, o_len, o_append, o_min, o_max, o_tgt, bindS, many1, jnE, boolS, gdB, fst', snd', bop_lss, hij', decide_true, condT, bop_add, m1, conv_int u3 u201, m2, shr1, conv_int u201 u3, m3, ix22 (show (i + j) / 2 < k by omega), ix22 (show a < k by omega), ldr hs hh, ldr hs (show a < R.length by omega), tg66, h66, hz]
        cases lbL (R[(i + j) / 2]'hh) (R[a]'(by omega)) with
        | true =>
          simp only [condT, m4]
          exact hnx (j - ((i + j) / 2 + 1)) (_, _, _) _ (by omega) ⟨(i + j) / 2 + 1, j, by omega, by omega, hjb, rfl, rfl, rfl⟩
        | false =>
          simp only [condF]
          exact hnx ((i + j) / 2 - i) (_, _, _) _ (by omega) ⟨i, (i + j) / 2, by omega, him, by omega, rfl, rfl, rfl⟩
    · have c1' : ¬ ((m - a : Nat) : Int) = 1 := by omega
      by_cases c2 : b - m = 1
      · have c2' : ((b - m : Nat) : Int) = 1 := by omega
        simp only [f160, o_bool, o_alloc, o_box, o_build, o_buildSlice, o_load, o_store, o_nilCheck, o_bop, o_uop, o_conv, o_slc, o_fieldAddr, o_field, o_indexAddr, o_index, o_extract, o_len, o_append, o_tgt, bindS, many1, boolS, gdB, fst', snd', b_sub, w1, w2, bop_eql, c1', c2', decide_true, decide_false, condT, condF]
        refine loop_rule (fun d (x : Value × Value × Value) (s' : SH) => ∃ i j : Nat, i + d = j ∧ a ≤ i ∧ j ≤ m ∧ x.1 = .int .i64 (i : Int) ∧ x.2.1 = .int .i64 (j : Int) ∧ s' = s) (fun r => One r fun w s' => w = .tuple #[] ∧ Sh id k s s') ?_ _ (m - a) _ _ ⟨a, m, by omega, Nat.le_refl _, Nat.le_refl _, rfl, rfl, rfl⟩ (by show _ < 2 ^ 64; omega)
        rintro d ⟨x1, x2, x3⟩ s' ⟨i, j, hij, him, hjb, e1, e2, rfl⟩ nx hnx
        simp only at e1 e2
        subst e1 e2
        by_cases hd : d = 0
        · have hng : ¬ ((i : Int) < (j : Int)) := by omega
          simp only [f160_l2, o_bool, o_alloc, o_box, o_build, o_buildSlice, o_load, o_store, o_nilCheck, o_bop, o_uop, o_conv, o_slc, o_fieldAddr, o_field, o_indexAddr, o_index, o_extract, o_lookup, o_mapUpdate, o_makeSlice, o_clear, o_makeMap, o_mapEntry, o_entryStore, o_delete, o_len, o_append, o_min, o_max, o_tgt, bindS, many1, jnE, boolS, gdB, fst', snd', bop_lss, hng, decide_false, condF, beq_yes, condT]
          refine loop_rule (fun d (x : Value) (s2 : SH) => ∃ q : Nat, d = q ∧ q ≤ m ∧ x = .int .i64 (q : Int) ∧ Sh id k s' s2) (fun r => One r fun w s2 => w = .tuple #[] ∧ Sh id k s' s2) ?_ _ m _ _ ⟨m, rfl, Nat.le_refl _, rfl, hS0⟩ (by show _ < 2 ^ 64; omega)
          rintro d2 x s2 ⟨q, hq, hqm, rfl, ⟨⟨R1, k1, k2, hP1⟩, hU⟩⟩ nx2 hnx2
          by_cases hqi : i < q
          · have hgt : (q : Int) > (i : Int) := by omega
            have w4 : IntKind.i64.wrap ((q : Int) - 1) = ((q - 1 : Nat) : Int) := by rw [wrap_i64 (by omega) (by omega)]; omega
            obtain ⟨s3, s4, e3, e4, e5⟩ := sw2 (x := q) (y := q - 1) k1 k2 hP1 (by omega) (by omega) (hP1 (R1[q - 1]'(by omega)) (List.getElem_mem _)) (hP1 (R1[q]'(by omega)) (List.getElem_mem _))
            simp only [f160_l3, o_bool, o_alloc, o_box, o_build, o_buildSlice, o_load, o_store, o_nilCheck, o_bop, o_uop, o_conv, o_slc, o_fieldAddr, o_field, o_indexAddr, o_index, o_extract, o_lookup, o_mapUpdate, o_makeSlice, o_clear, o_makeMap, o_mapEntry, o_entryStore, o_delete, o_len, o_append, o_min, o_max, o_tgt, bindS, many1, jnE, boolS, gdB, fst', snd', b_sub, w4, bop_gtr, hgt, decide_true, condT, ix22 (show q - 1 < k by omega), ix22 (show q < k by omega), ldr k1 (show q - 1 < R1.length by omega), ldr k1 (show q < R1.length by omega), e3, e4]
            exact hnx2 (q - 1) _ _ (by omega) ⟨q - 1, rfl, by omega, rfl, Sh.trans ⟨⟨R1, k1, k2, hP1⟩, hU⟩ e5⟩
          · have hngt : ¬ (q : Int) > (i : Int) := by omega
            simp only [f160_l3, o_bool, o_alloc, o_box, o_build, o_buildSlice, o_load, o_store, o_nilCheck, o_bop, o_uop, o_conv, o_slc, o_fieldAddr, o_field, o_indexAddr, o_index, o_extract, o_lookup, o_mapUpdate, o_makeSlice, o_clear, o_makeMap, o_mapEntry, o_entryStore, o_delete, o_len, o_append, o_min, o_max, o_tgt, bindS, many1, jnE, boolS, gdB, fst', snd', bop_gtr, hngt, decide_false, condF, beq_yes, condT]
            exact One.ret ⟨rfl, ⟨R1, k1, k2, hP1⟩, hU⟩
        · have hij' : (i : Int) < (j : Int) := by omega
          obtain ⟨m1, m2, m3, m4⟩ := mid i j (by omega) (by omega)
          have hh : (i + j) / 2 < R.length := by omega
          obtain ⟨z, h66, hz⟩ := c66 (n := e) (s := s') (R[m]'(by omega)) (R[(i + j) / 2]'hh)
          have h66 := oneS h66
          simp only [f160_l2, o_bool, o_alloc, o_box, o_build, o_buildSlice, o_load, o_store, o_nilCheck, o_bop, o_uop, o_conv, o_slc, o_fieldAddr, o_field, o_indexAddr, o_index, o_extract, o_lookup, o_mapUpdate, o_makeSlice, o_clear, o_makeMap, o_mapEntry, o_entryStore, o_delete, o_len, o_append, o_min, o_max, o_tgt, bindS, many1, jnE, boolS, gdB, fst', snd', bop_lss, hij', decide_true, condT, bop_add, m1, conv_int u3 u201, m2, shr1, conv_int u201 u3, m3, ix22 (show (i + j) / 2 < k by omega), ix22 (show m < k by omega), ldr hs hh, ldr hs (show m < R.length by omega), tg66, h66, hz, uop_not]
          cases lbL (R[m]'(by omega)) (R[(i + j) / 2]'hh) with
          | false =>
            simp only [Bool.not_false, condT, m4]
            exact hnx (j - ((i + j) / 2 + 1)) (_, _, _) _ (by omega) ⟨(i + j) / 2 + 1, j, by omega, by omega, hjb, rfl, rfl, rfl⟩
          | true =>
            simp only [Bool.not_true, condF]
            exact hnx ((i + j) / 2 - i) (_, _, _) _ (by omega) ⟨i, (i + j) / 2, by omega, him, by omega, rfl, rfl, rfl⟩
      · have c2' : ¬ ((b - m : Nat) : Int) = 1 := by omega
        obtain ⟨m1, m2, m3, m4⟩ := mid a b (by omega) (by omega)
        have hmid : ∃ M, M = (a + b) / 2 := ⟨_, rfl⟩
        obtain ⟨M, hM⟩ := hmid
        rw [← hM] at m3
        have w5 : IntKind.i64.wrap ((M : Int) + (m : Int)) = ((M + m : Nat) : Int) := by rw [wrap_i64 (by omega) (by omega)]; omega
        have w6 : IntKind.i64.wrap (((M + m : Nat) : Int) - 1) = ((M + m - 1 : Nat) : Int) := by rw [wrap_i64 (by omega) (by omega)]; omega
        have w7 : m > M → IntKind.i64.wrap (((M + m : Nat) : Int) - (b : Int)) = ((M + m - b : Nat) : Int) := fun h => by rw [wrap_i64 (by omega) (by omega)]; omega
        have hsh : bopD Try.prog .shr 201 (.int .u64 ((a + b : Nat) : Int)) (.int .u64 1) = some (.int .u64 (M : Int)) := by rw [shr1, hM]
        simp only [f160, o_bool, o_alloc, o_box, o_build, o_buildSlice, o_load, o_store, o_nilCheck, o_bop, o_uop, o_conv, o_slc, o_fieldAddr, o_field, o_indexAddr, o_index, o_extract, o_len, o_append, o_tgt, bindS, many1, boolS, gdB, fst', snd', b_sub, w1, w2, bop_eql, c1', c2', decide_false, condF, bop_add, m1, conv_int u3 u201, m2, hsh, conv_int u201 u3, m3, w5, bop_gtr]
        refine jn_rule (fun f => ∀ S r : Nat, a ≤ S → S ≤ r → r ≤ m → r ≤ M → (∀ q, S ≤ q → q < r → q + 1 ≤ M + m ∧ M + m - 1 - q < k ∧ m ≤ M + m - q ∧ M ≤ M + m - q) → M + m - S ≤ b → M + m - r ≥ m → M + m - r ≥ M → One (f (.int .i64 (S : Int)) (.int .i64 (r : Int))) fun w s' => w = .tuple #[] ∧ Sh id k s s') (fun r => One r fun w s' => w = .tuple #[] ∧ Sh id k s s') ?_ ?_
        · intro S r h1 h2 h3 h4 h5 h6 h7 h8
          simp only [o_bool, o_alloc, o_box, o_build, o_buildSlice, o_load, o_store, o_nilCheck, o_bop, o_uop, o_conv, o_slc, o_fieldAddr, o_field, o_indexAddr, o_index, o_extract, o_len, o_append, o_tgt, bindS, many1, boolS, gdB, fst', snd', b_sub, w6]
          refine loop_rule (fun d (x : Value × Value × Value) (s' : SH) => ∃ i j : Nat, i + d = j ∧ S ≤ i ∧ j ≤ r ∧ x.1 = .int .i64 (i : Int) ∧ x.2.1 = .int .i64 (j : Int) ∧ s' = s) (fun r => One r fun w s' => w = .tuple #[] ∧ Sh id k s s') ?_ _ (r - S) _ _ ⟨S, r, by omega, Nat.le_refl _, Nat.le_refl _, rfl, rfl, rfl⟩ (by show _ < 2 ^ 64; omega)
          rintro d ⟨x1, x2, x3⟩ s' ⟨i, j, hij, him, hjb, e1, e2, rfl⟩ nx hnx
          simp only at e1 e2
          subst e1 e2
          by_cases hd : d = 0
          · have hng : ¬ ((i : Int) < (j : Int)) := by omega
            have w8 : IntKind.i64.wrap (((M + m : Nat) : Int) - (i : Int)) = ((M + m - i : Nat) : Int) := by rw [wrap_i64 (by omega) (by omega)]; omega
            obtain ⟨E, hE⟩ : ∃ E, E = M + m - i := ⟨_, rfl⟩
            rw [← hE] at w8
            have p1 : m ≤ E := by omega
            have p2 : M ≤ E := by omega
            have p3 : E ≤ b := by omega
            have p4 : a ≤ i := by omega
            have p5 : i ≤ m := by omega
            have p6 : i ≤ M := by omega
            have p7 : a < M := by omega
            have p8 : M < b := by omega
            have p9 : b - M ≤ N := by omega
            have p10 : M - a ≤ N := by omega
            clear hnx h5 IH
            have IH := c160s (id := id) (c := c) hk N (e + 2)
            simp only [f160_l4, o_bool, o_alloc, o_box, o_build, o_buildSlice, o_load, o_store, o_nilCheck, o_bop, o_uop, o_conv, o_slc, o_fieldAddr, o_field, o_indexAddr, o_index, o_extract, o_len, o_append, o_tgt, bindS, many1, boolS, gdB, fst', snd', bop_lss, hng, decide_false, condF, beq_yes, condT, b_sub, w8]
            refine jn_rule (fun f => ∀ bv : Bool, (bv = true → i < m ∧ m < E) → One (f (.bool bv)) fun w s2 => w = .tuple #[] ∧ Sh id k s' s2) (fun r => One r fun w s2 => w = .tuple #[] ∧ Sh id k s' s2) ?_ ?_
            · intro bv hbv
              refine jn_rule (fun f => ∀ s1, Sh id k s' s1 → One (f s1) fun w s2 => w = .tuple #[] ∧ Sh id k s' s2) (fun r => One r fun w s2 => w = .tuple #[] ∧ Sh id k s' s2) ?_ ?_
              · intro s1 hS1
                refine jn_rule (fun f => ∀ bv : Bool, (bv = true → a < i ∧ i < M) → One (f (.bool bv)) fun w s2 => w = .tuple #[] ∧ Sh id k s' s2) (fun r => One r fun w s2 => w = .tuple #[] ∧ Sh id k s' s2) ?_ ?_
                · intro bv hbv
                  refine jn_rule (fun f => ∀ s1, Sh id k s' s1 → One (f s1) fun w s2 => w = .tuple #[] ∧ Sh id k s' s2) (fun r => One r fun w s2 => w = .tuple #[] ∧ Sh id k s' s2) ?_ ?_
                  · intro s2 hS2
                    refine jn_rule (fun f => ∀ bv : Bool, (bv = true → M < E ∧ E < b) → One (f (.bool bv)) fun w s2 => w = .tuple #[] ∧ Sh id k s' s2) (fun r => One r fun w s2 => w = .tuple #[] ∧ Sh id k s' s2) ?_ ?_
                    · intro bv hbv
                      cases bv with
                      | true =>
                        obtain ⟨q1, q2⟩ := hbv rfl
                        obtain ⟨⟨R2, k1, k2, hP2⟩, hU⟩ := hS2
                        obtain ⟨s3, z1, z2⟩ := IH M E b s2 R2 k2 (by omega) p9 q1 q2 hb k1 hP2
                        simp only [o_bool, o_alloc, o_box, o_build, o_buildSlice, o_load, o_store, o_nilCheck, o_bop, o_uop, o_conv, o_slc, o_fieldAddr, o_field, o_indexAddr, o_index, o_extract, o_len, o_append, o_tgt, bindS, many1, boolS, gdB, fst', snd', condT, z1]
                        exact One.ret ⟨rfl, Sh.trans ⟨⟨R2, k1, k2, hP2⟩, hU⟩ z2⟩
                      | false =>
                        simp only [o_bool, o_alloc, o_box, o_build, o_buildSlice, o_load, o_store, o_nilCheck, o_bop, o_uop, o_conv, o_slc, o_fieldAddr, o_field, o_indexAddr, o_index, o_extract, o_len, o_append, o_tgt, bindS, many1, boolS, gdB, fst', snd', condF]
                        exact One.ret ⟨rfl, hS2⟩
                    · intro f hf
                      by_cases q1 : M < E
                      · have q1' : (M : Int) < (E : Int) := by omega
                        by_cases q2 : E < b
                        · have q2' : (E : Int) < (b : Int) := by omega
                          simp only [bop_lss, q1', q2', decide_true, gdB, condT, bindS]
                          exact hf true fun _ => ⟨q1, q2⟩
                        · have q2' : ¬ (E : Int) < (b : Int) := by omega
                          simp only [bop_lss, q1', q2', decide_true, decide_false, gdB, condT, bindS]
                          exact hf false fun h => by cases h
                      · have q1' : ¬ (M : Int) < (E : Int) := by omega
                        simp only [bop_lss, q1', decide_false, gdB, condF, bindS]
                        exact hf false fun h => by cases h
                  · intro f hf
                    cases bv with
                    | true =>
                      obtain ⟨q1, q2⟩ := hbv rfl
                      obtain ⟨⟨R2, k1, k2, hP2⟩, hU⟩ := hS1
                      obtain ⟨s3, z1, z2⟩ := IH a i M s1 R2 k2 (by omega) p10 q1 q2 (by omega) k1 hP2
                      simp only [o_bool, o_alloc, o_box, o_build, o_buildSlice, o_load, o_store, o_nilCheck, o_bop, o_uop, o_conv, o_slc, o_fieldAddr, o_field, o_indexAddr, o_index, o_extract, o_len, o_append, o_tgt, bindS, many1, boolS, gdB, fst', snd', condT, z1]
                      exact hf s3 (Sh.trans ⟨⟨R2, k1, k2, hP2⟩, hU⟩ z2)
                    | false =>
                      simp only [o_bool, o_alloc, o_box, o_build, o_buildSlice, o_load, o_store, o_nilCheck, o_bop, o_uop, o_conv, o_slc, o_fieldAddr, o_field, o_indexAddr, o_index, o_extract, o_len, o_append, o_tgt, bindS, many1, boolS, gdB, fst', snd', condF]
                      exact hf s1 hS1
                · intro f hf
                  by_cases q1 : a < i
                  · have q1' : (a : Int) < (i : Int) := by omega
                    by_cases q2 : i < M
                    · have q2' : (i : Int) < (M : Int) := by omega
                      simp only [bop_lss, q1', q2', decide_true, gdB, condT, bindS]
                      exact hf true fun _ => ⟨q1, q2⟩
                    · have q2' : ¬ (i : Int) < (M : Int) := by omega
                      simp only [bop_lss, q1', q2', decide_true, decide_false, gdB, condT, bindS]
                      exact hf false fun h => by cases h
                  · have q1' : ¬ (a : Int) < (i : Int) := by omega
                    simp only [bop_lss, q1', decide_false, gdB, condF, bindS]
                    exact hf false fun h => by cases h
              · intro f hf
                cases bv with
                | true =>
                  obtain ⟨q1, q2⟩ := hbv rfl
                  obtain ⟨s3, z1, z2⟩ := c200s (n := e) (c := c) hR hk q1 q2 (by omega) hs hP
                  simp only [o_bool, o_alloc, o_box, o_build, o_buildSlice, o_load, o_store, o_nilCheck, o_bop, o_uop, o_conv, o_slc, o_fieldAddr, o_field, o_indexAddr, o_index, o_extract, o_len, o_append, o_tgt, bindS, many1, boolS, gdB, fst', snd', condT, z1]
                  exact hf s3 z2
                | false =>
                  simp only [o_bool, o_alloc, o_box, o_build, o_buildSlice, o_load, o_store, o_nilCheck, o_bop, o_uop, o_conv, o_slc, o_fieldAddr, o_field, o_indexAddr, o_index, o_extract, o_len, o_append, o_tgt, bindS, many1, boolS, gdB, fst', snd', condF]
                  exact hf s' hS0
            · intro f hf
              by_cases q1 : i < m
              · have q1' : (i : Int) < (m : Int) := by omega
                by_cases q2 : m < E
                · have q2' : (m : Int) < (E : Int) := by omega
                  simp only [bop_lss, q1', q2', decide_true, gdB, condT, bindS]
                  exact hf true fun _ => ⟨q1, q2⟩
                · have q2' : ¬ (m : Int) < (E : Int) := by omega
                  simp only [bop_lss, q1', q2', decide_true, decide_false, gdB, condT, bindS]
                  exact hf false fun h => by cases h
              · have q1' : ¬ (i : Int) < (m : Int) := by omega
                simp only [bop_lss, q1', decide_false, gdB, condF, bindS]
                exact hf false fun h => by cases h
          · have hij' : (i : Int) < (j : Int) := by omega
            obtain ⟨n1, n2, n3, n4⟩ := mid i j (by omega) (by omega)
            have hh : (i + j) / 2 < k := by omega
            obtain ⟨g1, g2, g3, g4⟩ := h5 ((i + j) / 2) (by omega) (by omega)
            have w9 : IntKind.i64.wrap (((M + m - 1 : Nat) : Int) - (((i + j) / 2 : Nat) : Int)) = ((M + m - 1 - (i + j) / 2 : Nat) : Int) := by rw [wrap_i64 (by omega) (by omega)]; omega
            obtain ⟨z, h66, hz⟩ := c66 (n := e) (s := s') (R[M + m - 1 - (i + j) / 2]'(by omega)) (R[(i + j) / 2]'(by omega))
            have h66 := oneS h66
            simp only [f160_l4, o_bool, o_alloc, o_box, o_build, o_buildSlice, o_load, o_store, o_nilCheck, o_bop, o_uop, o_conv, o_slc, o_fieldAddr, o_field, o_indexAddr, o_index, o_extract, o_lookup, o_mapUpdate, o_makeSlice, o_clear, o_makeMap, o_mapEntry, o_entryStore, o_delete, o_len, o_append, o_min, o_max, o_tgt, bindS, many1, jnE, boolS, gdB, fst', snd', bop_lss, hij', decide_true, condT, bop_add, n1, conv_int u3 u201, n2, shr1, conv_int u201 u3, n3, b_sub, w9, ix22 hh, ix22 g2, ldr hs (show M + m - 1 - (i + j) / 2 < R.length by omega), ldr hs (show (i + j) / 2 < R.length by omega), tg66, h66, hz, uop_not]
            cases lbL (R[M + m - 1 - (i + j) / 2]'(by omega)) (R[(i + j) / 2]'(by omega)) with
            | false =>
              simp only [Bool.not_false, condT, n4]
              exact hnx (j - ((i + j) / 2 + 1)) (_, _, _) _ (by omega) ⟨(i + j) / 2 + 1, j, by omega, by omega, hjb, rfl, rfl, rfl⟩
            | true =>
              simp only [Bool.not_true, condF]
              exact hnx ((i + j) / 2 - i) (_, _, _) _ (by omega) ⟨i, (i + j) / 2, by omega, him, by omega, rfl, rfl, rfl⟩
        · intro f hf
          by_cases hc : m > M
          · have hc' : (m : Int) > (M : Int) := by omega
            simp only [hc', decide_true, condT, w7 hc, bindS]
            exact hf (M + m - b) M (by omega) (by omega) (by omega) (by omega) (fun q h1 h2 => by omega) (by omega) (by omega) (by omega)
          · have hc' : ¬ (m : Int) > (M : Int) := by omega
            simp only [hc', decide_false, condF]
            exact hf a m (by omega) (by omega) (by omega) (by omega) (fun q h1 h2 => by omega) (by omega) (by omega) (by omega)
end Go.Proofs.Ytmhmbmogodofeaa.S
