import Derived.Test.YtmhmbmogodofeaaDoorMI
import Derived.Test.YtmhmbmogodofeaaDoorTR
import Derived.Test.YtmhmbmogodofeaaDoorSR
set_option autoImplicit false
set_option linter.unusedVariables false
set_option linter.unusedSimpArgs false
set_option maxRecDepth 100000
namespace Go.Proofs.YtmhmbmogodofeaaDoor.S
open Go.FS Go.RowKit
attribute [local congr] bind_cg cond_cg gd_cg

/-! The reference: vint.Read, crc. -/
theorem c32_arg {n m : Nat} {s : SH} (bs : List UInt8) (i : Int) (hi : i < 0 ∨ (bs.length : Int) < i) : callD Tryd.prog AB (n + 1) (.fn 32) [sl by' m bs, I i] s = some [(tup3 (0, 0, 2), s)] := by
  rw [call_fn (fn := Tryd.f32) rfl rfl (by kernel_rfl)]
  show bodyD Tryd.prog false _ _ 32 Tryd.f32 _ s = _
  rw [f32_r]
  by_cases h0 : i < 0
  · simp only [f32, oO, bindS, many1, jnE, boolS, gdB, fst', snd', bop_lss, h0, decide_true, condT]
    rfl
  · have h1 : i > (bs.length : Int) := by omega
    simp only [f32, oO, bindS, many1, jnE, boolS, gdB, fst', snd', bop_lss, h0, decide_false, condF, len_sl u22, bop_gtr, h1, decide_true, condT]
    rfl
theorem c32 {n m : Nat} {s : SH} (bs : List UInt8) (i : Nat) (hi : i ≤ bs.length) (hb : bs.length < 2 ^ 60) : callD Tryd.prog AB (n + 1) (.fn 32) [sl by' m bs, I (i : Int)] s = some [(tup3 (vread bs i), s)] := by
  rw [call_fn (fn := Tryd.f32) rfl rfl (by kernel_rfl)]
  suffices h : One (bodyD Tryd.prog false (callD Tryd.prog AB n) AB.N 32 Tryd.f32 [sl by' m bs, I (i : Int)] s) fun v s' => v = tup3 (vread bs i) ∧ s' = s by
    obtain ⟨v, s', e, rfl, rfl⟩ := h
    exact e
  rw [f32_r]
  have h1 : ¬ ((i : Int) < 0) := by omega
  have h2 : ¬ ((i : Int) > bs.length) := by omega
  simp only [f32, oO, bindS, many1, jnE, boolS, gdB, fst', snd', bop_lss, h1, decide_false, condF, len_sl u22, bop_gtr, h2]
  unfold vread
  refine list_one (List.replicate 10 ()) (fun k (x : Value × Value × Value × Value × Value × Value × Value) (s' : SH) => s' = s ∧ x.2.2.2.2.2.1 = I (k : Int) ∧ ∃ acc : Nat, x.2.2.2.1 = U (acc : Int) ∧ x.2.2.2.2.1 = U ((2 ^ (7 * k) : Nat) : Int) ∧ acc < 2 ^ (7 * k) ∧ k ≤ 9 ∧ vgo (bs.drop i) 0 0 = vgo (bs.drop (i + k)) k acc) ?_ ?_ ⟨rfl, rfl, 0, rfl, rfl, by decide, by omega, rfl⟩ (by rw [List.length_replicate]; show _ < 2 ^ 64; omega)
  · rintro k hk ⟨x1, x2, x3, x4, x5, x6, x7⟩ s' ⟨rfl, g1, acc, g3, g6, g4, k9, g5⟩ nx hnx
    rw [List.length_replicate] at hk
    simp only at g1 g3 g6
    subst g1 g3 g6
    have hlt : (k : Int) < 10 := by omega
    have hw : IntKind.i64.wrap ((k : Int) + 1) = ((k + 1 : Nat) : Int) := by rw [wrap_i64 (by omega) (by omega)]; rfl
    have hwl : IntKind.i64.wrap ((bs.length : Int) - (i : Int)) = ((bs.length - i : Nat) : Int) := by rw [wrap_i64 (by omega) (by omega)]; omega
    by_cases hend : bs.length - i ≤ k
    · have hge : (k : Int) ≥ ((bs.length - i : Nat) : Int) := by omega
      rw [List.drop_eq_nil_of_le (show bs.length ≤ i + k by omega)] at g5
      simp only [f32_l0, oO, bindS, many1, jnE, boolS, gdB, fst', snd', bop_lss, hlt, decide_true, condT, len_sl u22, b_sub, hwl, bop_geq, hge]
      exact One.ret ⟨by rw [g5]; rfl, rfl⟩
    · have hge : ¬ (k : Int) ≥ ((bs.length - i : Nat) : Int) := by omega
      have hik : i + k < bs.length := by omega
      have hwa : IntKind.i64.wrap ((i : Int) + (k : Int)) = ((i + k : Nat) : Int) := by rw [wrap_i64 (by omega) (by omega)]; omega
      have hwb : IntKind.i64.wrap (((i + k : Nat) : Int) + 1) = ((i + (k + 1) : Nat) : Int) := by rw [wrap_i64 (by omega) (by omega)]; omega
      rw [List.drop_eq_getElem_cons hik, vgo_cons] at g5
      have hb8 : bs[i + k].toNat < 256 := bs[i + k].toNat_lt
      simp only [f32_l0, oO, bindS, many1, jnE, boolS, gdB, fst', snd', bop_lss, hlt, decide_true, condT, len_sl u22, b_sub, hwl, bop_geq, hge, decide_false, condF, bop_add, hwa, ixs22 by_len hik, ld_by, cvt5_38]
      rw [show i + k + 1 = i + (k + 1) from by omega] at g5
      generalize bs[i + k] = x at g5 hb8
      have hrem : Int.tmod (x.toNat : Int) 128 = ((x.toNat % 128 : Nat) : Int) := rfl
      have err : (k = 9 ∧ 1 < x.toNat) ∨ (0 < k ∧ x.toNat = 0) → vgo (bs.drop i) 0 0 = .error 10 := fun h => by rw [g5, if_pos h]
      have hp : (2 : Nat) ^ (7 * k) ≤ 2 ^ 63 := Nat.pow_le_pow_right (by decide) (by omega)
      by_cases hno : (k = 9 ∧ 1 < x.toNat) ∨ (0 < k ∧ x.toNat = 0)
      · have g5 := err hno
        rcases hno with ⟨k9', hx1⟩ | ⟨k0, hx0⟩
        · have hc9 : decide ((k : Int) = 9) = true := decide_eq_true (by omega)
          have hx1' : (x.toNat : Int) > 1 := by omega
          simp only [oO, bindS, many1, jnE, boolS, gdB, fst', snd', bop_eql, hc9, condT, bop_gtr, hx1', decide_true]
          exact One.ret ⟨by rw [g5]; rfl, rfl⟩
        · have hk0 : (k : Int) > 0 := by omega
          have hx1' : ¬ (x.toNat : Int) > 1 := by omega
          have hx0' : decide ((x.toNat : Int) = 0) = true := decide_eq_true (by omega)
          cases hc9 : decide ((k : Int) = 9)
          · simp only [oO, bindS, many1, jnE, boolS, gdB, fst', snd', bop_eql, hc9, condT, condF, bop_gtr, hk0, decide_true, hx0']
            exact One.ret ⟨by rw [g5]; rfl, rfl⟩
          · simp only [oO, bindS, many1, jnE, boolS, gdB, fst', snd', bop_eql, hc9, condT, condF, bop_gtr, hx1', hk0, decide_true, decide_false, hx0']
            exact One.ret ⟨by rw [g5]; rfl, rfl⟩
      · rw [if_neg hno] at g5
        have hx9 : k = 9 → x.toNat ≤ 1 := fun h => by
          have : ¬ (1 < x.toNat) := fun h1 => hno (.inl ⟨h, h1⟩)
          omega
        have hx0 : 0 < k → x.toNat ≠ 0 := fun h h1 => hno (.inr ⟨h, h1⟩)
        have hsm : acc + x.toNat % 128 * 2 ^ (7 * k) < 2 ^ 64 := by
          by_cases k9' : k = 9
          · subst k9'
            have := hx9 rfl
            have : x.toNat % 128 ≤ 1 := by omega
            have h2 : x.toNat % 128 * 2 ^ (7 * 9) ≤ 1 * 2 ^ (7 * 9) := Nat.mul_le_mul_right _ this
            have h3 : (2 : Nat) ^ (7 * 9) = 9223372036854775808 := by decide
            omega
          · have hp8 : (2 : Nat) ^ (7 * k) ≤ 2 ^ 56 := Nat.pow_le_pow_right (by decide) (by omega)
            have h2 : x.toNat % 128 * 2 ^ (7 * k) ≤ 127 * 2 ^ 56 := Nat.mul_le_mul (by omega) hp8
            have h3 : (2 : Nat) ^ 56 = 72057594037927936 := by decide
            omega
        have m1 : IntKind.u64.wrap (((x.toNat % 128 : Nat) : Int) * ((2 ^ (7 * k) : Nat) : Int)) = ((x.toNat % 128 * 2 ^ (7 * k) : Nat) : Int) := by rw [← Int.natCast_mul, wrap_u64 (by omega) (by omega)]
        have m2 : IntKind.u64.wrap ((acc : Int) + ((x.toNat % 128 * 2 ^ (7 * k) : Nat) : Int)) = ((acc + x.toNat % 128 * 2 ^ (7 * k) : Nat) : Int) := by rw [← Int.natCast_add, wrap_u64 (by omega) (by omega)]
        generalize hm3 : IntKind.u64.wrap (((2 ^ (7 * k) : Nat) : Int) * 128) = M3
        have m3 : ¬ x.toNat < 128 → k ≤ 8 ∧ M3 = ((2 ^ (7 * (k + 1)) : Nat) : Int) := fun hl => by
          have hk8 : k ≤ 8 := by
            rcases Nat.lt_or_ge k 9 with h | h
            · omega
            · have := hx9 (by omega); omega
          have hp9 : (2 : Nat) ^ (7 * (k + 1)) ≤ 2 ^ 63 := Nat.pow_le_pow_right (by decide) (by omega)
          have h3 : (2 : Nat) ^ 63 = 9223372036854775808 := by decide
          have e : ((2 ^ (7 * k) : Nat) : Int) * 128 = ((2 ^ (7 * (k + 1)) : Nat) : Int) := by rw [pow7, Int.natCast_mul]; rfl
          refine ⟨hk8, ?_⟩
          rw [← hm3, e, wrap_u64 (by omega) (by omega)]
        have step : x.toNat < 128 → vgo (bs.drop i) 0 0 = .ok (acc + x.toNat % 128 * 2 ^ (7 * k), k + 1) := fun hl => by rw [g5, if_pos hl]
        have step2 : ¬ x.toNat < 128 → vgo (bs.drop i) 0 0 = vgo (bs.drop (i + (k + 1))) (k + 1) (acc + x.toNat % 128 * 2 ^ (7 * k)) := fun hl => by rw [g5, if_neg hl]
        have hpw : acc + x.toNat % 128 * 2 ^ (7 * k) < 2 ^ (7 * (k + 1)) := by
          rw [pow7]
          have : x.toNat % 128 * 2 ^ (7 * k) ≤ 127 * 2 ^ (7 * k) := Nat.mul_le_mul_right _ (by omega)
          omega
        by_cases k9' : k = 9
        · have := hx9 k9'
          have hc9 : decide ((k : Int) = 9) = true := decide_eq_true (by omega)
          have hx1' : ¬ (x.toNat : Int) > 1 := by omega
          have hk0' : (k : Int) > 0 := by omega
          have hx0' : decide ((x.toNat : Int) = 0) = false := decide_eq_false (by have := hx0 (by omega); omega)
          by_cases hl : x.toNat < 128
          · have hl' : (x.toNat : Int) < 128 := by omega
            simp only [oO, bindS, many1, jnE, boolS, gdB, fst', snd', bop_eql, bop_gtr, condT, condF, decide_true, decide_false, hc9, hx1', hk0', hx0', b_rem _ _ _ _ (show (128 : Int) ≠ 0 by decide), hrem, bop_mul, m1, hm3, bop_add, m2, bop_lss, hl', hwa, hwb, hw]
            exact One.ret ⟨by rw [step hl]; rfl, rfl⟩
          · have hl' : ¬ (x.toNat : Int) < 128 := by omega
            obtain ⟨hk8, hM⟩ := m3 hl
            simp only [oO, bindS, many1, jnE, boolS, gdB, fst', snd', bop_eql, bop_gtr, condT, condF, decide_true, decide_false, hc9, hx1', hk0', hx0', b_rem _ _ _ _ (show (128 : Int) ≠ 0 by decide), hrem, bop_mul, m1, hm3, bop_add, m2, bop_lss, hl', hwa, hwb, hw]
            exact hnx (_, _, _, _, _, _, _) _ ⟨rfl, rfl, _, rfl, hM ▸ rfl, hpw, by omega, step2 hl⟩
        · by_cases k0 : 0 < k
          · have := hx0 k0
            have hc9 : decide ((k : Int) = 9) = false := decide_eq_false (by omega)
            have hk0' : (k : Int) > 0 := by omega
            have hx0' : decide ((x.toNat : Int) = 0) = false := decide_eq_false (by omega)
            by_cases hl : x.toNat < 128
            · have hl' : (x.toNat : Int) < 128 := by omega
              simp only [oO, bindS, many1, jnE, boolS, gdB, fst', snd', bop_eql, bop_gtr, condT, condF, decide_true, decide_false, hc9, hk0', hx0', b_rem _ _ _ _ (show (128 : Int) ≠ 0 by decide), hrem, bop_mul, m1, hm3, bop_add, m2, bop_lss, hl', hwa, hwb, hw]
              exact One.ret ⟨by rw [step hl]; rfl, rfl⟩
            · have hl' : ¬ (x.toNat : Int) < 128 := by omega
              obtain ⟨hk8, hM⟩ := m3 hl
              simp only [oO, bindS, many1, jnE, boolS, gdB, fst', snd', bop_eql, bop_gtr, condT, condF, decide_true, decide_false, hc9, hk0', hx0', b_rem _ _ _ _ (show (128 : Int) ≠ 0 by decide), hrem, bop_mul, m1, hm3, bop_add, m2, bop_lss, hl', hwa, hwb, hw]
              exact hnx (_, _, _, _, _, _, _) _ ⟨rfl, rfl, _, rfl, hM ▸ rfl, hpw, by omega, step2 hl⟩
          · have hc9 : decide ((k : Int) = 9) = false := decide_eq_false (by omega)
            have hk0' : ¬ (k : Int) > 0 := by omega
            by_cases hl : x.toNat < 128
            · have hl' : (x.toNat : Int) < 128 := by omega
              simp only [oO, bindS, many1, jnE, boolS, gdB, fst', snd', bop_eql, bop_gtr, condT, condF, decide_true, decide_false, hc9, hk0', b_rem _ _ _ _ (show (128 : Int) ≠ 0 by decide), hrem, bop_mul, m1, hm3, bop_add, m2, bop_lss, hl', hwa, hwb, hw]
              exact One.ret ⟨by rw [step hl]; rfl, rfl⟩
            · have hl' : ¬ (x.toNat : Int) < 128 := by omega
              obtain ⟨hk8, hM⟩ := m3 hl
              simp only [oO, bindS, many1, jnE, boolS, gdB, fst', snd', bop_eql, bop_gtr, condT, condF, decide_true, decide_false, hc9, hk0', b_rem _ _ _ _ (show (128 : Int) ≠ 0 by decide), hrem, bop_mul, m1, hm3, bop_add, m2, bop_lss, hl', hwa, hwb, hw]
              exact hnx (_, _, _, _, _, _, _) _ ⟨rfl, rfl, _, rfl, hM ▸ rfl, hpw, by omega, step2 hl⟩
  · rintro ⟨x1, x2, x3, x4, x5, x6, x7⟩ s' ⟨_, _, acc, _, _, _, k9, _⟩ nx
    rw [List.length_replicate] at k9
    omega
theorem c109 {n : Nat} {s : SH} (r : Nat) (hr : r < 2 ^ 32) : callD Tryd.prog AB (n + 1) (.fn 109) [W (r : Int)] s = some [(W (crN 8 r : Nat), s)] := by
  rw [call_fn (fn := Tryd.f109) rfl rfl (by kernel_rfl)]
  suffices h : One (bodyD Tryd.prog false (callD Tryd.prog AB n) AB.N 109 Tryd.f109 [W (r : Int)] s) fun v s' => v = W (crN 8 r : Nat) ∧ s' = s by
    obtain ⟨v, s', e, rfl, rfl⟩ := h
    exact e
  rw [f109_r]
  simp only [f109]
  refine list_one (List.replicate 8 ()) (fun i (x : Value × Value) (s' : SH) => s' = s ∧ x.2 = I (i : Int) ∧ x.1 = W (crN i r : Nat)) ?_ ?_ ⟨rfl, rfl, rfl⟩ (by rw [List.length_replicate]; show _ < 2 ^ 64; omega)
  · rintro i hi ⟨x1, x2⟩ s' ⟨rfl, e1, e2⟩ nx hnx
    rw [List.length_replicate] at hi
    simp only at e1 e2
    subst e1 e2
    have hlt : (i : Int) < 8 := by omega
    have hw : IntKind.i64.wrap ((i : Int) + 1) = ((i + 1 : Nat) : Int) := by rw [wrap_i64 (by omega) (by omega)]; rfl
    have hq := crN_lt hr i
    have hc : crN (i + 1) r = cr1 (crN i r) := rfl
    generalize crN i r = q at hq hc
    have hrem : Int.tmod (q : Int) 2 = ((q % 2 : Nat) : Int) := rfl
    have hquo : IntKind.u32.wrap (Int.tdiv (q : Int) 2) = ((q / 2 : Nat) : Int) := by
      have : Int.tdiv (q : Int) 2 = ((q / 2 : Nat) : Int) := rfl
      rw [this, wrap_u32 (by omega) (by omega)]
    by_cases h1 : q % 2 = 1
    · have h1' : decide (((q % 2 : Nat) : Int) = 1) = true := decide_eq_true (by omega)
      have hx : bopD Tryd.prog .xor 127 (W ((q / 2 : Nat) : Int)) (W 2197175160) = some (W (crN (i + 1) r : Nat)) := by
        rw [polW, xor32 (by omega) pol_lt, hc]
        unfold cr1
        rw [if_pos h1]
      simp only [f109_l0, oO, bindS, many1, jnE, boolS, gdB, fst', snd', bop_lss, hlt, decide_true, condT, b_rem _ _ _ _ (show (2 : Int) ≠ 0 by decide), hrem, bop_eql, h1', b_quo _ _ _ _ (show (2 : Int) ≠ 0 by decide), hquo, hx, bop_add, hw]
      exact hnx (_, _) _ ⟨rfl, rfl, rfl⟩
    · have h1' : decide (((q % 2 : Nat) : Int) = 1) = false := decide_eq_false (by omega)
      have hx : (q / 2 : Nat) = crN (i + 1) r := by rw [hc]; unfold cr1; rw [if_neg h1]
      simp only [f109_l0, oO, bindS, many1, jnE, boolS, gdB, fst', snd', bop_lss, hlt, decide_true, condT, condF, b_rem _ _ _ _ (show (2 : Int) ≠ 0 by decide), hrem, bop_eql, h1', b_quo _ _ _ _ (show (2 : Int) ≠ 0 by decide), hquo, bop_add, hw]
      exact hnx (_, _) _ ⟨rfl, rfl, by rw [hx]⟩
  · rintro ⟨x1, x2⟩ s' ⟨rfl, e1, e2⟩ nx
    rw [List.length_replicate] at e1 e2
    simp only at e1 e2
    subst e1 e2
    have hnlt : ¬ (((8 : Nat) : Int) < 8) := by omega
    simp only [f109_l0, oO, bindS, many1, jnE, boolS, gdB, fst', snd', bop_lss, hnlt, decide_false, condF, beq_yes, condT]
    exact One.ret ⟨rfl, rfl⟩
theorem onesW : (W 4294967295 : Value) = W ((ones32 : Nat) : Int) := rfl
theorem c97 {n m : Nat} {s : SH} (B : List UInt8) (hB : B.length < 2 ^ 62) : callD Tryd.prog AB (n + 2) (.fn 97) [W 0, sl by' m B] s = some [(W (crSum B : Nat), s)] := by
  rw [call_fn (fn := Tryd.f97) rfl rfl (by kernel_rfl)]
  suffices h : One (bodyD Tryd.prog false (callD Tryd.prog AB (n + 1)) AB.N 97 Tryd.f97 [W 0, sl by' m B] s) fun v s' => v = W (crSum B : Nat) ∧ s' = s by
    obtain ⟨v, s', e, rfl, rfl⟩ := h
    exact e
  rw [f97_r]
  have h1 : ones32 < 2 ^ 32 := by decide
  have hx0 : bopD Tryd.prog .xor 127 (W 0) (W 4294967295) = some (W ((ones32 : Nat) : Int)) := by
    have := xor32 (a := 0) (b := ones32) (by decide) h1
    rw [Nat.zero_xor] at this
    exact this
  simp only [f97, oO, bindS, many1, jnE, boolS, gdB, fst', snd', hx0]
  refine list_one B (fun i (x : Value × Value) (s' : SH) => s' = s ∧ x.2 = I (i : Int) ∧ x.1 = W (crMore ones32 (B.take i) : Nat)) ?_ ?_ ⟨rfl, rfl, rfl⟩ (by show B.length < 2 ^ 64; omega)
  · rintro i hi ⟨x1, x2⟩ s' ⟨rfl, e2, e3⟩ nx hnx
    simp only at e2 e3
    subst e2 e3
    have hlt : (i : Int) < B.length := by omega
    have hw : IntKind.i64.wrap ((i : Int) + 1) = ((i + 1 : Nat) : Int) := by rw [wrap_i64 (by omega) (by omega)]; rfl
    have hq := crMore_lt (B := B.take i) h1
    have hx := xor32 hq (show B[i].toNat < 2 ^ 32 from Nat.lt_trans B[i].toNat_lt (by decide))
    have e109 := c109 (n := n) (s := s') _ (crX_lt hq B[i])
    rw [← crMore_snoc] at e109
    have ht : B.take i ++ [B[i]] = B.take (i + 1) := (List.take_succ_eq_append_getElem hi).symm
    rw [ht] at e109
    simp only [f97_l0, oO, bindS, many1, jnE, boolS, gdB, fst', snd', len_sl u22, bop_lss, hlt, decide_true, condT, ixs22 by_len hi, ld_by, cvt8, hx, e109, bop_add, hw]
    exact hnx (_, _) _ ⟨rfl, rfl, rfl⟩
  · rintro ⟨x1, x2⟩ s' ⟨rfl, e2, e3⟩ nx
    simp only at e2 e3
    subst e2 e3
    have hnlt : ¬ ((B.length : Int) < B.length) := by omega
    rw [List.take_length]
    have hx : bopD Tryd.prog .xor 127 (W (crMore ones32 B : Nat)) (W 4294967295) = some (W (crSum B : Nat)) := by
      rw [onesW, xor32 (crMore_lt h1) h1]; rfl
    simp only [f97_l0, oO, bindS, many1, jnE, boolS, gdB, fst', snd', len_sl u22, bop_lss, hnlt, decide_false, condF, beq_yes, condT, hx]
    exact One.ret ⟨rfl, rfl⟩
theorem c66 {n m : Nat} {s : SH} (B : List UInt8) (hB : B.length < 2 ^ 62) : callD Tryd.prog AB (n + 3) (.fn 66) [sl by' m B] s = some [(W (crSum B : Nat), s)] := by
  rw [call_fn (fn := Tryd.f66) rfl rfl (by kernel_rfl)]
  show bodyD Tryd.prog false _ _ 66 Tryd.f66 _ s = _
  rw [f66_r]
  simp only [f66, oO, bindS, many1, jnE, boolS, gdB, fst', snd', c97 (n := n) B hB]
theorem c65 {n m : Nat} {s : SH} (l : List UInt8) (hl : l.length = 4) : callD Tryd.prog AB (n + 1) (.fn 65) [sl by' m l] s = some [(.tuple #[W (leV l : Nat), I 0], s)] := by
  match l, hl with
  | [a, b, c, d], _ =>
    rw [call_fn (fn := Tryd.f65) rfl rfl (by kernel_rfl)]
    show bodyD Tryd.prog false _ _ 65 Tryd.f65 _ s = _
    rw [f65_r]
    have i0 : indexAddrD Tryd.prog 22 (sl by' m [a, b, c, d]) (I 0) = some (fpV (by' a).toArray 0) := ixs22 (k := .i64) (i := 0) by_len (by simp)
    have i1 : indexAddrD Tryd.prog 22 (sl by' m [a, b, c, d]) (I 1) = some (fpV (by' b).toArray 0) := ixs22 (k := .i64) (i := 1) by_len (by simp)
    have i2 : indexAddrD Tryd.prog 22 (sl by' m [a, b, c, d]) (I 2) = some (fpV (by' c).toArray 0) := ixs22 (k := .i64) (i := 2) by_len (by simp)
    have i3 : indexAddrD Tryd.prog 22 (sl by' m [a, b, c, d]) (I 3) = some (fpV (by' d).toArray 0) := ixs22 (k := .i64) (i := 3) by_len (by simp)
    have ha := a.toNat_lt
    have hb := b.toNat_lt
    have hc := c.toNat_lt
    have hd := d.toNat_lt
    have w1 : IntKind.u32.wrap (256 * (b.toNat : Int)) = 256 * (b.toNat : Int) := wrap_u32 (by omega) (by omega)
    have w2 : IntKind.u32.wrap ((a.toNat : Int) + 256 * (b.toNat : Int)) = (a.toNat : Int) + 256 * (b.toNat : Int) := wrap_u32 (by omega) (by omega)
    have w3 : IntKind.u32.wrap (65536 * (c.toNat : Int)) = 65536 * (c.toNat : Int) := wrap_u32 (by omega) (by omega)
    have w4 : IntKind.u32.wrap ((a.toNat : Int) + 256 * (b.toNat : Int) + 65536 * (c.toNat : Int)) = (a.toNat : Int) + 256 * (b.toNat : Int) + 65536 * (c.toNat : Int) := wrap_u32 (by omega) (by omega)
    have w5 : IntKind.u32.wrap (16777216 * (d.toNat : Int)) = 16777216 * (d.toNat : Int) := wrap_u32 (by omega) (by omega)
    have w6 : IntKind.u32.wrap ((a.toNat : Int) + 256 * (b.toNat : Int) + 65536 * (c.toNat : Int) + 16777216 * (d.toNat : Int)) = ((leV [a, b, c, d] : Nat) : Int) := by
      rw [wrap_u32 (by omega) (by omega)]
      simp only [leV]
      omega
    simp only [f65, oO, bindS, many1, jnE, boolS, gdB, fst', snd', len_sl u22, List.length_cons, List.length_nil, show ((0 + 1 + 1 + 1 + 1 : Nat) : Int) = 4 from rfl, bop_lss, show ¬ (4 : Int) < 4 from by decide, decide_false, condF, i0, i1, i2, i3, ld_by, cvt8, bop_mul, w1, bop_add, w2, w3, w4, w5, w6]
theorem c33 {n m : Nat} {s : SH} (l : List UInt8) (hl : l.length + 20 ≤ 140737488355328) : ∃ v s', callD Tryd.prog AB (n + 4) (.fn 33) [sl by' m l] s = some [(.tuple #[v, .bool (openB l)], s')] ∧ Sm s.n s s' := by
  rw [call_fn (fn := Tryd.f33) rfl rfl (by kernel_rfl)]
  show ∃ v s', bodyD Tryd.prog false _ _ 33 Tryd.f33 _ s = _ ∧ _
  rw [f33_r]
  by_cases h4 : 4 ≤ l.length
  · have hw : IntKind.i64.wrap ((l.length : Int) - 4) = ((l.length - 4 : Nat) : Int) := by rw [wrap_i64 (by omega) (by omega)]; omega
    have hn : ¬ ((l.length : Int) < 4) := by omega
    obtain ⟨m1, e1⟩ := slc_from (P := Tryd.prog) (s := s) (t := 22) (m := m) (k := .i64) (xs := l) u22 z5 by_len (show l.length - 4 ≤ l.length by omega)
    have e2 := fun s : SH => slc_sl (P := Tryd.prog) (s := s) (t := 22) (m := m) (k := .i64) (xs := l) u22 z5 by_len (show l.length - 4 ≤ l.length by omega)
    have e65 := c65 (n := n + 2) (m := m1) (s := s) (l.drop (l.length - 4)) (by rw [List.length_drop]; omega)
    have e66 := c66 (n := n) (m := bif Nat.beq m 2 then 2 else 0) (s := s) (l.take (l.length - 4)) (by rw [List.length_take]; omega)
    have ho : openB l = decide (leV (l.drop (l.length - 4)) = crSum (l.take (l.length - 4))) := by unfold openB; rw [decide_eq_true h4, Bool.true_and]
    by_cases hs : leV (l.drop (l.length - 4)) = crSum (l.take (l.length - 4))
    · have hs' : ((leV (l.drop (l.length - 4)) : Nat) : Int) = ((crSum (l.take (l.length - 4)) : Nat) : Int) := by rw [hs]
      obtain ⟨v, s2, e3, w1, w2, w3⟩ := gapp22 (lo := s.n) (v := sl by' 1 []) (xs := []) (s := s) (m2 := bif Nat.beq m 2 then 2 else 0) (ys := l.take (l.length - 4)) (.inl ⟨rfl, .inr rfl⟩) (Nat.le_refl _) (by simp only [List.length_nil]; rw [List.length_take]; omega)
      refine ⟨v, s2, ?_, w2⟩
      simp only [f33, oO, bindS, many1, jnE, boolS, gdB, fst', snd', len_sl u22, b_sub, hw, bop_lss, hn, decide_false, condF, e1, e65, ext2, e2, e66, b_neq, hs', decide_true, Bool.not_true, bs22_0, e3, ho, hs]
    · have hs' : ¬ ((leV (l.drop (l.length - 4)) : Nat) : Int) = ((crSum (l.take (l.length - 4)) : Nat) : Int) := by omega
      refine ⟨fzV 2 #[], s, ?_, .refl _ _⟩
      simp only [f33, oO, bindS, many1, jnE, boolS, gdB, fst', snd', len_sl u22, b_sub, hw, bop_lss, hn, decide_false, condF, e1, e65, ext2, e2, e66, b_neq, hs', Bool.not_false, condT, ho, hs]
  · have hn : (l.length : Int) < 4 := by omega
    refine ⟨fzV 2 #[], s, ?_, .refl _ _⟩
    have ho : openB l = false := by unfold openB; rw [decide_eq_false h4, Bool.false_and]
    simp only [f33, oO, bindS, many1, jnE, boolS, gdB, fst', snd', len_sl u22, bop_lss, hn, decide_true, condT, ho]
end Go.Proofs.YtmhmbmogodofeaaDoor.S

set_option autoImplicit false
set_option linter.unusedVariables false
set_option linter.unusedSimpArgs false
set_option maxRecDepth 100000
namespace Go.Proofs.YtmhmbmogodofeaaDoor.S
open Go.FS Go.RowKit
attribute [local congr] bind_cg cond_cg gd_cg

/-! The reference: the reader. -/
abbrev rqr (m : Nat) (B : List UInt8) (p : Nat) : List Value := [sl by' m B, I (p : Int)]
def Rq (id m : Nat) (B : List UInt8) (s : SH) (p : Nat) : Prop := HP.get s.h id = some (.row (rqr m B p)) ∧ id < s.n ∧ m < s.n + 3 ∧ p ≤ B.length * 8 ∧ B.length < 2 ^ 40
noncomputable def rqS (s : SH) (id m : Nat) (B : List UInt8) (p : Nat) : SH := putD s id (.row (rqr m B p))
theorem rqS_rqS (s : SH) (id m : Nat) (B : List UInt8) (p q : Nat) : rqS (rqS s id m B p) id m B q = rqS s id m B q := put_put _ _ _ _
theorem Rq.same {id m p : Nat} {B : List UInt8} {s : SH} (h : Rq id m B s p) : rqS s id m B p = s := put_same h.1
theorem Rq.move {id m p q : Nat} {B : List UInt8} {s : SH} (h : Rq id m B s p) (hq : q ≤ B.length * 8) : Rq id m B (rqS s id m B q) q := ⟨get_put_same _, h.2.1, h.2.2.1, hq, h.2.2.2.2⟩
theorem Rq.ext {id m p : Nat} {B : List UInt8} {s s' : SH} (h : Rq id m B s p) (k : Ext s s') : Rq id m B s' p := ⟨by rw [k.2 id h.2.1]; exact h.1, Nat.lt_of_lt_of_le h.2.1 k.1, by have := h.2.2.1; have := k.1; omega, h.2.2.2⟩
theorem rqS_get (s : SH) (id m : Nat) (B : List UInt8) (p : Nat) : HP.get (rqS s id m B p).h id = some (.row (rqr m B p)) := get_put_same _
theorem rqS_old {s : SH} {id m : Nat} {B : List UInt8} {p j : Nat} (h : j ≠ id) : HP.get (rqS s id m B p).h j = HP.get s.h j := get_put_other h
theorem qld_22 {s : SH} {id m p : Nat} {B : List UInt8} (h : HP.get s.h id = some (.row (rqr m B p))) : loadD Tryd.prog s 22 (pt id 0) = some (sl by' m B) := by rw [load_row h, part_one a22]; rfl
theorem qld_3 {s : SH} {id m p : Nat} {B : List UInt8} (h : HP.get s.h id = some (.row (rqr m B p))) : loadD Tryd.prog s 3 (pt id 1) = some (I p) := by rw [load_row h, p3_1]
theorem qst_3 {s : SH} {id m p q : Nat} {B : List UInt8} (h : HP.get s.h id = some (.row (rqr m B p))) : storeD Tryd.prog s 3 (pt id 1) (I q) = some (rqS s id m B q) := by
  rw [store_row (l := [I q]) z3 h rfl rfl rfl (show 1 + 1 ≤ 2 by decide)]; rfl
theorem getB_cases (k : Nat) (rs : List Bool) : (k ≤ rs.length ∧ getB k rs = some (valB (rs.take k), rs.drop k)) ∨ (rs.length < k ∧ getB k rs = none) := by
  unfold getB
  by_cases h : k ≤ rs.length
  · exact .inl ⟨h, by rw [if_pos h]⟩
  · exact .inr ⟨by omega, by rw [if_neg h]⟩
theorem bit_at {B : List UInt8} {p : Nat} (h : p / 8 < B.length) : (lft B p).take 1 = [decide (B[p / 8].toNat / 2 ^ (7 - p % 8) % 2 = 1)] := by
  have := unp_at (B := B) (p := p) (m := 1) (by omega) h
  unfold lft
  rw [this, show 8 - p % 8 - 1 = 7 - p % 8 from by omega]
  show [decide (_ / 2 ^ 0 % 2 = 1)] = _
  rw [Nat.pow_zero, Nat.div_one]
theorem cvt5_3 (s : SH) (b : UInt8) : convertD Tryd.prog false s 5 3 (.int .u8 (b.toNat : Int)) = some (I (b.toNat : Int), s) := by
  have := b.toNat_lt
  rw [conv_int u5 u3, wrap_i64 (by omega) (by omega)]
theorem wrap_i64n (n : Nat) (h : n < 2 ^ 63) : IntKind.i64.wrap (n : Int) = (n : Int) := wrap_i64 (by omega) (by omega)
theorem wrap_u64n (n : Nat) (h : n < 2 ^ 64) : IntKind.u64.wrap (n : Int) = (n : Int) := wrap_u64 (by omega) (by omega)
set_option maxHeartbeats 1600000 in
theorem c37_ok {n id m p k x : Nat} {s : SH} {B : List UInt8} {r : List Bool} (h : Rq id m B s p) (hk : k ≤ 64) (hg : getB k (lft B p) = some (x, r)) :
    callD Tryd.prog AB (n + 1) (.fn 37) [pt id 0, I (k : Int)] s = some [(.tuple #[U (x : Int), I 0], rqS s id m B (p + k))] ∧ p + k ≤ B.length * 8 ∧ lft B (p + k) = r := by
  rcases getB_cases k (lft B p) with ⟨hl, he⟩ | ⟨_, he⟩
  · rw [he] at hg
    simp only [Option.some.injEq, Prod.mk.injEq] at hg
    obtain ⟨rfl, rfl⟩ := hg
    rw [lft_len] at hl
    have hpl := h.2.2.2.1
    have hBl := h.2.2.2.2
    refine ⟨?_, by omega, by unfold lft; rw [List.drop_drop]⟩
    rw [call_fn (fn := Tryd.f37) rfl rfl (by kernel_rfl)]
    suffices hh : One (bodyD Tryd.prog false (callD Tryd.prog AB n) AB.N 37 Tryd.f37 [pt id 0, I (k : Int)] s) fun w s' => w = .tuple #[U (valB ((lft B p).take k) : Nat), I 0] ∧ s' = rqS s id m B (p + k) by
      obtain ⟨w, s', e, rfl, rfl⟩ := hh
      exact e
    rw [f37_r]
    have k0 : ¬ (k : Int) < 0 := by omega
    have k1 : ¬ (k : Int) > 64 := by omega
    have hm : IntKind.i64.wrap (8 * (B.length : Int)) = ((B.length * 8 : Nat) : Int) := by rw [wrap_i64 (by omega) (by omega)]; omega
    have hs : IntKind.i64.wrap (((B.length * 8 : Nat) : Int) - (p : Int)) = ((B.length * 8 - p : Nat) : Int) := by rw [wrap_i64 (by omega) (by omega)]; omega
    have k2 : ¬ (k : Int) > ((B.length * 8 - p : Nat) : Int) := by omega
    simp only [f37, oO, bindS, many1, jnE, boolS, gdB, fst', snd', bop_lss, k0, decide_false, condF, bop_gtr, k1, nilc, fld77_0, fld77_1, qld_22 h.1, qld_3 h.1, len_sl u22, bop_mul, hm, b_sub, hs, k2]
    refine list_one (List.replicate k ()) (fun i (z : Value × Value × Value × Value) (s' : SH) => z.2.1 = I (i : Int) ∧ z.1 = U (valB ((lft B p).take i) : Nat) ∧ s' = rqS s id m B (p + i)) ?_ ?_ ⟨rfl, rfl, by rw [Nat.add_zero, h.same]⟩ (by rw [List.length_replicate]; show k < 2 ^ 64; omega)
    · rintro i hi ⟨z1, z2, z3, z4⟩ s1 ⟨e1, e2, rfl⟩ nx hnx
      rw [List.length_replicate] at hi
      simp only at e1 e2
      subst e1 e2
      have hlt : (i : Int) < (k : Int) := by omega
      have hw : IntKind.i64.wrap ((i : Int) + 1) = ((i + 1 : Nat) : Int) := by rw [wrap_i64 (by omega) (by omega)]; rfl
      have hR := h.move (q := p + i) (by omega)
      have htk : (lft B p).take (i + 1) = (lft B p).take i ++ (lft B (p + i)).take 1 := by
        rw [List.take_add]
        unfold lft
        rw [List.drop_drop]
      generalize hq : p + i = q at *
      have hqb : q / 8 < B.length := by omega
      have hmod : Int.tmod ((q : Nat) : Int) 8 = ((q % 8 : Nat) : Int) := rfl
      have hquo : IntKind.i64.wrap (Int.tdiv ((q : Nat) : Int) 8) = ((q / 8 : Nat) : Int) := by
        have : Int.tdiv ((q : Nat) : Int) 8 = ((q / 8 : Nat) : Int) := rfl
        rw [this, wrap_i64 (by omega) (by omega)]
      have hbit := bit_at hqb
      have hb8 := B[q / 8].toNat_lt
      simp only [f37_l0, oO, bindS, many1, jnE, boolS, gdB, fst', snd', bop_lss, hlt, decide_true, condT, nilc, fld77_0, fld77_1, qld_22 hR.1, qld_3 hR.1, b_quo _ _ _ _ (show (8 : Int) ≠ 0 by decide), hquo, ixs22 by_len hqb, ld_by, cvt5_3, b_rem _ _ _ _ (show (8 : Int) ≠ 0 by decide), hmod]
      generalize B[q / 8].toNat = b at hbit hb8
      refine list_one (List.replicate (7 - q % 8) ()) (fun j (y : Value × Value) (s' : SH) => s' = rqS s id m B q ∧ y.2 = I ((q % 8 + j : Nat) : Int) ∧ y.1 = I ((b / 2 ^ j : Nat) : Int)) ?_ ?_ ⟨rfl, rfl, by rw [Nat.pow_zero, Nat.div_one]⟩ (by rw [List.length_replicate]; show 7 - q % 8 < 2 ^ 64; omega)
      · rintro j hj ⟨y1, y2⟩ s' ⟨rfl, g1, g2⟩ nx2 hnx2
        rw [List.length_replicate] at hj
        simp only at g1 g2
        subst g1 g2
        have hlt2 : ((q % 8 + j : Nat) : Int) < 7 := by omega
        have hw2 : IntKind.i64.wrap (((q % 8 + j : Nat) : Int) + 1) = ((q % 8 + (j + 1) : Nat) : Int) := by rw [wrap_i64 (by omega) (by omega)]; omega
        have hq2 : IntKind.i64.wrap (Int.tdiv ((b / 2 ^ j : Nat) : Int) 2) = ((b / 2 ^ (j + 1) : Nat) : Int) := by
          have : Int.tdiv ((b / 2 ^ j : Nat) : Int) 2 = ((b / 2 ^ j / 2 : Nat) : Int) := rfl
          have hdl : b / 2 ^ j / 2 ≤ b := Nat.le_trans (Nat.div_le_self _ _) (Nat.div_le_self _ _)
          rw [this, wrap_i64n _ (by omega), Nat.div_div_eq_div_mul, Nat.pow_succ]
        simp only [f37_l1, oO, bindS, many1, jnE, boolS, gdB, fst', snd', bop_lss, hlt2, decide_true, condT, b_quo _ _ _ _ (show (2 : Int) ≠ 0 by decide), hq2, bop_add, hw2]
        exact hnx2 (_, _) _ ⟨rfl, rfl, rfl⟩
      · rintro ⟨y1, y2⟩ s' ⟨rfl, g1, g2⟩ nx2
        rw [List.length_replicate] at g1 g2
        simp only at g1 g2
        subst g1 g2
        have hnlt2 : ¬ ((q % 8 + (7 - q % 8) : Nat) : Int) < 7 := by omega
        have hvl := valB_lt ((lft B p).take i)
        have hvl2 : valB ((lft B p).take i) < 2 ^ 63 := by
          refine Nat.lt_of_lt_of_le hvl (Nat.pow_le_pow_right (by decide) ?_)
          rw [List.length_take]; omega
        have hv : valB ((lft B p).take (i + 1)) = 2 * valB ((lft B p).take i) + b / 2 ^ (7 - q % 8) % 2 := by
          rw [htk, hbit, valB_app]
          simp only [List.length_singleton, valB, List.length_nil, Nat.pow_zero, Nat.pow_one, Nat.add_zero]
          rw [Nat.mul_comm]
          congr 1
          have : b / 2 ^ (7 - q % 8) % 2 < 2 := Nat.mod_lt _ (by decide)
          by_cases hb1 : b / 2 ^ (7 - q % 8) % 2 = 1
          · rw [hb1]; rfl
          · have : b / 2 ^ (7 - q % 8) % 2 = 0 := by omega
            rw [this]; rfl
        have hmb : b / 2 ^ (7 - q % 8) % 2 < 2 := Nat.mod_lt _ (by decide)
        have m1 : IntKind.u64.wrap (2 * ((valB ((lft B p).take i) : Nat) : Int)) = ((2 * valB ((lft B p).take i) : Nat) : Int) := by rw [wrap_u64 (by omega) (by omega)]; rfl
        have m2 : Int.tmod ((b / 2 ^ (7 - q % 8) : Nat) : Int) 2 = ((b / 2 ^ (7 - q % 8) % 2 : Nat) : Int) := rfl
        generalize b / 2 ^ (7 - q % 8) % 2 = t at *
        have m3 : IntKind.u64.wrap ((t : Nat) : Int) = ((t : Nat) : Int) := wrap_u64 (by omega) (by omega)
        have m4 : IntKind.u64.wrap (((2 * valB ((lft B p).take i) : Nat) : Int) + ((t : Nat) : Int)) = ((valB ((lft B p).take (i + 1)) : Nat) : Int) := by rw [hv, wrap_u64 (by omega) (by omega)]; omega
        have m5 : IntKind.i64.wrap ((q : Int) + 1) = ((q + 1 : Nat) : Int) := by rw [wrap_i64 (by omega) (by omega)]; rfl
        simp only [f37_l1, oO, bindS, many1, jnE, boolS, gdB, fst', snd', bop_lss, hnlt2, decide_false, condF, beq_yes, condT, bop_mul, m1, b_rem _ _ _ _ (show (2 : Int) ≠ 0 by decide), m2, conv_int u3 u38, m3, bop_add, m4, nilc, fld77_1, qld_3 hR.1, m5, qst_3 hR.1, hw]
        refine hnx (_, _, _, _) _ ⟨rfl, rfl, ?_⟩
        rw [rqS_rqS, show p + (i + 1) = q + 1 from by omega]
    · rintro ⟨z1, z2, z3, z4⟩ s1 ⟨e1, e2, rfl⟩ nx
      rw [List.length_replicate] at e1 e2
      simp only at e1 e2
      subst e1 e2
      have hnlt : ¬ (k : Int) < (k : Int) := by omega
      simp only [f37_l0, oO, bindS, many1, jnE, boolS, gdB, fst', snd', bop_lss, hnlt, decide_false, condF, beq_yes, condT]
      rw [List.length_replicate]
      exact One.ret ⟨rfl, rfl⟩
  · rw [he] at hg; cases hg
theorem c37_no {n id m p k : Nat} {s : SH} {B : List UInt8} (h : Rq id m B s p) (hk : k ≤ 64) (hg : getB k (lft B p) = none) :
    callD Tryd.prog AB (n + 1) (.fn 37) [pt id 0, I (k : Int)] s = some [(.tuple #[U 0, I 50], s)] := by
  rcases getB_cases k (lft B p) with ⟨_, he⟩ | ⟨hl, _⟩
  · rw [he] at hg; cases hg
  · rw [lft_len] at hl
    rw [call_fn (fn := Tryd.f37) rfl rfl (by kernel_rfl)]
    show bodyD Tryd.prog false _ _ 37 Tryd.f37 _ s = _
    rw [f37_r]
    have hpl := h.2.2.2.1
    have hBl := h.2.2.2.2
    have k0 : ¬ (k : Int) < 0 := by omega
    have k1 : ¬ (k : Int) > 64 := by omega
    have hm : IntKind.i64.wrap (8 * (B.length : Int)) = ((B.length * 8 : Nat) : Int) := by rw [wrap_i64 (by omega) (by omega)]; omega
    have hs : IntKind.i64.wrap (((B.length * 8 : Nat) : Int) - (p : Int)) = ((B.length * 8 - p : Nat) : Int) := by rw [wrap_i64 (by omega) (by omega)]; omega
    have k2 : (k : Int) > ((B.length * 8 - p : Nat) : Int) := by omega
    simp only [f37, oO, bindS, many1, jnE, boolS, gdB, fst', snd', bop_lss, k0, decide_false, condF, bop_gtr, k1, nilc, fld77_0, fld77_1, qld_22 h.1, qld_3 h.1, len_sl u22, bop_mul, hm, b_sub, hs, k2, decide_true, condT]
/-! Classes and ends. -/
theorem bx79 (s : SH) (a b c : Int) : boxD s (ts a b c) = some (pt s.n 0, newD s (.row (tr a b c))) := box_at rfl rfl
theorem c67 {n : Nat} {s : SH} (u : TS) (hn : u.n ≤ 4096) (hu : TSok u) : callD Tryd.prog AB (n + 1) (.fn 67) [tsV u] s = some [(.bool true, s)] := by
  refine cut_plain (fn := Tryd.f67) rfl rfl (by kernel_rfl) (fun _ h => by cases h) (.bool _) ?_
  show One (bodyD Tryd.prog false _ _ 67 Tryd.f67 _ _) _
  rw [f67_r]
  obtain ⟨h1, h2⟩ := hu
  unfold mxT at h1 h2
  have g1 : (u.n : Int) ≥ 0 := by omega
  have g2 : (u.n : Int) ≤ 4096 := by omega
  have g3 : (u.last : Int) ≥ 0 := by omega
  have g4 : (u.last : Int) ≤ 35184372088832 := by omega
  have g5 : (u.delta : Int) ≥ 0 := by omega
  have g6 : (u.delta : Int) ≤ 35184372088832 := by omega
  simp only [f67, oO, bindS, many1, jnE, boolS, gdB, fst', snd', tsV, bx79, fld79_0, fld79_1, fld79_2, ld_n0, ld_n1, ld_n2, ld_n3, p3_0, p3_1, p3_2, p3_3, p38_0, p38_1, bop_geq, bop_leq, g1, g2, g3, g4, g5, g6, decide_true, condT]
  exact One.ret ⟨rfl, ext1 s _⟩
theorem c68 {n : Nat} {s : SH} (z : Nat) : callD Tryd.prog AB (n + 1) (.fn 68) [U (z : Int)] s = some [(.tuple #[I (tcls z : Int), I (tw (tcls z) : Int)], s)] := by
  rw [call_fn (fn := Tryd.f68) rfl rfl (by kernel_rfl)]
  show bodyD Tryd.prog false _ _ 68 Tryd.f68 _ s = _
  rw [f68_r]
  unfold tcls
  by_cases h0 : z = 0
  · have h0' : (z : Int) = 0 := by omega
    rw [if_pos h0]
    simp only [f68, oO, bindS, many1, jnE, boolS, gdB, fst', snd', bop_eql, h0', decide_true, condT]
    rfl
  · have h0' : ¬ (z : Int) = 0 := by omega
    rw [if_neg h0]
    by_cases h1 : z < 128
    · have h1' : (z : Int) < 128 := by omega
      rw [if_pos h1]
      simp only [f68, oO, bindS, many1, jnE, boolS, gdB, fst', snd', bop_eql, h0', decide_false, condF, bop_lss, h1', decide_true, condT]
      rfl
    · have h1' : ¬ (z : Int) < 128 := by omega
      rw [if_neg h1]
      by_cases h2 : z < 4096
      · have h2' : (z : Int) < 4096 := by omega
        rw [if_pos h2]
        simp only [f68, oO, bindS, many1, jnE, boolS, gdB, fst', snd', bop_eql, h0', decide_false, condF, bop_lss, h1', h2', decide_true, condT]
        rfl
      · have h2' : ¬ (z : Int) < 4096 := by omega
        rw [if_neg h2]
        by_cases h3 : z < 1048576
        · have h3' : (z : Int) < 1048576 := by omega
          rw [if_pos h3]
          simp only [f68, oO, bindS, many1, jnE, boolS, gdB, fst', snd', bop_eql, h0', decide_false, condF, bop_lss, h1', h2', h3', decide_true, condT]
          rfl
        · have h3' : ¬ (z : Int) < 1048576 := by omega
          rw [if_neg h3]
          simp only [f68, oO, bindS, many1, jnE, boolS, gdB, fst', snd', bop_eql, h0', decide_false, condF, bop_lss, h1', h2', h3']
          rfl
theorem bx81 (s : SH) (n l a b : Int) : boxD s (vs n l a b) = some (pt s.n 0, newD s (.row (vr n l a b))) := box_at rfl rfl
theorem c69 {n : Nat} {s : SH} (u : XS) (hn : u.n ≤ 4096) (hu : XSok u) : callD Tryd.prog AB (n + 1) (.fn 69) [xsV u] s = some [(.bool true, s)] := by
  refine cut_plain (fn := Tryd.f69) rfl rfl (by kernel_rfl) (fun _ h => by cases h) (.bool _) ?_
  show One (bodyD Tryd.prog false _ _ 69 Tryd.f69 _ _) _
  rw [f69_r]
  have g1 : ¬ (u.n : Int) < 0 := by omega
  have g2 : ¬ (u.n : Int) > 4096 := by omega
  obtain ⟨_, h⟩ := hu
  by_cases h64 : u.lead = 64
  · have h64' : decide ((u.lead : Int) = 64) = true := decide_eq_true (by omega)
    have ht : decide ((u.trail : Int) = 0) = true := decide_eq_true (by omega)
    simp only [f69, oO, bindS, many1, jnE, boolS, gdB, fst', snd', xsV, bx81, fld81_0, fld81_2, fld81_3, ld_n0, ld_n1, ld_n2, ld_n3, p3_0, p3_1, p3_2, p3_3, p38_0, p38_1, bop_lss, g1, decide_false, condF, bop_gtr, g2, bop_eql, h64', condT, ht]
    exact One.ret ⟨rfl, ext1 s _⟩
  · have h64' : decide ((u.lead : Int) = 64) = false := decide_eq_false (by omega)
    have hle : u.lead + u.trail ≤ 63 := by omega
    have g3 : (u.lead : Int) ≥ 0 := by omega
    have g4 : (u.lead : Int) ≤ 63 := by omega
    have g5 : (u.trail : Int) ≥ 0 := by omega
    have g6 : (u.trail : Int) ≤ 63 := by omega
    have hw : IntKind.i64.wrap ((u.lead : Int) + (u.trail : Int)) = ((u.lead + u.trail : Nat) : Int) := by rw [wrap_i64 (by omega) (by omega)]; rfl
    have g7 : ((u.lead + u.trail : Nat) : Int) ≤ 63 := by omega
    simp only [f69, oO, bindS, many1, jnE, boolS, gdB, fst', snd', xsV, bx81, fld81_0, fld81_2, fld81_3, ld_n0, ld_n1, ld_n2, ld_n3, p3_0, p3_1, p3_2, p3_3, p38_0, p38_1, bop_lss, g1, decide_false, condF, bop_gtr, g2, bop_eql, h64', bop_geq, bop_leq, g3, g4, g5, g6, decide_true, condT, bop_add, hw, g7]
    exact One.ret ⟨rfl, ext1 s _⟩
theorem c70 {n : Nat} {s : SH} (x : Nat) (h0 : x ≠ 0) (hx : x < 2 ^ 64) : callD Tryd.prog AB (n + 1) (.fn 70) [U (x : Int)] s = some [(.tuple #[I (nlz x : Int), I (ntz x : Int)], s)] := by
  rw [call_fn (fn := Tryd.f70) rfl rfl (by kernel_rfl)]
  suffices h : One (bodyD Tryd.prog false (callD Tryd.prog AB n) AB.N 70 Tryd.f70 [U (x : Int)] s) fun v s' => v = .tuple #[I (nlz x : Int), I (ntz x : Int)] ∧ s' = s by
    obtain ⟨v, s', e, rfl, rfl⟩ := h
    exact e
  rw [f70_r]
  obtain ⟨a1, a2, a3⟩ := nlz_spec h0 hx
  obtain ⟨b1, b2, b3⟩ := ntz_spec h0 hx
  generalize nlz x = L at *
  generalize ntz x = T at *
  have hup : ∀ i, i ≤ L → x * 2 ^ i < 2 ^ 64 := fun i hi => by
    calc x * 2 ^ i < 2 ^ (64 - L) * 2 ^ i := Nat.mul_lt_mul_of_pos_right a3 (Nat.two_pow_pos _)
      _ = 2 ^ (64 - L + i) := by rw [← Nat.pow_add]
      _ ≤ 2 ^ 64 := Nat.pow_le_pow_right (by decide) (by omega)
  simp only [f70]
  refine list_one (List.replicate L ()) (fun i (y : Value × Value) (s' : SH) => s' = s ∧ y.1 = I (i : Int) ∧ y.2 = U ((x * 2 ^ i : Nat) : Int)) ?_ ?_ ⟨rfl, rfl, by rw [Nat.pow_zero, Nat.mul_one]⟩ (by rw [List.length_replicate]; show L < 2 ^ 64; omega)
  · rintro i hi ⟨y1, y2⟩ s' ⟨rfl, e1, e2⟩ nx hnx
    rw [List.length_replicate] at hi
    simp only at e1 e2
    subst e1 e2
    have hlt : x * 2 ^ i < 9223372036854775808 := by
      have := hup (i + 1) (by omega)
      rw [Nat.pow_succ, ← Nat.mul_assoc] at this
      omega
    have hlt' : ((x * 2 ^ i : Nat) : Int) < 9223372036854775808 := by omega
    have hw : IntKind.i64.wrap ((i : Int) + 1) = ((i + 1 : Nat) : Int) := by rw [wrap_i64 (by omega) (by omega)]; rfl
    have hm : IntKind.u64.wrap (2 * ((x * 2 ^ i : Nat) : Int)) = ((x * 2 ^ (i + 1) : Nat) : Int) := by
      rw [wrap_u64 (by omega) (by omega), Nat.pow_succ, ← Nat.mul_assoc]; omega
    simp only [f70_l0, oO, bindS, many1, jnE, boolS, gdB, fst', snd', bop_lss, hlt', decide_true, condT, bop_add, hw, bop_mul, hm]
    exact hnx (_, _) _ ⟨rfl, rfl, rfl⟩
  · rintro ⟨y1, y2⟩ s' ⟨rfl, e1, e2⟩ nx
    rw [List.length_replicate] at e1 e2
    simp only at e1 e2
    subst e1 e2
    have hge : 9223372036854775808 ≤ x * 2 ^ L := by
      have h1 : 2 ^ (63 - L) * 2 ^ L ≤ x * 2 ^ L := Nat.mul_le_mul_right _ a2
      rw [← Nat.pow_add, show 63 - L + L = 63 from by omega] at h1
      exact h1
    have hge' : ¬ ((x * 2 ^ L : Nat) : Int) < 9223372036854775808 := by omega
    simp only [f70_l0, oO, bindS, many1, jnE, boolS, gdB, fst', snd', bop_lss, hge', decide_false, condF, beq_yes, condT]
    refine list_one (List.replicate T ()) (fun i (y : Value × Value) (s'' : SH) => s'' = s' ∧ y.1 = I (i : Int) ∧ y.2 = U ((x / 2 ^ i : Nat) : Int)) ?_ ?_ ⟨rfl, rfl, by rw [Nat.pow_zero, Nat.div_one]⟩ (by rw [List.length_replicate]; show T < 2 ^ 64; omega)
    · rintro i hi ⟨y1, y2⟩ s'' ⟨rfl, e1, e2⟩ nx hnx
      rw [List.length_replicate] at hi
      simp only at e1 e2
      subst e1 e2
      have hmod : x / 2 ^ i % 2 = 0 := by
        obtain ⟨q, hq⟩ := Nat.dvd_trans (Nat.pow_dvd_pow 2 (show i + 1 ≤ T by omega)) b1
        rw [hq, Nat.pow_succ, Nat.mul_assoc, Nat.mul_div_cancel_left _ (Nat.two_pow_pos i)]
        omega
      have hrem : Int.tmod ((x / 2 ^ i : Nat) : Int) 2 = ((x / 2 ^ i % 2 : Nat) : Int) := rfl
      rw [hmod] at hrem
      have hdl : x / 2 ^ i ≤ x := Nat.div_le_self _ _
      have hquo : IntKind.u64.wrap (Int.tdiv ((x / 2 ^ i : Nat) : Int) 2) = ((x / 2 ^ (i + 1) : Nat) : Int) := by
        have : Int.tdiv ((x / 2 ^ i : Nat) : Int) 2 = ((x / 2 ^ i / 2 : Nat) : Int) := rfl
        have hdl2 : x / 2 ^ i / 2 ≤ x := Nat.le_trans (Nat.div_le_self _ _) (Nat.div_le_self _ _)
        rw [this, wrap_u64n _ (by omega), Nat.div_div_eq_div_mul, Nat.pow_succ]
      have hw : IntKind.i64.wrap ((i : Int) + 1) = ((i + 1 : Nat) : Int) := by rw [wrap_i64 (by omega) (by omega)]; rfl
      simp only [f70_l1, oO, bindS, many1, jnE, boolS, gdB, fst', snd', b_rem _ _ _ _ (show (2 : Int) ≠ 0 by decide), hrem, show ((0 : Nat) : Int) = 0 from rfl, bop_eql, decide_true, condT, bop_add, hw, b_quo _ _ _ _ (show (2 : Int) ≠ 0 by decide), hquo]
      exact hnx (_, _) _ ⟨rfl, rfl, rfl⟩
    · rintro ⟨y1, y2⟩ s'' ⟨rfl, e1, e2⟩ nx
      rw [List.length_replicate] at e1 e2
      simp only at e1 e2
      subst e1 e2
      have hmod : x / 2 ^ T % 2 = 1 := by
        rcases Nat.mod_two_eq_zero_or_one (x / 2 ^ T) with h | h
        · exfalso; apply b2
          obtain ⟨q, hq⟩ := b1
          rw [hq, Nat.mul_div_cancel_left _ (Nat.two_pow_pos T)] at h
          rw [hq, Nat.pow_succ]
          exact Nat.mul_dvd_mul_left _ (Nat.dvd_of_mod_eq_zero h)
        · exact h
      have hrem : Int.tmod ((x / 2 ^ T : Nat) : Int) 2 = ((x / 2 ^ T % 2 : Nat) : Int) := rfl
      rw [hmod] at hrem
      simp only [f70_l1, oO, bindS, many1, jnE, boolS, gdB, fst', snd', b_rem _ _ _ _ (show (2 : Int) ≠ 0 by decide), hrem, bop_eql, show ¬ ((1 : Nat) : Int) = 0 from by decide, decide_false, condF, beq_yes, condT]
      exact One.ret ⟨rfl, rfl⟩
end Go.Proofs.YtmhmbmogodofeaaDoor.S
