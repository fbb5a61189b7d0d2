import Derived.Test.YtmhmbmogodofeaaDoorME
import Derived.Test.YtmhmbmogodofeaaDoorTR
import Derived.Test.YtmhmbmogodofeaaDoorSR
set_option autoImplicit false
set_option linter.unusedVariables false
set_option linter.unusedSimpArgs false
set_option maxRecDepth 100000
namespace Go.Proofs.YtmhmbmogodofeaaDoor.S
open Go.FS Go.RowKit
attribute [local congr] bind_cg cond_cg gd_cg

/-! The reference: vint.Read, crc. -/
theorem c109 {n : Nat} {s : SH} (r : Nat) (hr : r < 2 ^ 32) : callD Tryd.prog AB (n + 1) (.fn 109) [W (r : Int)] s = some [(W (crN 8 r : Nat), s)] := by
  rw [call_fn (fn := Tryd.f109) rfl rfl (by kernel_rfl)]
  suffices h : One (bodyD Tryd.prog false (callD Tryd.prog AB n) AB.N 109 Tryd.f109 [W (r : Int)] s) fun v s' => v = W (crN 8 r : Nat) ∧ s' = s by
    obtain ⟨v, s', e, rfl, rfl⟩ := h
    exact e
  rw [f109_r]
  simp only [f109]
  refine list_one (List.replicate 8 ()) (fun i (x : Value × Value) (s' : SH) => s' = s ∧ x.2 = I (i : Int) ∧ x.1 = W (crN i r : Nat)) ?_ ?_ ⟨rfl, rfl, rfl⟩ (by rw [List.length_replicate]; show _ < 2 ^ 64; omega)
  · rintro i hi ⟨x1, x2⟩ s' ⟨rfl, e1, e2⟩ nx hnx
    rw [List.length_replicate] at hi
    simp only at e1 e2
    subst e1 e2
    have hlt : (i : Int) < 8 := by omega
    have hw : IntKind.i64.wrap ((i : Int) + 1) = ((i + 1 : Nat) : Int) := by rw [wrap_i64 (by omega) (by omega)]; rfl
    have hq := crN_lt hr i
    have hc : crN (i + 1) r = cr1 (crN i r) := rfl
    generalize crN i r = q at hq hc
    have hrem : Int.tmod (q : Int) 2 = ((q % 2 : Nat) : Int) := rfl
    have hquo : IntKind.u32.wrap (Int.tdiv (q : Int) 2) = ((q / 2 : Nat) : Int) := by
      have : Int.tdiv (q : Int) 2 = ((q / 2 : Nat) : Int) := rfl
      rw [this, wrap_u32 (by omega) (by omega)]
    by_cases h1 : q % 2 = 1
    · have h1' : decide (((q % 2 : Nat) : Int) = 1) = true := decide_eq_true (by omega)
      have hx : bopD Tryd.prog .xor 127 (W ((q / 2 : Nat) : Int)) (W 2197175160) = some (W (crN (i + 1) r : Nat)) := by
        rw [polW, xor32 (by omega) pol_lt, hc]
        unfold cr1
        rw [if_pos h1]
      simp only [f109_l0, oO, bindS, many1, jnE, boolS, gdB, fst', snd', bop_lss, hlt, decide_true, condT, b_rem _ _ _ _ (show (2 : Int) ≠ 0 by decide), hrem, bop_eql, h1', b_quo _ _ _ _ (show (2 : Int) ≠ 0 by decide), hquo, hx, bop_add, hw]
      exact hnx (_, _) _ ⟨rfl, rfl, rfl⟩
    · have h1' : decide (((q % 2 : Nat) : Int) = 1) = false := decide_eq_false (by omega)
      have hx : (q / 2 : Nat) = crN (i + 1) r := by rw [hc]; unfold cr1; rw [if_neg h1]
      simp only [f109_l0, oO, bindS, many1, jnE, boolS, gdB, fst', snd', bop_lss, hlt, decide_true, condT, condF, b_rem _ _ _ _ (show (2 : Int) ≠ 0 by decide), hrem, bop_eql, h1', b_quo _ _ _ _ (show (2 : Int) ≠ 0 by decide), hquo, bop_add, hw]
      exact hnx (_, _) _ ⟨rfl, rfl, by rw [hx]⟩
  · rintro ⟨x1, x2⟩ s' ⟨rfl, e1, e2⟩ nx
    rw [List.length_replicate] at e1 e2
    simp only at e1 e2
    subst e1 e2
    have hnlt : ¬ (((8 : Nat) : Int) < 8) := by omega
    simp only [f109_l0, oO, bindS, many1, jnE, boolS, gdB, fst', snd', bop_lss, hnlt, decide_false, condF, beq_yes, condT]
    exact One.ret ⟨rfl, rfl⟩
theorem onesW : (W 4294967295 : Value) = W ((ones32 : Nat) : Int) := rfl
theorem c97 {n m : Nat} {s : SH} (B : List UInt8) (hB : B.length < 2 ^ 62) : callD Tryd.prog AB (n + 2) (.fn 97) [W 0, sl by' m B] s = some [(W (crSum B : Nat), s)] := by
  rw [call_fn (fn := Tryd.f97) rfl rfl (by kernel_rfl)]
  suffices h : One (bodyD Tryd.prog false (callD Tryd.prog AB (n + 1)) AB.N 97 Tryd.f97 [W 0, sl by' m B] s) fun v s' => v = W (crSum B : Nat) ∧ s' = s by
    obtain ⟨v, s', e, rfl, rfl⟩ := h
    exact e
  rw [f97_r]
  have h1 : ones32 < 2 ^ 32 := by decide
  have hx0 : bopD Tryd.prog .xor 127 (W 0) (W 4294967295) = some (W ((ones32 : Nat) : Int)) := by
    have := xor32 (a := 0) (b := ones32) (by decide) h1
    rw [Nat.zero_xor] at this
    exact this
  simp only [f97, oO, bindS, many1, jnE, boolS, gdB, fst', snd', hx0]
  refine list_one B (fun i (x : Value × Value) (s' : SH) => s' = s ∧ x.2 = I (i : Int) ∧ x.1 = W (crMore ones32 (B.take i) : Nat)) ?_ ?_ ⟨rfl, rfl, rfl⟩ (by show B.length < 2 ^ 64; omega)
  · rintro i hi ⟨x1, x2⟩ s' ⟨rfl, e2, e3⟩ nx hnx
    simp only at e2 e3
    subst e2 e3
    have hlt : (i : Int) < B.length := by omega
    have hw : IntKind.i64.wrap ((i : Int) + 1) = ((i + 1 : Nat) : Int) := by rw [wrap_i64 (by omega) (by omega)]; rfl
    have hq := crMore_lt (B := B.take i) h1
    have hx := xor32 hq (show B[i].toNat < 2 ^ 32 from Nat.lt_trans B[i].toNat_lt (by decide))
    have e109 := c109 (n := n) (s := s') _ (crX_lt hq B[i])
    rw [← crMore_snoc] at e109
    have ht : B.take i ++ [B[i]] = B.take (i + 1) := (List.take_succ_eq_append_getElem hi).symm
    rw [ht] at e109
    simp only [f97_l0, oO, bindS, many1, jnE, boolS, gdB, fst', snd', len_sl u22, bop_lss, hlt, decide_true, condT, ixs22 by_len hi, ld_by, cvt8, hx, e109, bop_add, hw]
    exact hnx (_, _) _ ⟨rfl, rfl, rfl⟩
  · rintro ⟨x1, x2⟩ s' ⟨rfl, e2, e3⟩ nx
    simp only at e2 e3
    subst e2 e3
    have hnlt : ¬ ((B.length : Int) < B.length) := by omega
    rw [List.take_length]
    have hx : bopD Tryd.prog .xor 127 (W (crMore ones32 B : Nat)) (W 4294967295) = some (W (crSum B : Nat)) := by
      rw [onesW, xor32 (crMore_lt h1) h1]; rfl
    simp only [f97_l0, oO, bindS, many1, jnE, boolS, gdB, fst', snd', len_sl u22, bop_lss, hnlt, decide_false, condF, beq_yes, condT, hx]
    exact One.ret ⟨rfl, rfl⟩
theorem c66 {n m : Nat} {s : SH} (B : List UInt8) (hB : B.length < 2 ^ 62) : callD Tryd.prog AB (n + 3) (.fn 66) [sl by' m B] s = some [(W (crSum B : Nat), s)] := by
  rw [call_fn (fn := Tryd.f66) rfl rfl (by kernel_rfl)]
  show bodyD Tryd.prog false _ _ 66 Tryd.f66 _ s = _
  rw [f66_r]
  simp only [f66, oO, bindS, many1, jnE, boolS, gdB, fst', snd', c97 (n := n) B hB]
end Go.Proofs.YtmhmbmogodofeaaDoor.S

set_option autoImplicit false
set_option linter.unusedVariables false
set_option linter.unusedSimpArgs false
set_option maxRecDepth 100000
namespace Go.Proofs.YtmhmbmogodofeaaDoor.S
open Go.FS Go.RowKit
attribute [local congr] bind_cg cond_cg gd_cg

/-! The reference: the reader. -/
abbrev rqr (m : Nat) (B : List UInt8) (p : Nat) : List Value := [sl by' m B, I (p : Int)]
def Rq (id m : Nat) (B : List UInt8) (s : SH) (p : Nat) : Prop := HP.get s.h id = some (.row (rqr m B p)) ∧ id < s.n ∧ m < s.n + 3 ∧ p ≤ B.length * 8 ∧ B.length < 2 ^ 40
noncomputable def rqS (s : SH) (id m : Nat) (B : List UInt8) (p : Nat) : SH := putD s id (.row (rqr m B p))
theorem Rq.same {id m p : Nat} {B : List UInt8} {s : SH} (h : Rq id m B s p) : rqS s id m B p = s := put_same h.1
theorem Rq.move {id m p q : Nat} {B : List UInt8} {s : SH} (h : Rq id m B s p) (hq : q ≤ B.length * 8) : Rq id m B (rqS s id m B q) q := ⟨get_put_same _, h.2.1, h.2.2.1, hq, h.2.2.2.2⟩
theorem Rq.ext {id m p : Nat} {B : List UInt8} {s s' : SH} (h : Rq id m B s p) (k : Ext s s') : Rq id m B s' p := ⟨by rw [k.2 id h.2.1]; exact h.1, Nat.lt_of_lt_of_le h.2.1 k.1, by have := h.2.2.1; have := k.1; omega, h.2.2.2⟩
theorem wrap_i64n (n : Nat) (h : n < 2 ^ 63) : IntKind.i64.wrap (n : Int) = (n : Int) := wrap_i64 (by omega) (by omega)
theorem wrap_u64n (n : Nat) (h : n < 2 ^ 64) : IntKind.u64.wrap (n : Int) = (n : Int) := wrap_u64 (by omega) (by omega)
/-! Classes and ends. -/
theorem bx79 (s : SH) (a b c : Int) : boxD s (ts a b c) = some (pt s.n 0, newD s (.row (tr a b c))) := box_at rfl rfl
theorem c67 {n : Nat} {s : SH} (u : TS) (hn : u.n ≤ 4096) (hu : TSok u) : callD Tryd.prog AB (n + 1) (.fn 67) [tsV u] s = some [(.bool true, s)] := by
  refine cut_plain (fn := Tryd.f67) rfl rfl (by kernel_rfl) (fun _ h => by cases h) (.bool _) ?_
  show One (bodyD Tryd.prog false _ _ 67 Tryd.f67 _ _) _
  rw [f67_r]
  obtain ⟨h1, h2⟩ := hu
  unfold mxT at h1 h2
  have g1 : (u.n : Int) ≥ 0 := by omega
  have g2 : (u.n : Int) ≤ 4096 := by omega
  have g3 : (u.last : Int) ≥ 0 := by omega
  have g4 : (u.last : Int) ≤ 35184372088832 := by omega
  have g5 : (u.delta : Int) ≥ 0 := by omega
  have g6 : (u.delta : Int) ≤ 35184372088832 := by omega
  simp only [f67, oO, bindS, many1, jnE, boolS, gdB, fst', snd', tsV, bx79, fld79_0, fld79_1, fld79_2, ld_n0, ld_n1, ld_n2, ld_n3, p3_0, p3_1, p3_2, p3_3, p38_0, p38_1, bop_geq, bop_leq, g1, g2, g3, g4, g5, g6, decide_true, condT]
  exact One.ret ⟨rfl, ext1 s _⟩
theorem c68 {n : Nat} {s : SH} (z : Nat) : callD Tryd.prog AB (n + 1) (.fn 68) [U (z : Int)] s = some [(.tuple #[I (tcls z : Int), I (tw (tcls z) : Int)], s)] := by
  rw [call_fn (fn := Tryd.f68) rfl rfl (by kernel_rfl)]
  show bodyD Tryd.prog false _ _ 68 Tryd.f68 _ s = _
  rw [f68_r]
  unfold tcls
  by_cases h0 : z = 0
  · have h0' : (z : Int) = 0 := by omega
    rw [if_pos h0]
    simp only [f68, oO, bindS, many1, jnE, boolS, gdB, fst', snd', bop_eql, h0', decide_true, condT]
    rfl
  · have h0' : ¬ (z : Int) = 0 := by omega
    rw [if_neg h0]
    by_cases h1 : z < 128
    · have h1' : (z : Int) < 128 := by omega
      rw [if_pos h1]
      simp only [f68, oO, bindS, many1, jnE, boolS, gdB, fst', snd', bop_eql, h0', decide_false, condF, bop_lss, h1', decide_true, condT]
      rfl
    · have h1' : ¬ (z : Int) < 128 := by omega
      rw [if_neg h1]
      by_cases h2 : z < 4096
      · have h2' : (z : Int) < 4096 := by omega
        rw [if_pos h2]
        simp only [f68, oO, bindS, many1, jnE, boolS, gdB, fst', snd', bop_eql, h0', decide_false, condF, bop_lss, h1', h2', decide_true, condT]
        rfl
      · have h2' : ¬ (z : Int) < 4096 := by omega
        rw [if_neg h2]
        by_cases h3 : z < 1048576
        · have h3' : (z : Int) < 1048576 := by omega
          rw [if_pos h3]
          simp only [f68, oO, bindS, many1, jnE, boolS, gdB, fst', snd', bop_eql, h0', decide_false, condF, bop_lss, h1', h2', h3', decide_true, condT]
          rfl
        · have h3' : ¬ (z : Int) < 1048576 := by omega
          rw [if_neg h3]
          simp only [f68, oO, bindS, many1, jnE, boolS, gdB, fst', snd', bop_eql, h0', decide_false, condF, bop_lss, h1', h2', h3']
          rfl
theorem bx81 (s : SH) (n l a b : Int) : boxD s (vs n l a b) = some (pt s.n 0, newD s (.row (vr n l a b))) := box_at rfl rfl
theorem c69 {n : Nat} {s : SH} (u : XS) (hn : u.n ≤ 4096) (hu : XSok u) : callD Tryd.prog AB (n + 1) (.fn 69) [xsV u] s = some [(.bool true, s)] := by
  refine cut_plain (fn := Tryd.f69) rfl rfl (by kernel_rfl) (fun _ h => by cases h) (.bool _) ?_
  show One (bodyD Tryd.prog false _ _ 69 Tryd.f69 _ _) _
  rw [f69_r]
  have g1 : ¬ (u.n : Int) < 0 := by omega
  have g2 : ¬ (u.n : Int) > 4096 := by omega
  obtain ⟨_, h⟩ := hu
  by_cases h64 : u.lead = 64
  · have h64' : decide ((u.lead : Int) = 64) = true := decide_eq_true (by omega)
    have ht : decide ((u.trail : Int) = 0) = true := decide_eq_true (by omega)
    simp only [f69, oO, bindS, many1, jnE, boolS, gdB, fst', snd', xsV, bx81, fld81_0, fld81_2, fld81_3, ld_n0, ld_n1, ld_n2, ld_n3, p3_0, p3_1, p3_2, p3_3, p38_0, p38_1, bop_lss, g1, decide_false, condF, bop_gtr, g2, bop_eql, h64', condT, ht]
    exact One.ret ⟨rfl, ext1 s _⟩
  · have h64' : decide ((u.lead : Int) = 64) = false := decide_eq_false (by omega)
    have hle : u.lead + u.trail ≤ 63 := by omega
    have g3 : (u.lead : Int) ≥ 0 := by omega
    have g4 : (u.lead : Int) ≤ 63 := by omega
    have g5 : (u.trail : Int) ≥ 0 := by omega
    have g6 : (u.trail : Int) ≤ 63 := by omega
    have hw : IntKind.i64.wrap ((u.lead : Int) + (u.trail : Int)) = ((u.lead + u.trail : Nat) : Int) := by rw [wrap_i64 (by omega) (by omega)]; rfl
    have g7 : ((u.lead + u.trail : Nat) : Int) ≤ 63 := by omega
    simp only [f69, oO, bindS, many1, jnE, boolS, gdB, fst', snd', xsV, bx81, fld81_0, fld81_2, fld81_3, ld_n0, ld_n1, ld_n2, ld_n3, p3_0, p3_1, p3_2, p3_3, p38_0, p38_1, bop_lss, g1, decide_false, condF, bop_gtr, g2, bop_eql, h64', bop_geq, bop_leq, g3, g4, g5, g6, decide_true, condT, bop_add, hw, g7]
    exact One.ret ⟨rfl, ext1 s _⟩
theorem c70 {n : Nat} {s : SH} (x : Nat) (h0 : x ≠ 0) (hx : x < 2 ^ 64) : callD Tryd.prog AB (n + 1) (.fn 70) [U (x : Int)] s = some [(.tuple #[I (nlz x : Int), I (ntz x : Int)], s)] := by
  rw [call_fn (fn := Tryd.f70) rfl rfl (by kernel_rfl)]
  suffices h : One (bodyD Tryd.prog false (callD Tryd.prog AB n) AB.N 70 Tryd.f70 [U (x : Int)] s) fun v s' => v = .tuple #[I (nlz x : Int), I (ntz x : Int)] ∧ s' = s by
    obtain ⟨v, s', e, rfl, rfl⟩ := h
    exact e
  rw [f70_r]
  obtain ⟨a1, a2, a3⟩ := nlz_spec h0 hx
  obtain ⟨b1, b2, b3⟩ := ntz_spec h0 hx
  generalize nlz x = L at *
  generalize ntz x = T at *
  have hup : ∀ i, i ≤ L → x * 2 ^ i < 2 ^ 64 := fun i hi => by
    calc x * 2 ^ i < 2 ^ (64 - L) * 2 ^ i := Nat.mul_lt_mul_of_pos_right a3 (Nat.two_pow_pos _)
      _ = 2 ^ (64 - L + i) := by rw [← Nat.pow_add]
      _ ≤ 2 ^ 64 := Nat.pow_le_pow_right (by decide) (by omega)
  simp only [f70]
  refine list_one (List.replicate L ()) (fun i (y : Value × Value) (s' : SH) => s' = s ∧ y.1 = I (i : Int) ∧ y.2 = U ((x * 2 ^ i : Nat) : Int)) ?_ ?_ ⟨rfl, rfl, by rw [Nat.pow_zero, Nat.mul_one]⟩ (by rw [List.length_replicate]; show L < 2 ^ 64; omega)
  · rintro i hi ⟨y1, y2⟩ s' ⟨rfl, e1, e2⟩ nx hnx
    rw [List.length_replicate] at hi
    simp only at e1 e2
    subst e1 e2
    have hlt : x * 2 ^ i < 9223372036854775808 := by
      have := hup (i + 1) (by omega)
      rw [Nat.pow_succ, ← Nat.mul_assoc] at this
      omega
    have hlt' : ((x * 2 ^ i : Nat) : Int) < 9223372036854775808 := by omega
    have hw : IntKind.i64.wrap ((i : Int) + 1) = ((i + 1 : Nat) : Int) := by rw [wrap_i64 (by omega) (by omega)]; rfl
    have hm : IntKind.u64.wrap (2 * ((x * 2 ^ i : Nat) : Int)) = ((x * 2 ^ (i + 1) : Nat) : Int) := by
      rw [wrap_u64 (by omega) (by omega), Nat.pow_succ, ← Nat.mul_assoc]; omega
    simp only [f70_l0, oO, bindS, many1, jnE, boolS, gdB, fst', snd', bop_lss, hlt', decide_true, condT, bop_add, hw, bop_mul, hm]
    exact hnx (_, _) _ ⟨rfl, rfl, rfl⟩
  · rintro ⟨y1, y2⟩ s' ⟨rfl, e1, e2⟩ nx
    rw [List.length_replicate] at e1 e2
    simp only at e1 e2
    subst e1 e2
    have hge : 9223372036854775808 ≤ x * 2 ^ L := by
      have h1 : 2 ^ (63 - L) * 2 ^ L ≤ x * 2 ^ L := Nat.mul_le_mul_right _ a2
      rw [← Nat.pow_add, show 63 - L + L = 63 from by omega] at h1
      exact h1
    have hge' : ¬ ((x * 2 ^ L : Nat) : Int) < 9223372036854775808 := by omega
    simp only [f70_l0, oO, bindS, many1, jnE, boolS, gdB, fst', snd', bop_lss, hge', decide_false, condF, beq_yes, condT]
    refine list_one (List.replicate T ()) (fun i (y : Value × Value) (s'' : SH) => s'' = s' ∧ y.1 = I (i : Int) ∧ y.2 = U ((x / 2 ^ i : Nat) : Int)) ?_ ?_ ⟨rfl, rfl, by rw [Nat.pow_zero, Nat.div_one]⟩ (by rw [List.length_replicate]; show T < 2 ^ 64; omega)
    · rintro i hi ⟨y1, y2⟩ s'' ⟨rfl, e1, e2⟩ nx hnx
      rw [List.length_replicate] at hi
      simp only at e1 e2
      subst e1 e2
      have hmod : x / 2 ^ i % 2 = 0 := by
        obtain ⟨q, hq⟩ := Nat.dvd_trans (Nat.pow_dvd_pow 2 (show i + 1 ≤ T by omega)) b1
        rw [hq, Nat.pow_succ, Nat.mul_assoc, Nat.mul_div_cancel_left _ (Nat.two_pow_pos i)]
        omega
      have hrem : Int.tmod ((x / 2 ^ i : Nat) : Int) 2 = ((x / 2 ^ i % 2 : Nat) : Int) := rfl
      rw [hmod] at hrem
      have hdl : x / 2 ^ i ≤ x := Nat.div_le_self _ _
      have hquo : IntKind.u64.wrap (Int.tdiv ((x / 2 ^ i : Nat) : Int) 2) = ((x / 2 ^ (i + 1) : Nat) : Int) := by
        have : Int.tdiv ((x / 2 ^ i : Nat) : Int) 2 = ((x / 2 ^ i / 2 : Nat) : Int) := rfl
        have hdl2 : x / 2 ^ i / 2 ≤ x := Nat.le_trans (Nat.div_le_self _ _) (Nat.div_le_self _ _)
        rw [this, wrap_u64n _ (by omega), Nat.div_div_eq_div_mul, Nat.pow_succ]
      have hw : IntKind.i64.wrap ((i : Int) + 1) = ((i + 1 : Nat) : Int) := by rw [wrap_i64 (by omega) (by omega)]; rfl
      simp only [f70_l1, oO, bindS, many1, jnE, boolS, gdB, fst', snd', b_rem _ _ _ _ (show (2 : Int) ≠ 0 by decide), hrem, show ((0 : Nat) : Int) = 0 from rfl, bop_eql, decide_true, condT, bop_add, hw, b_quo _ _ _ _ (show (2 : Int) ≠ 0 by decide), hquo]
      exact hnx (_, _) _ ⟨rfl, rfl, rfl⟩
    · rintro ⟨y1, y2⟩ s'' ⟨rfl, e1, e2⟩ nx
      rw [List.length_replicate] at e1 e2
      simp only at e1 e2
      subst e1 e2
      have hmod : x / 2 ^ T % 2 = 1 := by
        rcases Nat.mod_two_eq_zero_or_one (x / 2 ^ T) with h | h
        · exfalso; apply b2
          obtain ⟨q, hq⟩ := b1
          rw [hq, Nat.mul_div_cancel_left _ (Nat.two_pow_pos T)] at h
          rw [hq, Nat.pow_succ]
          exact Nat.mul_dvd_mul_left _ (Nat.dvd_of_mod_eq_zero h)
        · exact h
      have hrem : Int.tmod ((x / 2 ^ T : Nat) : Int) 2 = ((x / 2 ^ T % 2 : Nat) : Int) := rfl
      rw [hmod] at hrem
      simp only [f70_l1, oO, bindS, many1, jnE, boolS, gdB, fst', snd', b_rem _ _ _ _ (show (2 : Int) ≠ 0 by decide), hrem, bop_eql, show ¬ ((1 : Nat) : Int) = 0 from by decide, decide_false, condF, beq_yes, condT]
      exact One.ret ⟨rfl, rfl⟩
end Go.Proofs.YtmhmbmogodofeaaDoor.S

set_option autoImplicit false
set_option linter.unusedVariables false
set_option linter.unusedSimpArgs false
set_option maxRecDepth 100000
namespace Go.Proofs.YtmhmbmogodofeaaDoor.S
open Go.FS Go.RowKit
attribute [local congr] bind_cg cond_cg gd_cg

theorem But.rqS {id m p : Nat} {B : List UInt8} {a b : SH} (h : But id a b) : But id a (rqS b id m B p) := h.put _
theorem c34 {n : Nat} {s : SH} : callD Tryd.prog AB (n + 1) (.fn 34) [] s = some [(xsV ⟨0, 0, 64, 0⟩, s)] := by
  refine cut_plain (fn := Tryd.f34) rfl rfl (by kernel_rfl) (fun _ h => by cases h) (vs_plain _ _ _ _) ?_
  show One (bodyD Tryd.prog false _ _ 34 Tryd.f34 _ _) _
  rw [f34_r]
  have a1 : allocD Tryd.prog s 81 = some (pt s.n 0, newD s (.row (vr 0 0 0 0))) := alloc_at zr81
  have b1 : buildD Tryd.prog 81 [(2, I 64)] = some (vs 0 0 64 0) := by kernel_rfl
  have s1 : storeD Tryd.prog (newD s (.row (vr 0 0 0 0))) 81 (pt s.n 0) (vs 0 0 64 0) = some (newD s (.row (vr 0 0 64 0))) := st_n0 (l := vr 0 0 64 0) s z81 rfl rfl rfl
  have p1 : partD Tryd.prog 81 (vr 0 0 64 0) 0 = some (vs 0 0 64 0) := part_agg a81 z81 rfl rfl
  simp only [f34, oO, bindS, many1, jnE, boolS, gdB, fst', snd', a1, b1, s1, ld_n0, ld_n1, ld_n2, ld_n3, p3_0, p3_1, p3_2, p3_3, p38_0, p38_1, p1]
  exact One.ret ⟨rfl, ext1 s _⟩
/-! The reference's stamp.Get. -/
theorem al79 (s : SH) : allocD Tryd.prog s 79 = some (pt s.n 0, newD s (.row (tr 0 0 0))) := alloc_at zr79
theorem bl79_0 : buildD Tryd.prog 79 [] = some (ts 0 0 0) := by kernel_rfl
theorem bl79 (a b c : Int) : buildD Tryd.prog 79 [(0, I a), (1, I b), (2, I c)] = some (ts a b c) := by kernel_rfl
theorem hst {s : SH} {id : Nat} {x y z a b c : Int} (h : HP.get s.h id = some (.row (tr x y z))) : storeD Tryd.prog s 79 (pt id 0) (ts a b c) = some (putD s id (.row (tr a b c))) := st_all (l := tr a b c) z79 h rfl rfl rfl
theorem hld {s : SH} {id : Nat} {a b c : Int} (h : HP.get s.h id = some (.row (tr a b c))) : loadD Tryd.prog s 79 (pt id 0) = some (ts a b c) := by rw [load_row h]; exact part_agg a79 z79 rfl rfl
end Go.Proofs.YtmhmbmogodofeaaDoor.S

set_option autoImplicit false
set_option linter.unusedVariables false
set_option linter.unusedSimpArgs false
set_option maxRecDepth 100000
namespace Go.Proofs.YtmhmbmogodofeaaDoor.S
open Go.FS Go.RowKit
attribute [local congr] bind_cg cond_cg gd_cg

/-! The reference's xor.Get. -/
theorem bl81 (n l a b : Int) : buildD Tryd.prog 81 [(0, I n), (1, U l), (2, I a), (3, I b)] = some (vs n l a b) := by kernel_rfl
theorem al81 (s : SH) : allocD Tryd.prog s 81 = some (pt s.n 0, newD s (.row (vr 0 0 0 0))) := alloc_at zr81
theorem gst {s : SH} {id : Nat} {x y z t n l a b : Int} (h : HP.get s.h id = some (.row (vr x y z t))) : storeD Tryd.prog s 81 (pt id 0) (vs n l a b) = some (putD s id (.row (vr n l a b))) := st_all (l := vr n l a b) z81 h rfl rfl rfl
theorem gld {s : SH} {id : Nat} {n l a b : Int} (h : HP.get s.h id = some (.row (vr n l a b))) : loadD Tryd.prog s 81 (pt id 0) = some (vs n l a b) := by rw [load_row h]; exact part_agg a81 z81 rfl rfl
theorem wld2 {s : SH} {id : Nat} {n l a b : Int} (h : HP.get s.h id = some (.row (vr n l a b))) : loadD Tryd.prog s 3 (pt id 2) = some (I a) := by rw [load_row h, p3_2]
theorem wld3 {s : SH} {id : Nat} {n l a b : Int} (h : HP.get s.h id = some (.row (vr n l a b))) : loadD Tryd.prog s 3 (pt id 3) = some (I b) := by rw [load_row h, p3_3]
end Go.Proofs.YtmhmbmogodofeaaDoor.S
