import Derived.Test.YtmhmbmogodofeaaCSe
import Derived.Test.YtmhmbmogodofeaaP15
set_option autoImplicit false
set_option linter.unusedVariables false
set_option linter.unusedSimpArgs false
set_option maxRecDepth 100000
namespace Go.Proofs.Ytmhmbmogodofeaa.S
open Go.FS Go.RowKit
attribute [local congr] bind_cg cond_cg gd_cg
/-! The plain law of insertion. -/
theorem swp_get (R : List Lab) (j : Nat) (h1 : j < R.length) (h2 : j - 1 < R.length) {p : Nat} (hp : p < (swp R j h1 h2).length) (hp' : p < R.length) : (swp R j h1 h2)[p] = if j - 1 = p then R[j] else if j = p then R[j - 1] else R[p] := by
  simp only [swp, List.getElem_set]
theorem le_tr {a b d : Lab} (h : leL a b) (k : leL b d) : leL a d := le_trans' (x := a.1.toList) (y := b.1.toList) (z := d.1.toList) h k
theorem lb_le {a b : Lab} (h : lbL a b = true) : leL a b := le_of_lt' (x := a.1.toList) (y := b.1.toList) h
def SoT (R : List Lab) (i : Nat) : Prop := ∀ p q (hp : p < R.length) (hq : q < R.length), p < q → q < i → leL R[p] R[q]
def Kin (R0 : List Lab) (i j : Nat) (R : List Lab) : Prop := R.Perm R0 ∧ (∀ p q (hp : p < R.length) (hq : q < R.length), p < q → q ≤ i → p ≠ j → q ≠ j → leL R[p] R[q]) ∧ ∀ q (hj : j < R.length) (hq : q < R.length), j < q → q ≤ i → leL R[j] R[q]
theorem c159x {n id k c : Nat} {s : SH} {R0 : List Lab} (hR : R0.length = k) (hk : k < 2 ^ 60) (hs : LR id s R0) :
    ∃ s' R', callD Try.prog AB (n + 3) (.fn 159) [rl id k c, .int .i64 ((0 : Nat) : Int), .int .i64 (k : Int), cmpF] s = some [(.tuple #[], s')] ∧ LR id s' R' ∧ R'.length = k ∧ R'.Perm R0 ∧ R'.Pairwise leL ∧ Upd id s s' := by
  obtain ⟨s', R', i, e, h1, h2, h3, h4, ⟨h5, h6⟩, h7⟩ := c159 (n := n) (c := c) (a := 0) (b := k) R0 hR hk (Nat.le_refl _) (Nat.zero_le _) hs (fun i R => R.Perm R0 ∧ SoT R i) (Kin R0)
    ⟨.refl _, fun p q hp hq h1 h2 => by omega⟩
    (fun i R h1 h2 h3 ⟨h4, h5⟩ => ⟨h4, fun p q hp hq a b c d => h5 p q hp hq a (by omega), fun q hj hq a b => by omega⟩)
    (fun i j R h1 h2 h3 h4 h5 h6 ⟨h7, h8, h9⟩ h10 => ⟨(swp_perm R j h1 h2 h3).trans h7, fun p q hp0 hq0 a b c d => by
      have hp : p < R.length := by rw [swp_len] at hp0; exact hp0
      have hq : q < R.length := by rw [swp_len] at hq0; exact hq0
      rw [swp_get R j h1 h2 hp0 hp, swp_get R j h1 h2 hq0 hq, if_neg (show ¬ j - 1 = p from fun e => c e.symm), if_neg (show ¬ j - 1 = q from fun e => d e.symm)]
      by_cases e1 : j = p
      · subst e1
        rw [if_pos rfl, if_neg (show ¬ j = q by omega)]
        exact h8 (j - 1) q h2 hq (by omega) b (by omega) (by omega)
      · rw [if_neg e1]
        by_cases e2 : j = q
        · subst e2
          rw [if_pos rfl]
          exact h8 p (j - 1) hp h2 (by omega) (by omega) (by omega) (by omega)
        · rw [if_neg e2]
          exact h8 p q hp hq a b (fun e => e1 e.symm) (fun e => e2 e.symm), fun q hj0 hq0 a b => by
      have hq : q < R.length := by rw [swp_len] at hq0; exact hq0
      rw [swp_get R j h1 h2 hj0 h2, swp_get R j h1 h2 hq0 hq, if_pos rfl, if_neg (show ¬ j - 1 = q by omega)]
      by_cases e2 : j = q
      · subst e2
        rw [if_pos rfl]; exact lb_le h10
      · rw [if_neg e2]; exact h9 q h1 hq (by omega) b⟩)
    (fun i j R h1 h2 h3 h4 h5 h6 ⟨h7, h8, h9⟩ h10 => ⟨h7, fun p q hp hq a b => by
      by_cases e1 : p = j
      · subst e1; exact h9 q hp hq a (by omega)
      · by_cases e2 : q = j
        · subst e2
          have hl : leL R[q - 1] R[q] := by
            rcases h10 with h10 | h10
            · omega
            · exact h10
          by_cases e3 : p = q - 1
          · subst e3; exact hl
          · exact le_tr (h8 p (q - 1) hp h2 (by omega) (by omega) e1 (by omega)) hl
        · exact h8 p q hp hq a (by omega) e1 e2⟩)
  refine ⟨s', R', e, h1, h2, h5, ?_, h7⟩
  rw [List.pairwise_iff_getElem]
  intro p q hp hq hpq
  exact h6 p q hp hq hpq (by omega)
theorem c116x {n id k c : Nat} {s : SH} {R0 : List Lab} (hR : R0.length = k) (hk : k < 20) (hs : LR id s R0) :
    ∃ s' R', callD Try.prog AB (n + 50) (.fn 116) [rl id k c, .int .i64 (k : Int), cmpF] s = some [(.tuple #[], s')] ∧ LR id s' R' ∧ R'.length = k ∧ R'.Perm R0 ∧ R'.Pairwise leL ∧ Upd id s s' := by
  obtain ⟨s', R', e, h⟩ := c159x (n := n + 46) (c := c) hR (by omega) hs
  refine ⟨s', R', ?_, h⟩
  rw [call_fn (fn := Try.f116) rfl rfl (by kernel_rfl)]
  show bodyD Try.prog false _ _ 116 Try.f116 _ s = _
  rw [f116_r]
  have h1 : ¬ ((20 : Int) ≤ (k : Int)) := by omega
  have h2 : ¬ ((20 : Int) < (k : Int)) := by omega
  have e : callD Try.prog AB (n + 49) (.fn 159) [rl id k c, .int .i64 0, .int .i64 (k : Int), cmpF] s = some [(.tuple #[], s')] := e
  have hN : AB.N = (2 ^ 64 - 1) + 1 := rfl
  simp only [f116, o_bool, o_alloc, o_box, o_build, o_buildSlice, o_load, o_store, o_nilCheck, o_bop, o_uop, o_conv, o_slc, o_fieldAddr, o_field, o_indexAddr, o_index, o_extract, o_lookup, o_mapUpdate, o_makeSlice, o_clear, o_makeMap, o_mapEntry, o_entryStore, o_delete, o_len, o_append, o_min, o_max, o_tgt, bindS, many1, jnE, boolS, gdB, fst', snd']
  rw [hN, iterS_succ]
  simp only [f116_l0, o_bool, o_alloc, o_box, o_build, o_buildSlice, o_load, o_store, o_nilCheck, o_bop, o_uop, o_conv, o_slc, o_fieldAddr, o_field, o_indexAddr, o_index, o_extract, o_lookup, o_mapUpdate, o_makeSlice, o_clear, o_makeMap, o_mapEntry, o_entryStore, o_delete, o_len, o_append, o_min, o_max, o_tgt, bindS, many1, jnE, boolS, gdB, fst', snd', bop_leq, h1, decide_false, condF, beq_yes, condT, e]
  rw [iterS_succ]
  simp only [f116_l1, o_bool, o_alloc, o_box, o_build, o_buildSlice, o_load, o_store, o_nilCheck, o_bop, o_uop, o_conv, o_slc, o_fieldAddr, o_field, o_indexAddr, o_index, o_extract, o_lookup, o_mapUpdate, o_makeSlice, o_clear, o_makeMap, o_mapEntry, o_entryStore, o_delete, o_len, o_append, o_min, o_max, o_tgt, bindS, many1, jnE, boolS, gdB, fst', snd', bop_lss, h2, decide_false, condF, beq_yes, condT]
/-! What a set is that may be. -/
theorem chk_ris : ∀ {l : List Lab} {last : ByteArray}, chk last l = true → (∀ a ∈ l, lt' last.toList a.1.toList ∧ (a.2.toList == ByteArray.toList ⟨#[]⟩) = false) ∧ l.Pairwise fun a b => lt' a.1.toList b.1.toList
  | [], _, _ => ⟨fun a h => (List.not_mem_nil h).elim, .nil⟩
  | a :: l, last, h => by
    rw [chk_cons, Bool.and_eq_true, Bool.and_eq_true, Bool.and_eq_true, Bool.and_eq_true] at h
    obtain ⟨_, h2, h3, _, h5⟩ := h
    obtain ⟨i1, i2⟩ := chk_ris h5
    have hl : lt' last.toList a.1.toList := by
      have h2 : sle a.1 last = false := by simpa using h2
      unfold sle at h2
      rw [Bool.or_eq_false_iff] at h2
      exact lt_of_le_ne (x := last.toList) (y := a.1.toList) h2.1 fun e => by
        have := h2.2
        rw [e] at this
        simp at this
    refine ⟨fun b hb => ?_, List.pairwise_cons.2 ⟨fun b hb => (i1 b hb).1, i2⟩⟩
    rcases List.mem_cons.1 hb with rfl | hb
    · exact ⟨hl, by simpa using h3⟩
    · exact ⟨lt_le_trans hl (le_of_lt' (i1 b hb).1), (i1 b hb).2⟩
end Go.Proofs.Ytmhmbmogodofeaa.S
