import Derived.Test.YtmhmbmogodofeaaCSa
set_option autoImplicit false
set_option linter.unusedVariables false
set_option linter.unusedSimpArgs false
set_option maxRecDepth 100000
namespace Go.Proofs.Ytmhmbmogodofeaa.S
open Go.FS Go.RowKit
attribute [local congr] bind_cg cond_cg gd_cg
/-! Insertion sort. -/
def Upd (id : Nat) (s s' : SH) : Prop := s'.n = s.n ∧ ∀ j, j ≠ id → HP.get s'.h j = HP.get s.h j
theorem Upd.refl (id : Nat) (s : SH) : Upd id s s := ⟨rfl, fun _ _ => rfl⟩
theorem Upd.trans {id : Nat} {a b c : SH} (h : Upd id a b) (k : Upd id b c) : Upd id a c := ⟨k.1.trans h.1, fun j hj => (k.2 j hj).trans (h.2 j hj)⟩
theorem Upd.put {id : Nat} {a s : SH} (h : Upd id a s) (o : DObj) : Upd id a (putD s id o) := ⟨h.1, fun j hj => by rw [get_put_other hj, h.2 j hj]⟩
def LR (id : Nat) (s : SH) (R : List Lab) : Prop := HP.get s.h id = some (.row (rowL R))
abbrev cmpF : Value := .func (.func 66) #[] #[]
theorem tg66 (args : List Value) : tgtD cmpF args = some (.fn 66, args) := by simp [tgtD]
/-- Two that stand one behind the other change their places. -/
def swp (R : List Lab) (j : Nat) (h1 : j < R.length) (h2 : j - 1 < R.length) : List Lab := (R.set j R[j - 1]).set (j - 1) R[j]
theorem swp_len (R : List Lab) (j : Nat) (h1 : j < R.length) (h2 : j - 1 < R.length) : (swp R j h1 h2).length = R.length := by unfold swp; rw [List.length_set, List.length_set]
theorem c159 {n id k c a b : Nat} {s : SH} (R0 : List Lab) (hR0 : R0.length = k) (hk : k < 2 ^ 60) (hb : b ≤ k) (ha : a ≤ k) (hs : LR id s R0) (J : Nat → List Lab → Prop) (K : Nat → Nat → List Lab → Prop)
    (hJ0 : J (a + 1) R0)
    (hJK : ∀ i R, a + 1 ≤ i → i < b → R.length = k → J i R → K i i R)
    (hK : ∀ i j R (h1 : j < R.length) (h2 : j - 1 < R.length), a < j → j ≤ i → i < b → R.length = k → K i j R → lbL R[j] R[j - 1] = true → K i (j - 1) (swp R j h1 h2))
    (hKJ : ∀ i j R (h1 : j < R.length) (h2 : j - 1 < R.length), a ≤ j → j ≤ i → i < b → R.length = k → K i j R → (j = a ∨ lbL R[j] R[j - 1] = false) → J (i + 1) R) :
    ∃ s' R' i, callD Try.prog AB (n + 3) (.fn 159) [rl id k c, .int .i64 (a : Int), .int .i64 (b : Int), cmpF] s = some [(.tuple #[], s')] ∧ LR id s' R' ∧ R'.length = k ∧ i ≥ b ∧ (i = b ∨ i = a + 1) ∧ J i R' ∧ Upd id s s' := by
  rw [call_fn (fn := Try.f159) rfl rfl (by kernel_rfl)]
  suffices h : One (bodyD Try.prog false (callD Try.prog AB (n + 2)) AB.N 159 Try.f159 [rl id k c, .int .i64 (a : Int), .int .i64 (b : Int), cmpF] s) fun w s' => w = .tuple #[] ∧ ∃ R' i, LR id s' R' ∧ R'.length = k ∧ i ≥ b ∧ (i = b ∨ i = a + 1) ∧ J i R' ∧ Upd id s s' by
    obtain ⟨w, s', e, rfl, R', i, h⟩ := h
    exact ⟨s', R', i, e, h⟩
  rw [f159_r]
  have hw1 : IntKind.i64.wrap ((a : Int) + 1) = ((a + 1 : Nat) : Int) := by rw [wrap_i64 (by omega) (by omega)]; rfl
  simp only [f159, o_bool, o_alloc, o_box, o_build, o_buildSlice, o_load, o_store, o_nilCheck, o_bop, o_uop, o_conv, o_slc, o_fieldAddr, o_field, o_indexAddr, o_index, o_extract, o_lookup, o_mapUpdate, o_makeSlice, o_clear, o_makeMap, o_mapEntry, o_entryStore, o_delete, o_len, o_append, o_min, o_max, o_tgt, bindS, many1, jnE, boolS, gdB, fst', snd', bop_add, hw1]
  refine loop_rule (fun d (x : Value × Value) (s' : SH) => ∃ (i : Nat) (R : List Lab), d = b - i ∧ a + 1 ≤ i ∧ (i ≤ b ∨ i = a + 1) ∧ x.1 = .int .i64 (i : Int) ∧ LR id s' R ∧ R.length = k ∧ J i R ∧ Upd id s s') (fun r => One r fun w s' => w = .tuple #[] ∧ ∃ R' i, LR id s' R' ∧ R'.length = k ∧ i ≥ b ∧ (i = b ∨ i = a + 1) ∧ J i R' ∧ Upd id s s') ?_ _ (b - (a + 1)) _ _ ⟨a + 1, R0, rfl, Nat.le_refl _, .inr rfl, rfl, hs, hR0, hJ0, .refl _ _⟩ (by show _ < 2 ^ 64; omega)
  rintro d ⟨x1, x2⟩ s1 ⟨i, R, hd, hi1, hi2, e1, hL, hRl, hJ, hU⟩ nx hnx
  simp only at e1
  subst e1
  by_cases hib : i < b
  · have hlt : (i : Int) < (b : Int) := by omega
    have hwi : IntKind.i64.wrap ((i : Int) + 1) = ((i + 1 : Nat) : Int) := by rw [wrap_i64 (by omega) (by omega)]; rfl
    simp only [f159_l0, o_bool, o_alloc, o_box, o_build, o_buildSlice, o_load, o_store, o_nilCheck, o_bop, o_uop, o_conv, o_slc, o_fieldAddr, o_field, o_indexAddr, o_index, o_extract, o_lookup, o_mapUpdate, o_makeSlice, o_clear, o_makeMap, o_mapEntry, o_entryStore, o_delete, o_len, o_append, o_min, o_max, o_tgt, bindS, many1, jnE, boolS, gdB, fst', snd', bop_lss, hlt, decide_true, condT]
    refine loop_rule (fun d (x : Value) (s' : SH) => ∃ (j : Nat) (R : List Lab), d = j ∧ a ≤ j ∧ j ≤ i ∧ x = .int .i64 (j : Int) ∧ LR id s' R ∧ R.length = k ∧ K i j R ∧ Upd id s s') (fun r => One r fun w s' => w = .tuple #[] ∧ ∃ R' i, LR id s' R' ∧ R'.length = k ∧ i ≥ b ∧ (i = b ∨ i = a + 1) ∧ J i R' ∧ Upd id s s') ?_ _ i _ _ ⟨i, R, rfl, by omega, Nat.le_refl _, rfl, hL, hRl, hJK i R hi1 hib hRl hJ, hU⟩ (by show _ < 2 ^ 64; omega)
    rintro d2 x s2 ⟨j, R2, rfl, hja, hji, rfl, hL2, hR2, hK2, hU2⟩ nx2 hnx2
    have q1 : d2 < R2.length := by omega
    have q2 : d2 - 1 < R2.length := by omega
    by_cases hj : a < d2
    · have hgt : (d2 : Int) > (a : Int) := by omega
      have hwj : IntKind.i64.wrap ((d2 : Int) - 1) = ((d2 - 1 : Nat) : Int) := by rw [wrap_i64 (by omega) (by omega)]; omega
      obtain ⟨z, h66, hz⟩ := c66 (n := n) (s := s2) R2[d2] R2[d2 - 1]
      have h66 := oneS h66
      cases hlb : lbL R2[d2] R2[d2 - 1] with
      | true =>
        rw [hlb] at hz
        have st1 := str_ R2[d2 - 1] hL2 q1
        have st2 : storeD Try.prog (putD s2 id (.row (rowL (R2.set d2 R2[d2 - 1])))) 106 (.pointer (some ⟨id, (d2 - 1) * 2, none⟩)) (.agg (lab R2[d2]).toArray) = some (putD (putD s2 id (.row (rowL (R2.set d2 R2[d2 - 1])))) id (.row (rowL (swp R2 d2 q1 q2)))) := str_ R2[d2] (get_put_same _) (by rw [List.length_set]; exact q2)
        simp only [f159_l1, o_bool, o_alloc, o_box, o_build, o_buildSlice, o_load, o_store, o_nilCheck, o_bop, o_uop, o_conv, o_slc, o_fieldAddr, o_field, o_indexAddr, o_index, o_extract, o_lookup, o_mapUpdate, o_makeSlice, o_clear, o_makeMap, o_mapEntry, o_entryStore, o_delete, o_len, o_append, o_min, o_max, o_tgt, bindS, many1, jnE, boolS, gdB, fst', snd', bop_gtr, hgt, decide_true, condT, ix22 (show d2 < k by omega), ldr hL2 q1, b_sub, hwj, ix22 (show d2 - 1 < k by omega), ldr hL2 q2, tg66, h66, bop_lss, hz, st1, st2]
        exact hnx2 (d2 - 1) _ _ (by omega) ⟨d2 - 1, swp R2 d2 q1 q2, rfl, by omega, by omega, rfl, get_put_same _, by rw [swp_len, hR2], hK i d2 R2 q1 q2 hj hji hib hR2 hK2 hlb, (hU2.put _).put _⟩
      | false =>
        rw [hlb] at hz
        simp only [f159_l1, o_bool, o_alloc, o_box, o_build, o_buildSlice, o_load, o_store, o_nilCheck, o_bop, o_uop, o_conv, o_slc, o_fieldAddr, o_field, o_indexAddr, o_index, o_extract, o_lookup, o_mapUpdate, o_makeSlice, o_clear, o_makeMap, o_mapEntry, o_entryStore, o_delete, o_len, o_append, o_min, o_max, o_tgt, bindS, many1, jnE, boolS, gdB, fst', snd', bop_gtr, hgt, decide_true, condT, ix22 (show d2 < k by omega), ldr hL2 q1, b_sub, hwj, ix22 (show d2 - 1 < k by omega), ldr hL2 q2, tg66, h66, bop_lss, hz, condF, beq_yes, bop_add, hwi]
        exact hnx (b - (i + 1)) (_, _) _ (by omega) ⟨i + 1, R2, rfl, by omega, .inl hib, rfl, hL2, hR2, hKJ i d2 R2 q1 q2 hja hji hib hR2 hK2 (.inr hlb), hU2⟩
    · have hngt : ¬ (d2 : Int) > (a : Int) := by omega
      simp only [f159_l1, o_bool, o_alloc, o_box, o_build, o_buildSlice, o_load, o_store, o_nilCheck, o_bop, o_uop, o_conv, o_slc, o_fieldAddr, o_field, o_indexAddr, o_index, o_extract, o_lookup, o_mapUpdate, o_makeSlice, o_clear, o_makeMap, o_mapEntry, o_entryStore, o_delete, o_len, o_append, o_min, o_max, o_tgt, bindS, many1, jnE, boolS, gdB, fst', snd', bop_gtr, hngt, decide_false, condF, beq_yes, condT, bop_add, hwi]
      exact hnx (b - (i + 1)) (_, _) _ (by omega) ⟨i + 1, R2, rfl, by omega, .inl hib, rfl, hL2, hR2, hKJ i d2 R2 q1 q2 hja hji hib hR2 hK2 (.inl (by omega)), hU2⟩
  · have hnlt : ¬ (i : Int) < (b : Int) := by omega
    simp only [f159_l0, o_bool, o_alloc, o_box, o_build, o_buildSlice, o_load, o_store, o_nilCheck, o_bop, o_uop, o_conv, o_slc, o_fieldAddr, o_field, o_indexAddr, o_index, o_extract, o_lookup, o_mapUpdate, o_makeSlice, o_clear, o_makeMap, o_mapEntry, o_entryStore, o_delete, o_len, o_append, o_min, o_max, o_tgt, bindS, many1, jnE, boolS, gdB, fst', snd', bop_lss, hnlt, decide_false, condF, beq_yes, condT]
    exact One.ret ⟨rfl, R, i, hL, hRl, by omega, by omega, hJ, hU⟩
/-- A label of which the texts are short. -/
def Sml (a : Lab) : Prop := a.1.size < 2 ^ 46 ∧ a.2.size < 2 ^ 46
def AllS (R : List Lab) : Prop := ∀ x ∈ R, Sml x
theorem AllS.set {R : List Lab} (h : AllS R) (i : Nat) {a : Lab} (ha : Sml a) : AllS (R.set i a) := fun x hx => by
  rcases List.mem_or_eq_of_mem_set hx with hx | rfl
  · exact h x hx
  · exact ha
theorem AllS.swp {R : List Lab} (h : AllS R) (j : Nat) (h1 : j < R.length) (h2 : j - 1 < R.length) : AllS (swp R j h1 h2) := (h.set _ (h _ (List.getElem_mem _))).set _ (h _ (List.getElem_mem _))
/-- It stays a row of so many labels. -/
theorem c159s {n id k c a b : Nat} {s : SH} {R : List Lab} (hR : R.length = k) (hk : k < 2 ^ 60) (hb : b ≤ k) (ha : a ≤ k) (hs : LR id s R) (hP : AllS R) :
    ∃ s' R', callD Try.prog AB (n + 3) (.fn 159) [rl id k c, .int .i64 (a : Int), .int .i64 (b : Int), cmpF] s = some [(.tuple #[], s')] ∧ LR id s' R' ∧ R'.length = k ∧ AllS R' ∧ Upd id s s' := by
  obtain ⟨s', R', i, e, h1, h2, _, _, h4, h3⟩ := c159 (n := n) (c := c) R hR hk hb ha hs (fun _ R => AllS R) (fun _ _ R => AllS R) hP (fun _ _ _ _ _ h => h) (fun _ j R h1 h2 _ _ _ _ h _ => h.swp j h1 h2) (fun _ _ _ _ _ _ _ _ _ h _ => h)
  exact ⟨s', R', e, h1, h2, h4, h3⟩
end Go.Proofs.Ytmhmbmogodofeaa.S
