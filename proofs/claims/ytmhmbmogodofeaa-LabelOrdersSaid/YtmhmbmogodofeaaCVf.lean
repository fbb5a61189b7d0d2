import Derived.Test.YtmhmbmogodofeaaCVe
set_option autoImplicit false
set_option linter.unusedVariables false
set_option linter.unusedSimpArgs false
set_option maxRecDepth 100000
namespace Go.Proofs.Ytmhmbmogodofeaa.S
open Go.FS Go.RowKit
attribute [local congr] bind_cg cond_cg gd_cg
theorem bread_ok {bs : List UInt8} {i : Nat} (hi : i ≤ bs.length) (h : (bread bs i).2.2 = 0) : i < (bread bs i).2.1 ∧ (bread bs i).2.1 ≤ bs.length ∧ (bread bs i).1.length ≤ 65536 ∧ (bs.take (bread bs i).2.1).drop i = vput (bread bs i).1.length ++ (bread bs i).1 := by
  have hok := vread_ok (bs := bs) (i := i) hi
  unfold bread at h ⊢
  generalize vread bs i = r at h hok
  obtain ⟨x, j, e⟩ := r
  simp only at h hok ⊢
  by_cases he : e = 0
  · subst he
    obtain ⟨y, rfl, h2, h3, h4, h5⟩ := hok rfl
    by_cases h6 : 65536 < x
    · simp only [ne_eq, not_true_eq_false, if_false, h6, if_true] at h; exact absurd h (by decide)
    · by_cases h7 : bs.length - j < x
      · simp only [ne_eq, not_true_eq_false, if_false, h6, h7, if_true] at h; exact absurd h (by decide)
      · simp only [ne_eq, not_true_eq_false, if_false, h6, h7]
        have hl : ((bs.take (j + x)).drop j).length = x := by rw [List.length_drop, List.length_take]; omega
        refine ⟨by omega, by omega, by omega, ?_⟩
        rw [hl, ← h5]
        have e1 : (bs.take (j + x)).drop i = ((bs.take (j + x)).drop i).take (j - i) ++ ((bs.take (j + x)).drop i).drop (j - i) := (List.take_append_drop _ _).symm
        rw [e1, List.drop_drop]
        congr 1
        · rw [List.take_drop, List.take_take]
          congr 2
          omega
        · congr 1; omega
  · simp only [ne_eq, he, not_false_eq_true, if_true] at h
theorem bread_len (bs : List UInt8) (i : Nat) : (bread bs i).1.length ≤ bs.length := by
  unfold bread
  generalize vread bs i = r
  obtain ⟨x, j, e⟩ := r
  simp only
  split
  · simp
  · split
    · simp
    · split
      · simp
      · simp only [List.length_drop, List.length_take]; omega
def strB (l : List UInt8) : ByteArray := ⟨l.toArray⟩
theorem c125 {n m : Nat} {s : SH} (bs : List UInt8) (i : Nat) (hi : i ≤ bs.length) (hb : bs.length < 2 ^ 46) : ∃ s', callD Try.prog AB (n + 3) (.fn 125) [sl by' m bs, .int .i64 (i : Int)] s = some [(.tuple #[.string (strB (bread bs i).1), .int .i64 ((bread bs i).2.1 : Int), .int .i64 (bread bs i).2.2], s')] ∧ Sm s.n s s' := by
  rw [call_fn (fn := Try.f125) rfl rfl (by kernel_rfl)]
  show ∃ s', bodyD Try.prog false _ _ 125 Try.f125 _ s = _ ∧ _
  rw [f125_r]
  obtain ⟨m', s', e, hs⟩ := c137 (n := n) (m := m) (s := s) bs i hi hb
  refine ⟨s', ?_, hs⟩
  simp only [f125, o_bool, o_alloc, o_box, o_build, o_buildSlice, o_load, o_store, o_nilCheck, o_bop, o_uop, o_conv, o_slc, o_fieldAddr, o_field, o_indexAddr, o_index, o_extract, o_lookup, o_mapUpdate, o_makeMap, o_mapEntry, o_entryStore, o_delete, o_len, o_append, o_min, o_max, o_tgt, bindS, many1, jnE, boolS, gdB, fst', snd', e, tupB, (ext3 _ _ _).1, (ext3 _ _ _).2.1, (ext3 _ _ _).2.2, conv_bs]
  rfl
/-- A label read. -/
def oread (bs : List UInt8) (i : Nat) : Lab × Nat × Int :=
  if (bread bs i).2.2 ≠ 0 then (lz, 0, (bread bs i).2.2) else
    ((strB (bread bs i).1, strB (bread bs (bread bs i).2.1).1), (bread bs (bread bs i).2.1).2.1, (bread bs (bread bs i).2.1).2.2)
theorem bld106 (a b : ByteArray) : buildD Try.prog 106 [(0, .string a), (1, .string b)] = some (.agg (lab (a, b)).toArray) := by kernel_rfl
theorem bld106_0 : buildD Try.prog 106 [] = some (.agg (lab lz).toArray) := by kernel_rfl
theorem c75 {n m : Nat} {s : SH} (bs : List UInt8) (i : Nat) (hi : i ≤ bs.length) (hb : bs.length < 2 ^ 46) : ∃ s', callD Try.prog AB (n + 4) (.fn 75) [sl by' m bs, .int .i64 (i : Int)] s = some [(.tuple #[.agg (lab (oread bs i).1).toArray, .int .i64 ((oread bs i).2.1 : Int), .int .i64 (oread bs i).2.2], s')] ∧ Sm s.n s s' := by
  rw [call_fn (fn := Try.f75) rfl rfl (by kernel_rfl)]
  show ∃ s', bodyD Try.prog false _ _ 75 Try.f75 _ s = _ ∧ _
  rw [f75_r]
  obtain ⟨s1, e1, h1⟩ := c125 (n := n) (m := m) (s := newD s (.row (lab lz))) bs i hi hb
  have g1 : HP.get s1.h s.n = some (.row (lab lz)) := by rw [h1.2 _ (by rw [newD_n]; omega), get_new rfl]
  have hs1 : Sm s.n s s1 := ((Sm.refl s.n s).new (Nat.le_refl _) _).trans (Sm.weak h1 (by rw [newD_n]; omega))
  unfold oread
  by_cases he : (bread bs i).2.2 = 0
  · have hok := bread_ok hi he
    obtain ⟨s2, e2, h2⟩ := c125 (n := n) (m := m) (s := s1) bs (bread bs i).2.1 hok.2.1 hb
    have g2 : HP.get s2.h s.n = some (.row (lab lz)) := by rw [h2.2 _ (by have := h1.1; rw [newD_n] at this; omega), g1]
    have hd : decide ((bread bs i).2.2 = 0) = true := decide_eq_true he
    simp only [f75, o_bool, o_alloc, o_box, o_build, o_buildSlice, o_load, o_store, o_nilCheck, o_bop, o_uop, o_conv, o_slc, o_fieldAddr, o_field, o_indexAddr, o_index, o_extract, o_lookup, o_mapUpdate, o_makeMap, o_mapEntry, o_entryStore, o_delete, o_len, o_append, o_min, o_max, o_tgt, bindS, many1, jnE, boolS, gdB, fst', snd', al106, e1, (ext3 _ _ _).1, (ext3 _ _ _).2.1, (ext3 _ _ _).2.2, b_neq, hd, Bool.not_true, condF, e2, bld106, st106 g2, ld106 (get_put_same (H := HP) _)]
    refine ⟨_, by rw [if_neg (fun h => h he)], ?_⟩
    exact (hs1.trans (Sm.weak h2 hs1.1)).put (Nat.le_refl _) _
  · have hd : decide ((bread bs i).2.2 = 0) = false := decide_eq_false he
    simp only [f75, o_bool, o_alloc, o_box, o_build, o_buildSlice, o_load, o_store, o_nilCheck, o_bop, o_uop, o_conv, o_slc, o_fieldAddr, o_field, o_indexAddr, o_index, o_extract, o_lookup, o_mapUpdate, o_makeMap, o_mapEntry, o_entryStore, o_delete, o_len, o_append, o_min, o_max, o_tgt, bindS, many1, jnE, boolS, gdB, fst', snd', al106, e1, (ext3 _ _ _).1, (ext3 _ _ _).2.1, (ext3 _ _ _).2.2, b_neq, hd, Bool.not_false, condT, bld106_0, st106 g1, ld106 (get_put_same (H := HP) _)]
    exact ⟨_, by rw [if_pos he]; rfl, hs1.put (Nat.le_refl _) _⟩
/-- So many labels read. -/
def lgo (bs : List UInt8) : Nat → Nat → List Lab → Except Int (List Lab × Nat)
  | 0, i, acc => .ok (acc, i)
  | k + 1, i, acc => if (oread bs i).2.2 ≠ 0 then .error (oread bs i).2.2 else lgo bs k (oread bs i).2.1 (acc ++ [(oread bs i).1])
theorem lgo_succ (bs : List UInt8) (k i : Nat) (acc : List Lab) : lgo bs (k + 1) i acc = if (oread bs i).2.2 ≠ 0 then .error (oread bs i).2.2 else lgo bs k (oread bs i).2.1 (acc ++ [(oread bs i).1]) := rfl
/-- A set read. -/
def lread (bs : List UInt8) (i : Nat) : List Lab × Nat × Int :=
  if (vread bs i).2.2 ≠ 0 then ([], 0, (vread bs i).2.2) else if 16 < (vread bs i).1 then ([], 0, 40) else
    match lgo bs (vread bs i).1 (vread bs i).2.1 [] with
    | .error e => ([], 0, e)
    | .ok (l, k) => if okL l then (l, k, 0) else ([], 0, 40)
theorem oread_ok {bs : List UInt8} {i : Nat} (hi : i ≤ bs.length) (h : (oread bs i).2.2 = 0) : i < (oread bs i).2.1 ∧ (oread bs i).2.1 ≤ bs.length ∧ (oread bs i).1.1.size ≤ 65536 ∧ (oread bs i).1.2.size ≤ 65536 ∧ (bs.take (oread bs i).2.1).drop i = labB (oread bs i).1 := by
  unfold oread at h ⊢
  by_cases he : (bread bs i).2.2 = 0
  · have hn : ¬ (bread bs i).2.2 ≠ 0 := fun h => h he
    rw [if_neg hn] at h ⊢
    obtain ⟨a1, a2, a3, a4⟩ := bread_ok hi he
    simp only at h ⊢
    obtain ⟨b1, b2, b3, b4⟩ := bread_ok a2 h
    refine ⟨by omega, b2, ?_, ?_, ?_⟩
    · show (bread bs i).1.toArray.size ≤ _; rw [List.size_toArray]; exact a3
    · show (bread bs _).1.toArray.size ≤ _; rw [List.size_toArray]; exact b3
    · have e1 : (bs.take (bread bs (bread bs i).2.1).2.1).drop i = (bs.take (bread bs i).2.1).drop i ++ (bs.take (bread bs (bread bs i).2.1).2.1).drop (bread bs i).2.1 := by
        rw [← List.take_append_drop ((bread bs i).2.1 - i) ((bs.take (bread bs (bread bs i).2.1).2.1).drop i), List.drop_drop]
        congr 1
        · rw [List.take_drop, List.take_take]
          congr 2; omega
        · congr 1; omega
      rw [e1, a4, b4]
      unfold labB strB
      have z1 : ∀ l : List UInt8, (⟨l.toArray⟩ : ByteArray).size = l.length := fun l => List.size_toArray
      have z2 : ∀ l : List UInt8, (⟨l.toArray⟩ : ByteArray).data.toList = l := fun l => by simp
      rw [z1, z1, z2, z2]
  · rw [if_pos he] at h
    exact absurd h he
theorem gapp23 {lo : Nat} {s : SH} {v : Value} {m2 : Nat} {xs ys : List Lab} (h : Grow lo 2 lab s v xs) (hlo : lo ≤ s.n) (hb : (xs.length + ys.length) * 32 ≤ 140737488355328) :
    ∃ v' s', appD Try.prog false s 23 23 v (sl lab m2 ys) = some (v', s') ∧ Grow lo 2 lab s' v' (xs ++ ys) ∧ Sm lo s s' ∧ (∀ j, j < s.n → HP.get s.h j ≠ some (.tok xs.length 2) → HP.get s'.h j = HP.get s.h j) :=
  h.app (i := Try.t106) hlo u23 u23 (by kernel_rfl) zr106 rfl (by kernel_rfl) (by kernel_rfl) (by decide) lab_len hb (by omega)
theorem bs23 (s : SH) (y : Lab) : buildSliceD Try.prog false s 23 1 [(0, .agg (lab y).toArray)] = some (sl lab 1 [y], s) := by kernel_rfl
def tupL (m : Nat) (r : List Lab × Nat × Int) : Value := .tuple #[sl lab m r.1, .int .i64 (r.2.1 : Int), .int .i64 r.2.2]
theorem c25 {n m : Nat} {s : SH} (bs : List UInt8) (i : Nat) (hi : i ≤ bs.length) (hb : bs.length < 2 ^ 46) : ∃ m' s', callD Try.prog AB (n + 5) (.fn 25) [sl by' m bs, .int .i64 (i : Int)] s = some [(tupL m' (lread bs i), s')] ∧ Sm s.n s s' := by
  rw [call_fn (fn := Try.f25) rfl rfl (by kernel_rfl)]
  suffices h : One (bodyD Try.prog false (callD Try.prog AB (n + 4)) AB.N 25 Try.f25 [sl by' m bs, .int .i64 (i : Int)] s) fun w s' => (∃ m', w = tupL m' (lread bs i)) ∧ Sm s.n s s' by
    obtain ⟨w, s', e, ⟨m', rfl⟩, h2⟩ := h
    exact ⟨m', s', e, h2⟩
  rw [f25_r]
  have h74 := c74 (n := n + 3) (m := m) (s := s) bs i hi (by omega)
  have hok := vread_ok (bs := bs) (i := i) hi
  unfold lread
  generalize vread bs i = r at h74 hok
  obtain ⟨x, j, e⟩ := r
  simp only at hok
  have t : tup3 (x, j, e) = .tuple #[.int .u64 (x : Int), .int .i64 (j : Int), .int .i64 e] := rfl
  rw [t] at h74
  by_cases he : e = 0
  case neg =>
    simp only [f25, o_bool, o_alloc, o_box, o_build, o_buildSlice, o_load, o_store, o_nilCheck, o_bop, o_uop, o_conv, o_slc, o_fieldAddr, o_field, o_indexAddr, o_index, o_extract, o_lookup, o_mapUpdate, o_makeMap, o_mapEntry, o_entryStore, o_delete, o_len, o_append, o_min, o_max, o_tgt, bindS, many1, jnE, boolS, gdB, fst', snd', h74, (ext3 _ _ _).1, (ext3 _ _ _).2.1, (ext3 _ _ _).2.2, b_neq, he, decide_false, Bool.not_false, condT]
    exact One.ret ⟨⟨2, by simp only [ne_eq, he, not_false_eq_true, if_true]; rfl⟩, .refl _ _⟩
  subst he
  obtain ⟨y, rfl, hx, hj, hjl, _⟩ := hok rfl
  by_cases h16 : 16 < x
  · have h16' : (x : Int) > 16 := by omega
    simp only [f25, o_bool, o_alloc, o_box, o_build, o_buildSlice, o_load, o_store, o_nilCheck, o_bop, o_uop, o_conv, o_slc, o_fieldAddr, o_field, o_indexAddr, o_index, o_extract, o_lookup, o_mapUpdate, o_makeMap, o_mapEntry, o_entryStore, o_delete, o_len, o_append, o_min, o_max, o_tgt, bindS, many1, jnE, boolS, gdB, fst', snd', h74, (ext3 _ _ _).1, (ext3 _ _ _).2.1, (ext3 _ _ _).2.2, b_neq, decide_true, Bool.not_true, condF, bop_gtr, h16', condT]
    exact One.ret ⟨⟨2, by simp only [ne_eq, not_true_eq_false, if_false, h16, if_true]; rfl⟩, .refl _ _⟩
  have h16' : ¬ ((x : Int) > 16) := by omega
  have hwx : IntKind.i64.wrap (x : Int) = (x : Int) := wrap_i64 (by omega) (by omega)
  simp only [f25, o_bool, o_alloc, o_box, o_build, o_buildSlice, o_load, o_store, o_nilCheck, o_bop, o_uop, o_conv, o_slc, o_fieldAddr, o_field, o_indexAddr, o_index, o_extract, o_lookup, o_mapUpdate, o_makeMap, o_mapEntry, o_entryStore, o_delete, o_len, o_append, o_min, o_max, o_tgt, bindS, many1, jnE, boolS, gdB, fst', snd', h74, (ext3 _ _ _).1, (ext3 _ _ _).2.1, (ext3 _ _ _).2.2, b_neq, decide_true, Bool.not_true, condF, bop_gtr, h16', decide_false, conv_int u70 u3, hwx, ne_eq, not_true_eq_false, if_false, h16, sl_nil lab]
  refine list_one (List.replicate x ()) (fun k (z : Value × Value × Value × Value × Value × Value × Value × Value) (s' : SH) => z.2.2.2.2.2.2.2 = .int .i64 k ∧ Sm s.n s s' ∧ ∃ (p : Nat) (acc : List Lab), z.1 = .int .i64 (p : Int) ∧ p ≤ bs.length ∧ Grow s.n 2 lab s' z.2.2.2.2.1 acc ∧ acc.length = k ∧ (∀ a ∈ acc, a.1.size < 2 ^ 46 ∧ a.2.size < 2 ^ 46) ∧ lgo bs x j [] = lgo bs (x - k) p acc) ?_ ?_ ⟨rfl, .refl _ _, j, [], rfl, hjl, .inl ⟨rfl, .inl rfl⟩, rfl, (fun a ha => absurd ha List.not_mem_nil), rfl⟩ (by show (List.replicate x ()).length < 2 ^ 64; rw [List.length_replicate]; omega)
  · rintro k hk ⟨z1, z2, z3, z4, z5, z6, z7, z8⟩ s' ⟨g1, hsm, p, acc, g2, g3, g4, g5, g6, g7⟩ nx hnx
    simp only at g1 g2 g4
    subst g1 g2
    rw [List.length_replicate] at hk
    have hlt : (k : Int) < (x : Int) := by omega
    have hw : IntKind.i64.wrap ((k : Int) + 1) = ((k + 1 : Nat) : Int) := by rw [wrap_i64 (by omega) (by omega)]; rfl
    obtain ⟨s1, e1, hs1⟩ := c75 (n := n) (m := m) (s := s') bs p g3 hb
    have hst : ∀ a : Lab, storeD Try.prog (newD s1 (.row (lab lz))) 106 (.pointer (some ⟨s1.n, 0, none⟩)) (.agg (lab a).toArray) = some (putD (newD s1 (.row (lab lz))) s1.n (.row (lab a))) := fun a => st106 (get_new rfl)
    have hxk : x - k = (x - (k + 1)) + 1 := by omega
    rw [hxk] at g7
    rw [lgo_succ] at g7
    have hsm1 : Sm s.n s s1 := hsm.trans (Sm.weak hs1 hsm.1)
    have hor := oread_ok (bs := bs) (i := p) g3
    simp only [f25_l0, o_bool, o_alloc, o_box, o_build, o_buildSlice, o_load, o_store, o_nilCheck, o_bop, o_uop, o_conv, o_slc, o_fieldAddr, o_field, o_indexAddr, o_index, o_extract, o_lookup, o_mapUpdate, o_makeMap, o_mapEntry, o_entryStore, o_delete, o_len, o_append, o_min, o_max, o_tgt, bindS, many1, jnE, boolS, gdB, fst', snd', bop_lss, hlt, decide_true, condT, e1, (ext3 _ _ _).1, (ext3 _ _ _).2.1, (ext3 _ _ _).2.2, al106, hst, b_neq]
    generalize oread bs p = o at g7 hor
    obtain ⟨a, q, e⟩ := o
    simp only at g7 hor ⊢
    have ha : HP.get (putD (newD s1 (.row (lab lz))) s1.n (.row (lab a))).h s1.n = some (.row (lab a)) := get_put_same _
    have hsm2 : Sm s.n s (putD (newD s1 (.row (lab lz))) s1.n (.row (lab a))) := (hsm1.new (by have := hsm1.1; omega) _).put (by have := hsm1.1; omega) _
    have hg2 : Grow s.n 2 lab (putD (newD s1 (.row (lab lz))) s1.n (.row (lab a))) z5 acc := ((g4.mono hs1.1 fun j' _ hj' _ => hs1.2 j' hj').new _).put _ (by rw [get_new rfl]; intro h; cases h)
    generalize putD (newD s1 (.row (lab lz))) s1.n (.row (lab a)) = s2 at ha hsm2 hg2
    by_cases he : e = 0
    · subst he
      obtain ⟨o1, o2, o3, o4, _⟩ := hor rfl
      obtain ⟨v', s3, e3, w1, w2, w3⟩ := gapp23 (m2 := 1) (ys := [a]) hg2 hsm2.1 (by rw [g5]; simp only [List.length_singleton]; omega)
      simp only [decide_true, Bool.not_true, condF, ld106 ha, o_bool, o_alloc, o_box, o_build, o_buildSlice, o_load, o_store, o_nilCheck, o_bop, o_uop, o_conv, o_slc, o_fieldAddr, o_field, o_indexAddr, o_index, o_extract, o_lookup, o_mapUpdate, o_makeMap, o_mapEntry, o_entryStore, o_delete, o_len, o_append, o_min, o_max, o_tgt, bindS, many1, jnE, boolS, gdB, fst', snd', bs23, e3, bop_add, hw]
      refine hnx (_, _, _, _, _, _, _, _) _ ⟨rfl, hsm2.trans w2, q, acc ++ [a], rfl, o2, w1, by simp [g5], ?_, ?_⟩
      · intro b hb'
        rcases List.mem_append.1 hb' with hb' | hb'
        · exact g6 b hb'
        · rw [List.mem_singleton.1 hb']; omega
      · rw [g7]; rfl
    · simp only [he, decide_false, Bool.not_false, condT]
      refine One.ret ⟨⟨2, ?_⟩, hsm2⟩
      rw [g7]
      simp only [ne_eq, he, not_false_eq_true, if_true]
      rfl
  · rintro ⟨z1, z2, z3, z4, z5, z6, z7, z8⟩ s' ⟨g1, hsm, p, acc, g2, g3, g4, g5, g6, g7⟩ nx
    simp only at g1 g2 g4
    subst g1 g2
    rw [List.length_replicate] at g5 g7 ⊢
    have hnlt : ¬ ((x : Int) < (x : Int)) := by omega
    rw [Nat.sub_self] at g7
    obtain ⟨mm, rfl⟩ := Grow.form g4
    have h22 := c22 (n := n + 1) (m := mm) (s := s') acc ⟨by omega, g6⟩
    simp only [f25_l0, o_bool, o_alloc, o_box, o_build, o_buildSlice, o_load, o_store, o_nilCheck, o_bop, o_uop, o_conv, o_slc, o_fieldAddr, o_field, o_indexAddr, o_index, o_extract, o_lookup, o_mapUpdate, o_makeMap, o_mapEntry, o_entryStore, o_delete, o_len, o_append, o_min, o_max, o_tgt, bindS, many1, jnE, boolS, gdB, fst', snd', bop_lss, hnlt, decide_false, condF, beq_yes, condT, h22, b_neq]
    rw [g7]
    simp only [lgo]
    by_cases ho : okL acc = true
    · have h00 : decide ((0 : Int) = 0) = true := by decide
      simp only [ho, if_true, h00, decide_true, Bool.not_true, condF]
      exact One.ret ⟨⟨mm, rfl⟩, hsm⟩
    · have h40 : decide ((40 : Int) = 0) = false := by decide
      have ho' : okL acc = false := by simpa using ho
      simp only [ho', Bool.false_eq_true, if_false, h40, Bool.not_false, condT]
      exact One.ret ⟨⟨2, rfl⟩, hsm⟩
end Go.Proofs.Ytmhmbmogodofeaa.S
