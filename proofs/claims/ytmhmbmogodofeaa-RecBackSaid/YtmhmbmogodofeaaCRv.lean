import Derived.Test.YtmhmbmogodofeaaCRs
import Derived.Test.YtmhmbmogodofeaaSC
set_option autoImplicit false
set_option linter.unusedVariables false
set_option linter.unusedSimpArgs false
set_option maxRecDepth 100000
namespace Go.Proofs.Ytmhmbmogodofeaa.S
open Go.FS Go.RowKit
attribute [local congr] bind_cg cond_cg gd_cg
theorem c42 {n : Nat} {s : SH} : callD Try.prog AB (n + 1) (.fn 42) [] s = some [(.bool true, s)] := by
  rw [call_i (i := yes) rfl]; rfl
theorem few_wf {r r' : RecD} (h : FewR r r') (hN : ∀ a ∈ r.new, U64 a.1) (hI : ∀ x ∈ r.ids, U64 x) (hP : ∀ p ∈ r.pts, U64 p.1 ∧ U64 p.2.2) (hn : U64 r.n) : WfR r' := by
  have hs := few_small h
  obtain ⟨h1, h2, h3, h4, h5, h6⟩ := h
  have m : ∀ a ∈ r'.new, ∃ b ∈ r.new, fewN (nk b) = nk a := fun a ha => by
    have : nk a ∈ r'.new.map nk := List.mem_map_of_mem ha
    rw [h4] at this
    obtain ⟨b, hb, e⟩ := List.mem_map.1 this
    exact ⟨b, List.mem_of_mem_take hb, e⟩
  refine ⟨hs, fun a ha => ?_, fun a ha => ?_, fun x hx => ?_, fun p hp => ?_, by rw [h3]; exact hn⟩
  · obtain ⟨b, hb, e⟩ := m a ha
    have e2 : ((b.2.2.take 18).map fewL) = a.2.2 := congrArg (fun p : Int × List Lab => p.2) e
    rw [← e2]
    refine ⟨by rw [List.length_map, List.length_take]; omega, fun l hl => ?_⟩
    obtain ⟨l0, _, rfl⟩ := List.mem_map.1 hl
    show (cutB l0.1 70).size < _ ∧ (cutB l0.2 260).size < _
    rw [cutB_size, cutB_size]; omega
  · obtain ⟨b, hb, e⟩ := m a ha
    have e2 : b.1 = a.1 := congrArg (fun p : Int × List Lab => p.1) e
    rw [← e2]; exact hN b hb
  · rw [h6] at hx; exact hI x (List.mem_of_mem_take hx)
  · rw [h5] at hp
    unfold fewP at hp
    split at hp <;> exact hP p (List.mem_of_mem_take hp)
theorem nm_nk : ∀ {l l' : List Nm} {last : Int}, l.map nk = l'.map nk → nmGo last l = nmGo last l'
  | [], [], _, _ => rfl
  | [], b :: l', _, h => by cases h
  | a :: l, [], _, h => by cases h
  | a :: l, b :: l', last, h => by
    rw [List.map_cons, List.map_cons] at h
    injection h with h1 h2
    have e1 : a.1 = b.1 := congrArg (fun p : Int × List Lab => p.1) h1
    have e2 : a.2.2 = b.2.2 := congrArg (fun p : Int × List Lab => p.2) h1
    rw [nm_cons, nm_cons, e1, e2, nm_nk h2]
theorem rec_eqv {x y : RecD} (h : Eqv x y) : recB x = recB y := by
  obtain ⟨h1, h2, h3, h4, h5, h6⟩ := h
  have l : x.new.length = y.new.length := by simpa using congrArg List.length h2
  unfold recB tailB nmB
  rw [h1, l, nm_nk h2, h3, h4, h5, h6]
theorem same_eqv {x y : RecD} (h : Eqv x y) : sameR x y = true := by
  obtain ⟨h1, h2, h3, h4, h5, h6⟩ := h
  unfold sameR
  rw [decide_eq_true h1, decide_eq_true h5, decide_eq_true h6, decide_eq_true h2, decide_eq_true h3, decide_eq_true h4]; rfl
theorem c26 {n m m' : Nat} {s : SH} (a : List UInt8) : callD Try.prog AB (n + 1) (.fn 26) [sl by' m a, sl by' m' a] s = some [(.bool true, s)] := by
  refine cut_call (fn := Try.f26) rfl rfl (by kernel_rfl) (v := .bool true) (fun _ h => by cases h) (.bool _) ?_
  show One (bodyD Try.prog false _ _ 26 Try.f26 _ s) _
  rw [f26_r]
  have e : bopD Try.prog .eql 9 (.string ⟨a.toArray⟩) (.string ⟨a.toArray⟩) = some (.bool ((⟨a.toArray⟩ : ByteArray).toList == (⟨a.toArray⟩ : ByteArray).toList)) := rfl
  simp only [f26, o_bool, o_alloc, o_box, o_build, o_buildSlice, o_load, o_store, o_nilCheck, o_bop, o_uop, o_conv, o_slc, o_fieldAddr, o_field, o_indexAddr, o_index, o_extract, o_lookup, o_mapUpdate, o_makeMap, o_mapEntry, o_entryStore, o_delete, o_len, o_append, o_min, o_max, o_tgt, bindS, many1, jnE, boolS, gdB, fst', snd', conv_bs, e, beq_self_eq_true]
  exact One.ret ⟨rfl, .refl s⟩
theorem c20 {n : Nat} {s : SH} (a : Int) (L : Nat) (h0 : 1 ≤ L) (h1 : L < 2 ^ 46) : ∃ j : Nat, j < L ∧ callD Try.prog AB (n + 1) (.fn 20) [.int .i64 a, .int .i64 (L : Int)] s = some [(.int .i64 (j : Int), s)] := by
  have ha : IntKind.u64.wrap a = a % 18446744073709551616 := by rw [wrap_us rfl]; rfl
  have hl : IntKind.u64.wrap (L : Int) = (L : Int) := wrap_u64 (by omega) (by omega)
  have hm0 : 0 ≤ a % 18446744073709551616 := by omega
  have ht : (a % 18446744073709551616).tmod (L : Int) = (a % 18446744073709551616) % (L : Int) := Int.tmod_eq_emod_of_nonneg hm0
  have b1 : 0 ≤ (a % 18446744073709551616) % (L : Int) := Int.emod_nonneg _ (by omega)
  have b2 : (a % 18446744073709551616) % (L : Int) < (L : Int) := Int.emod_lt_of_pos _ (by omega)
  refine ⟨((a % 18446744073709551616) % (L : Int)).toNat, by omega, ?_⟩
  have hj : ((((a % 18446744073709551616) % (L : Int)).toNat : Nat) : Int) = (a % 18446744073709551616) % (L : Int) := Int.toNat_of_nonneg b1
  rw [call_fn (fn := Try.f20) rfl rfl (by kernel_rfl)]
  show bodyD Try.prog false _ _ 20 Try.f20 _ s = _
  rw [f20_r]
  have hng : ¬ ((L : Int) < 1) := by omega
  have hw : IntKind.i64.wrap ((a % 18446744073709551616) % (L : Int)) = (a % 18446744073709551616) % (L : Int) := wrap_i64 (by omega) (by omega)
  simp only [f20, o_bool, o_alloc, o_box, o_build, o_buildSlice, o_load, o_store, o_nilCheck, o_bop, o_uop, o_conv, o_slc, o_fieldAddr, o_field, o_indexAddr, o_index, o_extract, o_lookup, o_mapUpdate, o_makeMap, o_mapEntry, o_entryStore, o_delete, o_len, o_append, o_min, o_max, o_tgt, bindS, many1, jnE, boolS, gdB, fst', snd', bop_lss, hng, decide_false, condF, conv_int u3 u70, conv_int u70 u3, ha, hl, b_rem 70 .u64 _ (L : Int) (show (L : Int) ≠ 0 by omega), ht, hw, hj]
theorem tk {α : Type} (l : List α) : l.take (min l.length 2000) = l.take 2000 := by
  by_cases h : 2000 ≤ l.length
  · rw [Nat.min_eq_right h]
  · rw [Nat.min_eq_left (by omega), List.take_length, List.take_of_length_le (by omega)]
theorem run13 {n : Nat} (s : SH) (r : RecD) (k : Int) (hN : ∀ a ∈ r.new, U64 a.1) (hI : ∀ x ∈ r.ids, U64 x) (hP : ∀ p ∈ r.pts, U64 p.1 ∧ U64 p.2.2) (hn : U64 r.n) : ∃ s', callD Try.prog AB (n + 13) (.fn 13) [.agg (enR r).toArray, .int .i64 k] s = some [(.bool true, s')] := by
  rw [call_fn (fn := Try.f13) rfl rfl (by kernel_rfl)]
  show ∃ s', bodyD Try.prog false _ _ 13 Try.f13 _ s = _
  rw [f13_r]
  have g1 : HP.get (newD s (.row (enR r))).h s.n = some (.row (enR r)) := get_new rfl
  obtain ⟨ra, fa, ea⟩ := c39 (n := n + 11) (s := newD s (.row (enR r))) r
  have wa := few_wf fa hN hI hP hn
  obtain ⟨m, s1, e1, h1⟩ := c43 (n := n + 2) (s := newD s (.row (enR r))) ra wa
  have c42' := c42 (n := n + 11) (s := newD s (.row (enR r)))
  simp only [f13, o_bool, o_alloc, o_box, o_build, o_buildSlice, o_load, o_store, o_nilCheck, o_bop, o_uop, o_conv, o_slc, o_fieldAddr, o_field, o_indexAddr, o_index, o_extract, o_lookup, o_mapUpdate, o_makeMap, o_mapEntry, o_entryStore, o_delete, o_len, o_append, o_min, o_max, o_tgt, bindS, many1, jnE, boolS, gdB, fst', snd', bx_r, c42', uop_not, Bool.not_true, condF, lr g1, ea, e1, (ext2 _ _).1, (ext2 _ _).2, b_neq, len_sl u35]
  unfold putV
  by_cases hc : checkR ra = true
  · by_cases hl : 65536 < (recB ra).length
    · have n3 : ¬ ((3 : Int) = 0) := by decide
      simp only [hc, hl, if_true, n3, decide_false, Bool.not_false, condT, o_bool, o_alloc, o_box, o_build, o_buildSlice, o_load, o_store, o_nilCheck, o_bop, o_uop, o_conv, o_slc, o_fieldAddr, o_field, o_indexAddr, o_index, o_extract, o_lookup, o_mapUpdate, o_makeMap, o_mapEntry, o_entryStore, o_delete, o_len, o_append, o_min, o_max, o_tgt, bindS, many1, jnE, boolS, gdB, fst', snd', bop_eql]
      exact ⟨_, rfl⟩
    · simp only [hc, hl, if_true, if_false, decide_true, Bool.not_true, condF]
      have hlen : 1 ≤ (recB ra).length := by unfold recB; rw [List.length_cons]; omega
      obtain ⟨j, hj, e20⟩ := c20 (n := n + 11) (s := s1) k (recB ra).length hlen (by omega)
      have hsl : slcD Try.prog s1 35 (sl by' m (recB ra)) none (some (.int .i64 (j : Int))) none = some (sl by' (bif Nat.beq m 2 then 2 else 0) ((recB ra).take j)) := slc_sl u35 z5 by_len (by omega)
      have htl : ((recB ra).take j).length < 2 ^ 46 := by rw [List.length_take]; omega
      obtain ⟨x, s2, e44, ev, h2⟩ := c44 (n := n + 1) (m := bif Nat.beq m 2 then 2 else 0) (s := s1) ((recB ra).take j) htl
      have hne := read_cut hc wa hj
      simp only [e20, o_bool, o_alloc, o_box, o_build, o_buildSlice, o_load, o_store, o_nilCheck, o_bop, o_uop, o_conv, o_slc, o_fieldAddr, o_field, o_indexAddr, o_index, o_extract, o_lookup, o_mapUpdate, o_makeMap, o_mapEntry, o_entryStore, o_delete, o_len, o_append, o_min, o_max, o_tgt, bindS, many1, jnE, boolS, gdB, fst', snd', hsl, e44, (ext2 _ _).1, (ext2 _ _).2, al72, sr (get_new (H := HP) rfl), b_neq, decide_eq_false hne, Bool.not_false]
      exact ⟨_, rfl⟩
  · have hc' : checkR ra = false := by simpa using hc
    have n190 : ¬ ((190 : Int) = 0) := by decide
    simp only [hc', Bool.false_eq_true, if_false, n190, decide_false, Bool.not_false, condT, o_bool, o_alloc, o_box, o_build, o_buildSlice, o_load, o_store, o_nilCheck, o_bop, o_uop, o_conv, o_slc, o_fieldAddr, o_field, o_indexAddr, o_index, o_extract, o_lookup, o_mapUpdate, o_makeMap, o_mapEntry, o_entryStore, o_delete, o_len, o_append, o_min, o_max, o_tgt, bindS, many1, jnE, boolS, gdB, fst', snd', bop_eql]
    exact ⟨_, rfl⟩
theorem min2000 (n : Nat) : minD Try.prog (.int .i64 (n : Int)) [.int .i64 2000] = some (.int .i64 ((min n 2000 : Nat) : Int)) := min_nat .i64 n 2000
theorem rz_small : Small rz := ⟨by decide, fun a ha => absurd ha List.not_mem_nil, by decide, by decide⟩
theorem run12 {n mb : Nat} (s : SH) (r : RecD) (b : List UInt8) (hN : ∀ a ∈ r.new, U64 a.1) (hI : ∀ x ∈ r.ids, U64 x) (hP : ∀ p ∈ r.pts, U64 p.1 ∧ U64 p.2.2) (hn : U64 r.n) : ∃ s', callD Try.prog AB (n + 13) (.fn 12) [.agg (enR r).toArray, sl by' mb b] s = some [(.bool true, s')] := by
  rw [call_fn (fn := Try.f12) rfl rfl (by kernel_rfl)]
  show ∃ s', bodyD Try.prog false _ _ 12 Try.f12 _ s = _
  rw [f12_r]
  have g1 : HP.get (newD s (.row (enR r))).h s.n = some (.row (enR r)) := get_new rfl
  have hn1 : s.n < (newD s (.row (enR r))).n := by rw [newD_n]; omega
  have c42' := c42 (n := n + 11) (s := newD s (.row (enR r)))
  simp only [f12, o_bool, o_alloc, o_box, o_build, o_buildSlice, o_load, o_store, o_nilCheck, o_bop, o_uop, o_conv, o_slc, o_fieldAddr, o_field, o_indexAddr, o_index, o_extract, o_lookup, o_mapUpdate, o_makeMap, o_mapEntry, o_entryStore, o_delete, o_len, o_append, o_min, o_max, o_tgt, bindS, many1, jnE, boolS, gdB, fst', snd', bx_r, c42', uop_not, Bool.not_true, condF, lr g1]
  generalize newD s (.row (enR r)) = s0 at g1 hn1
  obtain ⟨ra, fa, ea⟩ := c39 (n := n + 11) (s := s0) r
  have ea' := oneS ea
  have wa := few_wf fa hN hI hP hn
  have hsl : slcD Try.prog s0 35 (sl by' mb b) none (some (.int .i64 ((min b.length 2000 : Nat) : Int))) none = some (sl by' (bif Nat.beq mb 2 then 2 else 0) (b.take (min b.length 2000))) := slc_sl u35 z5 by_len (Nat.min_le_left _ _)
  have g2 : HP.get (putD s0 s.n (.row (enR ra))).h s.n = some (.row (enR ra)) := get_put_same _
  have hn2 : s.n < (putD s0 s.n (.row (enR ra))).n := hn1
  simp only [ea', o_bool, o_alloc, o_box, o_build, o_buildSlice, o_load, o_store, o_nilCheck, o_bop, o_uop, o_conv, o_slc, o_fieldAddr, o_field, o_indexAddr, o_index, o_extract, o_lookup, o_mapUpdate, o_makeMap, o_mapEntry, o_entryStore, o_delete, o_len, o_append, o_min, o_max, o_tgt, bindS, many1, jnE, boolS, gdB, fst', snd', len_sl u35, min2000, hsl, sr g1, eqO_s, Bool.and_self, condT, lr g2]
  generalize putD s0 s.n (.row (enR ra)) = s1 at g2 hn2
  have hbl : (b.take (min b.length 2000)).length < 2 ^ 46 := by rw [List.length_take]; omega
  generalize b.take (min b.length 2000) = b' at hbl
  generalize (bif Nat.beq mb 2 then 2 else 0) = mb'
  have tail : ∀ (js8 : SH), ∃ s', ((callD Try.prog AB (n + 12) (.fn 44) [sl by' mb' b'] js8).bind fun L62 => manyK L62 fun v63 s64 =>
      (extractD v63 0).bind fun v65 =>
      (extractD v63 1).bind fun v66 =>
      (allocD Try.prog s64 72).bind fun p67 =>
      (storeD Try.prog p67.2 72 p67.1 v65).bind fun s68 =>
      (bopD Try.prog .neq 26 v66 (.int .i64 0)).bind fun v69 =>
      (boolD v69).bind fun b70 => cond b70 (
      (loadD Try.prog s68 72 p67.1).bind fun v71 =>
      (buildD Try.prog 72 []).bind fun v72 =>
      (callD Try.prog AB (n + 12) (.fn 41) [v71, v72] s68).bind fun L73 => manyK L73 fun v74 s75 =>
      some [(v74, s75)]) (
      (loadD Try.prog s68 72 p67.1).bind fun v76 =>
      (callD Try.prog AB (n + 12) (.fn 43) [v76] s68).bind fun L77 => manyK L77 fun v78 s79 =>
      (extractD v78 0).bind fun v80 =>
      (extractD v78 1).bind fun v81 =>
      (bopD Try.prog .eql 26 v81 (.int .i64 0)).bind fun v82 =>
      gd v82 (
      (callD Try.prog AB (n + 12) (.fn 26) [v80, sl by' mb' b'] s79).bind fun L83 => manyK L83 fun v84 s85 =>
      some [(v84, s85)]) (
      some [((.bool false), s79)]) (
      none))) = some [(.bool true, s')] := by
    intro js
    obtain ⟨x, s2, e44, ev, h2⟩ := c44 (n := n + 1) (m := mb') (s := js) b' hbl
    simp only [e44, bindS, many1, (ext2 _ _).1, (ext2 _ _).2, al72, sr (get_new (H := HP) rfl), b_neq, boolS, lr (get_put_same (H := HP) _), bld72_0]
    by_cases he : (readM b').2 = 0
    · obtain ⟨y1, y2, y3, y4⟩ := read_ok he
      have cx : checkR x = true := (chk_eqv ev).trans y1
      have rx : recB x = b' := (rec_eqv ev).trans y3
      obtain ⟨m3, s3, e43, h3⟩ := c43 (n := n + 2) (s := putD (newD s2 (.row (enR rz))) s2.n (.row (enR x))) x (wf_eqv ev y2)
      have pv : putV x = (b', 0) := by
        unfold putV
        rw [if_pos cx, if_neg (by rw [rx]; omega), rx]
      rw [pv] at e43
      simp only [he, decide_true, Bool.not_true, condF, e43, bindS, many1, (ext2 _ _).1, (ext2 _ _).2, bop_eql, gdB, condT, c26 (n := n + 11) b']
      exact ⟨_, rfl⟩
    · have ez := read_err he
      rw [ez] at ev
      have hs : Small x := by
        obtain ⟨v1, v2, v3, v4, v5, v6⟩ := ev
        have l : x.new = [] := List.map_eq_nil_iff.1 (show x.new.map nk = [] from v2)
        have p : x.pts = [] := v3
        have i : x.ids = [] := v4
        refine ⟨by rw [l]; decide, fun a ha => ?_, by rw [p]; decide, by rw [i]; decide⟩
        rw [l] at ha; exact absurd ha List.not_mem_nil
      simp only [he, decide_false, Bool.not_false, condT, c41 (n := n + 10) x rz hs, bindS, many1, same_eqv ev]
      exact ⟨_, rfl⟩
  obtain ⟨m, s2, e1, h1⟩ := c43 (n := n + 2) (s := s1) ra wa
  simp only [e1, o_bool, o_alloc, o_box, o_build, o_buildSlice, o_load, o_store, o_nilCheck, o_bop, o_uop, o_conv, o_slc, o_fieldAddr, o_field, o_indexAddr, o_index, o_extract, o_lookup, o_mapUpdate, o_makeMap, o_mapEntry, o_entryStore, o_delete, o_len, o_append, o_min, o_max, o_tgt, bindS, many1, jnE, boolS, gdB, fst', snd', (ext2 _ _).1, (ext2 _ _).2, bop_eql]
  unfold putV
  by_cases hc : checkR ra = true
  · by_cases hl : 65536 < (recB ra).length
    · have n3 : ¬ ((3 : Int) = 0) := by decide
      simp only [hc, hl, if_true, n3, decide_false, condF]
      exact tail s2
    · simp only [hc, hl, if_true, if_false, decide_true, condT]
      obtain ⟨x, s3, e44, ev, h3⟩ := c44 (n := n + 1) (m := m) (s := s2) (recB ra) (by omega)
      obtain ⟨r1, r2⟩ := read_put hc wa (by omega)
      have exa : Eqv x ra := ⟨ev.1.trans r1.1, ev.2.1.trans r1.2.1, ev.2.2.1.trans r1.2.2.1, ev.2.2.2.1.trans r1.2.2.2.1, ev.2.2.2.2.1.trans r1.2.2.2.2.1, ev.2.2.2.2.2.trans r1.2.2.2.2.2⟩
      have h1n := h1.1
      have h3n := h3.1
      have j1 : HP.get s2.h s.n = some (.row (enR ra)) := by rw [h1.2 _ hn2, g2]
      have j2 : HP.get s3.h s.n = some (.row (enR ra)) := by rw [h3.2 _ (by omega), j1]
      have j3 : HP.get (putD (newD s3 (.row (enR rz))) s3.n (.row (enR x))).h s.n = some (.row (enR ra)) := by rw [get_put_other (by omega), get_old (by omega), j2]
      simp only [e44, o_bool, o_alloc, o_box, o_build, o_buildSlice, o_load, o_store, o_nilCheck, o_bop, o_uop, o_conv, o_slc, o_fieldAddr, o_field, o_indexAddr, o_index, o_extract, o_lookup, o_mapUpdate, o_makeMap, o_mapEntry, o_entryStore, o_delete, o_len, o_append, o_min, o_max, o_tgt, bindS, many1, jnE, boolS, gdB, fst', snd', (ext2 _ _).1, (ext2 _ _).2, al72, sr (get_new (H := HP) rfl), b_neq, r2, decide_true, Bool.not_true, condF, lr (get_put_same (H := HP) _), lr j3, c41 (n := n + 10) x ra (wf_eqv exa wa).small, same_eqv exa, uop_not]
      exact tail _
  · have hc' : checkR ra = false := by simpa using hc
    have n190 : ¬ ((190 : Int) = 0) := by decide
    simp only [hc', Bool.false_eq_true, if_false, n190, decide_false, condF]
    exact tail s2
end Go.Proofs.Ytmhmbmogodofeaa.S
