import Derived.Test.YtmhmbmogodofeaaDoorCDc
set_option autoImplicit false
set_option linter.unusedVariables false
set_option linter.unusedSimpArgs false
set_option maxRecDepth 100000
namespace Go.Proofs.YtmhmbmogodofeaaDoor.S
open Go.FS Go.RowKit
attribute [local congr] bind_cg cond_cg gd_cg
theorem mrgS_len : ∀ (a b : List Spl), (mrgS a b).length ≤ a.length + b.length
  | [], b => by rw [mrgS_nil]; simp
  | x :: a, [] => by rw [mrgS_nil2]; simp
  | x :: a, y :: b => by
    rw [mrgS_cons]
    split
    · have := mrgS_len a (y :: b); simp only [List.length_cons] at *; omega
    · split
      · have := mrgS_len a (y :: b); simp only [List.length_cons] at *; omega
      · have := mrgS_len (x :: a) b; simp only [List.length_cons] at *; omega
termination_by a b => a.length + b.length
theorem run7 {n m1 m2 m3 : Nat} (s : SH) (a b c : Int) (l v l' : List Int) : ∃ s', callD Tryd.prog AB (n + 13) (.fn 7) [.int .i64 a, sl i6 m1 l, sl u6 m2 v, .int .i64 b, sl i6 m3 l', .int .i64 c] s = some [(.bool true, s')] := by
  rw [call_fn (fn := Tryd.f7) rfl rfl (by kernel_rfl)]
  suffices h : One (bodyD Tryd.prog false (callD Tryd.prog AB (n + 12)) AB.N 7 Tryd.f7 [.int .i64 a, sl i6 m1 l, sl u6 m2 v, .int .i64 b, sl i6 m3 l', .int .i64 c] s) fun w s' => w = .bool true by
    obtain ⟨w, s', e, rfl⟩ := h
    exact ⟨s', e⟩
  rw [f7_r]
  have h13 := c13 (n := n + 11) (s := s)
  obtain ⟨k1, s1, r1, e1, _, g1, l1⟩ := c21 (n := n + 10) (m1 := m1) (m2 := m2) (s := s) a l v
  obtain ⟨k2, s2, r2, e2, _, g2, l2⟩ := c21 (n := n + 10) (m1 := m3) (m2 := 2) (s := s1) b l' []
  have e2 : callD Tryd.prog AB (n + 12) (.fn 21) [.int .i64 b, sl i6 m3 l', fzV 2 #[]] s1 = some [(sl sp k2 r2, s2)] := e2
  obtain ⟨k3, s3, e3, _⟩ := c24 (n := n + 7) (ma := k1) (mb := k2) (s := s2) r1 r2 (by omega) (by omega)
  have hR := mrgS_rising r1 r2 g1.1 g2.1
  have hB : ∀ x ∈ mrgS r1 r2, 0 ≤ x.1 ∧ x.1 < 1000000000 := fun x hx => by
    rcases mrgS_mem _ _ _ hx with h | h
    · exact g1.2 x h
    · exact g2.2 x h
  have hH : ∀ y ∈ r2, y ∈ mrgS r1 r2 := fun y hy => mrgS_has r1 r2 y hy
  have hL := mrgS_len r1 r2
  generalize mrgS r1 r2 = m at e3 hR hB hH hL
  obtain ⟨j, hj, e4⟩ := c25 (n := n + 11) (s := s3) c 2000000 (by decide) (by decide)
  have e4 : callD Tryd.prog AB (n + 12) (.fn 25) [.int .i64 c, .int .i64 2000000] s3 = some [(.int .i64 (j : Int), s3)] := e4
  have hw : IntKind.i64.wrap ((j : Int) + 1) = (j : Int) + 1 := wrap_i64 (by omega) (by omega)
  obtain ⟨k5, s5, e5, _⟩ := c26 (n := n + 11) (m := k3) (s := s3) m (0, (j : Int)) (by omega)
  obtain ⟨k6, s6, e6, _⟩ := c26 (n := n + 11) (m := k3) (s := s5) m ((j : Int) + 1, 35184372088832) (by omega)
  simp only [f7, o_bool, o_alloc, o_box, o_build, o_buildSlice, o_load, o_store, o_nilCheck, o_bop, o_uop, o_conv, o_slc, o_fieldAddr, o_field, o_indexAddr, o_index, o_extract, o_lookup, o_mapUpdate, o_makeSlice, o_makeMap, o_mapEntry, o_entryStore, o_delete, o_len, o_append, o_min, o_max, o_tgt, bindS, many1, jnE, boolS, gdB, fst', snd', h13, uop_not, Bool.not_true, condF, e1, e2, e3, e4, bld58, e5, bop_add, hw, e6]
  have hsp := wthn_split (j : Int) 35184372088832 m hR fun x hx => by have := hB x hx; omega
  have w1 := wthn_len 0 (j : Int) m
  have w2 := wthn_len ((j : Int) + 1) 35184372088832 m
  refine list_one (List.replicate (m.length - 1) ()) (fun i (x : Value × Value) (s' : SH) => x.2 = .int .i64 ((i + 1 : Nat) : Int)) ?_ ?_ rfl (by rw [List.length_replicate]; show _ < 2 ^ 64; omega)
  · rintro i hi ⟨x1, x2⟩ s' h2 nx hnx
    simp only at h2
    subst h2
    rw [List.length_replicate] at hi
    have hlt : ((i + 1 : Nat) : Int) < m.length := by omega
    have hwi : IntKind.i64.wrap (((i + 1 : Nat) : Int) + 1) = ((i + 1 + 1 : Nat) : Int) := by rw [wrap_i64 (by omega) (by omega)]; rfl
    have hws : IntKind.i64.wrap (((i + 1 : Nat) : Int) - 1) = (i : Int) := by rw [wrap_i64 (by omega) (by omega)]; omega
    have i1 : i < m.length := by omega
    have i2 : i + 1 < m.length := by omega
    have hlt2 : m[i].1 < m[i + 1].1 := List.pairwise_iff_getElem.1 hR i (i + 1) i1 i2 (by omega)
    have hng : ¬ (m[i].1 ≥ m[i + 1].1) := by omega
    simp only [f7_l0, o_bool, o_alloc, o_box, o_build, o_buildSlice, o_load, o_store, o_nilCheck, o_bop, o_uop, o_conv, o_slc, o_fieldAddr, o_field, o_indexAddr, o_index, o_extract, o_lookup, o_mapUpdate, o_makeSlice, o_makeMap, o_mapEntry, o_entryStore, o_delete, o_len, o_append, o_min, o_max, o_tgt, bindS, many1, jnE, boolS, gdB, fst', snd', len_sl u24, bop_lss, hlt, decide_true, condT, b_sub, hws, ixs24 sp_len i1, ixs24 sp_len i2, flf40_0, ldf_s0, bop_geq, hng, decide_false, condF, bop_add, hwi]
    exact hnx (_, _) _ rfl
  · rintro ⟨x1, x2⟩ s' h2 nx
    simp only at h2
    subst h2
    rw [List.length_replicate]
    have hnlt : ¬ (((m.length - 1 + 1 : Nat) : Int) < m.length) := by omega
    obtain ⟨k7, s7, e7, _⟩ := c24 (n := n + 7) (ma := k3) (mb := k2) (s := s') m r2 (by omega) (by omega)
    rw [mrgS_stays m r2 hR g2.1 hH] at e7
    obtain ⟨k8, s8, e8, _⟩ := c24 (n := n + 7) (ma := k3) (mb := 2) (s := s7) m [] (by omega) (by simp)
    rw [mrgS_nil2] at e8
    have e8 : callD Tryd.prog AB (n + 12) (.fn 24) [sl sp k3 m, fzV 2 #[]] s7 = some [(sl sp k8 m, s8)] := e8
    obtain ⟨v1, s9, e9, q1, q2, _⟩ := gapp24 (lo := s8.n) (v := sl sp 1 []) (xs := []) (s := s8) (m2 := k5) (ys := wthn 0 (j : Int) m) (.inl ⟨rfl, .inr rfl⟩) (Nat.le_refl _) (by simp only [List.length_nil]; omega)
    obtain ⟨v2, s10, e10, q3, q4, _⟩ := gapp24 (m2 := k6) (ys := wthn ((j : Int) + 1) 35184372088832 m) q1 q2.1 (by simp only [List.nil_append]; omega)
    rw [List.nil_append, hsp] at q3
    obtain ⟨k11, rfl⟩ := Grow.form q3
    simp only [f7_l0, o_bool, o_alloc, o_box, o_build, o_buildSlice, o_load, o_store, o_nilCheck, o_bop, o_uop, o_conv, o_slc, o_fieldAddr, o_field, o_indexAddr, o_index, o_extract, o_lookup, o_mapUpdate, o_makeSlice, o_makeMap, o_mapEntry, o_entryStore, o_delete, o_len, o_append, o_min, o_max, o_tgt, bindS, many1, jnE, boolS, gdB, fst', snd', len_sl u24, bop_lss, hnlt, decide_false, condF, beq_yes, condT, e7, c11 (n := n + 11) m (show m.length < 2 ^ 62 by omega), e8, bs24_0, e9, e10]
    exact One.ret rfl
end Go.Proofs.YtmhmbmogodofeaaDoor.S
