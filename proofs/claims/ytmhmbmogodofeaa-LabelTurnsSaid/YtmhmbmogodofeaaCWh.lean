import Derived.Test.YtmhmbmogodofeaaCWg
set_option autoImplicit false
set_option linter.unusedVariables false
set_option linter.unusedSimpArgs false
set_option maxRecDepth 100000
namespace Go.Proofs.Ytmhmbmogodofeaa.S
open Go.FS Go.RowKit
attribute [local congr] bind_cg cond_cg gd_cg
/-! The statement LabelTurns. -/
theorem cutB_data (b : ByteArray) (n : Nat) : (cutB b n).data.toList = b.data.toList.take n := by
  unfold cutB
  have hs : b.data.toList.length = b.size := rfl
  have : (b.extract 0 (min b.size n)).data.toList = b.data.toList.take (min b.size n) := by simp [List.extract]
  rw [this]
  by_cases h : b.size ≤ n
  · rw [Nat.min_eq_left h, List.take_of_length_le (by omega), List.take_of_length_le (by omega)]
  · rw [Nat.min_eq_right (by omega)]
theorem cutB_cut (b : ByteArray) (n : Nat) : cutB (cutB b n) n = cutB b n := ba_ext (by rw [cutB_data, cutB_data, List.take_take, Nat.min_self])
theorem few4_few4 (l : List Lab) : few4 (few4 l) = few4 l := by
  have h := (few4_small l).1
  have e : few4 (few4 l) = (few4 l).map fewL := by
    show ((few4 l).take 40).map fewL = _
    rw [List.take_of_length_le h]
  rw [e]
  unfold few4
  rw [List.map_map]
  refine List.map_congr_left fun a _ => ?_
  show fewL (fewL a) = fewL a
  unfold fewL
  rw [cutB_cut, cutB_cut]
theorem run6 {n m : Nat} (s : SH) (l : List Lab) (name value : ByteArray) : ∃ s', callD Try.prog AB (n + 7) (.fn 6) [sl lab m l, .string name, .string value] s = some [(.bool true, s')] := by
  rw [call_fn (fn := Try.f6) rfl rfl (by kernel_rfl)]
  show ∃ s', bodyD Try.prog false _ _ 6 Try.f6 _ s = _
  rw [f6_r]
  obtain ⟨m1, s1, e1, _⟩ := c18 (n := n + 5) (m := m) (s := s) l
  have hff := few4_few4 l
  obtain ⟨m2, s2, e2, _⟩ := c18 (n := n + 5) (m := m1) (s := s1) (few4 l)
  rw [hff] at e2
  have hS := few4_S l
  have hL := (few4_small l).1
  generalize few4 l = L at e1 e2 hS hL
  have hN : (cutB name 65).size ≤ 65 := by rw [cutB_size]; omega
  have hV : (cutB value 257).size ≤ 257 := by rw [cutB_size]; omega
  have s1N := slcB s1 name 65
  have s1V := slcB s1 value 257
  generalize cutB name 65 = N at hN s1N
  generalize cutB value 257 = V at hV s1V
  have h27 := c27 (n := n + 1) (m := m2) (s := s2) L N V hS (by omega) (by omega)
  obtain ⟨m', h28⟩ := c28 (n := n + 3) (m := m1) (s := s2) L N V hS (by omega) (by omega)
  have h17 := c17 (n := n + 5) (s := s2)
  have hX : (outM L N V).length < 2 ^ 62 := by
    have := (outM_small (name := N) (value := V) hS (by omega) (by omega) (by omega)).2
    omega
  have h21b := c21 (n := n + 5) (m := m2) (m' := m1) (s := s2) L L (by have := hS.1; omega)
  by_cases hok : okW L N V = true
  · have hr : resW (okW L N V) (outM L N V) = .tuple #[sl lab 0 (outM L N V), .int .i64 0] := by unfold resW; rw [if_pos hok]
    rw [hr] at h27
    rw [if_pos hok] at h28
    have h21 := c21 (n := n + 5) (m := 0) (m' := m') (s := s2) (outM L N V) (outM L N V) hX
    simp only [f6, o_bool, o_alloc, o_box, o_build, o_buildSlice, o_load, o_store, o_nilCheck, o_bop, o_uop, o_conv, o_slc, o_fieldAddr, o_field, o_indexAddr, o_index, o_extract, o_lookup, o_mapUpdate, o_makeSlice, o_clear, o_makeMap, o_mapEntry, o_entryStore, o_delete, o_len, o_append, o_min, o_max, o_tgt, bindS, many1, jnE, boolS, gdB, fst', snd', e1, len_str u9, min65, min257, s1N, s1V, e2, h27, (ext2 _ _).1, (ext2 _ _).2, h28, h21, decide_true, condT, bop_eql, h21b, h17]
    exact ⟨_, rfl⟩
  · have hr : resW (okW L N V) (outM L N V) = .tuple #[sl lab 2 [], .int .i64 40] := by unfold resW; rw [if_neg hok]
    rw [hr] at h27
    rw [if_neg hok] at h28
    have h21 := c21 (n := n + 5) (m := 2) (m' := 2) (s := s2) [] [] (by decide)
    simp only [f6, o_bool, o_alloc, o_box, o_build, o_buildSlice, o_load, o_store, o_nilCheck, o_bop, o_uop, o_conv, o_slc, o_fieldAddr, o_field, o_indexAddr, o_index, o_extract, o_lookup, o_mapUpdate, o_makeSlice, o_clear, o_makeMap, o_mapEntry, o_entryStore, o_delete, o_len, o_append, o_min, o_max, o_tgt, bindS, many1, jnE, boolS, gdB, fst', snd', e1, len_str u9, min65, min257, s1N, s1V, e2, h27, (ext2 _ _).1, (ext2 _ _).2, h28, h21, decide_true, condT, bop_eql, h21b, h17]
    exact ⟨_, rfl⟩
end Go.Proofs.Ytmhmbmogodofeaa.S
