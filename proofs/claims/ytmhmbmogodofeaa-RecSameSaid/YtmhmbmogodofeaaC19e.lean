import Derived.Test.YtmhmbmogodofeaaC19d
set_option autoImplicit false
set_option linter.unusedVariables false
set_option linter.unusedSimpArgs false
set_option maxRecDepth 100000
namespace Go.Proofs.Ytmhmbmogodofeaa.S
open Go.FS Go.RowKit
attribute [local congr] bind_cg cond_cg gd_cg
theorem cutB_size (b : ByteArray) (n : Nat) : (cutB b n).size = min b.size n := by
  unfold cutB
  rw [ByteArray.size_extract]; omega
theorem cutB_twice (b : ByteArray) (n : Nat) : cutB (cutB b n) n = cutB b n := by
  have h : min (cutB b n).size n = (cutB b n).size := by rw [cutB_size]; omega
  show (cutB b n).extract 0 (min (cutB b n).size n) = _
  rw [h, ByteArray.extract_zero_size]
theorem fewL_twice (l : Lab) : fewL (fewL l) = fewL l := by
  unfold fewL
  simp only [cutB_twice]
theorem fewN_twice (a : Int × List Lab) : fewN (fewN a) = fewN a := by
  have h : ((a.2.take 18).map fewL).take 18 = (a.2.take 18).map fewL := List.take_of_length_le (by rw [List.length_map, List.length_take]; omega)
  have e : (((a.2.take 18).map fewL).take 18).map fewL = (a.2.take 18).map fewL := by
    rw [h, List.map_map]
    exact List.map_congr_left fun x _ => fewL_twice x
  exact congrArg (Prod.mk a.1) e
theorem fewP_twice (l : List Pt) : fewP (fewP l) = fewP l := by
  unfold fewP
  by_cases h : 4096 < l.length
  · rw [if_pos h]
    have : 4096 < (l.take 4097).length := by rw [List.length_take]; omega
    rw [if_pos this, List.take_take]; rfl
  · rw [if_neg h]
    have : ¬ 4096 < (l.take 60).length := by rw [List.length_take]; omega
    rw [if_neg this, List.take_take]; rfl
theorem few_same {r r' r'' : RecD} (h : FewR r r') (k : FewR r' r'') : sameR r' r'' = true := by
  obtain ⟨h1, h2, h3, h4, h5, h6⟩ := h
  obtain ⟨k1, k2, k3, k4, k5, k6⟩ := k
  have e4 : r'.new.map nk = r''.new.map nk := by
    rw [k4]
    have hl : r'.new.length ≤ 20 := by
      have := congrArg List.length h4
      simp only [List.length_map, List.length_take] at this; omega
    rw [List.take_of_length_le hl]
    have : r'.new.map (fun a => fewN (nk a)) = (r'.new.map nk).map fewN := by rw [List.map_map]; rfl
    rw [this, h4, List.map_map]
    exact (List.map_congr_left fun x _ => fewN_twice (nk x)).symm
  have e5 : r'.pts = r''.pts := by rw [k5, h5, fewP_twice]
  have e6 : r'.ids = r''.ids := by rw [k6, h6, List.take_take]; rfl
  unfold sameR
  rw [decide_eq_true k1.symm, decide_eq_true k2.symm, decide_eq_true k3.symm, decide_eq_true e4, decide_eq_true e5, decide_eq_true e6]; rfl
theorem few_small {r r' : RecD} (h : FewR r r') : Small r' := by
  obtain ⟨h1, h2, h3, h4, h5, h6⟩ := h
  have hl : r'.new.length ≤ 20 := by
    have := congrArg List.length h4
    simp only [List.length_map, List.length_take] at this; omega
  refine ⟨by omega, fun a ha => ?_, ?_, ?_⟩
  · have : nk a ∈ r'.new.map nk := List.mem_map_of_mem ha
    rw [h4] at this
    obtain ⟨b, _, e⟩ := List.mem_map.1 this
    have : a.2.2 = (fewN (nk b)).2 := (congrArg Prod.snd e).symm
    rw [this]
    show ((b.2.2.take 18).map fewL).length < _
    rw [List.length_map, List.length_take]; omega
  · rw [h5]; unfold fewP
    split <;> rw [List.length_take] <;> omega
  · rw [h6, List.length_take]; omega
theorem eqO_same (v : Value) : eqO HP (some v) v = true := by simp [eqO, FG]
theorem c42 {n : Nat} {s : SH} : callD Try.prog AR (n + 1) (.fn 42) [] s = some [(.bool true, s)] := by
  rw [call_i (i := yes) rfl]; rfl
theorem run11 {n : Nat} (s : SH) (a b : RecD) : ∃ s', callD Try.prog AR (n + 6) (.fn 11) [.agg (enR a).toArray, .agg (enR b).toArray] s = some [(.bool true, s')] := by
  rw [call_fn (fn := Try.f11) rfl rfl (by kernel_rfl)]
  show ∃ s', bodyD Try.prog false _ _ 11 Try.f11 _ s = _
  rw [f11_r]
  have g1 : HP.get (newD (newD s (.row (enR a))) (.row (enR b))).h s.n = some (.row (enR a)) := by rw [get_old (by rw [newD_n]; omega), get_new rfl]
  have g2 : HP.get (newD (newD s (.row (enR a))) (.row (enR b))).h (s.n + 1) = some (.row (enR b)) := get_new (by rw [newD_n])
  simp only [f11, o_bool, o_alloc, o_box, o_build, o_buildSlice, o_load, o_store, o_nilCheck, o_bop, o_uop, o_conv, o_slc, o_fieldAddr, o_field, o_indexAddr, o_index, o_extract, o_lookup, o_mapUpdate, o_makeMap, o_mapEntry, o_entryStore, o_delete, o_len, o_append, o_min, o_max, o_tgt, bindS, many1, jnE, boolS, gdB, fst', snd', bx_r, newD_n, lr g1]
  generalize newD (newD s (.row (enR a))) (.row (enR b)) = s1 at g1 g2
  obtain ⟨ra, fa, ea⟩ := c39 (n := n + 4) (s := s1) a
  obtain ⟨rb, fb, eb⟩ := c39 (n := n + 4) (s := s1) b
  have ea' : oneO (callD Try.prog AR (n + 5)) (.fn 39) [.agg (enR a).toArray] s1 = some (.agg (enR ra).toArray, s1) := oneS ea
  have eb' : oneO (callD Try.prog AR (n + 5)) (.fn 39) [.agg (enR b).toArray] s1 = some (.agg (enR rb).toArray, s1) := oneS eb
  have h1 : HP.get (putD s1 s.n (.row (enR ra))).h (s.n + 1) = some (.row (enR b)) := by rw [get_put_other (by omega), g2]
  have h2 : HP.get (putD (putD s1 s.n (.row (enR ra))) (s.n + 1) (.row (enR rb))).h s.n = some (.row (enR ra)) := by rw [get_put_other (by omega), get_put_same]
  have h3 : HP.get (putD (putD s1 s.n (.row (enR ra))) (s.n + 1) (.row (enR rb))).h (s.n + 1) = some (.row (enR rb)) := get_put_same _
  simp only [ea', o_bool, o_alloc, o_box, o_build, o_buildSlice, o_load, o_store, o_nilCheck, o_bop, o_uop, o_conv, o_slc, o_fieldAddr, o_field, o_indexAddr, o_index, o_extract, o_lookup, o_mapUpdate, o_makeMap, o_mapEntry, o_entryStore, o_delete, o_len, o_append, o_min, o_max, o_tgt, bindS, many1, jnE, boolS, gdB, fst', snd', lr g2, eb', sr g1, sr h1, eqO_same, Bool.and_self, condT, lr h2, lr h3]
  generalize putD (putD s1 s.n (.row (enR ra))) (s.n + 1) (.row (enR rb)) = s2 at h2 h3
  have d40 : oneO (callD Try.prog AR (n + 5)) (.fn 40) [.agg (enR ra).toArray, .agg (enR rb).toArray] s2 = some (.bool (sameR ra rb), s2) := oneS (c40 (n := n + 1) ra rb (few_small fa))
  have d41 : oneO (callD Try.prog AR (n + 5)) (.fn 41) [.agg (enR ra).toArray, .agg (enR rb).toArray] s2 = some (.bool (sameR ra rb), s2) := oneS (c41 (n := n + 3) ra rb (few_small fa))
  obtain ⟨rc, fc, ec⟩ := c39 (n := n + 4) (s := s2) ra
  have ec' : oneO (callD Try.prog AR (n + 5)) (.fn 39) [.agg (enR ra).toArray] s2 = some (.agg (enR rc).toArray, s2) := oneS ec
  have d40' : oneO (callD Try.prog AR (n + 5)) (.fn 40) [.agg (enR ra).toArray, .agg (enR rc).toArray] s2 = some (.bool (sameR ra rc), s2) := oneS (c40 (n := n + 1) ra rc (few_small fa))
  have d42 : oneO (callD Try.prog AR (n + 5)) (.fn 42) [] s2 = some (.bool true, s2) := oneS c42
  have hxx : (sameR ra rb == sameR ra rb) = true := by simp
  simp only [d40, o_bool, o_alloc, o_box, o_build, o_buildSlice, o_load, o_store, o_nilCheck, o_bop, o_uop, o_conv, o_slc, o_fieldAddr, o_field, o_indexAddr, o_index, o_extract, o_lookup, o_mapUpdate, o_makeMap, o_mapEntry, o_entryStore, o_delete, o_len, o_append, o_min, o_max, o_tgt, bindS, many1, jnE, boolS, gdB, fst', snd', lr h2, lr h3, d41, bop_bool u4, hxx, condT, ec', d40', few_same fa fc, d42, eqO_same, Bool.and_self]
  exact ⟨_, rfl⟩
end Go.Proofs.Ytmhmbmogodofeaa.S
