import Derived.Test.YtmhmbmogodofeaaCVc
set_option autoImplicit false
set_option linter.unusedVariables false
set_option linter.unusedSimpArgs false
set_option maxRecDepth 100000
namespace Go.Proofs.Ytmhmbmogodofeaa.S
open Go.FS Go.RowKit
attribute [local congr] bind_cg cond_cg gd_cg
theorem Grow.weak {α : Type} {lo lo' z : Nat} {enc : α → List Value} {s : SH} {v : Value} {xs : List α} (h : Grow lo' z enc s v xs) (hl : lo ≤ lo') : Grow lo z enc s v xs := by
  rcases h with h | ⟨id, h1, h2⟩
  · exact .inl h
  · exact .inr ⟨id, Nat.le_trans hl h1, h2⟩
theorem Sm.weak {lo lo' : Nat} {a b : SH} (h : Sm lo' a b) (hl : lo ≤ lo') : Sm lo a b := ⟨h.1, fun j hj => h.2 j (Nat.lt_of_lt_of_le hj hl)⟩
theorem conv_sb (s : SH) (b : ByteArray) : convertD Try.prog false s 9 35 (.string b) = some (sl by' (s.n + 3) b.data.toList, newD s (.tok b.size 1)) := by
  simp only [convertD, u9, u35, u5, cond_false]
  congr 2
  unfold sl fz fzV
  rw [List.map_map]
  rfl
theorem bytesOf_by (bs : List UInt8) : bytesOf (bs.map by').flatten = some bs := by
  induction bs with
  | nil => rfl
  | cons b bs ih =>
    show (bytesOf (bs.map by').flatten).map (fun r => UInt8.ofNat (Int.toNat (b.toNat : Int)) :: r) = _
    rw [ih, Int.toNat_natCast, UInt8.ofNat_toNat]; rfl
theorem aggL_fz {α : Type} (enc : α → List Value) (xs : List α) : aggL ((xs.map enc).map fun e => Value.agg e.toArray) = some (xs.map enc).flatten := by
  induction xs with
  | nil => rfl
  | cons x xs ih =>
    show (aggL ((xs.map enc).map fun e => Value.agg e.toArray)).map ((enc x).toArray.toList ++ ·) = _
    rw [ih]; simp
theorem conv_bs (s : SH) (m : Nat) (bs : List UInt8) : convertD Try.prog false s 35 9 (sl by' m bs) = some (.string ⟨bs.toArray⟩, s) := by
  have hf : fzOk 1 ((bs.map by').map fun e => Value.agg e.toArray).toArray = true := fzOk_fz fun e he => by obtain ⟨x, _, rfl⟩ := List.mem_map.1 he; rfl
  have hc : cellsD s 1 ((bs.map by').map fun e => Value.agg e.toArray).toArray.size (.iface m (.tuple ((bs.map by').map fun e => Value.agg e.toArray).toArray)) = some (bs.map by').flatten := by
    simp only [cellsD, hf, Nat.ble_eq_true_of_le (Nat.le_refl _), Bool.and_self, condT]
    have : ((bs.map by').map fun e => Value.agg e.toArray).toArray.toList.take ((bs.map by').map fun e => Value.agg e.toArray).toArray.size = (bs.map by').map fun e => Value.agg e.toArray := by
      rw [List.take_of_length_le (by simp)]
    rw [this, aggL_fz]
  unfold sl fz fzV
  simp only [convertD, u9, u35, u5]
  rw [hc, bindS, bytesOf_by]; rfl
def labB (a : Lab) : List UInt8 := vput a.1.size ++ a.1.data.toList ++ (vput a.2.size ++ a.2.data.toList)
/-- A set's bytes. -/
def lput (l : List Lab) : List UInt8 := vput l.length ++ (l.map labB).flatten
theorem chk_size : ∀ {l : List Lab} {last : ByteArray}, chk last l = true → ∀ a ∈ l, a.1.size ≤ 64 ∧ a.2.size ≤ 256
  | [], _, _, a, h => absurd h List.not_mem_nil
  | b :: l, last, h, a, ha => by
    simp only [chk, Bool.and_eq_true, Bool.not_eq_true', decide_eq_false_iff_not] at h
    rcases List.mem_cons.1 ha with rfl | ha
    · refine ⟨?_, by have := h.2.2.2.1; omega⟩
      have := h.1
      simp only [namedB, Bool.and_eq_true, decide_eq_true_eq] at this
      exact this.2.2
    · exact chk_size h.2.2.2.2 a ha
theorem okL_size {l : List Lab} (h : okL l = true) : 0 < l.length ∧ l.length ≤ 16 ∧ ∀ a ∈ l, a.1.size ≤ 64 ∧ a.2.size ≤ 256 := by
  simp only [okL, Bool.and_eq_true, Bool.not_eq_true', decide_eq_false_iff_not] at h
  exact ⟨by omega, by omega, chk_size h.2.2⟩
theorem labB_len {a : Lab} (h : a.1.size ≤ 64 ∧ a.2.size ≤ 256) : (labB a).length ≤ 340 := by
  have h1 := vput_len10 (x := a.1.size) (by omega)
  have h2 := vput_len10 (x := a.2.size) (by omega)
  have e1 : a.1.data.toList.length = a.1.size := rfl
  have e2 : a.2.data.toList.length = a.2.size := rfl
  unfold labB
  simp only [List.length_append]; omega
theorem labs_len : ∀ {l : List Lab}, (∀ a ∈ l, a.1.size ≤ 64 ∧ a.2.size ≤ 256) → (l.map labB).flatten.length ≤ 340 * l.length
  | [], _ => by simp
  | a :: l, h => by
    have := labB_len (h a (List.mem_cons_self ..))
    have := labs_len fun b hb => h b (List.mem_cons_of_mem _ hb)
    simp only [List.map_cons, List.flatten_cons, List.length_append, List.length_cons]; omega
theorem c24 {n m m' : Nat} {s : SH} (bs : List UInt8) (l : List Lab) (hl : SmallL l) (hb : bs.length + 100000 ≤ 140737488355328) (hok : okL l = true) :
    ∃ v s', callD Try.prog AB (n + 5) (.fn 24) [sl by' m bs, sl lab m' l] s = some [(.tuple #[v, .int .i64 0], s')] ∧ Grow s.n 1 by' s' v (bs ++ lput l) ∧ Sm s.n s s' := by
  obtain ⟨hl0, hl16, hsz⟩ := okL_size hok
  rw [call_fn (fn := Try.f24) rfl rfl (by kernel_rfl)]
  suffices h : One (bodyD Try.prog false (callD Try.prog AB (n + 4)) AB.N 24 Try.f24 [sl by' m bs, sl lab m' l] s) fun w s' => ∃ v, w = .tuple #[v, .int .i64 0] ∧ Grow s.n 1 by' s' v (bs ++ lput l) ∧ Sm s.n s s' by
    obtain ⟨w, s', e, v, rfl, h1, h2⟩ := h
    exact ⟨v, s', e, h1, h2⟩
  rw [f24_r]
  have h22 := c22 (n := n + 1) (m := m') (s := s) l hl
  rw [if_pos hok] at h22
  have hw : IntKind.u64.wrap (l.length : Int) = (l.length : Int) := wrap_u64 (by omega) (by omega)
  obtain ⟨v1, s1, e1, h1, h2⟩ := c72 (n := n + 1) (m := m) (s := s) bs l.length (by omega) (by omega)
  have h00 : decide ((0 : Int) = 0) = true := by decide
  simp only [f24, o_bool, o_alloc, o_box, o_build, o_buildSlice, o_load, o_store, o_nilCheck, o_bop, o_uop, o_conv, o_slc, o_fieldAddr, o_field, o_indexAddr, o_index, o_extract, o_lookup, o_mapUpdate, o_makeMap, o_mapEntry, o_entryStore, o_delete, o_len, o_append, o_min, o_max, o_tgt, bindS, many1, jnE, boolS, gdB, fst', snd', h22, b_neq, h00, decide_true, Bool.not_true, condF, len_sl u23, conv_int u3 u70, hw, e1]
  refine list_one l (fun i (x : Value × Value) (s' : SH) => x.2 = .int .i64 i ∧ Sm s.n s s' ∧ Grow s.n 1 by' s' x.1 (bs ++ vput l.length ++ ((l.take i).map labB).flatten)) ?_ ?_ ?h0 (by show l.length < 2 ^ 64; omega)
  case h0 => exact ⟨rfl, h2, by simpa using h1⟩
  · rintro i hi ⟨x1, x2⟩ s' ⟨g1, g2, g3⟩ nx hnx
    simp only at g1 g3
    subst g1
    have hlt : (i : Int) < l.length := by omega
    have hw1 : IntKind.i64.wrap ((i : Int) + 1) = ((i + 1 : Nat) : Int) := by rw [wrap_i64 (by omega) (by omega)]; rfl
    have ha1 := hsz _ (List.getElem_mem hi)
    have hts : ((l.take (i + 1)).map labB).flatten = ((l.take i).map labB).flatten ++ labB l[i] := by
      rw [List.take_succ_eq_append_getElem hi, List.map_append, List.flatten_append]; simp
    have hpl : (bs ++ vput l.length ++ ((l.take i).map labB).flatten).length ≤ bs.length + 6000 := by
      have k1 := labs_len (l := l.take i) fun a ha => hsz a (List.mem_of_mem_take ha)
      have k2 := vput_len10 (x := l.length) (by omega)
      rw [List.length_take] at k1
      simp only [List.length_append]; omega
    generalize hpre : bs ++ vput l.length ++ ((l.take i).map labB).flatten = pre at g3 hpl
    have ha : HP.get (putD (newD s' (.row (lab lz))) s'.n (.row (lab l[i]))).h s'.n = some (.row (lab l[i])) := get_put_same _
    have hsm2 : Sm s.n s (putD (newD s' (.row (lab lz))) s'.n (.row (lab l[i]))) := (g2.new (by have := g2.1; omega) _).put (by have := g2.1; omega) _
    have hg2 : Grow s.n 1 by' (putD (newD s' (.row (lab lz))) s'.n (.row (lab l[i]))) x1 pre := (g3.new _).put _ (by rw [get_new rfl]; intro h; cases h)
    have hn2 : s'.n < (putD (newD s' (.row (lab lz))) s'.n (.row (lab l[i]))).n := by rw [putD_n, newD_n]; omega
    have hst : storeD Try.prog (newD s' (.row (lab lz))) 106 (.pointer (some ⟨s'.n, 0, none⟩)) (.agg (lab l[i]).toArray) = some (putD (newD s' (.row (lab lz))) s'.n (.row (lab l[i]))) := st106 (get_new rfl)
    simp only [f24_l0, o_bool, o_alloc, o_box, o_build, o_buildSlice, o_load, o_store, o_nilCheck, o_bop, o_uop, o_conv, o_slc, o_fieldAddr, o_field, o_indexAddr, o_index, o_extract, o_lookup, o_mapUpdate, o_makeMap, o_mapEntry, o_entryStore, o_delete, o_len, o_append, o_min, o_max, o_tgt, bindS, many1, jnE, boolS, gdB, fst', snd', bop_lss, hlt, decide_true, condT, ixs23 lab_len hi, ld_lab, al106, hst]
    generalize putD (newD s' (.row (lab lz))) s'.n (.row (lab l[i])) = s2 at ha hsm2 hg2 hn2
    generalize l[i] = a at ha ha1 hts
    -- the name
    have hg3 : Grow s.n 1 by' (newD s2 (.tok a.1.size 1)) x1 pre := hg2.new _
    obtain ⟨mm, hx1⟩ := Grow.form hg3
    subst hx1
    have e1 : a.1.data.toList.length = a.1.size := rfl
    have e2 : a.2.data.toList.length = a.2.size := rfl
    obtain ⟨v2, s3, k1, k2, k3⟩ := c73 (n := n) (m := mm) (m' := s2.n + 3) (s := newD s2 (.tok a.1.size 1)) pre a.1.data.toList (by omega) (by omega)
    have hs3 : Sm s.n s s3 := (hsm2.new (by have := hsm2.1; omega) _).trans (Sm.weak k3 (by have := hsm2.1; rw [newD_n]; omega))
    have ha3 : HP.get s3.h s'.n = some (.row (lab a)) := by rw [k3.2 _ (by rw [newD_n]; omega), get_old (by omega), ha]
    have hn3 : s2.n + 1 ≤ s3.n := by have := k3.1; rw [newD_n] at this; exact this
    have hg4 : Grow s.n 1 by' s3 v2 (pre ++ (vput a.1.data.toList.length ++ a.1.data.toList)) := Grow.weak k2 (by have := hsm2.1; rw [newD_n]; omega)
    have hg5 := hg4.new (.tok a.2.size 1)
    obtain ⟨mm2, hv2⟩ := Grow.form hg5
    subst hv2
    have hl10 : (vput a.1.data.toList.length).length ≤ 10 := vput_len10 (x := a.1.size) (by omega)
    obtain ⟨v4, s5, j1, j2, j3⟩ := c73 (n := n) (m := mm2) (m' := s3.n + 3) (s := newD s3 (.tok a.2.size 1)) (pre ++ (vput a.1.data.toList.length ++ a.1.data.toList)) a.2.data.toList (by omega) (by simp only [List.length_append]; omega)
    simp only [fld106_0, fld106_1, lds0 ha, o_bool, o_alloc, o_box, o_build, o_buildSlice, o_load, o_store, o_nilCheck, o_bop, o_uop, o_conv, o_slc, o_fieldAddr, o_field, o_indexAddr, o_index, o_extract, o_lookup, o_mapUpdate, o_makeMap, o_mapEntry, o_entryStore, o_delete, o_len, o_append, o_min, o_max, o_tgt, bindS, many1, jnE, boolS, gdB, fst', snd', conv_sb, k1, (ext2 _ _).1, (ext2 _ _).2, lds1 ha3, j1, bop_add, hw1]
    refine hnx (_, _) _ ⟨rfl, ?_, ?_⟩
    · exact (hs3.new (by have := hs3.1; omega) _).trans (Sm.weak j3 (by have := hs3.1; rw [newD_n]; omega))
    · rw [hts, ← List.append_assoc, hpre]
      have : pre ++ labB a = pre ++ (vput a.1.data.toList.length ++ a.1.data.toList) ++ (vput a.2.data.toList.length ++ a.2.data.toList) := by
        unfold labB; rw [e1, e2]; simp only [List.append_assoc]
      rw [this]
      exact Grow.weak j2 (by have := hs3.1; rw [newD_n]; omega)
  · rintro ⟨x1, x2⟩ s' ⟨g1, g2, g3⟩ nx
    simp only at g1 g3
    subst g1
    have hnlt : ¬ ((l.length : Int) < l.length) := by omega
    simp only [f24_l0, o_bool, o_alloc, o_box, o_build, o_buildSlice, o_load, o_store, o_nilCheck, o_bop, o_uop, o_conv, o_slc, o_fieldAddr, o_field, o_indexAddr, o_index, o_extract, o_lookup, o_mapUpdate, o_makeMap, o_mapEntry, o_entryStore, o_delete, o_len, o_append, o_min, o_max, o_tgt, bindS, many1, jnE, boolS, gdB, fst', snd', bop_lss, hnlt, decide_false, condF, beq_yes, condT]
    refine One.ret ⟨x1, rfl, ?_, g2⟩
    rw [List.take_length] at g3
    unfold lput
    rw [← List.append_assoc]; exact g3
end Go.Proofs.Ytmhmbmogodofeaa.S
