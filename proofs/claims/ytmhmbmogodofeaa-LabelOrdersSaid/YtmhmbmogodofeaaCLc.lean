import Derived.Test.YtmhmbmogodofeaaCLb
import Derived.Test.YtmhmbmogodofeaaP04
set_option autoImplicit false
set_option linter.unusedVariables false
set_option linter.unusedSimpArgs false
set_option maxRecDepth 100000
namespace Go.Proofs.Ytmhmbmogodofeaa.S
open Go.FS Go.RowKit
attribute [local congr] bind_cg cond_cg gd_cg
theorem u22 : Try.prog.underlying 22 = some (Go.TypeDesc.slice 106) := by kernel_rfl
theorem a22 : aggD Try.prog 22 = some false := by kernel_rfl
theorem bop_sls (t : TypeId) (a b : ByteArray) : bopD Try.prog .lss t (.string a) (.string b) = some (.bool (Op.bytesLess a.toList b.toList)) := rfl
theorem bop_sgt (t : TypeId) (a b : ByteArray) : bopD Try.prog .gtr t (.string a) (.string b) = some (.bool (!(Op.bytesLess a.toList b.toList || a.toList == b.toList))) := rfl
theorem c162 {n : Nat} {s : SH} (a : ByteArray) : callD Try.prog AB (n + 1) (.fn 162) [.string a] s = some [(.bool false, s)] := by
  rw [call_fn (fn := Try.f162) rfl rfl (by kernel_rfl)]
  show bodyD Try.prog false _ _ 162 Try.f162 _ s = _
  rw [f162_r]
  simp only [f162, o_bool, o_alloc, o_box, o_build, o_buildSlice, o_load, o_store, o_nilCheck, o_bop, o_uop, o_conv, o_slc, o_fieldAddr, o_field, o_indexAddr, o_index, o_extract, o_lookup, o_mapUpdate, o_makeMap, o_mapEntry, o_entryStore, o_delete, o_len, o_append, o_min, o_max, o_tgt, bindS, many1, jnE, boolS, gdB, fst', snd', bop_sne, beq_self_eq_true, Bool.not_true]
theorem c122 {n : Nat} {s : SH} (a : Int) : callD Try.prog AB (n + 1) (.fn 122) [.int .i64 a] s = some [(.bool false, s)] := by
  rw [call_fn (fn := Try.f122) rfl rfl (by kernel_rfl)]
  show bodyD Try.prog false _ _ 122 Try.f122 _ s = _
  rw [f122_r]
  simp only [f122, o_bool, o_alloc, o_box, o_build, o_buildSlice, o_load, o_store, o_nilCheck, o_bop, o_uop, o_conv, o_slc, o_fieldAddr, o_field, o_indexAddr, o_index, o_extract, o_lookup, o_mapUpdate, o_makeMap, o_mapEntry, o_entryStore, o_delete, o_len, o_append, o_min, o_max, o_tgt, bindS, many1, jnE, boolS, gdB, fst', snd', b_neq, decide_true, Bool.not_true]
def cmpA (a b : ByteArray) : Int := cmpB a.toList b.toList
theorem cmpA_good : GoodC cmpA where
  rng a b := cmpB_good.rng _ _
  anti a b := cmpB_good.anti _ _
  eq a b := (cmpB_good.eq _ _).trans ⟨fun h => ba_ext (by rw [← ba_toList, ← ba_toList, h]), fun h => by rw [h]⟩
  tr a b d := cmpB_good.tr _ _ _
theorem c121 {n : Nat} {s : SH} (a b : ByteArray) : callD Try.prog AB (n + 2) (.fn 121) [.string a, .string b] s = some [(.int .i64 (cmpA a b), s)] := by
  rw [call_fn (fn := Try.f121) rfl rfl (by kernel_rfl)]
  show bodyD Try.prog false _ _ 121 Try.f121 _ s = _
  rw [f121_r]
  simp only [f121, o_bool, o_alloc, o_box, o_build, o_buildSlice, o_load, o_store, o_nilCheck, o_bop, o_uop, o_conv, o_slc, o_fieldAddr, o_field, o_indexAddr, o_index, o_extract, o_lookup, o_mapUpdate, o_makeMap, o_mapEntry, o_entryStore, o_delete, o_len, o_append, o_min, o_max, o_tgt, bindS, many1, jnE, boolS, gdB, fst', snd', c162 (n := n), condF, bop_sls, bop_sgt]
  have g := cmpB_good
  unfold cmpA
  cases h1 : Op.bytesLess a.toList b.toList with
  | true =>
    simp only [condT]
    unfold cmpB
    rw [if_pos h1]
  | false =>
    cases h2 : (a.toList == b.toList) with
    | true =>
      have e : a.toList = b.toList := by simpa using h2
      simp only [Bool.or_true, Bool.not_true, condF]
      rw [(g.eq _ _).2 e]
    | false =>
      have e : a.toList ≠ b.toList := by simpa using h2
      simp only [Bool.or_false, Bool.not_false, condF, condT]
      have h0 : ¬ cmpB a.toList b.toList = 0 := fun h => e ((g.eq _ _).1 h)
      have h3 : cmpB a.toList b.toList = if Op.bytesLess b.toList a.toList then 1 else 0 := by
        unfold cmpB
        rw [if_neg (by rw [h1]; decide)]
      by_cases h4 : Op.bytesLess b.toList a.toList = true
      · rw [h3, if_pos h4]
      · rw [h3, if_neg h4] at h0; exact absurd rfl h0
def cmpN (a b : Int) : Int := if a < b then -1 else if b < a then 1 else 0
theorem c71 {n : Nat} {s : SH} (a b : Int) : callD Try.prog AB (n + 2) (.fn 71) [.int .i64 a, .int .i64 b] s = some [(.int .i64 (cmpN a b), s)] := by
  rw [call_fn (fn := Try.f71) rfl rfl (by kernel_rfl)]
  show bodyD Try.prog false _ _ 71 Try.f71 _ s = _
  rw [f71_r]
  simp only [f71, o_bool, o_alloc, o_box, o_build, o_buildSlice, o_load, o_store, o_nilCheck, o_bop, o_uop, o_conv, o_slc, o_fieldAddr, o_field, o_indexAddr, o_index, o_extract, o_lookup, o_mapUpdate, o_makeMap, o_mapEntry, o_entryStore, o_delete, o_len, o_append, o_min, o_max, o_tgt, bindS, many1, jnE, boolS, gdB, fst', snd', c122 (n := n), condF, bop_lss, bop_gtr]
  unfold cmpN
  by_cases h1 : a < b
  · simp only [h1, decide_true, condT, if_true]
  · by_cases h2 : b < a
    · have h2' : a > b := h2
      simp only [h1, h2, h2', decide_false, decide_true, condT, condF, if_true, if_false]
    · have h2' : ¬ a > b := h2
      simp only [h1, h2, h2', decide_false, condF, if_false]
def i6 (a : Int) : List Value := [.int .i64 a]
theorem i6_len (a : Int) : (i6 a).length = 1 := rfl
theorem ld_i6 {s : SH} (a : Int) : loadD Try.prog s 3 (fpV (i6 a).toArray 0) = some (.int .i64 a) := by rw [load_fp, part_one a3]; rfl
theorem bs228 (s : SH) (a b : Int) : buildSliceD Try.prog false s 228 2 [(0, .int .i64 a), (1, .int .i64 b)] = some (sl i6 1 [a, b], s) := by kernel_rfl
def orL : List Int → Int
  | [] => 0
  | a :: l => if a = 0 then orL l else a
theorem orL_cons (a : Int) (l : List Int) : orL (a :: l) = if a = 0 then orL l else a := rfl
theorem c120 {n m : Nat} {s : SH} (l : List Int) (hl : l.length < 2 ^ 62) : callD Try.prog AB (n + 1) (.fn 120) [sl i6 m l] s = some [(.int .i64 (orL l), s)] := by
  rw [call_fn (fn := Try.f120) rfl rfl (by kernel_rfl)]
  suffices h : One (bodyD Try.prog false (callD Try.prog AB n) AB.N 120 Try.f120 [sl i6 m l] s) fun w s' => w = .int .i64 (orL l) ∧ s' = s by
    obtain ⟨w, s', e, rfl, rfl⟩ := h
    exact e
  rw [f120_r]
  simp only [f120, o_bool, o_alloc, o_box, o_build, o_buildSlice, o_load, o_store, o_nilCheck, o_bop, o_uop, o_conv, o_slc, o_fieldAddr, o_field, o_indexAddr, o_index, o_extract, o_lookup, o_mapUpdate, o_makeMap, o_mapEntry, o_entryStore, o_delete, o_len, o_append, o_min, o_max, o_tgt, bindS, many1, jnE, boolS, gdB, fst', snd', len_sl u228]
  refine list_one l (fun i (x : Value × Value × Value) (s' : SH) => s' = s ∧ x.2.2 = .int .i64 i ∧ orL l = orL (l.drop i)) ?_ ?_ ⟨rfl, rfl, rfl⟩ (by show l.length < 2 ^ 64; omega)
  · rintro i hi ⟨x1, x2, x3⟩ s' ⟨rfl, h2, h3⟩ nx hnx
    simp only at h2
    subst h2
    have hlt : (i : Int) < l.length := by omega
    have hw : IntKind.i64.wrap ((i : Int) + 1) = ((i + 1 : Nat) : Int) := by rw [wrap_i64 (by omega) (by omega)]; rfl
    rw [List.drop_eq_getElem_cons hi, orL_cons] at h3
    simp only [f120_l0, o_bool, o_alloc, o_box, o_build, o_buildSlice, o_load, o_store, o_nilCheck, o_bop, o_uop, o_conv, o_slc, o_fieldAddr, o_field, o_indexAddr, o_index, o_extract, o_lookup, o_mapUpdate, o_makeMap, o_mapEntry, o_entryStore, o_delete, o_len, o_append, o_min, o_max, o_tgt, bindS, many1, jnE, boolS, gdB, fst', snd', bop_lss, hlt, decide_true, condT, ixs228 i6_len hi, ld_i6, b_neq]
    by_cases h : l[i] = 0
    · rw [if_pos h] at h3
      simp only [h, decide_true, Bool.not_true, condF, bop_add, bindS, hw]
      exact hnx (_, _, _) _ ⟨rfl, rfl, h3⟩
    · rw [if_neg h] at h3
      simp only [h, decide_false, Bool.not_false, condT]
      exact One.ret ⟨by rw [h3], rfl⟩
  · rintro ⟨x1, x2, x3⟩ s' ⟨rfl, h2, h3⟩ nx
    simp only at h2
    subst h2
    have hnlt : ¬ ((l.length : Int) < l.length) := by omega
    rw [List.drop_length] at h3
    simp only [f120_l0, o_bool, o_alloc, o_box, o_build, o_buildSlice, o_load, o_store, o_nilCheck, o_bop, o_uop, o_conv, o_slc, o_fieldAddr, o_field, o_indexAddr, o_index, o_extract, o_lookup, o_mapUpdate, o_makeMap, o_mapEntry, o_entryStore, o_delete, o_len, o_append, o_min, o_max, o_tgt, bindS, many1, jnE, boolS, gdB, fst', snd', bop_lss, hnlt, decide_false, condF, beq_yes, condT]
    exact One.ret ⟨by rw [h3]; rfl, rfl⟩
def cmpL1 : Lab → Lab → Int := lexP cmpA cmpA
theorem c70 {n : Nat} {s : SH} (a b : Lab) : callD Try.prog AB (n + 3) (.fn 70) [.string a.1, .string b.1, .string a.2, .string b.2] s = some [(.int .i64 (cmpL1 a b), s)] := by
  rw [call_fn (fn := Try.f70) rfl rfl (by kernel_rfl)]
  show bodyD Try.prog false _ _ 70 Try.f70 _ s = _
  rw [f70_r]
  have h : orL [cmpA a.1 b.1, cmpA a.2 b.2] = cmpL1 a b := by
    show (if cmpA a.1 b.1 = 0 then (if cmpA a.2 b.2 = 0 then 0 else cmpA a.2 b.2) else cmpA a.1 b.1) = (if cmpA a.1 b.1 = 0 then cmpA a.2 b.2 else cmpA a.1 b.1)
    split
    · split
      · rename_i h; rw [h]
      · rfl
    · rfl
  simp only [f70, o_bool, o_alloc, o_box, o_build, o_buildSlice, o_load, o_store, o_nilCheck, o_bop, o_uop, o_conv, o_slc, o_fieldAddr, o_field, o_indexAddr, o_index, o_extract, o_lookup, o_mapUpdate, o_makeMap, o_mapEntry, o_entryStore, o_delete, o_len, o_append, o_min, o_max, o_tgt, bindS, many1, jnE, boolS, gdB, fst', snd', c121 (n := n), bs228, c120 (n := n + 1) [cmpA a.1 b.1, cmpA a.2 b.2] (by simp), h]
def cmpLL : List Lab → List Lab → Int := lexL cmpL1
theorem cmpLL_good : GoodC cmpLL := lexL_good (lexP_good cmpA_good cmpA_good)
theorem ixs22 {m i : Nat} {k : IntKind} {xs : List Lab} (hi : i < xs.length) : indexAddrD Try.prog 22 (sl lab m xs) (.int k (i : Int)) = some (fpV (lab xs[i]).toArray 0) := index_sl u22 z106 lab_len hi
theorem c69 {n : Nat} {s : SH} (v w : Value) (hv : v.cells.toList = [v]) (hw : w.cells.toList = [w]) (h1 : oneC v = true) (h2 : oneC w = true) : callD Try.prog AB (n + 1) (.fn 69) [v, w] s = some [(.func (.func 119) #[] #[.pointer (some ⟨s.n, 0, none⟩), .pointer (some ⟨s.n + 1, 0, none⟩)], newD (newD s (.row [v])) (.row [w]))] := by
  rw [call_fn (fn := Try.f69) rfl rfl (by kernel_rfl)]
  show bodyD Try.prog false _ _ 69 Try.f69 _ s = _
  rw [f69_r]
  have e1 : ∀ s : SH, boxD s v = some (.pointer (some ⟨s.n, 0, none⟩), newD s (.row [v])) := fun s => box_at hv (by simp [h1])
  have e2 : ∀ s : SH, boxD s w = some (.pointer (some ⟨s.n, 0, none⟩), newD s (.row [w])) := fun s => box_at hw (by simp [h2])
  simp only [f69, o_bool, o_alloc, o_box, o_build, o_buildSlice, o_load, o_store, o_nilCheck, o_bop, o_uop, o_conv, o_slc, o_fieldAddr, o_field, o_indexAddr, o_index, o_extract, o_lookup, o_mapUpdate, o_makeMap, o_mapEntry, o_entryStore, o_delete, o_len, o_append, o_min, o_max, o_tgt, bindS, many1, jnE, boolS, gdB, fst', snd', e1, e2, newD_n]
/-- Each pair, one after another, as long as more are wanted. -/
theorem c119 {n l a1 a2 m1 m2 : Nat} {s : SH} {xs ys : List Lab} (hlx : xs.length < 2 ^ 62) (hly : ys.length < 2 ^ 62) (J : Nat → SH → Prop) (K : SH → Prop)
    (hJ : ∀ i s', J i s' → HP.get s'.h a1 = some (.row [sl lab m1 xs]) ∧ HP.get s'.h a2 = some (.row [sl lab m2 ys])) (h0 : J 0 s)
    (hstep : ∀ i (h1 : i < xs.length) (h2 : i < ys.length) s', J i s' → ∃ b s3, callD Try.prog AB (n + 1) (.yld l) [.agg (lab xs[i]).toArray, .agg (lab ys[i]).toArray] s' = some [(.bool b, s3)] ∧ (b = true → J (i + 1) s3) ∧ (b = false → K s3)) :
    One (callD Try.prog AB (n + 2) (.fn 119) [.func (.yield l) #[] #[], .pointer (some ⟨a1, 0, none⟩), .pointer (some ⟨a2, 0, none⟩)] s) fun _ s' => K s' ∨ J (min xs.length ys.length) s' := by
  rw [call_fn (fn := Try.f119) rfl rfl (by kernel_rfl)]
  show One (bodyD Try.prog false _ _ 119 Try.f119 _ s) _
  rw [f119_r]
  have ld : ∀ {s' : SH} {a m : Nat} {xs : List Lab}, HP.get s'.h a = some (.row [sl lab m xs]) → loadD Try.prog s' 22 (.pointer (some ⟨a, 0, none⟩)) = some (sl lab m xs) := fun h => by rw [load_row h, part_one a22]; rfl
  obtain ⟨g1, g2⟩ := hJ 0 s h0
  have hz : (xs.zip ys).length = min xs.length ys.length := List.length_zip
  simp only [f119, o_bool, o_alloc, o_box, o_build, o_buildSlice, o_load, o_store, o_nilCheck, o_bop, o_uop, o_conv, o_slc, o_fieldAddr, o_field, o_indexAddr, o_index, o_extract, o_lookup, o_mapUpdate, o_makeMap, o_mapEntry, o_entryStore, o_delete, o_len, o_append, o_min, o_max, o_tgt, bindS, many1, jnE, boolS, gdB, fst', snd', ld g1, ld g2, len_sl u22, min_nat]
  refine list_one (xs.zip ys) (fun i (x : Value × Value) (s' : SH) => x.2 = .int .i64 i ∧ J i s') ?_ ?_ ⟨rfl, h0⟩ (by show (xs.zip ys).length < 2 ^ 64; omega)
  · rintro i hi ⟨x1, x2⟩ s' ⟨e1, hj⟩ nx hnx
    simp only at e1
    subst e1
    have h1 : i < xs.length := by omega
    have h2 : i < ys.length := by omega
    have hlt : (i : Int) < ((min xs.length ys.length : Nat) : Int) := by omega
    have hw : IntKind.i64.wrap ((i : Int) + 1) = ((i + 1 : Nat) : Int) := by rw [wrap_i64 (by omega) (by omega)]; rfl
    obtain ⟨q1, q2⟩ := hJ i s' hj
    obtain ⟨b, s3, hy, hy1, hy2⟩ := hstep i h1 h2 s' hj
    have hy := oneS hy
    simp only [f119_l0, o_bool, o_alloc, o_box, o_build, o_buildSlice, o_load, o_store, o_nilCheck, o_bop, o_uop, o_conv, o_slc, o_fieldAddr, o_field, o_indexAddr, o_index, o_extract, o_lookup, o_mapUpdate, o_makeMap, o_mapEntry, o_entryStore, o_delete, o_len, o_append, o_min, o_max, o_tgt, bindS, many1, jnE, boolS, gdB, fst', snd', bop_lss, hlt, decide_true, condT, ld q1, ld q2, ixs22 h1, ixs22 h2, ld_lab, tgt_yld, hy, uop_not]
    cases b with
    | true =>
      simp only [Bool.not_true, condF, bop_add, bindS, hw]
      exact hnx (_, _) _ ⟨rfl, hy1 rfl⟩
    | false =>
      simp only [Bool.not_false, condT]
      exact One.ret (.inl (hy2 rfl))
  · rintro ⟨x1, x2⟩ s' ⟨e1, hj⟩ nx
    simp only at e1
    subst e1
    rw [hz] at hj ⊢
    have hnlt : ¬ (((min xs.length ys.length : Nat) : Int) < ((min xs.length ys.length : Nat) : Int)) := by omega
    simp only [f119_l0, o_bool, o_alloc, o_box, o_build, o_buildSlice, o_load, o_store, o_nilCheck, o_bop, o_uop, o_conv, o_slc, o_fieldAddr, o_field, o_indexAddr, o_index, o_extract, o_lookup, o_mapUpdate, o_makeMap, o_mapEntry, o_entryStore, o_delete, o_len, o_append, o_min, o_max, o_tgt, bindS, many1, jnE, boolS, gdB, fst', snd', bop_lss, hnlt, decide_false, condF, beq_yes, condT]
    exact One.ret (.inr hj)
end Go.Proofs.Ytmhmbmogodofeaa.S
