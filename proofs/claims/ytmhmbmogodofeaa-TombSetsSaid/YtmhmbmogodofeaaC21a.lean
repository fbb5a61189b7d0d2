import Derived.Test.YtmhmbmogodofeaaFw
import Derived.Test.YtmhmbmogodofeaaS21
import Derived.Test.YtmhmbmogodofeaaT21
set_option autoImplicit false
set_option linter.unusedVariables false
set_option linter.unusedSimpArgs false
set_option maxRecDepth 100000
namespace Go.Proofs.Ytmhmbmogodofeaa.S
open Go.FS Go.RowKit
attribute [local congr] bind_cg cond_cg gd_cg
/-- The heap. -/
noncomputable abbrev HP : HeapI := FG fun _ => none
noncomputable def IT : Intr HP := fun f => bif Nat.beq f 45 then some yes else none
/-- Functions of which what they leave is cut. -/
def cutT (f : Nat) : Option (List (Option Nat)) := match f with
  | 20 | 47 | 48 | 49 | 50 | 101 | 102 | 103 | 104 | 154 => some [none]
  | _ => none
noncomputable def AT : Ann HP := { i := IT, N := 2 ^ 64, row := fun _ => false, cut := cutT }
abbrev SH := St HP
abbrev Rg := Int × Int
def rg (r : Rg) : List Value := [.int .i64 r.1, .int .i64 r.2]
theorem rg_len (r : Rg) : (rg r).length = 2 := rfl
def u6 (n : Int) : List Value := [.int .u64 n]
theorem u6_len (n : Int) : (u6 n).length = 1 := rfl

theorem ib (x y : Int) : (x == y) = decide (x = y) := by by_cases h : x = y <;> simp [h]
theorem rg_neq (a b : Rg) : bopD Try.prog .neq 69 (.agg (rg a).toArray) (.agg (rg b).toArray) = some (.bool (!decide (a = b))) := by
  refine (bop_agg (P := Try.prog) (d := 4) (t := 69) (a := (rg a).toArray) (b := (rg b).toArray) (r := decide (a = b)) (by decide) (by kernel_rfl) rfl rfl ?_).2
  have : eqS Try.prog 4 69 (.agg #[.int .i64 a.1, .int .i64 a.2]) (.agg #[.int .i64 b.1, .int .i64 b.2]) = cond (a.1 == b.1) (cond (a.2 == b.2) (some true) (some false)) (some false) := by kernel_rfl
  refine Eq.trans this ?_
  rw [ib, ib]
  have e : (a = b) ↔ a.1 = b.1 ∧ a.2 = b.2 := Prod.ext_iff
  by_cases h1 : a.1 = b.1 <;> by_cases h2 : a.2 = b.2 <;> simp [e, h1, h2]
theorem b_pne {t e : TypeId} (hu : Try.prog.underlying t = some (.pointer e)) (a : Addr) : bopD Try.prog .neq t (.pointer (some a)) (.pointer none) = some (.bool true) := by
  simp only [bopD, binD, nilD, hu, nilEq]; rfl
theorem b_mne {t k e : TypeId} (hu : Try.prog.underlying t = some (.map k e)) (m : Nat) : bopD Try.prog .neq t (.map (some m)) (.map none) = some (.bool true) := by
  simp only [bopD, binD, nilD, hu, nilEq]; rfl
theorem wrap64 {n : Int} (h0 : -9223372036854775808 ≤ n) (h : n ≤ 9223372036854775807) : IntKind.i64.wrap n = n := wrap_i64 h0 h

theorem c104 {n : Nat} {s : SH} (a b : Int) : callD Try.prog AT (n + 1) (.fn 104) [.int .i64 a, .int .i64 b] s = some [(.bool (decide (b ≤ IntKind.i64.wrap (a + 1))), s)] := by
  refine cut_call (fn := Try.f104) rfl rfl (by kernel_rfl) (v := .bool (decide (b ≤ IntKind.i64.wrap (a + 1)))) (fun _ h => by cases h) (.bool _) ?_
  show One (bodyD Try.prog false _ _ 104 Try.f104 _ s) _
  rw [f104_r]
  simp only [f104, o_bool, o_alloc, o_box, o_build, o_buildSlice, o_load, o_store, o_nilCheck, o_bop, o_uop, o_conv, o_slc, o_fieldAddr, o_field, o_indexAddr, o_index, o_extract, o_lookup, o_mapUpdate, o_makeMap, o_mapEntry, o_entryStore, o_delete, o_len, o_append, o_min, o_max, o_tgt, bindS, many1, jnE, boolS, gdB, fst', snd', bop_add, bop_leq, bindS]
  exact One.ret ⟨rfl, .refl s⟩

/-- One of so many. -/
def among (a b : Int) : Int := if b < 1 then 0 else IntKind.i64.wrap ((IntKind.u64.wrap a).tmod (IntKind.u64.wrap b))
theorem c20 {n : Nat} {s : SH} (a b : Int) (hb : b < 2 ^ 63) : callD Try.prog AT (n + 1) (.fn 20) [.int .i64 a, .int .i64 b] s = some [(.int .i64 (among a b), s)] := by
  refine cut_call (fn := Try.f20) rfl rfl (by kernel_rfl) (v := .int .i64 (among a b)) (fun _ h => by cases h) (.int _ _) ?_
  show One (bodyD Try.prog false _ _ 20 Try.f20 _ s) _
  rw [f20_r]
  simp only [f20, o_bool, o_alloc, o_box, o_build, o_buildSlice, o_load, o_store, o_nilCheck, o_bop, o_uop, o_conv, o_slc, o_fieldAddr, o_field, o_indexAddr, o_index, o_extract, o_lookup, o_mapUpdate, o_makeMap, o_mapEntry, o_entryStore, o_delete, o_len, o_append, o_min, o_max, o_tgt, bindS, many1, jnE, boolS, gdB, fst', snd', bop_lss]
  by_cases h : b < 1
  · simp only [h, decide_true, condT]
    refine One.ret ⟨?_, .refl s⟩
    unfold among; rw [if_pos h]
  · have hu : IntKind.u64.wrap b = b := wrap_u64 (by omega) (by omega)
    have hne : IntKind.u64.wrap b ≠ 0 := by rw [hu]; omega
    simp only [h, decide_false, condF, conv_int u3 u70, conv_int u70 u3, bindS, fst', snd', b_rem _ _ _ _ hne]
    refine One.ret ⟨?_, .refl s⟩
    unfold among; rw [if_neg h]
/-- Tombs at p whose map is m. -/
def TombAt (s : SH) (p m : Nat) : Prop := HP.get s.h p = some (.row [.map (some m)])
theorem c101 {n p m : Nat} {s : SH} (h : TombAt s p m) : callD Try.prog AT (n + 1) (.fn 101) [.pointer (some ⟨p, 0, none⟩)] s = some [(.bool true, s)] := by
  refine cut_call (fn := Try.f101) rfl rfl (by kernel_rfl) (v := .bool true) (fun _ h => by cases h) (.bool _) ?_
  show One (bodyD Try.prog false _ _ 101 Try.f101 _ s) _
  rw [f101_r]
  have hn : nilCheckD (.pointer (some ⟨p, 0, none⟩)) = some (.pointer (some ⟨p, 0, none⟩)) := rfl
  have hl : loadD Try.prog s 156 (.pointer (some ⟨p, 0, none⟩)) = some (.map (some m)) := by rw [load_row h, part_one a156]; rfl
  simp only [f101, o_bool, o_alloc, o_box, o_build, o_buildSlice, o_load, o_store, o_nilCheck, o_bop, o_uop, o_conv, o_slc, o_fieldAddr, o_field, o_indexAddr, o_index, o_extract, o_lookup, o_mapUpdate, o_makeMap, o_mapEntry, o_entryStore, o_delete, o_len, o_append, o_min, o_max, o_tgt, bindS, many1, jnE, boolS, gdB, fst', snd', b_pne u81, condT, hn, fld158_0, hl, b_mne u156]
  exact One.ret ⟨rfl, .refl s⟩
/-- Do they rise, above another one? -/
def rises : Int → List Int → Bool
  | _, [] => true
  | last, x :: l => decide (last < x) && rises x l
def rightR (r : Rg) (ids : List Int) : Bool := rises 0 ids && (decide (0 ≤ r.1) && (decide (r.1 ≤ r.2) && decide (r.2 ≤ 35184372088832)))
theorem c102 {n m : Nat} {s : SH} (r : Rg) (ids : List Int) (hl : ids.length < 2 ^ 62) : callD Try.prog AT (n + 1) (.fn 102) [.agg (rg r).toArray, sl u6 m ids] s = some [(.bool (rightR r ids), s)] := by
  refine cut_call (fn := Try.f102) rfl rfl (by kernel_rfl) (v := .bool (rightR r ids)) (fun _ h => by cases h) (.bool _) ?_
  show One (bodyD Try.prog false _ _ 102 Try.f102 _ s) _
  rw [f102_r]
  have hb : boxD s (.agg (rg r).toArray) = some (.pointer (some ⟨s.n, 0, none⟩), newD s (.row (rg r))) := box_at rfl rfl
  have l0 : ∀ s' : SH, HP.get s'.h s.n = some (.row (rg r)) → loadD Try.prog s' 3 (.pointer (some ⟨s.n, 0, none⟩)) = some (.int .i64 r.1) := fun s' h => by rw [load_row h, part_one a3]; rfl
  have l1 : ∀ s' : SH, HP.get s'.h s.n = some (.row (rg r)) → loadD Try.prog s' 3 (.pointer (some ⟨s.n, 1, none⟩)) = some (.int .i64 r.2) := fun s' h => by rw [load_row h, part_one a3]; rfl
  simp only [f102, o_bool, o_alloc, o_box, o_build, o_buildSlice, o_load, o_store, o_nilCheck, o_bop, o_uop, o_conv, o_slc, o_fieldAddr, o_field, o_indexAddr, o_index, o_extract, o_lookup, o_mapUpdate, o_makeMap, o_mapEntry, o_entryStore, o_delete, o_len, o_append, o_min, o_max, o_tgt, bindS, many1, jnE, boolS, gdB, fst', snd', hb, len_sl u67]
  have hg : HP.get (newD s (.row (rg r))).h s.n = some (.row (rg r)) := get_new rfl
  have he : Ext s (newD s (.row (rg r))) := (Ext.refl s).new _
  generalize newD s (.row (rg r)) = s1 at hg he
  refine list_one ids (fun i (x : Value × Value × Value × Value) (s' : SH) => s1 = s' ∧ ∃ last : Int, x.2.1 = .int .u64 last ∧ x.1 = .bool false ∧ x.2.2.2 = .int .i64 i ∧ rises 0 ids = rises last (ids.drop i)) ?_ ?_ ⟨rfl, 0, rfl, rfl, rfl, rfl⟩ (by show ids.length < 2 ^ 64; omega)
  · rintro i hi ⟨x1, x2, x3, x4⟩ s' ⟨rfl, last, h1, h2, h3, h4⟩ nx hnx
    simp only at h1 h2 h3
    subst h1 h2 h3
    have hlt : (i : Int) < ids.length := by omega
    have hw : IntKind.i64.wrap ((i : Int) + 1) = ((i + 1 : Nat) : Int) := by rw [wrap_i64 (by omega) (by omega)]; rfl
    have hd : ids.drop i = ids[i] :: ids.drop (i + 1) := List.drop_eq_getElem_cons hi
    have hld : loadD Try.prog s1 70 (fpV (u6 ids[i]).toArray 0) = some (.int .u64 ids[i]) := by rw [load_fp, part_one a70]; rfl
    simp only [f102_l0, o_bool, o_alloc, o_box, o_build, o_buildSlice, o_load, o_store, o_nilCheck, o_bop, o_uop, o_conv, o_slc, o_fieldAddr, o_field, o_indexAddr, o_index, o_extract, o_lookup, o_mapUpdate, o_makeMap, o_mapEntry, o_entryStore, o_delete, o_len, o_append, o_min, o_max, o_tgt, bindS, many1, jnE, boolS, gdB, fst', snd', bop_lss, hlt, decide_true, condT, ixs67 u6_len hi, hld, bop_leq, bop_add, hw]
    rw [hd] at h4
    by_cases hq : ids[i] ≤ last
    · simp only [hq, decide_true, condT]
      refine One.ret ⟨?_, he⟩
      have : rises 0 ids = false := by rw [h4]; simp only [rises]; rw [decide_eq_false (by omega)]; rfl
      unfold rightR; rw [this]; rfl
    · simp only [hq, decide_false, condF]
      refine hnx _ _ ⟨rfl, ids[i], rfl, rfl, rfl, ?_⟩
      rw [h4]; simp only [rises]; rw [decide_eq_true (by omega)]; rfl
  · rintro ⟨x1, x2, x3, x4⟩ s' ⟨rfl, last, h1, h2, h3, h4⟩ nx
    simp only at h1 h2 h3
    subst h1 h2 h3
    have hnlt : ¬ ((ids.length : Int) < ids.length) := by omega
    have hr : rises 0 ids = true := by rw [h4, List.drop_length]; rfl
    simp only [f102_l0, o_bool, o_alloc, o_box, o_build, o_buildSlice, o_load, o_store, o_nilCheck, o_bop, o_uop, o_conv, o_slc, o_fieldAddr, o_field, o_indexAddr, o_index, o_extract, o_lookup, o_mapUpdate, o_makeMap, o_mapEntry, o_entryStore, o_delete, o_len, o_append, o_min, o_max, o_tgt, bindS, many1, jnE, boolS, gdB, fst', snd', bop_lss, hnlt, decide_false, condF, beq_yes, condT, fld69_0, fld69_1, l0 s1 hg, l1 s1 hg, bop_geq, bop_leq]
    unfold rightR
    rw [hr]
    by_cases q1 : (0 : Int) ≤ r.1
    · have q1' : r.1 ≥ (0 : Int) := q1
      simp only [q1', q1, decide_true, condT]
      by_cases q2 : r.1 ≤ r.2
      · simp only [q2, decide_true, condT]
        exact One.ret ⟨rfl, he⟩
      · simp only [q2, decide_false, condF]
        exact One.ret ⟨rfl, he⟩
    · have q1' : ¬ r.1 ≥ (0 : Int) := q1
      simp only [q1', q1, decide_false, condF]
      exact One.ret ⟨rfl, he⟩
theorem c49 {n m m' : Nat} {s : SH} (xs ys : List Rg) (hl : xs.length < 2 ^ 62) : callD Try.prog AT (n + 1) (.fn 49) [sl rg m xs, sl rg m' ys] s = some [(.bool (decide (xs = ys)), s)] := by
  refine cut_call (fn := Try.f49) rfl rfl (by kernel_rfl) (v := .bool (decide (xs = ys))) (fun _ h => by cases h) (.bool _) ?_
  show One (bodyD Try.prog false _ _ 49 Try.f49 _ s) _
  rw [f49_r]
  simp only [f49, o_bool, o_alloc, o_box, o_build, o_buildSlice, o_load, o_store, o_nilCheck, o_bop, o_uop, o_conv, o_slc, o_fieldAddr, o_field, o_indexAddr, o_index, o_extract, o_lookup, o_mapUpdate, o_makeMap, o_mapEntry, o_entryStore, o_delete, o_len, o_append, o_min, o_max, o_tgt, bindS, many1, jnE, boolS, gdB, fst', snd', len_sl u80, b_neq]
  by_cases h : xs.length = ys.length
  · have e : ((xs.length : Int) = ys.length) := by omega
    simp only [e, decide_true, Bool.not_true, condF]
    refine list_one xs (fun i (x : Value × Value) (s' : SH) => s = s' ∧ x.1 = .bool false ∧ x.2 = .int .i64 i ∧ xs.take i = ys.take i) ?_ ?_ ⟨rfl, rfl, rfl, rfl⟩ (by show xs.length < 2 ^ 64; omega)
    · rintro i hi ⟨x1, x2⟩ s' ⟨rfl, h1, h2, h3⟩ nx hnx
      simp only at h1 h2
      subst h1 h2
      have hlt : (i : Int) < xs.length := by omega
      have hi' : i < ys.length := by omega
      have hw : IntKind.i64.wrap ((i : Int) + 1) = ((i + 1 : Nat) : Int) := by rw [wrap_i64 (by omega) (by omega)]; rfl
      have hx : ∀ r : Rg, loadD Try.prog s 69 (fpV (rg r).toArray 0) = some (.agg (rg r).toArray) := fun r => by rw [load_fp, part_agg a69 z69 (l := rg r) rfl rfl]
      simp only [f49_l0, o_bool, o_alloc, o_box, o_build, o_buildSlice, o_load, o_store, o_nilCheck, o_bop, o_uop, o_conv, o_slc, o_fieldAddr, o_field, o_indexAddr, o_index, o_extract, o_lookup, o_mapUpdate, o_makeMap, o_mapEntry, o_entryStore, o_delete, o_len, o_append, o_min, o_max, o_tgt, bindS, many1, jnE, boolS, gdB, fst', snd', len_sl u80, bop_lss, hlt, decide_true, condT, ixs80 rg_len hi, ixs80 rg_len hi', hx, rg_neq, bop_add, hw]
      by_cases hq : xs[i] = ys[i]
      · simp only [hq, decide_true, Bool.not_true, condF]
        refine hnx _ _ ⟨rfl, rfl, rfl, ?_⟩
        rw [List.take_succ_eq_append_getElem hi, List.take_succ_eq_append_getElem hi', h3, hq]
      · simp only [hq, decide_false, Bool.not_false, condT]
        have hne : xs ≠ ys := fun e => hq (by simp only [e])
        exact One.ret ⟨by rw [decide_eq_false hne], .refl s⟩
    · rintro ⟨x1, x2⟩ s' ⟨rfl, h1, h2, h3⟩ nx
      simp only at h1 h2
      subst h1 h2
      have hnlt : ¬ ((xs.length : Int) < xs.length) := by omega
      have hxy : xs = ys := by rw [List.take_length, h, List.take_length] at h3; exact h3
      simp only [f49_l0, o_bool, o_alloc, o_box, o_build, o_buildSlice, o_load, o_store, o_nilCheck, o_bop, o_uop, o_conv, o_slc, o_fieldAddr, o_field, o_indexAddr, o_index, o_extract, o_lookup, o_mapUpdate, o_makeMap, o_mapEntry, o_entryStore, o_delete, o_len, o_append, o_min, o_max, o_tgt, bindS, many1, jnE, boolS, gdB, fst', snd', len_sl u80, bop_lss, hnlt, decide_false, condF, beq_yes, condT]
      exact One.ret ⟨by rw [decide_eq_true hxy], .refl s⟩
  · have e : ¬ ((xs.length : Int) = ys.length) := by omega
    have hne : xs ≠ ys := fun e => h (by rw [e])
    simp only [e, decide_false, Bool.not_false, condT]
    exact One.ret ⟨by rw [decide_eq_false hne], .refl s⟩
theorem rg_strip (n : Nat) (r : Rg) : (rg r).map (stripN 6 n) = rg r := rfl
theorem rg_bel (n : Nat) (r : Rg) : ∀ v ∈ rg r, Bel n v := by
  intro v hv
  simp only [rg, List.mem_cons, List.not_mem_nil, or_false] at hv
  rcases hv with rfl | rfl <;> exact .int _ _
def tou (a b : Int) : Bool := decide (b ≤ IntKind.i64.wrap (a + 1))
/-- A step of joining. -/
def jstep (st : List Rg × Bool × Rg) (y : Rg) : List Rg × Bool × Rg :=
  match st with
  | (out, done, x) =>
    bif !tou y.2 x.1 then (out ++ [y], done, x) else
    bif !tou x.2 y.1 then (bif !done then (out ++ [x] ++ [y], true, x) else (out ++ [y], done, x)) else
    (out, done, (if y.1 < x.1 then y.1 else x.1, if x.2 < y.2 then y.2 else x.2))
def joinF (l : List Rg) (x : Rg) : List Rg :=
  match l.foldl jstep ([], false, x) with
  | (out, done, x) => bif !done then out ++ [x] else out
theorem jstep_len (st : List Rg × Bool × Rg) (y : Rg) : (jstep st y).1.length + (if (jstep st y).2.1 then 0 else 1) ≤ st.1.length + (if st.2.1 then 0 else 1) + 1 := by
  obtain ⟨out, done, x⟩ := st
  cases h1 : tou y.2 x.1 <;> cases h2 : tou x.2 y.1 <;> cases done <;> simp [jstep, h1, h2]
theorem jfold_len (l : List Rg) (st : List Rg × Bool × Rg) : (l.foldl jstep st).1.length + (if (l.foldl jstep st).2.1 then 0 else 1) ≤ st.1.length + (if st.2.1 then 0 else 1) + l.length := by
  induction l generalizing st with
  | nil => exact Nat.le_refl _
  | cons y l ih =>
    have := ih (jstep st y)
    have := jstep_len st y
    rw [List.foldl_cons, List.length_cons]; omega
theorem gapp {lo : Nat} {s : SH} {v : Value} {m2 : Nat} {xs ys : List Rg} (h : Grow lo 2 rg s v xs) (hlo : lo ≤ s.n) (hb : (xs.length + ys.length) * 16 ≤ 140737488355328) :
    ∃ v' s', appD Try.prog false s 160 160 v (sl rg m2 ys) = some (v', s') ∧ Grow lo 2 rg s' v' (xs ++ ys) ∧ Sm lo s s' ∧ (∀ j, j < s.n → HP.get s.h j ≠ some (.tok xs.length 2) → HP.get s'.h j = HP.get s.h j) :=
  h.app (i := Try.t163) hlo u160 u160 (by kernel_rfl) zr163 rfl (by kernel_rfl) (by kernel_rfl) (by decide) rg_len hb (by omega)
theorem bs160 (s : SH) (y : Rg) : buildSliceD Try.prog false s 160 1 [(0, .agg (rg y).toArray)] = some (sl rg 1 [y], s) := by kernel_rfl
theorem bld163 (a b : Int) : buildD Try.prog 163 [(0, .int .i64 a), (1, .int .i64 b)] = some (.agg (rg (a, b)).toArray) := by kernel_rfl
theorem bld69 (a b : Int) : buildD Try.prog 69 [(0, .int .i64 a), (1, .int .i64 b)] = some (.agg (rg (a, b)).toArray) := by kernel_rfl
theorem ld163 {s : SH} {id : Nat} {r : Rg} (h : HP.get s.h id = some (.row (rg r))) : loadD Try.prog s 163 (.pointer (some ⟨id, 0, none⟩)) = some (.agg (rg r).toArray) := by rw [load_row h, part_agg a163 z163 (l := rg r) rfl rfl]
theorem ld3_0 {s : SH} {id : Nat} {r : Rg} (h : HP.get s.h id = some (.row (rg r))) : loadD Try.prog s 3 (.pointer (some ⟨id, 0, none⟩)) = some (.int .i64 r.1) := by rw [load_row h, part_one a3]; rfl
theorem ld3_1 {s : SH} {id : Nat} {r : Rg} (h : HP.get s.h id = some (.row (rg r))) : loadD Try.prog s 3 (.pointer (some ⟨id, 1, none⟩)) = some (.int .i64 r.2) := by rw [load_row h, part_one a3]; rfl
theorem st163 {s : SH} {id : Nat} {r r' : Rg} (h : HP.get s.h id = some (.row (rg r))) : storeD Try.prog s 163 (.pointer (some ⟨id, 0, none⟩)) (.agg (rg r').toArray) = some (putD s id (.row (rg r'))) := store_row z163 h rfl rfl rfl (by simp [rg])
theorem tgt_fn (f : FuncId) (args : List Value) : tgtD (.func (.func f) #[] #[]) args = some (.fn f, args) := by simp [tgtD]
theorem c103 {n m : Nat} {s : SH} (l : List Rg) (x : Rg) (hlen : (l.length + 1) * 16 ≤ 140737488355328) : callD Try.prog AT (n + 2) (.fn 103) [sl rg m l, .agg (rg x).toArray, .func (.func 104) #[] #[]] s = some [(sl rg 0 (joinF l x), s)] := by
  have hpos : 0 < (joinF l x).length := by
    have : ∀ (l : List Rg) (st : List Rg × Bool × Rg), (st.2.1 = true → st.1 ≠ []) → ((l.foldl jstep st).2.1 = true → (l.foldl jstep st).1 ≠ []) := by
      intro l
      induction l with
      | nil => intro st h; exact h
      | cons y l ih =>
        intro st h
        refine ih _ ?_
        obtain ⟨out, done, x⟩ := st
        cases h1 : tou y.2 x.1 <;> cases h2 : tou x.2 y.1 <;> cases done <;> simp [jstep, h1, h2] at h ⊢ <;> exact h
    have h := this l ([], false, x) (by simp)
    unfold joinF
    revert h
    obtain ⟨out, done, x'⟩ := l.foldl jstep ([], false, x)
    intro h
    cases done with
    | true => simpa using List.length_pos_iff.2 (h rfl)
    | false => simp
  suffices h : One (bodyD Try.prog false (callD Try.prog AT (n + 1)) AT.N 103 Try.f103 [sl rg m l, .agg (rg x).toArray, .func (.func 104) #[] #[]] s) fun v s' => Ext s s' ∧ Grow (s.n + 1) 2 rg s' v (joinF l x) by
    obtain ⟨v, s', e, he, hg⟩ := h
    obtain ⟨k, hk, _, hk0⟩ := grow_cut hg (n := s.n) (by omega) (rg_strip s.n)
    have hk0 := hk0 (List.length_pos_iff.1 hpos)
    subst hk0
    have hv : ∀ a, v ≠ .tuple a := by
      rcases hg with ⟨h0, _⟩ | ⟨id, _, _, h0, _⟩
      · rw [h0] at hpos; exact absurd hpos (by simp)
      · rw [h0]; intro a h; cases h
    rw [← hk]
    exact cut_call (fn := Try.f103) rfl rfl (by kernel_rfl) hv (by rw [hk]; exact bel_sl (by omega) (rg_bel s.n)) ⟨v, s', e, rfl, he⟩
  rw [f103_r]
  have hb : boxD s (.agg (rg x).toArray) = some (.pointer (some ⟨s.n, 0, none⟩), newD s (.row (rg x))) := box_at rfl rfl
  simp only [f103, o_bool, o_alloc, o_box, o_build, o_buildSlice, o_load, o_store, o_nilCheck, o_bop, o_uop, o_conv, o_slc, o_fieldAddr, o_field, o_indexAddr, o_index, o_extract, o_lookup, o_mapUpdate, o_makeMap, o_mapEntry, o_entryStore, o_delete, o_len, o_append, o_min, o_max, o_tgt, bindS, many1, jnE, boolS, gdB, fst', snd', hb, len_sl u160, sl_nil rg]
  have hg : HP.get (newD s (.row (rg x))).h s.n = some (.row (rg x)) := get_new rfl
  have he : Sm s.n s (newD s (.row (rg x))) := (Sm.refl s.n s).new (Nat.le_refl _) _
  have hn : s.n + 1 ≤ (newD s (.row (rg x))).n := by rw [newD_n]; exact Nat.le_refl _
  generalize newD s (.row (rg x)) = s1 at hg he hn
  refine list_one l (fun i (y : Value × Value × Value × Value × Value) (s' : SH) => ∃ out done xx, (l.take i).foldl jstep ([], false, x) = (out, done, xx) ∧ y.2.1 = .bool done ∧ y.2.2.1 = .int .i64 i ∧ Sm s.n s s' ∧ s.n + 1 ≤ s'.n ∧ HP.get s'.h s.n = some (.row (rg xx)) ∧ Grow (s.n + 1) 2 rg s' y.1 out) ?_ ?_ ⟨[], false, x, rfl, rfl, rfl, he, hn, hg, .inl ⟨rfl, .inl rfl⟩⟩ (by show l.length < 2 ^ 64; omega)
  · rintro i hi ⟨y1, y2, y3, y4⟩ s' ⟨out, done, xx, hf, h1, h2, hsm, hn', hrow, hgr⟩ nx hnx
    simp only at h1 h2 hgr
    subst h1 h2
    have hlt : (i : Int) < l.length := by omega
    have hw : IntKind.i64.wrap ((i : Int) + 1) = ((i + 1 : Nat) : Int) := by rw [wrap_i64 (by omega) (by omega)]; rfl
    have hld : loadD Try.prog s' 163 (fpV (rg l[i]).toArray 0) = some (.agg (rg l[i]).toArray) := by rw [load_fp, part_agg a163 z163 (l := rg l[i]) rfl rfl]
    have hal : allocD Try.prog s' 163 = some (.pointer (some ⟨s'.n, 0, none⟩), newD s' (.row (rg (0, 0)))) := alloc_at zr163
    have hst : storeD Try.prog (newD s' (.row (rg (0, 0)))) 163 (.pointer (some ⟨s'.n, 0, none⟩)) (.agg (rg l[i]).toArray) = some (putD (newD s' (.row (rg (0, 0)))) s'.n (.row (rg l[i]))) := st163 (get_new rfl)
    have ha : HP.get (putD (newD s' (.row (rg (0, 0)))) s'.n (.row (rg l[i]))).h s'.n = some (.row (rg l[i])) := get_put_same _
    have hx : HP.get (putD (newD s' (.row (rg (0, 0)))) s'.n (.row (rg l[i]))).h s.n = some (.row (rg xx)) := by rw [get_put_other (by omega), get_old (by omega), hrow]
    have hsm2 : Sm s.n s (putD (newD s' (.row (rg (0, 0)))) s'.n (.row (rg l[i]))) := (hsm.new (by omega) _).put (by omega) _
    have hn2 : s.n + 1 ≤ (putD (newD s' (.row (rg (0, 0)))) s'.n (.row (rg l[i]))).n := by rw [putD_n, newD_n]; omega
    have hgr2 : Grow (s.n + 1) 2 rg (putD (newD s' (.row (rg (0, 0)))) s'.n (.row (rg l[i]))) y1 out := (hgr.new _).put _ (by rw [get_new rfl]; intro h; cases h)
    have hlt2 : s'.n < (putD (newD s' (.row (rg (0, 0)))) s'.n (.row (rg l[i]))).n := by rw [putD_n, newD_n]; omega
    simp only [f103_l0, o_bool, o_alloc, o_box, o_build, o_buildSlice, o_load, o_store, o_nilCheck, o_bop, o_uop, o_conv, o_slc, o_fieldAddr, o_field, o_indexAddr, o_index, o_extract, o_lookup, o_mapUpdate, o_makeMap, o_mapEntry, o_entryStore, o_delete, o_len, o_append, o_min, o_max, o_tgt, bindS, many1, jnE, boolS, gdB, fst', snd', bop_lss, hlt, decide_true, condT, ixs160 rg_len hi, hld, hal, hst]
    generalize putD (newD s' (.row (rg (0, 0)))) s'.n (.row (rg l[i])) = s2 at ha hx hsm2 hn2 hgr2 hlt2
    have hfs : (l.take (i + 1)).foldl jstep ([], false, x) = jstep (out, done, xx) l[i] := by rw [List.take_succ_eq_append_getElem hi, List.foldl_append, hf]; rfl
    have hol : out.length + (if done then 0 else 1) ≤ i + 1 := by
      have := jfold_len (l.take i) ([], false, x)
      rw [hf, List.length_take] at this
      simp at this
      have : min i l.length = i := by omega
      omega
    have t1 := c104 (n := n) (s := s2) l[i].2 xx.1
    have t2 := c104 (n := n) (s := s2) xx.2 l[i].1
    simp only [fld163_0, fld163_1, ld163 ha, ld163 hx, ld3_0 ha, ld3_1 ha, ld3_0 hx, ld3_1 hx, o_bool, o_alloc, o_box, o_build, o_buildSlice, o_load, o_store, o_nilCheck, o_bop, o_uop, o_conv, o_slc, o_fieldAddr, o_field, o_indexAddr, o_index, o_extract, o_lookup, o_mapUpdate, o_makeMap, o_mapEntry, o_entryStore, o_delete, o_len, o_append, o_min, o_max, o_tgt, bindS, many1, jnE, boolS, gdB, fst', snd', tgt_fn, t1, t2, uop_not]
    unfold jstep at hfs
    simp only at hfs
    change _ = (bif !tou l[i].2 xx.1 then _ else bif !tou xx.2 l[i].1 then _ else _) at hfs
    have hap : ∀ (w : Value) (sw : SH) (o r : List Rg), Grow (s.n + 1) 2 rg sw w o → s.n + 1 ≤ sw.n → o.length + r.length ≤ l.length + 1 → ∃ v' s', appD Try.prog false sw 160 160 w (sl rg 1 r) = some (v', s') ∧ Grow (s.n + 1) 2 rg s' v' (o ++ r) ∧ Sm (s.n + 1) sw s' ∧ (∀ j, j < sw.n → HP.get sw.h j ≠ some (.tok o.length 2) → HP.get s'.h j = HP.get sw.h j) := fun w sw o r hq hq2 hq3 => gapp hq hq2 (by have := Nat.mul_le_mul_right 16 hq3; omega)
    have fin : ∀ (w : Value) (sw : SH) (o : List Rg) (d : Bool) (q : Rg) (z : Value) (z2 : Value), (l.take (i + 1)).foldl jstep ([], false, x) = (o, d, q) → Sm s.n s sw → s.n + 1 ≤ sw.n → HP.get sw.h s.n = some (.row (rg q)) → Grow (s.n + 1) 2 rg sw w o → One (nx (w, .bool d, .int .i64 ((i + 1 : Nat) : Int), z, z2) sw) fun v s' => Ext s s' ∧ Grow (s.n + 1) 2 rg s' v (joinF l x) := fun w sw o d q z z2 e1 e2 e3 e4 e5 => hnx _ _ ⟨o, d, q, e1, rfl, rfl, e2, e3, e4, e5⟩
    cases k1 : tou l[i].2 xx.1 with
    | false =>
      have k1' : decide (xx.1 ≤ IntKind.i64.wrap (l[i].2 + 1)) = false := k1
      rw [k1] at hfs
      simp only [Bool.not_false, cond_true] at hfs
      obtain ⟨v', s3, e1, g1, g2, g3⟩ := hap y1 s2 out [l[i]] hgr2 hn2 (by simp; split at hol <;> omega)
      simp only [k1', Bool.not_false, condT, bs160, o_bool, o_alloc, o_box, o_build, o_buildSlice, o_load, o_store, o_nilCheck, o_bop, o_uop, o_conv, o_slc, o_fieldAddr, o_field, o_indexAddr, o_index, o_extract, o_lookup, o_mapUpdate, o_makeMap, o_mapEntry, o_entryStore, o_delete, o_len, o_append, o_min, o_max, o_tgt, bindS, many1, jnE, boolS, gdB, fst', snd', e1, bop_add, hw]
      exact fin _ _ _ _ _ _ _ hfs (hsm2.trans ⟨g2.1, fun j hj => g2.2 j (by omega)⟩) (by have := g2.1; omega) (by rw [g2.2 _ (by omega), hx]) g1
    | true =>
      have k1' : decide (xx.1 ≤ IntKind.i64.wrap (l[i].2 + 1)) = true := k1
      rw [k1] at hfs
      simp only [Bool.not_true, cond_false] at hfs
      cases k2 : tou xx.2 l[i].1 with
      | false =>
        have k2' : decide (l[i].1 ≤ IntKind.i64.wrap (xx.2 + 1)) = false := k2
        rw [k2] at hfs
        simp only [Bool.not_false, cond_true] at hfs
        cases done with
        | true =>
          simp only [Bool.not_true, cond_false] at hfs
          obtain ⟨v', s3, e1, g1, g2, g3⟩ := hap y1 s2 out [l[i]] hgr2 hn2 (by simp at hol ⊢; omega)
          simp only [k1', k2', Bool.not_true, Bool.not_false, condT, condF, ld163 ha, bs160, o_bool, o_alloc, o_box, o_build, o_buildSlice, o_load, o_store, o_nilCheck, o_bop, o_uop, o_conv, o_slc, o_fieldAddr, o_field, o_indexAddr, o_index, o_extract, o_lookup, o_mapUpdate, o_makeMap, o_mapEntry, o_entryStore, o_delete, o_len, o_append, o_min, o_max, o_tgt, bindS, many1, jnE, boolS, gdB, fst', snd', e1, bop_add, hw]
          exact fin _ _ _ _ _ _ _ hfs (hsm2.trans ⟨g2.1, fun j hj => g2.2 j (by omega)⟩) (by have := g2.1; omega) (by rw [g2.2 _ (by omega), hx]) g1
        | false =>
          simp only [Bool.not_false, cond_true] at hfs
          obtain ⟨v', s3, e1, g1, g2, g3⟩ := hap y1 s2 out [xx] hgr2 hn2 (by simp at hol ⊢; omega)
          have ha3 : HP.get s3.h s'.n = some (.row (rg l[i])) := by rw [g3 _ hlt2 (by rw [ha]; intro h; cases h), ha]
          obtain ⟨v'', s4, f1, f2, f3, f4⟩ := hap v' s3 (out ++ [xx]) [l[i]] g1 (by have := g2.1; omega) (by simp at hol ⊢; omega)
          simp only [k1', k2', Bool.not_true, Bool.not_false, condT, condF, ld163 ha3, bs160, o_bool, o_alloc, o_box, o_build, o_buildSlice, o_load, o_store, o_nilCheck, o_bop, o_uop, o_conv, o_slc, o_fieldAddr, o_field, o_indexAddr, o_index, o_extract, o_lookup, o_mapUpdate, o_makeMap, o_mapEntry, o_entryStore, o_delete, o_len, o_append, o_min, o_max, o_tgt, bindS, many1, jnE, boolS, gdB, fst', snd', e1, f1, bop_add, hw]
          exact fin _ _ _ _ _ _ _ hfs (hsm2.trans ⟨Nat.le_trans g2.1 f3.1, fun j hj => (f3.2 j (by omega)).trans (g2.2 j (by omega))⟩) (by have := g2.1; have := f3.1; omega) (by rw [f3.2 _ (by omega), g2.2 _ (by omega), hx]) f2
      | true =>
        have k2' : decide (l[i].1 ≤ IntKind.i64.wrap (xx.2 + 1)) = true := k2
        rw [k2] at hfs
        simp only [Bool.not_true, cond_false] at hfs
        simp only [k1', k2', Bool.not_true, condF, min_int, max_int, bld163, st163 hx, o_bool, o_alloc, o_box, o_build, o_buildSlice, o_load, o_store, o_nilCheck, o_bop, o_uop, o_conv, o_slc, o_fieldAddr, o_field, o_indexAddr, o_index, o_extract, o_lookup, o_mapUpdate, o_makeMap, o_mapEntry, o_entryStore, o_delete, o_len, o_append, o_min, o_max, o_tgt, bindS, many1, jnE, boolS, gdB, fst', snd', bop_add, hw]
        exact fin _ _ _ _ _ _ _ hfs (hsm2.put (Nat.le_refl _) _) (by rw [putD_n]; omega) (get_put_same _) (hgr2.put _ (by rw [hx]; intro h; cases h))
  · rintro ⟨y1, y2, y3, y4⟩ s' ⟨out, done, xx, hf, h1, h2, hsm, hn', hrow, hgr⟩ nx
    simp only at h1 h2 hgr
    subst h1 h2
    have hnlt : ¬ ((l.length : Int) < l.length) := by omega
    rw [List.take_length] at hf
    have hjf : joinF l x = bif !done then out ++ [xx] else out := by unfold joinF; rw [hf]
    simp only [f103_l0, o_bool, o_alloc, o_box, o_build, o_buildSlice, o_load, o_store, o_nilCheck, o_bop, o_uop, o_conv, o_slc, o_fieldAddr, o_field, o_indexAddr, o_index, o_extract, o_lookup, o_mapUpdate, o_makeMap, o_mapEntry, o_entryStore, o_delete, o_len, o_append, o_min, o_max, o_tgt, bindS, many1, jnE, boolS, gdB, fst', snd', bop_lss, hnlt, decide_false, condF, beq_yes, condT, uop_not]
    cases done with
    | true =>
      simp only [Bool.not_true, condF]
      refine One.ret ⟨hsm, ?_⟩
      rw [hjf]; exact hgr
    | false =>
      have hol : out.length + 1 ≤ l.length + 1 := by
        have := jfold_len l ([], false, x)
        rw [hf] at this
        simp at this; omega
      obtain ⟨v', s3, e1, g1, g2, g3⟩ := gapp (m2 := 1) (ys := [xx]) hgr hn' (by have := Nat.mul_le_mul_right 16 hol; simpa using (by omega))
      simp only [Bool.not_false, condT, ld163 hrow, bs160, o_bool, o_alloc, o_box, o_build, o_buildSlice, o_load, o_store, o_nilCheck, o_bop, o_uop, o_conv, o_slc, o_fieldAddr, o_field, o_indexAddr, o_index, o_extract, o_lookup, o_mapUpdate, o_makeMap, o_mapEntry, o_entryStore, o_delete, o_len, o_append, o_min, o_max, o_tgt, bindS, many1, jnE, boolS, gdB, fst', snd', e1]
      refine One.ret ⟨hsm.trans ⟨g2.1, fun j hj => g2.2 j (by omega)⟩, ?_⟩
      rw [hjf]; exact g1
end Go.Proofs.Ytmhmbmogodofeaa.S
