import Derived.Test.YtmhmbmogodofeaaC21a
set_option autoImplicit false
set_option linter.unusedVariables false
set_option linter.unusedSimpArgs false
set_option maxRecDepth 100000
namespace Go.Proofs.Ytmhmbmogodofeaa.S
open Go.FS Go.RowKit
attribute [local congr] bind_cg cond_cg gd_cg
/-- An entry of tombs' map. -/
abbrev En := Int × List Rg × Nat
def ent (e : En) : Value × Value × Nat := (.int .u64 e.1, sl rg 0 e.2.1, e.2.2)
def lk : List En → Int → List Rg
  | [], _ => []
  | e :: l, k => if e.1 = k then e.2.1 else lk l k
def upE : List En → Nat → Int → List Rg → List En × Nat
  | [], c, k, l => ([(k, l, c)], c + 1)
  | e :: es, c, k, l => if e.1 = k then ((k, l, e.2.2) :: es, c) else (e :: (upE es c k l).1, (upE es c k l).2)
theorem find_lk : ∀ (es : List En) (k : Int) (i : Nat), (∃ j e, findD (.int .u64 k) (es.map ent) i = some (some (i + j, sl rg 0 (lk es k))) ∧ es[j]? = some e ∧ e.1 = k ∧ (∀ c l, upE es c k l = (es.set j (k, l, e.2.2), c))) ∨ (findD (.int .u64 k) (es.map ent) i = some none ∧ lk es k = [] ∧ ∀ c l, upE es c k l = (es ++ [(k, l, c)], c + 1))
  | [], k, i => .inr ⟨rfl, rfl, fun _ _ => rfl⟩
  | e :: es, k, i => by
    have hk : keyEq (.int .u64 k) (.int .u64 e.1) = some (decide (k = e.1)) := rfl
    have hf : findD (.int .u64 k) ((e :: es).map ent) i = (keyEq (.int .u64 k) (.int .u64 e.1)).bind fun b => cond b (some (some (i, sl rg 0 e.2.1))) (findD (.int .u64 k) (es.map ent) (i + 1)) := rfl
    rw [hf, hk, bindS]
    by_cases h : e.1 = k
    · left
      refine ⟨0, e, ?_, rfl, h, fun c l => ?_⟩
      · rw [decide_eq_true h.symm, condT]; simp only [lk, h, if_true]; rfl
      · simp only [upE, h, if_true, List.set_cons_zero]
    · rw [decide_eq_false (fun e => h e.symm), condF]
      rcases find_lk es k (i + 1) with ⟨j, e', h1, h2, h3, h4⟩ | ⟨h1, h2, h3⟩
      · left
        refine ⟨j + 1, e', ?_, h2, h3, fun c l => ?_⟩
        · rw [h1]; simp only [lk, h, if_false]; congr 3; omega
        · simp only [upE, h, if_false, h4, List.set_cons_succ]
      · right
        refine ⟨h1, ?_, fun c l => ?_⟩
        · simp only [lk, h, if_false, h2]
        · simp only [upE, h, if_false, h3, List.cons_append]
theorem keyFit70 (k : Int) : keyFit Try.prog 70 (.int .u64 k) = true := by unfold keyFit; rw [u70]
theorem lookup_lk {s : SH} {m c : Nat} {es : List En} (h : HP.get s.h m = some (.map (es.map ent) c)) (k : Int) : ∃ q, (q = 0 ∨ q = 2) ∧ lookupD Try.prog s 156 (.map (some m)) (.int .u64 k) false = some (sl rg q (lk es k)) := by
  have e : lookupD Try.prog s 156 (.map (some m)) (.int .u64 k) false = (findD (.int .u64 k) (es.map ent) 0).bind fun r => (match r with | some (_, v) => some (v, true) | none => (zeroV Try.prog 160).map fun v => (v, false)).map fun (p : Value × Bool) => cond false (.tuple #[p.1, .bool p.2]) p.1 := by
    unfold lookupD
    rw [u156]
    simp only [keyFit70, condT, map_of h, bindS]
    rfl
  rcases find_lk es k 0 with ⟨j, e', h1, h2, h3, h4⟩ | ⟨h1, h2, h3⟩
  · exact ⟨0, .inl rfl, by rw [e, h1, bindS]; rfl⟩
  · exact ⟨2, .inr rfl, by rw [e, h1, bindS, zv160, h2]; rfl⟩
theorem update_lk {s : SH} {m c : Nat} {es : List En} (h : HP.get s.h m = some (.map (es.map ent) c)) (k : Int) (l : List Rg) : mapUpdateD Try.prog s 156 (.map (some m)) (.int .u64 k) (sl rg 0 l) = some (putD s m (.map ((upE es c k l).1.map ent) (upE es c k l).2)) := by
  have e : mapUpdateD Try.prog s 156 (.map (some m)) (.int .u64 k) (sl rg 0 l) = (findD (.int .u64 k) (es.map ent) 0).bind fun r => match r with
      | some (i, _) => ((es.map ent)[i]?).map fun e => putD s m (.map ((es.map ent).set i (.int .u64 k, sl rg 0 l, e.2.2)) c)
      | none => some (putD s m (.map ((es.map ent) ++ [(.int .u64 k, sl rg 0 l, c)]) (c + 1))) := by
    unfold mapUpdateD
    rw [u156]
    simp only [keyFit70, condT, map_of h, bindS]
    rfl
  rcases find_lk es k 0 with ⟨j, e', h1, h2, h3, h4⟩ | ⟨h1, h2, h3⟩
  · rw [e, h1, bindS]
    simp only [Nat.zero_add]
    rw [List.getElem?_map, h2]
    simp only [Option.map_some, h4, List.map_set]
    rfl
  · rw [e, h1, bindS, h3]
    simp only [List.map_append]
    rfl
/-- What Add makes of the map. -/
def addE (es : List En) (c : Nat) (r : Rg) (ids : List Int) : List En × Nat := ids.foldl (fun p k => upE p.1 p.2 k (joinF (lk p.1 k) r)) (es, c)
def most (es : List En) (B : Nat) : Prop := ∀ e ∈ es, e.2.1.length ≤ B
theorem most_lk {es : List En} {B : Nat} (h : most es B) (k : Int) : (lk es k).length ≤ B := by
  induction es with
  | nil => exact Nat.zero_le _
  | cons e es ih =>
    unfold lk
    split
    · exact h e (List.mem_cons_self ..)
    · exact ih fun e he => h e (List.mem_cons_of_mem _ he)
theorem joinF_len (l : List Rg) (x : Rg) : (joinF l x).length ≤ l.length + 1 := by
  have := jfold_len l ([], false, x)
  unfold joinF
  revert this
  obtain ⟨out, done, x'⟩ := l.foldl jstep ([], false, x)
  cases done <;> simp <;> omega
theorem most_up {es : List En} {B : Nat} (h : most es B) (c : Nat) (k : Int) (l : List Rg) (hl : l.length ≤ B) : most (upE es c k l).1 B := by
  induction es with
  | nil => intro e he; simp only [upE, List.mem_singleton] at he; rw [he]; exact hl
  | cons e es ih =>
    have ih := ih fun e he => h e (List.mem_cons_of_mem _ he)
    unfold upE
    split
    · intro e' he
      rcases List.mem_cons.1 he with rfl | he
      · exact hl
      · exact h e' (List.mem_cons_of_mem _ he)
    · intro e' he
      rcases List.mem_cons.1 he with rfl | he
      · exact h _ (List.mem_cons_self ..)
      · exact ih e' he
theorem eqO_same (v : Value) : eqO HP (some v) v = true := by simp [eqO, FG]
theorem bel_ent (n : Nat) (es : List En) : ∀ e ∈ es.map ent, Bel n e.1 ∧ Bel n e.2.1 := by
  intro e he
  obtain ⟨x, _, rfl⟩ := List.mem_map.1 he
  exact ⟨.int _ _, bel_sl (by omega) (rg_bel n)⟩
theorem c47 {n p m c mm B : Nat} {s : SH} {es : List En} (ht : TombAt s p m) (hm : HP.get s.h m = some (.map (es.map ent) c)) (hp : p < s.n) (hmn : m < s.n) (r : Rg) (ids : List Int) (hB : most es B) (hbd : (B + ids.length + 1) * 16 ≤ 140737488355328) :
    callD Try.prog AT (n + 3) (.fn 47) [.pointer (some ⟨p, 0, none⟩), .agg (rg r).toArray, sl u6 mm ids] s = some [(.int .i64 (if rightR r ids then 0 else 2), if rightR r ids then putD s m (.map ((addE es c r ids).1.map ent) (addE es c r ids).2) else s)] := by
  have hpm : p ≠ m := by rintro rfl; unfold TombAt at ht; rw [ht] at hm; cases hm
  -- the run
  suffices h : ∃ s', bodyD Try.prog false (callD Try.prog AT (n + 2)) AT.N 47 Try.f47 [.pointer (some ⟨p, 0, none⟩), .agg (rg r).toArray, sl u6 mm ids] s = some [(.int .i64 (if rightR r ids then 0 else 2), s')] ∧ s.n ≤ s'.n ∧ (∀ j, j < s.n → j ≠ m → HP.get s'.h j = HP.get s.h j) ∧ HP.get s'.h m = some (if rightR r ids then .map ((addE es c r ids).1.map ent) (addE es c r ids).2 else .map (es.map ent) c) by
    obtain ⟨s', e, h1, h2, h3⟩ := h
    rw [call_cut (fl := [none]) (fn := Try.f47) rfl rfl (by kernel_rfl)]
    show ((bodyD Try.prog false _ _ 47 Try.f47 _ s).bind _) = _
    rw [e, bindS]
    have hmrg : mrg s s' = if rightR r ids then putD s m (.map ((addE es c r ids).1.map ent) (addE es c r ids).2) else s := by
      have e1 : mrg s s' = putD s m (if rightR r ids then .map ((addE es c r ids).1.map ent) (addE es c r ids).2 else .map (es.map ent) c) := mrg_put hmn h1 h2 h3
      rw [e1]
      cases rightR r ids with
      | true => rfl
      | false => exact put_same hm
    have hb : BelO s.n (HP.get s'.h m) := by
      rw [h3]
      split <;> exact bel_ent _ _
    rw [cut_at (fun j hj => if e : j = m then .inr (by rw [e]; exact hb) else .inl (h2 j hj e)) h1 (fun _ h => by cases h) (.int _ _), hmrg]
    rfl
  rw [f47_r]
  have hb : boxD s (.agg (rg r).toArray) = some (.pointer (some ⟨s.n, 0, none⟩), newD s (.row (rg r))) := box_at rfl rfl
  have hg : HP.get (newD s (.row (rg r))).h s.n = some (.row (rg r)) := get_new rfl
  have ho : ∀ j, j < s.n → HP.get (newD s (.row (rg r))).h j = HP.get s.h j := fun j hj => get_old (by omega)
  have hn : (newD s (.row (rg r))).n = s.n + 1 := newD_n _ _
  simp only [f47, o_bool, o_alloc, o_box, o_build, o_buildSlice, o_load, o_store, o_nilCheck, o_bop, o_uop, o_conv, o_slc, o_fieldAddr, o_field, o_indexAddr, o_index, o_extract, o_lookup, o_mapUpdate, o_makeMap, o_mapEntry, o_entryStore, o_delete, o_len, o_append, o_min, o_max, o_tgt, bindS, many1, jnE, boolS, gdB, fst', snd', hb]
  generalize newD s (.row (rg r)) = s1 at hg ho hn
  have ht1 : TombAt s1 p m := by unfold TombAt; rw [ho p hp]; exact ht
  have hld : loadD Try.prog s1 69 (.pointer (some ⟨s.n, 0, none⟩)) = some (.agg (rg r).toArray) := by rw [load_row hg, part_agg a69 z69 (l := rg r) rfl rfl]
  simp only [c101 ht1, o_bool, o_alloc, o_box, o_build, o_buildSlice, o_load, o_store, o_nilCheck, o_bop, o_uop, o_conv, o_slc, o_fieldAddr, o_field, o_indexAddr, o_index, o_extract, o_lookup, o_mapUpdate, o_makeMap, o_mapEntry, o_entryStore, o_delete, o_len, o_append, o_min, o_max, o_tgt, bindS, many1, jnE, boolS, gdB, fst', snd', uop_not, Bool.not_true, condF, hld, c102 (n := n + 1) r ids (by omega)]
  cases hr : rightR r ids with
  | false =>
    simp only [Bool.not_false, condT]
    refine ⟨s1, rfl, by omega, fun j hj _ => ho j hj, ?_⟩
    rw [ho m hmn]; exact hm
  | true =>
    simp only [Bool.not_true, condF, len_sl u67, bindS, if_true]
    refine list_rule ids (fun i (x : Value × Value) (s' : SH) => x.2 = .int .i64 i ∧ s'.n = s1.n ∧ (∀ j, j ≠ m → HP.get s'.h j = HP.get s1.h j) ∧ HP.get s'.h m = some (.map ((addE es c r (ids.take i)).1.map ent) (addE es c r (ids.take i)).2) ∧ most (addE es c r (ids.take i)).1 (B + i)) (fun (q : Option (List (Value × SH))) => ∃ s', q = some [(.int .i64 0, s')] ∧ s.n ≤ s'.n ∧ (∀ j, j < s.n → j ≠ m → HP.get s'.h j = HP.get s.h j) ∧ HP.get s'.h m = some (.map ((addE es c r ids).1.map ent) (addE es c r ids).2)) ?_ ?_ ?h0 (by show ids.length < 2 ^ 64; omega)
    case h0 => exact ⟨rfl, rfl, fun _ _ => rfl, by rw [ho m hmn]; exact hm, hB⟩
    · rintro i hi ⟨x1, x2⟩ s' ⟨h1, h2, h3, h4, h5⟩ nx hnx
      simp only at h1
      subst h1
      have hlt : (i : Int) < ids.length := by omega
      have hw : IntKind.i64.wrap ((i : Int) + 1) = ((i + 1 : Nat) : Int) := by rw [wrap_i64 (by omega) (by omega)]; rfl
      have hidl : loadD Try.prog s' 70 (fpV (u6 ids[i]).toArray 0) = some (.int .u64 ids[i]) := by rw [load_fp, part_one a70]; rfl
      have hn1 : nilCheckD (.pointer (some ⟨p, 0, none⟩)) = some (.pointer (some ⟨p, 0, none⟩)) := rfl
      have ht2 : HP.get s'.h p = some (.row [.map (some m)]) := by rw [h3 p hpm]; exact ht1
      have hl : loadD Try.prog s' 156 (.pointer (some ⟨p, 0, none⟩)) = some (.map (some m)) := by rw [load_row ht2, part_one a156]; rfl
      have hsn : s.n ≠ m := by omega
      have hrow : HP.get s'.h s.n = some (.row (rg r)) := by rw [h3 s.n hsn, hg]
      obtain ⟨q, _, hlk⟩ := lookup_lk h4 ids[i]
      have hlen : ((lk (addE es c r (ids.take i)).1 ids[i]).length + 1) * 16 ≤ 140737488355328 := by
        have := most_lk h5 ids[i]
        have h8 : (lk (addE es c r (ids.take i)).1 ids[i]).length + 1 ≤ B + ids.length + 1 := by omega
        exact Nat.le_trans (Nat.mul_le_mul_right 16 h8) hbd
      have hj := c103 (n := n) (s := s') (m := q) (lk (addE es c r (ids.take i)).1 ids[i]) r hlen
      have hone : oneO (callD Try.prog AT (n + 2)) (.fn 103) [sl rg q (lk (addE es c r (ids.take i)).1 ids[i]), .agg (rg r).toArray, .func (.func 104) #[] #[]] s' = some (sl rg 0 (joinF (lk (addE es c r (ids.take i)).1 ids[i]) r), s') := oneS hj
      have hup := update_lk h4 ids[i] (joinF (lk (addE es c r (ids.take i)).1 ids[i]) r)
      simp only [f47_l0, o_bool, o_alloc, o_box, o_build, o_buildSlice, o_load, o_store, o_nilCheck, o_bop, o_uop, o_conv, o_slc, o_fieldAddr, o_field, o_indexAddr, o_index, o_extract, o_lookup, o_mapUpdate, o_makeMap, o_mapEntry, o_entryStore, o_delete, o_len, o_append, o_min, o_max, o_tgt, bindS, many1, jnE, boolS, gdB, fst', snd', bop_lss, hlt, decide_true, condT, ixs67 u6_len hi, hidl, hn1, fld158_0, hl, hlk, fld69_0, fld69_1, ld3_0 hrow, ld3_1 hrow, bld163, hone, hup, eqO_same, Bool.and_self, bop_add, hw]
      have hstep : addE es c r (ids.take (i + 1)) = upE (addE es c r (ids.take i)).1 (addE es c r (ids.take i)).2 ids[i] (joinF (lk (addE es c r (ids.take i)).1 ids[i]) r) := by
        unfold addE
        rw [List.take_succ_eq_append_getElem hi, List.foldl_append]; rfl
      refine hnx (_, _) _ ⟨rfl, ?_, fun j hj => ?_, ?_, ?_⟩
      · rw [putD_n]; exact h2
      · rw [get_put_other hj, h3 j hj]
      · rw [get_put_same, hstep]
      · rw [hstep]
        refine most_up (fun e he => Nat.le_succ_of_le (h5 e he)) _ _ _ ?_
        have := joinF_len (lk (addE es c r (ids.take i)).1 ids[i]) r
        have := most_lk h5 ids[i]
        omega
    · rintro ⟨x1, x2⟩ s' ⟨h1, h2, h3, h4, h5⟩ nx
      simp only at h1
      subst h1
      have hnlt : ¬ ((ids.length : Int) < ids.length) := by omega
      simp only [f47_l0, o_bool, o_alloc, o_box, o_build, o_buildSlice, o_load, o_store, o_nilCheck, o_bop, o_uop, o_conv, o_slc, o_fieldAddr, o_field, o_indexAddr, o_index, o_extract, o_lookup, o_mapUpdate, o_makeMap, o_mapEntry, o_entryStore, o_delete, o_len, o_append, o_min, o_max, o_tgt, bindS, many1, jnE, boolS, gdB, fst', snd', bop_lss, hnlt, decide_false, condF, beq_yes, condT]
      rw [List.take_length] at h4
      exact ⟨s', rfl, by omega, fun j hj hjm => by rw [h3 j hjm, ho j hj], h4⟩
end Go.Proofs.Ytmhmbmogodofeaa.S
