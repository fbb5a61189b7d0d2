import Derived.Test.YtmhmbmogodofeaaCRe
set_option autoImplicit false
set_option linter.unusedVariables false
set_option linter.unusedSimpArgs false
set_option maxRecDepth 100000
namespace Go.Proofs.Ytmhmbmogodofeaa.S
open Go.FS Go.RowKit
attribute [local congr] bind_cg cond_cg gd_cg
abbrev Ps := Bool × Bool × Bool × Bool × Bool
def pv (p : Ps) : List Value := [.bool p.1, .bool p.2.1, .bool p.2.2.1, .bool p.2.2.2.1, .bool p.2.2.2.2]
def pz : Ps := (false, false, false, false, false)
def partsR (r : RecD) : Ps := (decide ((r.new.length : Int) > 0), decide ((r.pts.length : Int) > 0), decide ((r.ids.length : Int) > 0), !decide (r.rng = (0, 0)), !decide (r.n = 0))
theorem flo69_0 (id : Nat) : fieldAddrD Try.prog 69 (.pointer (some ⟨id, 4, none⟩)) 0 = some (.pointer (some ⟨id, 4, none⟩)) := field_own (n := 1) (fd := { name := "From", type := 3, offset := 0, embedded := false, tag := "", pkgPath := "", byteOffset := 0 }) u69 rfl z3 (by decide)
theorem flo69_1 (id : Nat) : fieldAddrD Try.prog 69 (.pointer (some ⟨id, 4, none⟩)) 1 = some (.pointer (some ⟨id, 5, none⟩)) := field_own (n := 1) (fd := { name := "To", type := 3, offset := 1, embedded := false, tag := "", pkgPath := "", byteOffset := 8 }) u69 rfl z3 (by decide)
section lds
variable {s : SH} {id : Nat} {r : RecD} (h : HP.get s.h id = some (.row (enR r)))
include h
theorem lr4a : loadD Try.prog s 3 (.pointer (some ⟨id, 4, none⟩)) = some (.int .i64 r.rng.1) := by rw [load_row h, part_one a3]; rfl
theorem lr4b : loadD Try.prog s 3 (.pointer (some ⟨id, 5, none⟩)) = some (.int .i64 r.rng.2) := by rw [load_row h, part_one a3]; rfl
end lds
section lps
variable {s : SH} {id : Nat} {p : Ps} (h : HP.get s.h id = some (.row (pv p)))
include h
theorem lp : loadD Try.prog s 240 (.pointer (some ⟨id, 0, none⟩)) = some (.agg (pv p).toArray) := by rw [load_row h, part_agg a240 z240 (l := pv p) rfl rfl]
theorem lp0 : loadD Try.prog s 4 (.pointer (some ⟨id, 0, none⟩)) = some (.bool p.1) := by rw [load_row h, part_one a4]; rfl
theorem lp1 : loadD Try.prog s 4 (.pointer (some ⟨id, 1, none⟩)) = some (.bool p.2.1) := by rw [load_row h, part_one a4]; rfl
theorem lp2 : loadD Try.prog s 4 (.pointer (some ⟨id, 2, none⟩)) = some (.bool p.2.2.1) := by rw [load_row h, part_one a4]; rfl
theorem lp3 : loadD Try.prog s 4 (.pointer (some ⟨id, 3, none⟩)) = some (.bool p.2.2.2.1) := by rw [load_row h, part_one a4]; rfl
theorem lp4 : loadD Try.prog s 4 (.pointer (some ⟨id, 4, none⟩)) = some (.bool p.2.2.2.2) := by rw [load_row h, part_one a4]; rfl
theorem sp (q : Ps) : storeD Try.prog s 240 (.pointer (some ⟨id, 0, none⟩)) (.agg (pv q).toArray) = some (putD s id (.row (pv q))) := store_row z240 h rfl rfl rfl (by simp [pv])
end lps
theorem al240 (s : SH) : allocD Try.prog s 240 = some (.pointer (some ⟨s.n, 0, none⟩), newD s (.row (pv pz))) := alloc_at zr240
theorem bld240 (a b c d e : Bool) : buildD Try.prog 240 [(0, .bool a), (1, .bool b), (2, .bool c), (3, .bool d), (4, .bool e)] = some (.agg (pv (a, b, c, d, e)).toArray) := by kernel_rfl
theorem bld240_4 (e : Bool) : buildD Try.prog 240 [(4, .bool e)] = some (.agg (pv (false, false, false, false, e)).toArray) := by kernel_rfl
theorem bld240_0 : buildD Try.prog 240 [(0, .bool true)] = some (.agg (pv (true, false, false, false, false)).toArray) := by kernel_rfl
theorem bld240_m (a : Bool) : buildD Try.prog 240 [(0, .bool a), (2, .bool true), (4, .bool true)] = some (.agg (pv (a, false, true, false, true)).toArray) := by kernel_rfl
theorem bld69_0 : buildD Try.prog 69 [] = some (.agg (rg (0, 0)).toArray) := by kernel_rfl
def eqP (p q : Ps) : Bool := (p.1 == q.1) && ((p.2.1 == q.2.1) && ((p.2.2.1 == q.2.2.1) && ((p.2.2.2.1 == q.2.2.2.1) && (p.2.2.2.2 == q.2.2.2.2))))
theorem pv_eq (p q : Ps) : bopD Try.prog .eql 240 (.agg (pv p).toArray) (.agg (pv q).toArray) = some (.bool (eqP p q)) := by
  refine (bop_agg (P := Try.prog) (d := 6) (t := 240) (a := (pv p).toArray) (b := (pv q).toArray) (r := eqP p q) (by decide) (by kernel_rfl) rfl rfl ?_).1
  have h0 : eqS Try.prog 6 240 (.agg #[.bool p.1, .bool p.2.1, .bool p.2.2.1, .bool p.2.2.2.1, .bool p.2.2.2.2]) (.agg #[.bool q.1, .bool q.2.1, .bool q.2.2.1, .bool q.2.2.2.1, .bool q.2.2.2.2]) = cond (p.1 == q.1) (cond (p.2.1 == q.2.1) (cond (p.2.2.1 == q.2.2.1) (cond (p.2.2.2.1 == q.2.2.2.1) (cond (p.2.2.2.2 == q.2.2.2.2) (some true) (some false)) (some false)) (some false)) (some false)) (some false) := by kernel_rfl
  refine Eq.trans h0 ?_
  unfold eqP
  cases (p.1 == q.1) <;> cases (p.2.1 == q.2.1) <;> cases (p.2.2.1 == q.2.2.1) <;> cases (p.2.2.2.1 == q.2.2.2.1) <;> cases (p.2.2.2.2 == q.2.2.2.2) <;> rfl
theorem c174 {n : Nat} {s : SH} (r : RecD) : callD Try.prog AB (n + 1) (.fn 174) [.agg (enR r).toArray] s = some [(.agg (pv (partsR r)).toArray, s)] := by
  refine cut_call (fn := Try.f174) rfl rfl (by kernel_rfl) (v := .agg (pv (partsR r)).toArray) (fun _ h => by cases h) ?_ ?_
  · show Bel s.n (.agg (pv (partsR r)).toArray)
    refine .agg _ fun v hv => ?_
    simp only [pv, List.mem_cons, List.not_mem_nil, or_false] at hv
    rcases hv with rfl | rfl | rfl | rfl | rfl <;> exact .bool _
  show One (bodyD Try.prog false _ _ 174 Try.f174 _ s) _
  rw [f174_r]
  have g1 : HP.get (newD (newD s (.row (enR r))) (.row (pv pz))).h s.n = some (.row (enR r)) := by rw [get_old (by rw [newD_n]; omega), get_new rfl]
  have g2 : HP.get (newD (newD s (.row (enR r))) (.row (pv pz))).h (s.n + 1) = some (.row (pv pz)) := get_new (by rw [newD_n])
  simp only [f174, o_bool, o_alloc, o_box, o_build, o_buildSlice, o_load, o_store, o_nilCheck, o_bop, o_uop, o_conv, o_slc, o_fieldAddr, o_field, o_indexAddr, o_index, o_extract, o_lookup, o_mapUpdate, o_makeMap, o_mapEntry, o_entryStore, o_delete, o_len, o_append, o_min, o_max, o_tgt, bindS, many1, jnE, boolS, gdB, fst', snd', bx_r, al240, newD_n, fld72_1, fld72_2, fld72_3, fld72_4, fld72_5, lr1 g1, lr2 g1, lr3 g1, lr4 g1, lr5 g1, len_sl u65, len_sl u66, len_sl u67, bop_gtr, bld69_0, (rg_cmp _ _).2, b_neq, bld240, sp g2, lp (get_put_same (H := HP) _)]
  exact One.ret ⟨rfl, (((Ext.refl s).new _).new _).put (by omega) _⟩
/-- Has a record no more than its kind? -/
def shapedR (r : RecD) : Bool :=
  let p := partsR r
  if r.kind = 1 then !p.2.2.1 && (!p.2.2.2.1 && !p.2.2.2.2)
  else if r.kind = 2 then !p.1 && (!p.2.1 && (!p.2.2.2.2 && ((tmOk r.rng.1 && tmOk r.rng.2) && decide (r.rng.1 ≤ r.rng.2))))
  else if r.kind = 3 then eqP p (true, false, false, false, false)
  else if r.kind = 4 then eqP p (p.1, false, true, false, true) && ((!p.1 || (decide (r.new.length = 1) && decide ((r.new.map nid).head? = some r.n))) && !(r.ids.any fun x => decide (r.n = x)))
  else if r.kind = 6 then !decide (r.n > 35184372088832) && eqP p (false, false, false, false, p.2.2.2.2)
  else if r.kind = 5 then eqP p (false, false, false, false, p.2.2.2.2)
  else false
theorem ix65_0 {m : Nat} {xs : List Nm} (h : 0 < xs.length) : indexAddrD Try.prog 65 (sl nm m xs) (.int .i64 0) = some (fpV (nm xs[0]).toArray 0) := ixs65 nm_len (i := 0) h
theorem c138 {n : Nat} {s : SH} (r : RecD) (hs : Small r) : callD Try.prog AB (n + 5) (.fn 138) [.agg (enR r).toArray] s = some [(.bool (shapedR r), s)] := by
  refine cut_call (fn := Try.f138) rfl rfl (by kernel_rfl) (v := .bool (shapedR r)) (fun _ h => by cases h) (.bool _) ?_
  show One (bodyD Try.prog false _ _ 138 Try.f138 _ s) _
  rw [f138_r]
  obtain ⟨z1, z2, z3, z4⟩ := hs
  have g0 : HP.get (newD s (.row (enR r))).h s.n = some (.row (enR r)) := get_new rfl
  have g1 : HP.get (newD (newD s (.row (enR r))) (.row (pv pz))).h (s.n + 1) = some (.row (pv pz)) := get_new (by rw [newD_n])
  have g2 : HP.get (putD (newD (newD s (.row (enR r))) (.row (pv pz))) (s.n + 1) (.row (pv (partsR r)))).h s.n = some (.row (enR r)) := by rw [get_put_other (by omega), get_old (by rw [newD_n]; omega), g0]
  have g3 : HP.get (putD (newD (newD s (.row (enR r))) (.row (pv pz))) (s.n + 1) (.row (pv (partsR r)))).h (s.n + 1) = some (.row (pv (partsR r))) := get_put_same _
  have he : Ext s (putD (newD (newD s (.row (enR r))) (.row (pv pz))) (s.n + 1) (.row (pv (partsR r)))) := (((Ext.refl s).new _).new _).put (by omega) _
  simp only [f138, o_bool, o_alloc, o_box, o_build, o_buildSlice, o_load, o_store, o_nilCheck, o_bop, o_uop, o_conv, o_slc, o_fieldAddr, o_field, o_indexAddr, o_index, o_extract, o_lookup, o_mapUpdate, o_makeMap, o_mapEntry, o_entryStore, o_delete, o_len, o_append, o_min, o_max, o_tgt, bindS, many1, jnE, boolS, gdB, fst', snd', bx_r, lr g0, c174, al240, newD_n, sp g1]
  generalize putD (newD (newD s (.row (enR r))) (.row (pv pz))) (s.n + 1) (.row (pv (partsR r))) = s1 at g2 g3 he
  unfold shapedR
  generalize partsR r = p at g3
  obtain ⟨p0, p1, p2, p3, p4⟩ := p
  simp only [fld72_0, fld72_1, fld72_3, fld72_4, fld72_5, fld240_0, fld240_1, fld240_2, fld240_3, fld240_4, flo69_0, flo69_1, lr0 g2, lr1 g2, lr3 g2, lr4a g2, lr4b g2, lr5 g2, lp g3, lp0 g3, lp1 g3, lp2 g3, lp3 g3, lp4 g3, o_bool, o_alloc, o_box, o_build, o_buildSlice, o_load, o_store, o_nilCheck, o_bop, o_uop, o_conv, o_slc, o_fieldAddr, o_field, o_indexAddr, o_index, o_extract, o_lookup, o_mapUpdate, o_makeMap, o_mapEntry, o_entryStore, o_delete, o_len, o_append, o_min, o_max, o_tgt, bindS, many1, jnE, boolS, gdB, fst', snd', bop_eql, bld240_4, bld240_0, bld240_m, pv_eq, uop_not, bop_gtr, bop_leq']
  have fin : ∀ b : Bool, ∀ w : Bool, b = w → One (some [(Value.bool b, s1)]) fun v' s' => v' = Value.bool w ∧ Ext s s' := fun b w h => One.ret ⟨by rw [h], he⟩
  by_cases k1 : r.kind = 1
  · simp only [k1, decide_true, condT, if_true]
    cases p2 <;> cases p3 <;> exact fin _ _ rfl
  by_cases k2 : r.kind = 2
  · simp only [k2, decide_true, decide_false, condT, condF, if_true, bs228_2, tm_2, o_bool, o_alloc, o_box, o_build, o_buildSlice, o_load, o_store, o_nilCheck, o_bop, o_uop, o_conv, o_slc, o_fieldAddr, o_field, o_indexAddr, o_index, o_extract, o_lookup, o_mapUpdate, o_makeMap, o_mapEntry, o_entryStore, o_delete, o_len, o_append, o_min, o_max, o_tgt, bindS, many1, jnE, boolS, gdB, fst', snd', show ¬ ((2 : Int) = 1) from by decide, if_false]
    cases p0
    · cases p1
      · cases p4
        · cases (tmOk r.rng.1 && tmOk r.rng.2) <;> simp only [Bool.not_false, condT, condF, lr4a g2, lr4b g2, o_bool, o_alloc, o_box, o_build, o_buildSlice, o_load, o_store, o_nilCheck, o_bop, o_uop, o_conv, o_slc, o_fieldAddr, o_field, o_indexAddr, o_index, o_extract, o_lookup, o_mapUpdate, o_makeMap, o_mapEntry, o_entryStore, o_delete, o_len, o_append, o_min, o_max, o_tgt, bindS, many1, jnE, boolS, gdB, fst', snd', bop_leq'] <;> exact fin _ _ rfl
        · exact fin _ _ rfl
      · exact fin _ _ rfl
    · exact fin _ _ rfl
  by_cases k3 : r.kind = 3
  · simp only [k3, decide_true, decide_false, condT, condF, if_true, show ¬ ((3 : Int) = 1) from by decide, show ¬ ((3 : Int) = 2) from by decide, if_false]
    exact fin _ _ rfl
  by_cases k4 : r.kind = 4
  · simp only [k4, decide_true, decide_false, condT, condF, if_true, show ¬ ((4 : Int) = 1) from by decide, show ¬ ((4 : Int) = 2) from by decide, show ¬ ((4 : Int) = 3) from by decide, if_false, c175 r.ids r.n z4, uop_not, o_bool, o_alloc, o_box, o_build, o_buildSlice, o_load, o_store, o_nilCheck, o_bop, o_uop, o_conv, o_slc, o_fieldAddr, o_field, o_indexAddr, o_index, o_extract, o_lookup, o_mapUpdate, o_makeMap, o_mapEntry, o_entryStore, o_delete, o_len, o_append, o_min, o_max, o_tgt, bindS, many1, jnE, boolS, gdB, fst', snd']
    cases p0
    · simp only [Bool.not_false, condT]
      cases eqP (false, p1, p2, p3, p4) (false, false, true, false, true) <;> exact fin _ _ (by simp)
    · simp only [Bool.not_true, condF, len_sl u65, o_bool, o_alloc, o_box, o_build, o_buildSlice, o_load, o_store, o_nilCheck, o_bop, o_uop, o_conv, o_slc, o_fieldAddr, o_field, o_indexAddr, o_index, o_extract, o_lookup, o_mapUpdate, o_makeMap, o_mapEntry, o_entryStore, o_delete, o_len, o_append, o_min, o_max, o_tgt, bindS, many1, jnE, boolS, gdB, fst', snd', bop_eql]
      by_cases l1 : r.new.length = 1
      · have l1' : (r.new.length : Int) = 1 := by omega
        have hh : (r.new.map nid).head? = some (r.new[0]'(by omega)).1 := by rw [List.head?_eq_getElem?, List.getElem?_map, List.getElem?_eq_getElem (by omega)]; rfl
        simp only [l1', decide_true, condT, ix65_0 (show 0 < r.new.length by omega), flf135_0, ldf_nm0, o_bool, o_alloc, o_box, o_build, o_buildSlice, o_load, o_store, o_nilCheck, o_bop, o_uop, o_conv, o_slc, o_fieldAddr, o_field, o_indexAddr, o_index, o_extract, o_lookup, o_mapUpdate, o_makeMap, o_mapEntry, o_entryStore, o_delete, o_len, o_append, o_min, o_max, o_tgt, bindS, many1, jnE, boolS, gdB, fst', snd', bop_eql, hh, l1, Option.some.injEq]
        cases eqP (true, p1, p2, p3, p4) (true, false, true, false, true) <;> cases decide ((r.new[0]'(by omega)).1 = r.n) <;> exact fin _ _ (by simp)
      · have l1' : ¬ ((r.new.length : Int) = 1) := by omega
        simp only [l1', decide_false, condF, l1]
        cases eqP (true, p1, p2, p3, p4) (true, false, true, false, true) <;> exact fin _ _ (by simp)
  by_cases k6 : r.kind = 6
  · simp only [k6, decide_true, decide_false, condT, condF, if_true, show ¬ ((6 : Int) = 1) from by decide, show ¬ ((6 : Int) = 2) from by decide, show ¬ ((6 : Int) = 3) from by decide, show ¬ ((6 : Int) = 4) from by decide, if_false]
    cases decide (r.n > 35184372088832) <;> exact fin _ _ (by simp)
  by_cases k5 : r.kind = 5
  · simp only [k5, decide_true, decide_false, condT, condF, if_true, show ¬ ((5 : Int) = 1) from by decide, show ¬ ((5 : Int) = 2) from by decide, show ¬ ((5 : Int) = 3) from by decide, show ¬ ((5 : Int) = 4) from by decide, show ¬ ((5 : Int) = 6) from by decide, if_false]
    exact fin _ _ rfl
  · simp only [k1, k2, k3, k4, k5, k6, decide_false, condF, if_false]
    exact fin _ _ rfl

attribute [local congr] bind_cg cond_cg gd_cg
def ptOk (p : Pt) : Bool := !decide (p.1 = 0) && tmOk p.2.1
def nmOk (a : Nm) : Bool := okL a.2.2
def checkR (r : RecD) : Bool := (((shapedR r && (rise (r.new.map nid) && (rise r.ids && decide ((r.pts.length : Int) ≤ 4096)))) && r.new.all nmOk) && r.pts.all ptOk)
theorem flo140_0 (id : Nat) : fieldAddrD Try.prog 140 (.pointer (some ⟨id, 1, none⟩)) 0 = some (.pointer (some ⟨id, 1, none⟩)) := field_own (n := 1) (fd := { name := "T", type := 3, offset := 0, embedded := false, tag := "", pkgPath := "", byteOffset := 0 }) u140 rfl z3 (by decide)
theorem flo140_1 (id : Nat) : fieldAddrD Try.prog 140 (.pointer (some ⟨id, 1, none⟩)) 1 = some (.pointer (some ⟨id, 2, none⟩)) := field_own (n := 1) (fd := { name := "V", type := 70, offset := 1, embedded := false, tag := "", pkgPath := "", byteOffset := 8 }) u140 rfl z70 (by decide)
def ptz : Pt := (0, 0, 0)
theorem al142 (s : SH) : allocD Try.prog s 142 = some (.pointer (some ⟨s.n, 0, none⟩), newD s (.row (pt ptz))) := alloc_at zr142
section ps
variable {s : SH} {id : Nat} {p : Pt} (h : HP.get s.h id = some (.row (pt p)))
include h
theorem ldp : loadD Try.prog s 142 (.pointer (some ⟨id, 0, none⟩)) = some (.agg (pt p).toArray) := by rw [load_row h, part_agg a142 z142 (l := pt p) rfl rfl]
theorem ldp0 : loadD Try.prog s 70 (.pointer (some ⟨id, 0, none⟩)) = some (.int .u64 p.1) := by rw [load_row h, part_one a70]; rfl
theorem ldp1 : loadD Try.prog s 3 (.pointer (some ⟨id, 1, none⟩)) = some (.int .i64 p.2.1) := by rw [load_row h, part_one a3]; rfl
theorem ldp2 : loadD Try.prog s 70 (.pointer (some ⟨id, 2, none⟩)) = some (.int .u64 p.2.2) := by rw [load_row h, part_one a70]; rfl
theorem st142 (q : Pt) : storeD Try.prog s 142 (.pointer (some ⟨id, 0, none⟩)) (.agg (pt q).toArray) = some (putD s id (.row (pt q))) := store_row z142 h rfl rfl rfl (by simp [pt])
end ps
theorem all_take {α : Type} {f : α → Bool} {xs : List α} {i : Nat} (hi : i < xs.length) : (xs.take (i + 1)).all f = ((xs.take i).all f && f xs[i]) := by
  rw [List.take_succ_eq_append_getElem hi, List.all_append]; simp
theorem c95 {n : Nat} {s : SH} (r : RecD) (hs : Small r) (hl : ∀ a ∈ r.new, SmallL a.2.2) : callD Try.prog AB (n + 6) (.fn 95) [.agg (enR r).toArray] s = some [(.int .i64 (if checkR r then 0 else 190), s)] := by
  refine cut_call (fn := Try.f95) rfl rfl (by kernel_rfl) (v := .int .i64 (if checkR r then 0 else 190)) (fun _ h => by cases h) (.int _ _) ?_
  show One (bodyD Try.prog false _ _ 95 Try.f95 _ s) _
  rw [f95_r]
  have g1 : HP.get (newD s (.row (enR r))).h s.n = some (.row (enR r)) := get_new rfl
  have he : Ext s (newD s (.row (enR r))) := (Ext.refl s).new _
  have hn1 : s.n < (newD s (.row (enR r))).n := by rw [newD_n]; omega
  simp only [f95, o_bool, o_alloc, o_box, o_build, o_buildSlice, o_load, o_store, o_nilCheck, o_bop, o_uop, o_conv, o_slc, o_fieldAddr, o_field, o_indexAddr, o_index, o_extract, o_lookup, o_mapUpdate, o_makeMap, o_mapEntry, o_entryStore, o_delete, o_len, o_append, o_min, o_max, o_tgt, bindS, many1, jnE, boolS, gdB, fst', snd', bx_r, newD_n, lr g1, c138 r hs]
  obtain ⟨z1, z2, z3, z4⟩ := hs
  simp only [fld72_1, fld72_2, fld72_3, lr1 g1, lr2 g1, lr3 g1, o_bool, o_alloc, o_box, o_build, o_buildSlice, o_load, o_store, o_nilCheck, o_bop, o_uop, o_conv, o_slc, o_fieldAddr, o_field, o_indexAddr, o_index, o_extract, o_lookup, o_mapUpdate, o_makeMap, o_mapEntry, o_entryStore, o_delete, o_len, o_append, o_min, o_max, o_tgt, bindS, many1, jnE, boolS, gdB, fst', snd', c139 r.new z1, c141 r.ids z4, len_sl u66, bop_leq']
  generalize newD s (.row (enR r)) = s1 at g1 he hn1
  have tail : ∀ b : Bool, b = (shapedR r && (rise (r.new.map nid) && (rise r.ids && decide ((r.pts.length : Int) ≤ 4096)))) → One ((lenOfD Try.prog s1 65 (sl nm r.mN r.new)).bind fun v70 =>
      iterS (f95_l0 (dOps Try.prog) (callD Try.prog AB (n + 5)) AB.N (sl nm r.mN r.new) v70)
      (fun i84 x85 s86 => (bif Nat.beq i84 0 then
      (loadD Try.prog s86 66 (.pointer (some ⟨s.n, 2, none⟩))).bind fun v90 =>
      (lenOfD Try.prog s86 66 v90).bind fun v91 =>
      iterS (f95_l1 (dOps Try.prog) (callD Try.prog AB (n + 5)) AB.N v90 v91)
      (fun i109 x110 s111 => (bif Nat.beq i109 2 then
      (uopD Try.prog .not x110.1).bind fun v114 =>
      (boolD v114).bind fun b115 => cond b115 (
      some [((.int .i64 190), s111)]) (
      some [((.int .i64 0), s111)]) else none))
      (fun x112 s113 => some [((.int .i64 0), s113)]) AB.N (x85.1, (.int .i64 0)) s86 else none))
      (fun x87 s88 => some [((.int .i64 0), s88)]) AB.N (.bool b, (.int .i64 0)) s1) fun v' s' => v' = Value.int .i64 (if checkR r then 0 else 190) ∧ Ext s s' := by
    intro b hb
    simp only [bindS, len_sl u65]
    refine list_one r.new (fun i (x : Value × Value) (s' : SH) => Ext s1 s' ∧ x.2 = .int .i64 i ∧ ∃ c : Bool, x.1 = .bool c ∧ c = (b && (r.new.take i).all nmOk)) ?_ ?_ ?h0 (by show r.new.length < 2 ^ 64; omega)
    case h0 => exact ⟨.refl _, rfl, b, rfl, by simp⟩
    · rintro i hi ⟨x1, x2⟩ s' ⟨e1, h1, c, h2, h3⟩ nx hnx
      simp only at h1 h2
      subst h1 h2
      have hlt : (i : Int) < r.new.length := by omega
      have hw : IntKind.i64.wrap ((i : Int) + 1) = ((i + 1 : Nat) : Int) := by rw [wrap_i64 (by omega) (by omega)]; rfl
      have hst : storeD Try.prog (newD s' (.row (nm nz))) 135 (.pointer (some ⟨s'.n, 0, none⟩)) (.agg (nm r.new[i]).toArray) = some (putD (newD s' (.row (nm nz))) s'.n (.row (nm r.new[i]))) := st135 (get_new rfl)
      have ha : HP.get (putD (newD s' (.row (nm nz))) s'.n (.row (nm r.new[i]))).h s'.n = some (.row (nm r.new[i])) := get_put_same _
      have he2 : Ext s1 (putD (newD s' (.row (nm nz))) s'.n (.row (nm r.new[i]))) := (e1.new _).put (by have := e1.1; omega) _
      have h22 := fun s => c22 (n := n + 2) (m := r.new[i].2.1) (s := s) r.new[i].2.2 (hl _ (List.getElem_mem hi))
      simp only [f95_l0, o_bool, o_alloc, o_box, o_build, o_buildSlice, o_load, o_store, o_nilCheck, o_bop, o_uop, o_conv, o_slc, o_fieldAddr, o_field, o_indexAddr, o_index, o_extract, o_lookup, o_mapUpdate, o_makeMap, o_mapEntry, o_entryStore, o_delete, o_len, o_append, o_min, o_max, o_tgt, bindS, many1, jnE, boolS, gdB, fst', snd', bop_lss, hlt, decide_true, condT, ixs65 nm_len hi, ldf_nm, al135, hst, fld135_1, ldn_1 ha, bop_add, hw]
      cases c with
      | true =>
        simp only [condT, h22, o_bool, o_alloc, o_box, o_build, o_buildSlice, o_load, o_store, o_nilCheck, o_bop, o_uop, o_conv, o_slc, o_fieldAddr, o_field, o_indexAddr, o_index, o_extract, o_lookup, o_mapUpdate, o_makeMap, o_mapEntry, o_entryStore, o_delete, o_len, o_append, o_min, o_max, o_tgt, bindS, many1, jnE, boolS, gdB, fst', snd', bop_eql, bop_add, hw]
        refine hnx (_, _) _ ⟨he2, rfl, _, rfl, ?_⟩
        rw [all_take hi, ← Bool.and_assoc, ← h3, Bool.true_and]
        unfold nmOk
        cases okL r.new[i].2.2 <;> rfl
      | false =>
        simp only [condF, o_bool, o_alloc, o_box, o_build, o_buildSlice, o_load, o_store, o_nilCheck, o_bop, o_uop, o_conv, o_slc, o_fieldAddr, o_field, o_indexAddr, o_index, o_extract, o_lookup, o_mapUpdate, o_makeMap, o_mapEntry, o_entryStore, o_delete, o_len, o_append, o_min, o_max, o_tgt, bindS, many1, jnE, boolS, gdB, fst', snd', bop_add, hw]
        refine hnx (_, _) _ ⟨he2, rfl, _, rfl, ?_⟩
        rw [all_take hi, ← Bool.and_assoc, ← h3, Bool.false_and]
    · rintro ⟨x1, x2⟩ s' ⟨e1, h1, c, h2, h3⟩ nx
      simp only at h1 h2
      subst h1 h2
      have hnlt : ¬ ((r.new.length : Int) < r.new.length) := by omega
      rw [List.take_length] at h3
      have g2 : HP.get s'.h s.n = some (.row (enR r)) := by rw [e1.2 _ hn1, g1]
      simp only [f95_l0, o_bool, o_alloc, o_box, o_build, o_buildSlice, o_load, o_store, o_nilCheck, o_bop, o_uop, o_conv, o_slc, o_fieldAddr, o_field, o_indexAddr, o_index, o_extract, o_lookup, o_mapUpdate, o_makeMap, o_mapEntry, o_entryStore, o_delete, o_len, o_append, o_min, o_max, o_tgt, bindS, many1, jnE, boolS, gdB, fst', snd', bop_lss, hnlt, decide_false, condF, beq_yes, condT, lr2 g2, len_sl u66]
      refine list_one r.pts (fun i (x : Value × Value) (s' : SH) => Ext s1 s' ∧ x.2 = .int .i64 i ∧ ∃ d : Bool, x.1 = .bool d ∧ d = (c && (r.pts.take i).all ptOk)) ?_ ?_ ?h1 (by show r.pts.length < 2 ^ 64; omega)
      case h1 => exact ⟨e1, rfl, c, rfl, by simp⟩
      · rintro i hi ⟨x1, x2⟩ s' ⟨e1, k1, d, k2, k3⟩ nx hnx
        simp only at k1 k2
        subst k1 k2
        have hlt : (i : Int) < r.pts.length := by omega
        have hw : IntKind.i64.wrap ((i : Int) + 1) = ((i + 1 : Nat) : Int) := by rw [wrap_i64 (by omega) (by omega)]; rfl
        have hst : storeD Try.prog (newD s' (.row (pt ptz))) 142 (.pointer (some ⟨s'.n, 0, none⟩)) (.agg (pt r.pts[i]).toArray) = some (putD (newD s' (.row (pt ptz))) s'.n (.row (pt r.pts[i]))) := st142 (get_new rfl) _
        have ha : HP.get (putD (newD s' (.row (pt ptz))) s'.n (.row (pt r.pts[i]))).h s'.n = some (.row (pt r.pts[i])) := get_put_same _
        have he2 : Ext s1 (putD (newD s' (.row (pt ptz))) s'.n (.row (pt r.pts[i]))) := (e1.new _).put (by have := e1.1; omega) _
        simp only [f95_l1, o_bool, o_alloc, o_box, o_build, o_buildSlice, o_load, o_store, o_nilCheck, o_bop, o_uop, o_conv, o_slc, o_fieldAddr, o_field, o_indexAddr, o_index, o_extract, o_lookup, o_mapUpdate, o_makeMap, o_mapEntry, o_entryStore, o_delete, o_len, o_append, o_min, o_max, o_tgt, bindS, many1, jnE, boolS, gdB, fst', snd', bop_lss, hlt, decide_true, condT, ixs66 pt_len hi, ld_pt, al142, hst, fld142_0, fld142_1, flo140_0, ldp0 ha, ldp1 ha, b_neq, bs228_1, bop_add, hw]
        cases d with
        | true =>
          cases hz : decide (r.pts[i].1 = 0) with
          | true =>
            simp only [condT, condF, Bool.not_true, o_bool, o_alloc, o_box, o_build, o_buildSlice, o_load, o_store, o_nilCheck, o_bop, o_uop, o_conv, o_slc, o_fieldAddr, o_field, o_indexAddr, o_index, o_extract, o_lookup, o_mapUpdate, o_makeMap, o_mapEntry, o_entryStore, o_delete, o_len, o_append, o_min, o_max, o_tgt, bindS, many1, jnE, boolS, gdB, fst', snd', bop_add, hw]
            refine hnx (_, _) _ ⟨he2, rfl, _, rfl, ?_⟩
            rw [all_take hi, ← Bool.and_assoc, ← k3, Bool.true_and]
            unfold ptOk; rw [hz]; rfl
          | false =>
            simp only [condT, condF, Bool.not_false, o_bool, o_alloc, o_box, o_build, o_buildSlice, o_load, o_store, o_nilCheck, o_bop, o_uop, o_conv, o_slc, o_fieldAddr, o_field, o_indexAddr, o_index, o_extract, o_lookup, o_mapUpdate, o_makeMap, o_mapEntry, o_entryStore, o_delete, o_len, o_append, o_min, o_max, o_tgt, bindS, many1, jnE, boolS, gdB, fst', snd', tm_1, bop_add, hw]
            refine hnx (_, _) _ ⟨he2, rfl, _, rfl, ?_⟩
            rw [all_take hi, ← Bool.and_assoc, ← k3, Bool.true_and]
            unfold ptOk; rw [hz]; rfl
        | false =>
          simp only [condF, o_bool, o_alloc, o_box, o_build, o_buildSlice, o_load, o_store, o_nilCheck, o_bop, o_uop, o_conv, o_slc, o_fieldAddr, o_field, o_indexAddr, o_index, o_extract, o_lookup, o_mapUpdate, o_makeMap, o_mapEntry, o_entryStore, o_delete, o_len, o_append, o_min, o_max, o_tgt, bindS, many1, jnE, boolS, gdB, fst', snd', bop_add, hw]
          refine hnx (_, _) _ ⟨he2, rfl, _, rfl, ?_⟩
          rw [all_take hi, ← Bool.and_assoc, ← k3, Bool.false_and]
      · rintro ⟨x1, x2⟩ s' ⟨e1, k1, d, k2, k3⟩ nx
        simp only at k1 k2
        subst k1 k2
        have hnlt : ¬ ((r.pts.length : Int) < r.pts.length) := by omega
        rw [List.take_length] at k3
        simp only [f95_l1, o_bool, o_alloc, o_box, o_build, o_buildSlice, o_load, o_store, o_nilCheck, o_bop, o_uop, o_conv, o_slc, o_fieldAddr, o_field, o_indexAddr, o_index, o_extract, o_lookup, o_mapUpdate, o_makeMap, o_mapEntry, o_entryStore, o_delete, o_len, o_append, o_min, o_max, o_tgt, bindS, many1, jnE, boolS, gdB, fst', snd', bop_lss, hnlt, decide_false, condF, beq_yes, condT, uop_not]
        have hd : d = checkR r := by rw [k3, h3, hb]; rfl
        rw [hd]
        cases checkR r
        · exact One.ret ⟨rfl, he.trans e1⟩
        · exact One.ret ⟨rfl, he.trans e1⟩
  cases q1 : shapedR r with
  | false => simp only [condF]; exact tail false (by rw [q1]; rfl)
  | true =>
    simp only [condT]
    cases q2 : rise (r.new.map nid) with
    | false => simp only [condF]; exact tail false (by rw [q1, q2]; rfl)
    | true =>
      simp only [condT, o_bool, o_alloc, o_box, o_build, o_buildSlice, o_load, o_store, o_nilCheck, o_bop, o_uop, o_conv, o_slc, o_fieldAddr, o_field, o_indexAddr, o_index, o_extract, o_lookup, o_mapUpdate, o_makeMap, o_mapEntry, o_entryStore, o_delete, o_len, o_append, o_min, o_max, o_tgt, bindS, many1, jnE, boolS, gdB, fst', snd', fld72_3, lr3 g1, c141 r.ids z4]
      cases q3 : rise r.ids with
      | false => simp only [condF]; exact tail false (by rw [q1, q2, q3]; rfl)
      | true => simp only [condT, o_bool, o_alloc, o_box, o_build, o_buildSlice, o_load, o_store, o_nilCheck, o_bop, o_uop, o_conv, o_slc, o_fieldAddr, o_field, o_indexAddr, o_index, o_extract, o_lookup, o_mapUpdate, o_makeMap, o_mapEntry, o_entryStore, o_delete, o_len, o_append, o_min, o_max, o_tgt, bindS, many1, jnE, boolS, gdB, fst', snd', fld72_2, lr2 g1, len_sl u66, bop_leq']; exact tail _ (by rw [q1, q2, q3]; rfl)
end Go.Proofs.Ytmhmbmogodofeaa.S
