import Derived.Test.YtmhmbmogodofeaaCRc
set_option autoImplicit false
set_option linter.unusedVariables false
set_option linter.unusedSimpArgs false
set_option maxRecDepth 100000
namespace Go.Proofs.Ytmhmbmogodofeaa.S
open Go.FS Go.RowKit
attribute [local congr] bind_cg cond_cg gd_cg
/-- r' is what few makes of r. -/
def FewR (r r' : RecD) : Prop := r'.kind = r.kind ∧ r'.rng = r.rng ∧ r'.n = r.n ∧ r'.new.map nk = (r.new.take 20).map (fun a => fewN (nk a)) ∧ r'.pts = fewP r.pts ∧ r'.ids = r.ids.take 60
def clm (n m : Nat) : Nat := bif Nat.blt m (n + 3) then m else 0
def stripR (n : Nat) (r : RecD) : RecD := { r with mN := clm n r.mN, new := r.new.map fun a => (a.1, clm n a.2.1, a.2.2), mP := clm n r.mP, mI := clm n r.mI }
theorem pt_str (n k : Nat) (a : Pt) : (pt a).map (stripN (k + 1) n) = pt a := rfl
theorem u6_str (n k : Nat) (a : Int) : (u6 a).map (stripN (k + 1) n) = u6 a := rfl
theorem nm_str (n : Nat) (a : Nm) : (nm a).map (stripN 5 n) = nm (a.1, clm n a.2.1, a.2.2) := by
  have h : stripN 5 n (sl lab a.2.1 a.2.2) = sl lab (clm n a.2.1) a.2.2 := by
    have := strip_nest (n := n) (k := 3) (enc := lab) (f := id) (lab_str n 2) a.2.1 a.2.2
    rw [List.map_id] at this; exact this
  show [stripN 5 n (.int .u64 a.1), stripN 5 n (sl lab a.2.1 a.2.2)] = _
  rw [h]; rfl
theorem strip_rec (n : Nat) (r : RecD) : stripN 8 n (.agg (enR r).toArray) = .agg (enR (stripR n r)).toArray := by
  have h1 : stripN 7 n (sl nm r.mN r.new) = sl nm (clm n r.mN) (r.new.map fun a => (a.1, clm n a.2.1, a.2.2)) := strip_nest (k := 5) (nm_str n) r.mN r.new
  have h2 : stripN 7 n (sl pt r.mP r.pts) = sl pt (clm n r.mP) r.pts := by
    have := strip_nest (n := n) (k := 5) (enc := pt) (f := id) (pt_str n 4) r.mP r.pts
    rw [List.map_id] at this; exact this
  have h3 : stripN 7 n (sl u6 r.mI r.ids) = sl u6 (clm n r.mI) r.ids := by
    have := strip_nest (n := n) (k := 5) (enc := u6) (f := id) (u6_str n 4) r.mI r.ids
    rw [List.map_id] at this; exact this
  show Value.agg ([stripN 7 n (.int .i64 r.kind), stripN 7 n (sl nm r.mN r.new), stripN 7 n (sl pt r.mP r.pts), stripN 7 n (sl u6 r.mI r.ids), stripN 7 n (.int .i64 r.rng.1), stripN 7 n (.int .i64 r.rng.2), stripN 7 n (.int .u64 r.n)]).toArray = _
  rw [h1, h2, h3]; rfl
theorem bel_rec (n : Nat) (r : RecD) : Bel n (.agg (enR (stripR n r)).toArray) := by
  refine .agg _ fun v hv => ?_
  simp only [enR, List.mem_cons, List.not_mem_nil, or_false] at hv
  have hl : ∀ a : Lab, ∀ v ∈ lab a, Bel n v := fun a v hv => by
    simp only [lab, List.mem_cons, List.not_mem_nil, or_false] at hv
    rcases hv with rfl | rfl <;> exact .string _
  rcases hv with rfl | rfl | rfl | rfl | rfl | rfl | rfl
  · exact .int _ _
  · refine bel_slm (blt_lt _ _) fun x hx v hv => ?_
    obtain ⟨a, _, rfl⟩ := List.mem_map.1 hx
    simp only [nm, List.mem_cons, List.not_mem_nil, or_false] at hv
    rcases hv with rfl | rfl
    · exact .int _ _
    · exact bel_sl (blt_lt _ _) hl
  · refine bel_sl (blt_lt _ _) fun a v hv => ?_
    simp only [pt, List.mem_cons, List.not_mem_nil, or_false] at hv
    rcases hv with rfl | rfl | rfl <;> exact .int _ _
  · refine bel_sl (blt_lt _ _) fun a v hv => ?_
    simp only [u6, List.mem_cons, List.not_mem_nil, or_false] at hv
    subst hv; exact .int _ _
  · exact .int _ _
  · exact .int _ _
  · exact .int _ _
theorem FewR.strip {r r' : RecD} (h : FewR r r') (n : Nat) : FewR r (stripR n r') := by
  obtain ⟨h1, h2, h3, h4, h5, h6⟩ := h
  refine ⟨h1, h2, h3, ?_, h5, h6⟩
  rw [← h4]
  show (r'.new.map fun a => (a.1, clm n a.2.1, a.2.2)).map nk = _
  rw [List.map_map]; rfl
theorem c39 {n : Nat} {s : SH} (r : RecD) : ∃ r', FewR r r' ∧ callD Try.prog AB (n + 1) (.fn 39) [.agg (enR r).toArray] s = some [(.agg (enR r').toArray, s)] := by
  suffices h : One (bodyD Try.prog false (callD Try.prog AB n) AB.N 39 Try.f39 [.agg (enR r).toArray] s) fun v s' => Ext s s' ∧ ∃ r', v = .agg (enR r').toArray ∧ FewR r r' by
    obtain ⟨v, s', e, he, r', rfl, hf⟩ := h
    refine ⟨stripR s.n r', hf.strip _, ?_⟩
    rw [← strip_rec]
    exact cut_call (fn := Try.f39) rfl rfl (by kernel_rfl) (fun _ h => by cases h) (by rw [strip_rec]; exact bel_rec _ _) ⟨_, s', e, rfl, he⟩
  rw [f39_r]
  have al : ∀ s' : SH, allocD Try.prog s' 72 = some (.pointer (some ⟨s'.n, 0, none⟩), newD s' (.row (enR rz))) := fun s' => alloc_at zr72
  have g1 : HP.get (newD (newD (newD s (.row (enR r))) (.row (enR rz))) (.row (enR rz))).h s.n = some (.row (enR r)) := by rw [get_old (by simp only [newD_n]; omega), get_old (by simp only [newD_n]; omega), get_new rfl]
  have g1' : HP.get (newD (newD s (.row (enR r))) (.row (enR rz))).h s.n = some (.row (enR r)) := by rw [get_old (by simp only [newD_n]; omega), get_new rfl]
  have g2 : HP.get (newD (newD (newD s (.row (enR r))) (.row (enR rz))) (.row (enR rz))).h (s.n + 1) = some (.row (enR rz)) := by rw [get_old (by simp only [newD_n]; omega), get_new (by simp only [newD_n])]
  have g3 : HP.get (newD (newD (newD s (.row (enR r))) (.row (enR rz))) (.row (enR rz))).h (s.n + 1 + 1) = some (.row (enR rz)) := get_new (by simp only [newD_n])
  have gn : (newD (newD (newD s (.row (enR r))) (.row (enR rz))) (.row (enR rz))).n = s.n + 3 := by simp only [newD_n]
  have gs : Sm s.n s (newD (newD (newD s (.row (enR r))) (.row (enR rz))) (.row (enR rz))) := (((Sm.refl s.n s).new (Nat.le_refl _) _).new (by simp only [newD_n]; omega) _).new (by simp only [newD_n]; omega) _
  simp only [f39, o_bool, o_alloc, o_box, o_build, o_buildSlice, o_load, o_store, o_nilCheck, o_bop, o_uop, o_conv, o_slc, o_fieldAddr, o_field, o_indexAddr, o_index, o_extract, o_lookup, o_mapUpdate, o_makeMap, o_mapEntry, o_entryStore, o_delete, o_len, o_append, o_min, o_max, o_tgt, bindS, many1, jnE, boolS, gdB, fst', snd', bx_r, al, newD_n, lr g1']
  generalize newD (newD (newD s (.row (enR r))) (.row (enR rz))) (.row (enR rz)) = s1 at g1 g2 g3 gn gs
  have g4 : HP.get (putD s1 (s.n + 1 + 1) (.row (enR r))).h (s.n + 1 + 1) = some (.row (enR r)) := get_put_same _
  simp only [sr g3 r, o_bool, o_alloc, o_box, o_build, o_buildSlice, o_load, o_store, o_nilCheck, o_bop, o_uop, o_conv, o_slc, o_fieldAddr, o_field, o_indexAddr, o_index, o_extract, o_lookup, o_mapUpdate, o_makeMap, o_mapEntry, o_entryStore, o_delete, o_len, o_append, o_min, o_max, o_tgt, bindS, many1, jnE, boolS, gdB, fst', snd', fld72_1, fld72_2, fld72_3, sl_nil nm, sr1 g4]
  have g5 : HP.get (putD (putD s1 (s.n + 1 + 1) (.row (enR r))) (s.n + 1 + 1) (.row (enR { r with mN := 2, new := [] }))).h (s.n + 1 + 1) = some (.row (enR { r with mN := 2, new := [] })) := get_put_same _
  have e2 : sl nm 2 [] = sl pt 2 [] := rfl
  have e3 : sl nm 2 [] = sl u6 2 [] := rfl
  rw [e2]
  simp only [sr2 g5, o_bool, o_alloc, o_box, o_build, o_buildSlice, o_load, o_store, o_nilCheck, o_bop, o_uop, o_conv, o_slc, o_fieldAddr, o_field, o_indexAddr, o_index, o_extract, o_lookup, o_mapUpdate, o_makeMap, o_mapEntry, o_entryStore, o_delete, o_len, o_append, o_min, o_max, o_tgt, bindS, many1, jnE, boolS, gdB, fst', snd', fld72_3]
  have g6 : HP.get (putD (putD (putD s1 (s.n + 1 + 1) (.row (enR r))) (s.n + 1 + 1) (.row (enR { r with mN := 2, new := [] }))) (s.n + 1 + 1) (.row (enR { r with mN := 2, new := [], mP := 2, pts := [] }))).h (s.n + 1 + 1) = some (.row (enR { r with mN := 2, new := [], mP := 2, pts := [] })) := get_put_same _
  rw [show sl pt 2 [] = sl u6 2 [] from rfl]
  simp only [sr3 g6, o_bool, o_alloc, o_box, o_build, o_buildSlice, o_load, o_store, o_nilCheck, o_bop, o_uop, o_conv, o_slc, o_fieldAddr, o_field, o_indexAddr, o_index, o_extract, o_lookup, o_mapUpdate, o_makeMap, o_mapEntry, o_entryStore, o_delete, o_len, o_append, o_min, o_max, o_tgt, bindS, many1, jnE, boolS, gdB, fst', snd']
  -- ahead of the loop
  have k1 : ∀ j, j ≠ s.n + 1 + 1 → HP.get (putD (putD (putD (putD s1 (s.n + 1 + 1) (.row (enR r))) (s.n + 1 + 1) (.row (enR { r with mN := 2, new := [] }))) (s.n + 1 + 1) (.row (enR { r with mN := 2, new := [], mP := 2, pts := [] }))) (s.n + 1 + 1) (.row (enR { r with mN := 2, new := [], mP := 2, pts := [], mI := 2, ids := [] }))).h j = HP.get s1.h j := fun j hj => by rw [get_put_other hj, get_put_other hj, get_put_other hj, get_put_other hj]
  have k2 : HP.get (putD (putD (putD (putD s1 (s.n + 1 + 1) (.row (enR r))) (s.n + 1 + 1) (.row (enR { r with mN := 2, new := [] }))) (s.n + 1 + 1) (.row (enR { r with mN := 2, new := [], mP := 2, pts := [] }))) (s.n + 1 + 1) (.row (enR { r with mN := 2, new := [], mP := 2, pts := [], mI := 2, ids := [] }))).h (s.n + 1 + 1) = some (.row (enR { r with mN := 2, new := [], mP := 2, pts := [], mI := 2, ids := [] })) := get_put_same _
  have k3 : (putD (putD (putD (putD s1 (s.n + 1 + 1) (.row (enR r))) (s.n + 1 + 1) (.row (enR { r with mN := 2, new := [] }))) (s.n + 1 + 1) (.row (enR { r with mN := 2, new := [], mP := 2, pts := [] }))) (s.n + 1 + 1) (.row (enR { r with mN := 2, new := [], mP := 2, pts := [], mI := 2, ids := [] }))).n = s.n + 3 := gn
  generalize putD (putD (putD (putD s1 (s.n + 1 + 1) (.row (enR r))) (s.n + 1 + 1) (.row (enR { r with mN := 2, new := [] }))) (s.n + 1 + 1) (.row (enR { r with mN := 2, new := [], mP := 2, pts := [] }))) (s.n + 1 + 1) (.row (enR { r with mN := 2, new := [], mP := 2, pts := [], mI := 2, ids := [] })) = s2 at k1 k2 k3
  have p1 : HP.get s2.h s.n = some (.row (enR r)) := by rw [k1 _ (by omega), g1]
  have p2 : HP.get s2.h (s.n + 1) = some (.row (enR rz)) := by rw [k1 _ (by omega), g2]
  have p3 : Sm s.n s s2 := ⟨by omega, fun j hj => by rw [k1 _ (by omega), gs.2 j hj]⟩
  have hlt20 : (r.new.take 20).length ≤ 20 := by rw [List.length_take]; omega
  refine list_one (r.new.take 20) (fun i (x : Value × Value × Value) (s' : SH) => x.1 = .int .i64 i ∧ Sm s.n s s' ∧ s.n + 3 ≤ s'.n ∧ HP.get s'.h s.n = some (.row (enR r)) ∧ HP.get s'.h (s.n + 1) = some (.row (enR rz)) ∧ ∃ m xs, HP.get s'.h (s.n + 1 + 1) = some (.row (enR { r with mN := m, new := xs, mP := 2, pts := [], mI := 2, ids := [] })) ∧ xs.map nk = (r.new.take i).map (fun a => fewN (nk a)) ∧ Grow (s.n + 3) 2 nm s' (sl nm m xs) xs) ?_ ?_ ⟨rfl, p3, by omega, p1, p2, 2, [], k2, rfl, .inl ⟨rfl, .inl rfl⟩⟩ (by show (r.new.take 20).length < 2 ^ 64; omega)
  · rintro i hi ⟨x1, x2, x3⟩ s' ⟨h1, hsm, hn', q1, q2, m, xs, q3, q4, q5⟩ nx hnx
    simp only at h1
    subst h1
    rw [List.length_take] at hi
    have hi1 : i < r.new.length := by omega
    have hlt : (i : Int) < r.new.length := by omega
    have hlt2 : (i : Int) < 20 := by omega
    have hw : IntKind.i64.wrap ((i : Int) + 1) = ((i + 1 : Nat) : Int) := by rw [wrap_i64 (by omega) (by omega)]; rfl
    simp only [f39_l0, o_bool, o_alloc, o_box, o_build, o_buildSlice, o_load, o_store, o_nilCheck, o_bop, o_uop, o_conv, o_slc, o_fieldAddr, o_field, o_indexAddr, o_index, o_extract, o_lookup, o_mapUpdate, o_makeMap, o_mapEntry, o_entryStore, o_delete, o_len, o_append, o_min, o_max, o_tgt, bindS, many1, jnE, boolS, gdB, fst', snd', fld72_1, lr1 q1, len_sl u65, bop_lss, hlt, hlt2, decide_true, condT, bs23_0]
    refine few_in (p1 := s.n) (r := r) (s := s') (by omega) q1 hi1 (by decide) fun v k s3 hs3 hg3 => ?_
    have r1 : HP.get s3.h s.n = some (.row (enR r)) := by rw [hs3.2 _ (by omega), q1]
    have r2 : HP.get s3.h (s.n + 1) = some (.row (enR rz)) := by rw [hs3.2 _ (by omega), q2]
    have r3 : HP.get s3.h (s.n + 1 + 1) = some (.row (enR { r with mN := m, new := xs, mP := 2, pts := [], mI := 2, ids := [] })) := by rw [hs3.2 _ (by omega), q3]
    have hn3 : s.n + 3 ≤ s3.n := by have := hs3.1; omega
    have hg5 : Grow (s.n + 3) 2 nm s3 (sl nm m xs) xs := q5.mono hs3.1 fun j _ hj _ => hs3.2 j hj
    obtain ⟨m3, rfl⟩ := Grow.form hg3
    have hxl : xs.length = i := by
      have := congrArg List.length q4
      simpa [Nat.min_eq_left (Nat.le_of_lt hi1)] using this
    obtain ⟨v', s4, e1, w1, w2, w3⟩ := gapp65 (m2 := 1) (ys := [(r.new[i].1, m3, (fewN (nk r.new[i])).2)]) hg5 hn3 (by rw [hxl]; simp only [List.length_singleton]; omega)
    obtain ⟨m4, rfl⟩ := Grow.form w1
    have r4 : HP.get s4.h (s.n + 1 + 1) = some (.row (enR { r with mN := m, new := xs, mP := 2, pts := [], mI := 2, ids := [] })) := by rw [w2.2 _ (by omega), r3]
    simp only [beq_yes, condT, fld72_1, lr1 r3, lr1 r1, o_bool, o_alloc, o_box, o_build, o_buildSlice, o_load, o_store, o_nilCheck, o_bop, o_uop, o_conv, o_slc, o_fieldAddr, o_field, o_indexAddr, o_index, o_extract, o_lookup, o_mapUpdate, o_makeMap, o_mapEntry, o_entryStore, o_delete, o_len, o_append, o_min, o_max, o_tgt, bindS, many1, jnE, boolS, gdB, fst', snd', ixs65 nm_len hi1, flf135_0, ldf_nm0, bld135, bs65, e1, sr1 r4, bop_add, hw]
    refine hnx (_, _, _) _ ⟨rfl, ?_, ?_, ?_, ?_, m4, _, get_put_same _, ?_, ?_⟩
    · exact ⟨by have := hsm.1; have := hs3.1; have := w2.1; rw [putD_n]; omega, fun j hj => by rw [get_put_other (by omega), w2.2 _ (by omega), hs3.2 _ (by omega), hsm.2 j hj]⟩
    · have := w2.1; rw [putD_n]; omega
    · rw [get_put_other (by omega), w2.2 _ (by omega), r1]
    · rw [get_put_other (by omega), w2.2 _ (by omega), r2]
    · rw [List.map_append, q4, List.take_succ_eq_append_getElem hi1, List.map_append]; rfl
    · exact w1.put _ (by rw [r4]; intro h; cases h)
  · rintro ⟨x1, x2, x3⟩ s' ⟨h1, hsm, hn', q1, q2, m, xs, q3, q4, q5⟩ nx
    simp only at h1
    subst h1
    rw [List.length_take] at q4 ⊢
    have q4 : xs.map nk = (r.new.take 20).map (fun a => fewN (nk a)) := by
      rw [q4]; congr 1
      by_cases h : 20 ≤ r.new.length
      · rw [Nat.min_eq_left h]
      · rw [Nat.min_eq_right (by omega), List.take_length, List.take_of_length_le (by omega)]
    -- what comes behind the loop
    have key : ∀ (nx : Value × Value × Value → SH → Option (List (Value × SH))) (kx : Nat → Value × Value × Value → SH → Option (List (Value × SH))) (kr : Value × Value × Value → SH → Option (List (Value × SH))), f39_l0 (dOps Try.prog) (callD Try.prog AB n) AB.N (.pointer (some ⟨s.n, 0, none⟩)) (.pointer (some ⟨s.n + 1 + 1, 0, none⟩)) nx kx kr (.int .i64 ((min 20 r.new.length : Nat) : Int), x2, x3) s' = kx 0 (.int .i64 ((min 20 r.new.length : Nat) : Int), x2, x3) s' := by
      intro nx kx kr
      by_cases c : ((min 20 r.new.length : Nat) : Int) < r.new.length
      · have c2 : ¬ (((min 20 r.new.length : Nat) : Int) < 20) := by omega
        simp only [f39_l0, o_bool, o_alloc, o_box, o_build, o_buildSlice, o_load, o_store, o_nilCheck, o_bop, o_uop, o_conv, o_slc, o_fieldAddr, o_field, o_indexAddr, o_index, o_extract, o_lookup, o_mapUpdate, o_makeMap, o_mapEntry, o_entryStore, o_delete, o_len, o_append, o_min, o_max, o_tgt, bindS, many1, jnE, boolS, gdB, fst', snd', fld72_1, lr1 q1, len_sl u65, bop_lss, c, c2, decide_true, decide_false, condT, condF]
      · simp only [f39_l0, o_bool, o_alloc, o_box, o_build, o_buildSlice, o_load, o_store, o_nilCheck, o_bop, o_uop, o_conv, o_slc, o_fieldAddr, o_field, o_indexAddr, o_index, o_extract, o_lookup, o_mapUpdate, o_makeMap, o_mapEntry, o_entryStore, o_delete, o_len, o_append, o_min, o_max, o_tgt, bindS, many1, jnE, boolS, gdB, fst', snd', fld72_1, lr1 q1, len_sl u65, bop_lss, c, decide_false, condF]
    rw [key]
    -- the points
    have sl66 : ∀ (s : SH) (m : Nat) (xs : List Pt) (j : Nat), j ≤ xs.length → slcD Try.prog s 66 (sl pt m xs) none (some (.int .i64 (j : Int))) none = some (sl pt (bif Nat.beq m 2 then 2 else 0) (xs.take j)) := fun s m xs j hj => slc_sl u66 z142 pt_len hj
    have sl67 : ∀ (s : SH) (m : Nat) (xs : List Int) (j : Nat), j ≤ xs.length → slcD Try.prog s 67 (sl u6 m xs) none (some (.int .i64 (j : Int))) none = some (sl u6 (bif Nat.beq m 2 then 2 else 0) (xs.take j)) := fun s m xs j hj => slc_sl u67 z70 u6_len hj
    have ap66 : ∀ (s : SH) (m m2 : Nat) (ys : List Pt), (m = 1 ∨ m = 2) → ys.length ≤ 4097 → appD Try.prog false s 66 66 (sl pt m []) (sl pt m2 ys) = some (sl pt (s.n + 3) ys, newD s (.tok (0 + ys.length) 3)) := fun s m m2 ys hm hy => apn66 (xs := []) (ys := ys) pt_len hm (by simp only [List.length_nil]; omega)
    have ap67 : ∀ (s : SH) (m2 : Nat) (ys : List Int), ys.length ≤ 4097 → appD Try.prog false s 67 67 (sl u6 2 []) (sl u6 m2 ys) = some (sl u6 (s.n + 3) ys, newD s (.tok (0 + ys.length) 1)) := fun s m2 ys hy => apn67 (xs := []) (ys := ys) u6_len (.inr rfl) (by simp only [List.length_nil]; omega)
    have tk : ∀ {α : Type} (l : List α), l.take (min l.length 60) = l.take 60 := fun l => by
      by_cases h : 60 ≤ l.length
      · rw [Nat.min_eq_right h]
      · rw [Nat.min_eq_left (by omega), List.take_length, List.take_of_length_le (by omega)]
    have t60 : (r.pts.take (min r.pts.length 60)).length ≤ 4097 := by rw [List.length_take]; omega
    have i60 : (r.ids.take (min r.ids.length 60)).length ≤ 4097 := by rw [List.length_take]; omega
    have t1 : HP.get (newD s' (.tok (0 + (r.pts.take (min r.pts.length 60)).length) 3)).h (s.n + 1 + 1) = some (.row (enR { r with mN := m, new := xs, mP := 2, pts := [], mI := 2, ids := [] })) := by rw [get_old (by omega), q3]
    have lo2 : loadD Try.prog s' 66 (.pointer (some ⟨s.n + 1 + 1, 2, none⟩)) = some (sl pt 2 []) := lr2 q3
    simp only [beq_yes, condT, fld72_2, lo2, lr2 q1, o_bool, o_alloc, o_box, o_build, o_buildSlice, o_load, o_store, o_nilCheck, o_bop, o_uop, o_conv, o_slc, o_fieldAddr, o_field, o_indexAddr, o_index, o_extract, o_lookup, o_mapUpdate, o_makeMap, o_mapEntry, o_entryStore, o_delete, o_len, o_append, o_min, o_max, o_tgt, bindS, many1, jnE, boolS, gdB, fst', snd', len_sl u66, min60, sl66 _ _ _ _ (Nat.min_le_left r.pts.length 60), ap66 s' 2 _ _ (.inr rfl) t60, sr2 t1]
    have a1 : HP.get (putD (newD s' (.tok (0 + (r.pts.take (min r.pts.length 60)).length) 3)) (s.n + 1 + 1) (.row (enR { r with mN := m, new := xs, mP := s'.n + 3, pts := r.pts.take (min r.pts.length 60), mI := 2, ids := [] }))).h s.n = some (.row (enR r)) := by rw [get_put_other (by omega), get_old (by omega), q1]
    have a2 : HP.get (putD (newD s' (.tok (0 + (r.pts.take (min r.pts.length 60)).length) 3)) (s.n + 1 + 1) (.row (enR { r with mN := m, new := xs, mP := s'.n + 3, pts := r.pts.take (min r.pts.length 60), mI := 2, ids := [] }))).h (s.n + 1) = some (.row (enR rz)) := by rw [get_put_other (by omega), get_old (by omega), q2]
    have a3 : HP.get (putD (newD s' (.tok (0 + (r.pts.take (min r.pts.length 60)).length) 3)) (s.n + 1 + 1) (.row (enR { r with mN := m, new := xs, mP := s'.n + 3, pts := r.pts.take (min r.pts.length 60), mI := 2, ids := [] }))).h (s.n + 1 + 1) = some (.row (enR { r with mN := m, new := xs, mP := s'.n + 3, pts := r.pts.take (min r.pts.length 60), mI := 2, ids := [] })) := get_put_same _
    have a4 : Sm s.n s (putD (newD s' (.tok (0 + (r.pts.take (min r.pts.length 60)).length) 3)) (s.n + 1 + 1) (.row (enR { r with mN := m, new := xs, mP := s'.n + 3, pts := r.pts.take (min r.pts.length 60), mI := 2, ids := [] }))) := (hsm.new (by omega) _).put (by omega) _
    have a5 : s.n + 3 ≤ (putD (newD s' (.tok (0 + (r.pts.take (min r.pts.length 60)).length) 3)) (s.n + 1 + 1) (.row (enR { r with mN := m, new := xs, mP := s'.n + 3, pts := r.pts.take (min r.pts.length 60), mI := 2, ids := [] }))).n := by rw [putD_n, newD_n]; omega
    generalize putD (newD s' (.tok (0 + (r.pts.take (min r.pts.length 60)).length) 3)) (s.n + 1 + 1) (.row (enR { r with mN := m, new := xs, mP := s'.n + 3, pts := r.pts.take (min r.pts.length 60), mI := 2, ids := [] })) = s5 at a1 a2 a3 a4 a5
    generalize s'.n + 3 = mp at a3
    -- what is left
    have tail : ∀ (mp : Nat) (ps : List Pt) (s5 : SH), ps = fewP r.pts → HP.get s5.h s.n = some (.row (enR r)) → HP.get s5.h (s.n + 1) = some (.row (enR rz)) → HP.get s5.h (s.n + 1 + 1) = some (.row (enR { r with mN := m, new := xs, mP := mp, pts := ps, mI := 2, ids := [] })) → Sm s.n s s5 → s.n + 3 ≤ s5.n →
        ∃ r' s6, ((loadD Try.prog s5 67 (.pointer (some ⟨s.n + 1 + 1, 3, none⟩))).bind fun v272 => (loadD Try.prog s5 67 (.pointer (some ⟨s.n, 3, none⟩))).bind fun v274 => (appD Try.prog false s5 67 67 v272 (sl u6 (bif Nat.beq r.mI 2 then 2 else 0) (r.ids.take (min r.ids.length 60)))).bind fun p280 => (storeD Try.prog p280.2 67 (.pointer (some ⟨s.n + 1 + 1, 3, none⟩)) p280.1).bind fun s282 => (loadD Try.prog s282 72 (.pointer (some ⟨s.n + 1 + 1, 0, none⟩))).bind fun v283 => (storeD Try.prog s282 72 (.pointer (some ⟨s.n + 1, 0, none⟩)) v283).bind fun s284 => (loadD Try.prog s284 72 (.pointer (some ⟨s.n + 1, 0, none⟩))).bind fun v285 => some [(v285, s284)]) = some [(.agg (enR r').toArray, s6)] ∧ Ext s s6 ∧ FewR r r' := by
      intro mp ps s5 hps a1 a2 a3 a4 a5
      have lo3 : loadD Try.prog s5 67 (.pointer (some ⟨s.n + 1 + 1, 3, none⟩)) = some (sl u6 2 []) := lr3 a3
      have b1 : HP.get (newD s5 (.tok (0 + (r.ids.take (min r.ids.length 60)).length) 1)).h (s.n + 1 + 1) = some (.row (enR { r with mN := m, new := xs, mP := mp, pts := ps, mI := 2, ids := [] })) := by rw [get_old (by omega), a3]
      have b2 : HP.get (putD (newD s5 (.tok (0 + (r.ids.take (min r.ids.length 60)).length) 1)) (s.n + 1 + 1) (.row (enR { r with mN := m, new := xs, mP := mp, pts := ps, mI := s5.n + 3, ids := r.ids.take (min r.ids.length 60) }))).h (s.n + 1 + 1) = some (.row (enR { r with mN := m, new := xs, mP := mp, pts := ps, mI := s5.n + 3, ids := r.ids.take (min r.ids.length 60) })) := get_put_same _
      have b3 : HP.get (putD (newD s5 (.tok (0 + (r.ids.take (min r.ids.length 60)).length) 1)) (s.n + 1 + 1) (.row (enR { r with mN := m, new := xs, mP := mp, pts := ps, mI := s5.n + 3, ids := r.ids.take (min r.ids.length 60) }))).h (s.n + 1) = some (.row (enR rz)) := by rw [get_put_other (by omega), get_old (by omega), a2]
      have b4 := get_put_same (H := HP) (s := putD (newD s5 (.tok (0 + (r.ids.take (min r.ids.length 60)).length) 1)) (s.n + 1 + 1) (.row (enR { r with mN := m, new := xs, mP := mp, pts := ps, mI := s5.n + 3, ids := r.ids.take (min r.ids.length 60) }))) (o := .row (enR { r with mN := m, new := xs, mP := mp, pts := ps, mI := s5.n + 3, ids := r.ids.take (min r.ids.length 60) })) (s.n + 1)
      simp only [lo3, lr3 a1, bindS, ap67 s5 _ _ i60, fst', snd', sr3 b1, lr b2, sr b3, lr b4]
      refine ⟨_, _, rfl, ?_, rfl, rfl, rfl, q4, hps, tk r.ids⟩
      exact Sm.put (lo := s.n) (j := s.n + 1) (Sm.put (lo := s.n) (j := s.n + 1 + 1) (Sm.new a4 (by omega) _) (by omega) _) (by omega) _
    by_cases big : 4096 < r.pts.length
    · have big' : (r.pts.length : Int) > 4096 := by omega
      have c1 : (r.pts.take 4097).length ≤ 4097 := by rw [List.length_take]; omega
      have s4097 : slcD Try.prog s5 66 (sl pt r.mP r.pts) none (some (.int .i64 4097)) none = some (sl pt (bif Nat.beq r.mP 2 then 2 else 0) (r.pts.take 4097)) := sl66 s5 r.mP r.pts 4097 (by omega)
      have c2 : HP.get (newD s5 (.tok (0 + (r.pts.take 4097).length) 3)).h (s.n + 1 + 1) = some (.row (enR { r with mN := m, new := xs, mP := mp, pts := r.pts.take (min r.pts.length 60), mI := 2, ids := [] })) := by rw [get_old (by omega), a3]
      simp only [lr2 a1, o_bool, o_alloc, o_box, o_build, o_buildSlice, o_load, o_store, o_nilCheck, o_bop, o_uop, o_conv, o_slc, o_fieldAddr, o_field, o_indexAddr, o_index, o_extract, o_lookup, o_mapUpdate, o_makeMap, o_mapEntry, o_entryStore, o_delete, o_len, o_append, o_min, o_max, o_tgt, bindS, many1, jnE, boolS, gdB, fst', snd', len_sl u66, bop_gtr, big', decide_true, condT, bs66_0, fld72_2, s4097, ap66 s5 1 _ _ (.inl rfl) c1, sr2 c2]
      obtain ⟨r', s6, e, f1, f2⟩ := tail (s5.n + 3) (r.pts.take 4097) (putD (newD s5 (.tok (0 + (r.pts.take 4097).length) 3)) (s.n + 1 + 1) (.row (enR { r with mN := m, new := xs, mP := s5.n + 3, pts := r.pts.take 4097, mI := 2, ids := [] }))) (by unfold fewP; rw [if_pos big]) (by rw [get_put_other (by omega), get_old (by omega), a1]) (by rw [get_put_other (by omega), get_old (by omega), a2]) (get_put_same _) ((a4.new (by omega) _).put (by omega) _) (by rw [putD_n, newD_n]; omega)
      have d1 : HP.get (putD (newD s5 (.tok (0 + (r.pts.take 4097).length) 3)) (s.n + 1 + 1) (.row (enR { r with mN := m, new := xs, mP := s5.n + 3, pts := r.pts.take 4097, mI := 2, ids := [] }))).h s.n = some (.row (enR r)) := by rw [get_put_other (by omega), get_old (by omega), a1]
      have d3 : HP.get (putD (newD s5 (.tok (0 + (r.pts.take 4097).length) 3)) (s.n + 1 + 1) (.row (enR { r with mN := m, new := xs, mP := s5.n + 3, pts := r.pts.take 4097, mI := 2, ids := [] }))).h (s.n + 1 + 1) = some (.row (enR { r with mN := m, new := xs, mP := s5.n + 3, pts := r.pts.take 4097, mI := 2, ids := [] })) := get_put_same _
      have lo3 : loadD Try.prog (putD (newD s5 (.tok (0 + (r.pts.take 4097).length) 3)) (s.n + 1 + 1) (.row (enR { r with mN := m, new := xs, mP := s5.n + 3, pts := r.pts.take 4097, mI := 2, ids := [] }))) 67 (.pointer (some ⟨s.n + 1 + 1, 3, none⟩)) = some (sl u6 2 []) := lr3 d3
      simp only [lo3, lr3 d1, bindS] at e
      simp only [fld72_3, lo3, lr3 d1, o_bool, o_alloc, o_box, o_build, o_buildSlice, o_load, o_store, o_nilCheck, o_bop, o_uop, o_conv, o_slc, o_fieldAddr, o_field, o_indexAddr, o_index, o_extract, o_lookup, o_mapUpdate, o_makeMap, o_mapEntry, o_entryStore, o_delete, o_len, o_append, o_min, o_max, o_tgt, bindS, many1, jnE, boolS, gdB, fst', snd', len_sl u67, min60, sl67 _ _ _ _ (Nat.min_le_left r.ids.length 60)]
      exact ⟨_, _, e, f1, r', rfl, f2⟩
    · have big' : ¬ ((r.pts.length : Int) > 4096) := by omega
      obtain ⟨r', s6, e, f1, f2⟩ := tail mp (r.pts.take (min r.pts.length 60)) s5 (by unfold fewP; rw [if_neg big, tk]) a1 a2 a3 a4 a5
      have lo3 : loadD Try.prog s5 67 (.pointer (some ⟨s.n + 1 + 1, 3, none⟩)) = some (sl u6 2 []) := lr3 a3
      simp only [lo3, lr3 a1, bindS] at e
      simp only [lr2 a1, o_bool, o_alloc, o_box, o_build, o_buildSlice, o_load, o_store, o_nilCheck, o_bop, o_uop, o_conv, o_slc, o_fieldAddr, o_field, o_indexAddr, o_index, o_extract, o_lookup, o_mapUpdate, o_makeMap, o_mapEntry, o_entryStore, o_delete, o_len, o_append, o_min, o_max, o_tgt, bindS, many1, jnE, boolS, gdB, fst', snd', len_sl u66, bop_gtr, big', decide_false, condF, fld72_3, lo3, lr3 a1, len_sl u67, min60, sl67 _ _ _ _ (Nat.min_le_left r.ids.length 60)]
      exact ⟨_, _, e, f1, r', rfl, f2⟩
end Go.Proofs.Ytmhmbmogodofeaa.S
