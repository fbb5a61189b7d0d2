import Derived.Test.YtmhmbmogodofeaaCYh
set_option autoImplicit false
set_option linter.unusedVariables false
set_option linter.unusedSimpArgs false
set_option maxRecDepth 100000
namespace Go.Proofs.Ytmhmbmogodofeaa.S
open Go.FS Go.RowKit
attribute [local congr] bind_cg cond_cg gd_cg
/-! Bytes. -/
theorem bodied136 : bodied Try.prog 136 = true := by kernel_rfl
theorem c136 {n l a m : Nat} {s : SH} {xs : List Str} (hl : xs.length < 2 ^ 62) (J : Nat → SH → Prop)
    (hJ : ∀ i s', J i s' → HP.get s'.h a = some (.row [sl tx m xs])) (h0 : J 0 s)
    (hstep : ∀ i (h1 : i < xs.length) s', J i s' → ∃ s3, callD Try.prog AB (n + 1) (.yld l) [.int .i64 (i : Int), encStr xs[i]] s' = some [(.bool true, s3)] ∧ J (i + 1) s3) :
    One (callD Try.prog AB (n + 2) (.fn 136) [.func (.yield l) #[] #[], .pointer (some ⟨a, 0, none⟩)] s) fun _ s' => J xs.length s' := by
  rw [call_fn (fn := Try.f136) rfl rfl (by kernel_rfl)]
  show One (bodyD Try.prog false _ _ 136 Try.f136 _ s) _
  rw [f136_r]
  have g1 := hJ 0 s h0
  simp only [f136, o_bool, o_alloc, o_box, o_build, o_buildSlice, o_load, o_store, o_nilCheck, o_bop, o_uop, o_conv, o_slc, o_fieldAddr, o_field, o_indexAddr, o_index, o_extract, o_lookup, o_mapUpdate, o_makeSlice, o_clear, o_makeMap, o_mapEntry, o_entryStore, o_delete, o_len, o_append, o_min, o_max, o_tgt, bindS, many1, jnE, boolS, gdB, fst', snd', fld48_0, ld45 g1, len_sl u45]
  refine list_one xs (fun i (x : Value × Value × Value) (s' : SH) => x.2.2 = .int .i64 (i : Int) ∧ J i s') ?_ ?_ ⟨rfl, h0⟩ (by show xs.length < 2 ^ 64; omega)
  · rintro i hi ⟨x1, x2, x3⟩ s' ⟨e1, hj⟩ nx hnx
    simp only at e1
    subst e1
    have hlt : (i : Int) < xs.length := by omega
    have hw : IntKind.i64.wrap ((i : Int) + 1) = ((i + 1 : Nat) : Int) := by rw [wrap_i64 (by omega) (by omega)]; rfl
    obtain ⟨s3, hy, hy1⟩ := hstep i hi s' hj
    simp only [f136_l0, o_bool, o_alloc, o_box, o_build, o_buildSlice, o_load, o_store, o_nilCheck, o_bop, o_uop, o_conv, o_slc, o_fieldAddr, o_field, o_indexAddr, o_index, o_extract, o_lookup, o_mapUpdate, o_makeSlice, o_clear, o_makeMap, o_mapEntry, o_entryStore, o_delete, o_len, o_append, o_min, o_max, o_tgt, bindS, many1, jnE, boolS, gdB, fst', snd', bop_lss, hlt, decide_true, condT, ixt45 hi, ld_tx, tgt_yld, hy, uop_not, Bool.not_true, condF, bop_add, hw]
    exact hnx (_, _, _) _ ⟨rfl, hy1⟩
  · rintro ⟨x1, x2, x3⟩ s' ⟨e1, hj⟩ nx
    simp only at e1
    subst e1
    have hnlt : ¬ ((xs.length : Int) < xs.length) := by omega
    simp only [f136_l0, o_bool, o_alloc, o_box, o_build, o_buildSlice, o_load, o_store, o_nilCheck, o_bop, o_uop, o_conv, o_slc, o_fieldAddr, o_field, o_indexAddr, o_index, o_extract, o_lookup, o_mapUpdate, o_makeSlice, o_clear, o_makeMap, o_mapEntry, o_entryStore, o_delete, o_len, o_append, o_min, o_max, o_tgt, bindS, many1, jnE, boolS, gdB, fst', snd', bop_lss, hnlt, decide_false, condF, beq_yes, condT]
    exact One.ret hj
/-- The bytes of texts behind a last one. -/
def encT : Str → List Str → List UInt8
  | _, [] => []
  | last, x :: l => (vput (comL last x) ++ (vput (x.drop (comL last x)).length ++ x.drop (comL last x))) ++ encT x l
def putS (l : List Str) : List UInt8 := vput l.length ++ encT [] l
theorem encT_snoc (x : Str) : ∀ (l : List Str) (last : Str), encT last (l ++ [x]) = encT last l ++ (vput (comL (l.getLastD last) x) ++ (vput (x.drop (comL (l.getLastD last) x)).length ++ x.drop (comL (l.getLastD last) x)))
  | [], last => by
    show (_ ++ _) ++ [] = [] ++ _
    rw [List.append_nil, List.nil_append]; rfl
  | y :: l, last => by
    show (_ ++ _) ++ encT y (l ++ [x]) = ((_ ++ _) ++ encT y l) ++ _
    have : (y :: l).getLastD last = l.getLastD y := by cases l <;> rfl
    rw [encT_snoc x l y, this]
    simp only [List.append_assoc]
theorem vput_le (x : Nat) (h : x < 2 ^ 64) : (vput x).length ≤ 10 := vput_len10 h
theorem encT_len : ∀ (l : List Str) (last : Str), (∀ x ∈ l, x.length ≤ 256) → (encT last l).length ≤ l.length * 276
  | [], last, _ => Nat.le_refl _
  | x :: l, last, h => by
    have ih := encT_len l x fun y hy => h y (List.mem_cons_of_mem _ hy)
    have hx := h x (List.mem_cons_self ..)
    have hc := (comL_le last x).2
    have h1 := vput_le (comL last x) (by omega)
    have h2 : (x.drop (comL last x)).length ≤ 256 := by rw [List.length_drop]; omega
    have h3 := vput_le (x.drop (comL last x)).length (by omega)
    show ((vput (comL last x) ++ (vput (x.drop (comL last x)).length ++ x.drop (comL last x))) ++ encT x l).length ≤ (l.length + 1) * 276
    simp only [List.length_append] at *
    omega
theorem eqO_same (v : Value) : eqO HP (some v) v = true := by simp [eqO, HP, FG]
theorem ld35 {s : SH} {v : Value} {id : Nat} (h : HP.get s.h id = some (.row [v])) : loadD Try.prog s 35 (.pointer (some ⟨id, 0, none⟩)) = some v := by
  rw [load_row h, part_one a35]; rfl
theorem ld9 {s : SH} {v : Value} {id : Nat} (h : HP.get s.h id = some (.row [v])) : loadD Try.prog s 9 (.pointer (some ⟨id, 0, none⟩)) = some v := by
  rw [load_row h, part_one a9]; rfl
theorem st35 {s : SH} {r : List Value} {m : Nat} {bs : List UInt8} {id : Nat} (h : HP.get s.h id = some (.row r)) (hr : r.length = 1) : storeD Try.prog s 35 (.pointer (some ⟨id, 0, none⟩)) (sl by' m bs) = some (putD s id (.row [sl by' m bs])) := by
  rw [store_row (l := [sl by' m bs]) z35 h rfl rfl rfl (by omega)]
  match r, hr with
  | [x], _ => rfl
theorem st9 {s : SH} {r : List Value} {x : Str} {id : Nat} (h : HP.get s.h id = some (.row r)) (hr : r.length = 1) : storeD Try.prog s 9 (.pointer (some ⟨id, 0, none⟩)) (encStr x) = some (putD s id (.row [encStr x])) := by
  rw [store_row (l := [encStr x]) z9 h rfl rfl rfl (by omega)]
  match r, hr with
  | [y], _ => rfl
theorem conv_tx (s : SH) (x : Str) : convertD Try.prog false s 9 35 (encStr x) = some (sl by' 0 x, s) := conv_sb s ⟨x.toArray⟩
theorem getLastD_take {xs : List Str} {i : Nat} (h : i < xs.length) : (xs.take (i + 1)).getLastD [] = xs[i] := by
  rw [List.take_succ_eq_append_getElem h, List.getLastD_concat]
/-- A table's bytes. -/
theorem c36 {n m : Nat} {s : SH} (l : List Str) (hl : l.length ≤ 4096) (hx : ∀ x ∈ l, x.length ≤ 256) : ∃ v s', callD Try.prog AB (n + 7) (.fn 36) [.agg #[sl tx m l]] s = some [(v, s')] ∧ Grow s.n 1 by' s' v (putS l) ∧ Sm s.n s s' := by
  rw [call_fn (fn := Try.f36) rfl rfl (by kernel_rfl)]
  suffices h : One (bodyD Try.prog false (callD Try.prog AB (n + 6)) AB.N 36 Try.f36 [.agg #[sl tx m l]] s) fun w s' => Grow s.n 1 by' s' w (putS l) ∧ Sm s.n s s' by
    obtain ⟨w, s', e, h1, h2⟩ := h
    exact ⟨w, s', e, h1, h2⟩
  rw [f36_r]
  have b1 : Sm s.n s (newD s (.row [sl tx m l])) := (Sm.refl _ _).new (Nat.le_refl _) _
  have b2 : (newD s (.row [sl tx m l])).n = s.n + 1 := rfl
  have b3 : HP.get (newD s (.row [sl tx m l])).h s.n = some (.row [sl tx m l]) := get_new rfl
  generalize hs1 : newD s (.row [sl tx m l]) = s1 at b1 b2 b3
  have hwl : IntKind.u64.wrap (l.length : Int) = (l.length : Int) := wrap_u64 (by omega) (by omega)
  obtain ⟨v, s2, e2, w1, w2⟩ := c72 (n := n + 3) (m := 2) (s := s1) [] l.length (by omega) (by simp only [List.length_nil]; omega)
  have w1 : Grow s1.n 1 by' s2 v (vput l.length) := w1
  have w1 : Grow (s.n + 1) 1 by' s2 v (vput l.length) := by rw [← b2]; exact w1
  obtain ⟨mv, rfl⟩ := Grow.form w1
  have e2 : callD Try.prog AB (n + 6) (.fn 72) [fzV 2 #[], .int .u64 (l.length : Int)] s1 = some [(sl by' mv (vput l.length), s2)] := e2
  have k1 := w2.1
  have bx : boxD s (.agg #[sl tx m l]) = some (.pointer (some ⟨s.n, 0, none⟩), s1) := by rw [← hs1]; exact bx_tab s m l
  have al35 : ∀ s : SH, allocD Try.prog s 35 = some (.pointer (some ⟨s.n, 0, none⟩), newD s (.row [fzV 2 #[]])) := fun s => alloc_at zr35
  have al9 : ∀ s : SH, allocD Try.prog s 9 = some (.pointer (some ⟨s.n, 0, none⟩), newD s (.row [.string ⟨#[]⟩])) := fun s => alloc_at zr9
  have g2 : HP.get s2.h s.n = some (.row [sl tx m l]) := by rw [w2.2 _ (by omega), b3]
  have st1 : storeD Try.prog (newD s2 (.row [fzV 2 #[]])) 35 (.pointer (some ⟨s2.n, 0, none⟩)) (sl by' mv (vput l.length)) = some (putD (newD s2 (.row [fzV 2 #[]])) s2.n (.row [sl by' mv (vput l.length)])) := st35 (get_new rfl) rfl
  have t1 : Sm s2.n s2 (putD (newD s2 (.row [fzV 2 #[]])) s2.n (.row [sl by' mv (vput l.length)])) := ((Sm.refl _ _).new (Nat.le_refl _) _).put (Nat.le_refl _) _
  have t2 : (putD (newD s2 (.row [fzV 2 #[]])) s2.n (.row [sl by' mv (vput l.length)])).n = s2.n + 1 := rfl
  have t3 : HP.get (putD (newD s2 (.row [fzV 2 #[]])) s2.n (.row [sl by' mv (vput l.length)])).h s2.n = some (.row [sl by' mv (vput l.length)]) := get_put_same _
  have ld0 := ld48 (id := s.n) b3
  simp only [f36, o_bool, o_alloc, o_box, o_build, o_buildSlice, o_load, o_store, o_nilCheck, o_bop, o_uop, o_conv, o_slc, o_fieldAddr, o_field, o_indexAddr, o_index, o_extract, o_lookup, o_mapUpdate, o_makeSlice, o_clear, o_makeMap, o_mapEntry, o_entryStore, o_delete, o_len, o_append, o_min, o_max, o_tgt, bindS, many1, jnE, boolS, gdB, fst', snd', bx, fld50_0, ld0, c33, conv_int u3 u70, hwl, e2, al35, st1, al9]
  generalize putD (newD s2 (.row [fzV 2 #[]])) s2.n (.row [sl by' mv (vput l.length)]) = s3 at t1 t2 t3
  have st2 : storeD Try.prog (newD s3 (.row [.string ⟨#[]⟩])) 9 (.pointer (some ⟨s3.n, 0, none⟩)) (.string ⟨#[]⟩) = some (putD (newD s3 (.row [.string ⟨#[]⟩])) s3.n (.row [encStr []])) := st9 (x := []) (get_new rfl) rfl
  have p1 : Sm s3.n s3 (putD (newD s3 (.row [.string ⟨#[]⟩])) s3.n (.row [encStr []])) := ((Sm.refl _ _).new (Nat.le_refl _) _).put (Nat.le_refl _) _
  have p2 : (putD (newD s3 (.row [.string ⟨#[]⟩])) s3.n (.row [encStr []])).n = s3.n + 1 := rfl
  have p3 : HP.get (putD (newD s3 (.row [.string ⟨#[]⟩])) s3.n (.row [encStr []])).h s3.n = some (.row [encStr []]) := get_put_same _
  simp only [st2, bindS]
  generalize putD (newD s3 (.row [.string ⟨#[]⟩])) s3.n (.row [encStr []]) = s4 at p1 p2 p3
  have g4 : HP.get s4.h s.n = some (.row [sl tx m l]) := by rw [p1.2 _ (by omega), t1.2 _ (by omega), g2]
  have g4b : HP.get s4.h s2.n = some (.row [sl by' mv (vput l.length)]) := by rw [p1.2 _ (by omega), t3]
  have h87 : callD Try.prog AB (n + 6) (.fn 87) [.agg #[sl tx m l]] s4 = some [(.func (.func 136) #[] #[.pointer (some ⟨s4.n, 0, none⟩)], newD s4 (.row [sl tx m l]))] := by
    rw [call_fn (fn := Try.f87) rfl rfl (by kernel_rfl)]
    show bodyD Try.prog false _ _ 87 Try.f87 _ s4 = _
    rw [f87_r]
    simp only [f87, o_bool, o_alloc, o_box, o_build, o_buildSlice, o_load, o_store, o_nilCheck, o_bop, o_uop, o_conv, o_slc, o_fieldAddr, o_field, o_indexAddr, o_index, o_extract, o_lookup, o_mapUpdate, o_makeSlice, o_clear, o_makeMap, o_mapEntry, o_entryStore, o_delete, o_len, o_append, o_min, o_max, o_tgt, bindS, many1, jnE, boolS, gdB, fst', snd', bx_tab]
  simp only [ld48 g4, h87, bindS, many1]
  have q1 : Sm s4.n s4 (newD s4 (.row [sl tx m l])) := (Sm.refl _ _).new (Nat.le_refl _) _
  have q2 : (newD s4 (.row [sl tx m l])).n = s4.n + 1 := rfl
  have q3 : HP.get (newD s4 (.row [sl tx m l])).h s4.n = some (.row [sl tx m l]) := get_new rfl
  generalize newD s4 (.row [sl tx m l]) = s5 at q1 q2 q3
  have gs : Sm s.n s s5 := ⟨by have := b1.1; omega, fun j hj => by rw [q1.2 _ (by omega), p1.2 _ (by omega), t1.2 _ (by omega), w2.2 _ (by omega), b1.2 _ hj]⟩
  have gw : Grow (s.n + 1) 1 by' s5 (sl by' mv (vput l.length)) (vput l.length) := w1.mono (by omega) fun i hi hi2 _ => by rw [q1.2 _ (by omega), p1.2 _ (by omega), t1.2 _ (by omega)]
  have g5b : HP.get s5.h s2.n = some (.row [sl by' mv (vput l.length)]) := by rw [q1.2 _ (by omega), g4b]
  have g5c : HP.get s5.h s3.n = some (.row [encStr []]) := by rw [q1.2 _ (by omega), p3]
  generalize htl : [Value.agg #[sl tx m l], _, _, _, _, _, _, _, _, _, _, _, _, _, _, _, _, _, _, _, _, _, _, _, _, _, _, _, _, _, _, _, _, _, _] = tl
  have hrun := c136 (n := n + 4) (l := s5.n) (a := s4.n) (m := m) (s := newD s5 (.loop 0 none 36 tl [16, 17] (cdp Try.f36 [1, 1, 1, 0, 1, 0, 0]) (cdp Try.f36 [1, 1, 1, 0, 1, 0, 1]))) (xs := l) (by omega)
    (fun i s' => Sm s.n s s' ∧ s5.n + 1 ≤ s'.n ∧ HP.get s'.h s4.n = some (.row [sl tx m l]) ∧ HP.get s'.h s5.n = some (.loop 0 none 36 tl [16, 17] (cdp Try.f36 [1, 1, 1, 0, 1, 0, 0]) (cdp Try.f36 [1, 1, 1, 0, 1, 0, 1])) ∧ HP.get s'.h s3.n = some (.row [encStr ((l.take i).getLastD [])]) ∧ ∃ mw, HP.get s'.h s2.n = some (.row [sl by' mw (vput l.length ++ encT [] (l.take i))]) ∧ Grow (s.n + 1) 1 by' s' (sl by' mw (vput l.length ++ encT [] (l.take i))) (vput l.length ++ encT [] (l.take i)))
    (fun i s' h => h.2.2.1)
    ⟨gs.new (by omega) _, by rw [newD_n]; omega, by rw [get_old (by omega), q3], get_new rfl, by rw [get_old (by omega), g5c]; rfl, mv, by rw [get_old (by omega), g5b]; show _ = some (DObj.row [sl by' mv (vput l.length ++ [])]); rw [List.append_nil], by show Grow _ _ _ _ (sl by' mv (vput l.length ++ [])) (vput l.length ++ []); rw [List.append_nil]; exact gw.new _⟩ ?_
  · obtain ⟨v, s6, hC, q1, q2, q3, q4, q5, mw, q6, q7⟩ := hrun
    have htg : tgtD (.func (.func 136) #[] #[.pointer (some ⟨s4.n, 0, none⟩)]) [.func (.yield s5.n) #[] #[]] = some (.fn 136, [.func (.yield s5.n) #[] #[], .pointer (some ⟨s4.n, 0, none⟩)]) := rfl
    rw [rng_none htg bodied136 hC q4 (by decide)]
    rw [List.take_length] at q6 q7
    have hl35 : loadD Try.prog (delD s6 s5.n) 35 (.pointer (some ⟨s2.n, 0, none⟩)) = some (sl by' mw (vput l.length ++ encT [] l)) := ld35 (by rw [get_del (by omega), q6])
    simp only [o_bool, o_alloc, o_box, o_build, o_buildSlice, o_load, o_store, o_nilCheck, o_bop, o_uop, o_conv, o_slc, o_fieldAddr, o_field, o_indexAddr, o_index, o_extract, o_lookup, o_mapUpdate, o_makeSlice, o_clear, o_makeMap, o_mapEntry, o_entryStore, o_delete, o_len, o_append, o_min, o_max, o_tgt, bindS, many1, jnE, boolS, gdB, fst', snd', hl35]
    refine One.ret ⟨?_, ⟨q1.1, fun j hj => by rw [get_del (by omega), q1.2 j hj]⟩⟩
    have : Grow (s.n + 1) 1 by' (delD s6 s5.n) (sl by' mw (vput l.length ++ encT [] l)) (vput l.length ++ encT [] l) := q7.mono (Nat.le_refl _) fun i hi hi2 hg => by
      have : i ≠ s5.n := fun e => by rw [e, q4] at hg; cases hg
      rw [get_del this]
    exact Grow.weak this (by omega)
  · rintro i h1 s7 ⟨hsm, hn1, k1, hL1, k3, mw, k4, k5⟩
    have hr : roundD Try.prog AB.row (callD Try.prog AB (n + 4)) AB.N s5.n [.int .i64 (i : Int), encStr l[i]] s7 = f36_r0 (dOps Try.prog) (callD Try.prog AB (n + 4)) AB.N s5.n (.pointer (some ⟨s2.n, 0, none⟩)) (.pointer (some ⟨s3.n, 0, none⟩)) (.int .i64 (i : Int)) (encStr l[i]) s7 := by
      subst htl
      exact f36_r0_e rfl (loop_of hL1) _ _
    rw [call_yld, hr]
    have hxi := hx l[i] (List.getElem_mem h1)
    have hlast : ((l.take i).getLastD []).length ≤ 256 := by
      cases i with
      | zero => exact Nat.zero_le _
      | succ i => rw [getLastD_take (by omega)]; exact hx _ (List.getElem_mem _)
    have hts : encT [] (l.take (i + 1)) = encT [] (l.take i) ++ (vput (comL ((l.take i).getLastD []) l[i]) ++ (vput (l[i].drop (comL ((l.take i).getLastD []) l[i])).length ++ l[i].drop (comL ((l.take i).getLastD []) l[i]))) := by
      rw [List.take_succ_eq_append_getElem h1, encT_snoc]
    have hlt := getLastD_take h1
    have hel := encT_len (l.take i) [] fun x h => hx x (List.mem_of_mem_take h)
    rw [List.length_take] at hel
    have hel2 : (vput l.length ++ encT [] (l.take i)).length ≤ 10 + 4096 * 276 := by
      have := vput_le l.length (by omega)
      rw [List.length_append]
      have : min i l.length * 276 ≤ 4096 * 276 := Nat.mul_le_mul_right _ (by omega)
      omega
    have hcm := comL_le ((l.take i).getLastD []) l[i]
    generalize (l.take i).getLastD [] = last at k3 hlast hts hcm
    generalize encT [] (l.take i) = old at k4 k5 hts hel2
    generalize hxe : l[i] = x at hxi hts hlt hcm
    generalize hce : comL last x = c at hts hcm
    -- begin
    have hb1 : Sm s5.n s7 (putD s7 s5.n (.loop 1 none 36 tl [16, 17] (cdp Try.f36 [1, 1, 1, 0, 1, 0, 0]) (cdp Try.f36 [1, 1, 1, 0, 1, 0, 1]))) := (Sm.refl _ _).put (Nat.le_refl _) _
    have hb2 : HP.get (putD s7 s5.n (.loop 1 none 36 tl [16, 17] (cdp Try.f36 [1, 1, 1, 0, 1, 0, 0]) (cdp Try.f36 [1, 1, 1, 0, 1, 0, 1]))).h s5.n = some (.loop 1 none 36 tl [16, 17] (cdp Try.f36 [1, 1, 1, 0, 1, 0, 0]) (cdp Try.f36 [1, 1, 1, 0, 1, 0, 1])) := get_put_same _
    have hb3 : (putD s7 s5.n (.loop 1 none 36 tl [16, 17] (cdp Try.f36 [1, 1, 1, 0, 1, 0, 0]) (cdp Try.f36 [1, 1, 1, 0, 1, 0, 1]))).n = s7.n := rfl
    have hwc : IntKind.u64.wrap (c : Int) = (c : Int) := wrap_u64 (by omega) (by omega)
    have hc88 : ∀ s : SH, callD Try.prog AB (n + 4) (.fn 88) [encStr last, encStr x] s = some [(.int .i64 (c : Int), s)] := fun s => by rw [c88 (n := n + 3) last x (by omega) (by omega), hce]
    simp only [f36_r0, o_bool, o_alloc, o_box, o_build, o_buildSlice, o_load, o_store, o_nilCheck, o_bop, o_uop, o_conv, o_slc, o_fieldAddr, o_field, o_indexAddr, o_index, o_extract, o_lookup, o_mapUpdate, o_makeSlice, o_clear, o_makeMap, o_mapEntry, o_entryStore, o_delete, o_len, o_append, o_min, o_max, o_tgt, bindS, many1, jnE, boolS, gdB, fst', snd', begin_of hL1]
    generalize putD s7 s5.n (.loop 1 none 36 tl [16, 17] (cdp Try.f36 [1, 1, 1, 0, 1, 0, 0]) (cdp Try.f36 [1, 1, 1, 0, 1, 0, 1])) = s8 at hb1 hb2 hb3
    have g8a : HP.get s8.h s3.n = some (.row [encStr last]) := by rw [hb1.2 _ (by omega), k3]
    have g8b : HP.get s8.h s2.n = some (.row [sl by' mw (vput l.length ++ old)]) := by rw [hb1.2 _ (by omega), k4]
    obtain ⟨v1, s9, e9, du1, du2⟩ := c72 (n := n + 1) (m := mw) (s := s8) (vput l.length ++ old) c (by omega) (by omega)
    obtain ⟨m1, rfl⟩ := Grow.form du1
    have hv1 := vput_le c (by omega)
    have hdl : (x.drop c).length ≤ 256 := by rw [List.length_drop]; omega
    obtain ⟨v2, s10, e10, du3, du4⟩ := c73 (n := n) (m := m1) (m' := 0) (s := s9) (vput l.length ++ old ++ vput c) (x.drop c) (by omega) (by rw [List.length_append]; omega)
    obtain ⟨m2, rfl⟩ := Grow.form du3
    have n9 := du2.1
    have n10 := du4.1
    have g10 : HP.get s10.h s2.n = some (.row [sl by' mw (vput l.length ++ old)]) := by rw [du4.2 _ (by omega), du2.2 _ (by omega), g8b]
    have st1 : storeD Try.prog s10 35 (.pointer (some ⟨s2.n, 0, none⟩)) (sl by' m2 (vput l.length ++ old ++ vput c ++ (vput (x.drop c).length ++ x.drop c))) = some (putD s10 s2.n (.row [sl by' m2 (vput l.length ++ old ++ vput c ++ (vput (x.drop c).length ++ x.drop c))])) := st35 g10 rfl
    have y1 : HP.get (putD s10 s2.n (.row [sl by' m2 (vput l.length ++ old ++ vput c ++ (vput (x.drop c).length ++ x.drop c))])).h s2.n = some (.row [sl by' m2 (vput l.length ++ old ++ vput c ++ (vput (x.drop c).length ++ x.drop c))]) := get_put_same _
    have y2 : ∀ j, j ≠ s2.n → HP.get (putD s10 s2.n (.row [sl by' m2 (vput l.length ++ old ++ vput c ++ (vput (x.drop c).length ++ x.drop c))])).h j = HP.get s10.h j := fun j hj => get_put_other hj
    have y3 : (putD s10 s2.n (.row [sl by' m2 (vput l.length ++ old ++ vput c ++ (vput (x.drop c).length ++ x.drop c))])).n = s10.n := rfl
    have lda := ld9 g8a
    have ldb := ld35 g8b
    have e9' := oneS e9
    have e10' := oneS e10
    simp only [lda, ldb, bindS, hc88, many1, conv_int u3 u70, hwc, e9', slc_txd _ _ hcm.2, conv_tx, e10', (ext2 _ _).1, (ext2 _ _).2, st1, Option.map_some, eqO_same, Bool.and_self, condT]
    generalize putD s10 s2.n (.row [sl by' m2 (vput l.length ++ old ++ vput c ++ (vput (x.drop c).length ++ x.drop c))]) = s11 at y1 y2 y3
    have g11 : HP.get s11.h s3.n = some (.row [encStr last]) := by rw [y2 _ (by omega), du4.2 _ (by omega), du2.2 _ (by omega), g8a]
    have st2 : storeD Try.prog s11 9 (.pointer (some ⟨s3.n, 0, none⟩)) (encStr x) = some (putD s11 s3.n (.row [encStr x])) := st9 g11 rfl
    have gL : HP.get (putD s11 s3.n (.row [encStr x])).h s5.n = some (.loop 1 none 36 tl [16, 17] (cdp Try.f36 [1, 1, 1, 0, 1, 0, 0]) (cdp Try.f36 [1, 1, 1, 0, 1, 0, 1])) := by rw [get_put_other (by omega), y2 _ (by omega), du4.2 _ (by omega), du2.2 _ (by omega), hb2]
    simp only [st2, bindS, setLoop_of gL, Option.map_some]
    refine ⟨_, rfl, ?_, ?_, ?_, get_put_same _, ?_, m2, ?_, ?_⟩
    · refine ⟨by have := hsm.1; rw [putD_n, putD_n]; omega, fun j hj => ?_⟩
      have := hsm.1
      rw [get_put_other (by omega), get_put_other (by omega), y2 _ (by omega), du4.2 _ (by omega), du2.2 _ (by omega), hb1.2 _ (by omega), hsm.2 j hj]
    · rw [putD_n, putD_n]; omega
    · rw [get_put_other (by omega), get_put_other (by omega), y2 _ (by omega), du4.2 _ (by omega), du2.2 _ (by omega), hb1.2 _ (by omega), k1]
    · rw [get_put_other (by omega), get_put_same, hlt]
    · rw [get_put_other (by omega), get_put_other (by omega), y1, hts]
      simp only [List.append_assoc]
    · rw [hts]
      have hG : Grow s9.n 1 by' s10 (sl by' m2 (vput l.length ++ old ++ vput c ++ (vput (x.drop c).length ++ x.drop c))) (vput l.length ++ old ++ vput c ++ (vput (x.drop c).length ++ x.drop c)) := du3
      have hG2 : Grow s9.n 1 by' (putD (putD s11 s3.n (.row [encStr x])) s5.n (.loop 0 none 36 tl [16, 17] (cdp Try.f36 [1, 1, 1, 0, 1, 0, 0]) (cdp Try.f36 [1, 1, 1, 0, 1, 0, 1]))) (sl by' m2 (vput l.length ++ old ++ vput c ++ (vput (x.drop c).length ++ x.drop c))) (vput l.length ++ old ++ vput c ++ (vput (x.drop c).length ++ x.drop c)) := hG.mono (by rw [putD_n, putD_n]; omega) fun i hi hi2 _ => by rw [get_put_other (by omega), get_put_other (by omega), y2 _ (by omega)]
      have := Grow.weak hG2 (show s.n + 1 ≤ s9.n by have := hsm.1; omega)
      simp only [List.append_assoc] at this ⊢
      exact this
end Go.Proofs.Ytmhmbmogodofeaa.S
