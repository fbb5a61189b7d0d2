import Derived.Test.YtmhmbmogodofeaaCRg
set_option autoImplicit false
set_option linter.unusedVariables false
set_option linter.unusedSimpArgs false
set_option maxRecDepth 100000
namespace Go.Proofs.Ytmhmbmogodofeaa.S
open Go.FS Go.RowKit
attribute [local congr] bind_cg cond_cg gd_cg
/-- A pointer to a row. -/
abbrev pr (q : Nat) : Value := .pointer (some ⟨q, 0, none⟩)
theorem nc (a : Addr) : nilCheckD (.pointer (some a)) = some (.pointer (some a)) := rfl
theorem ld35 {s : SH} {q : Nat} {v : Value} (h : HP.get s.h q = some (.row [v])) : loadD Try.prog s 35 (pr q) = some v := by rw [load_row h, part_one a35]; rfl
theorem st35 {s : SH} {q : Nat} {v w : Value} (h : HP.get s.h q = some (.row [v])) (hw : w.cells.toList = [w]) (ho : [w].all oneC = true) : storeD Try.prog s 35 (pr q) w = some (putD s q (.row [w])) := store_row z35 h hw rfl ho (by simp)
theorem bx_ptr (s : SH) (q : Nat) : boxD s (pr q) = some (pr s.n, newD s (.row [pr q])) := box_at rfl rfl
theorem ld145 {s : SH} {p q : Nat} (h : HP.get s.h p = some (.row [pr q])) : loadD Try.prog s 145 (pr p) = some (pr q) := by rw [load_row h, part_one a145]; rfl
/-- What a writer wrote: all that was there stands, but for the writer's row. -/
def Wq (q : Nat) (s s' : SH) (bs : List UInt8) : Prop := s.n ≤ s'.n ∧ (∀ j, j < s.n → j ≠ q → HP.get s'.h j = HP.get s.h j) ∧ ∃ m, HP.get s'.h q = some (.row [sl by' m bs])
theorem Wq.trans {q : Nat} {a b c : SH} {x y : List UInt8} (h : Wq q a b x) (k : Wq q b c y) : Wq q a c y := ⟨Nat.le_trans h.1 k.1, fun j hj hq => (k.2.1 j (Nat.lt_of_lt_of_le hj h.1) hq).trans (h.2.1 j hj hq), k.2.2⟩
/-- Something came to be before the writer wrote. -/
theorem Wq.from {q : Nat} {s s1 s' : SH} {x : List UInt8} (hn : s.n ≤ s1.n) (hg : ∀ j, j < s.n → HP.get s1.h j = HP.get s.h j) (k : Wq q s1 s' x) : Wq q s s' x := ⟨Nat.le_trans hn k.1, fun j hj hq => (k.2.1 j (Nat.lt_of_lt_of_le hj hn) hq).trans (hg j hj), k.2.2⟩
theorem sl_cells {α : Type} (enc : α → List Value) (m : Nat) (xs : List α) : (sl enc m xs).cells.toList = [sl enc m xs] := rfl
theorem sl_one {α : Type} (enc : α → List Value) (m : Nat) (xs : List α) : [sl enc m xs].all oneC = true := rfl
theorem c99 {n m q : Nat} {s : SH} {bs : List UInt8} (hq : q < s.n) (hg : HP.get s.h q = some (.row [sl by' m bs])) (x : Int) (h0 : 0 ≤ x) (h1 : x < 2 ^ 64) (hb : bs.length + 20 ≤ 140737488355328) :
    ∃ s', callD Try.prog AB (n + 4) (.fn 99) [pr q, .int .u64 x] s = some [(.tuple #[], s')] ∧ Wq q s s' (bs ++ vput x.toNat) := by
  rw [call_fn (fn := Try.f99) rfl rfl (by kernel_rfl)]
  show ∃ s', bodyD Try.prog false _ _ 99 Try.f99 _ s = _ ∧ _
  rw [f99_r]
  have hx : (x.toNat : Int) = x := Int.toNat_of_nonneg h0
  obtain ⟨v, s1, e, k1, k2⟩ := c72 (n := n) (m := m) (s := s) bs x.toNat (by omega) hb
  rw [hx] at e
  have hg1 : HP.get s1.h q = some (.row [sl by' m bs]) := by rw [k2.2 _ hq, hg]
  obtain ⟨m', rfl⟩ := Grow.form k1
  simp only [f99, o_bool, o_alloc, o_box, o_build, o_buildSlice, o_load, o_store, o_nilCheck, o_bop, o_uop, o_conv, o_slc, o_fieldAddr, o_field, o_indexAddr, o_index, o_extract, o_lookup, o_mapUpdate, o_makeMap, o_mapEntry, o_entryStore, o_delete, o_len, o_append, o_min, o_max, o_tgt, bindS, many1, jnE, boolS, gdB, fst', snd', nc, fld147_0, ld35 hg, e, st35 hg1 (sl_cells _ _ _) (sl_one _ _ _)]
  exact ⟨_, rfl, k2.1, fun j hj hjq => by rw [get_put_other hjq, k2.2 _ hj], m', get_put_same _⟩
/-- Numbers, each less the one ahead of it. -/
def idsGo : Int → List Int → List UInt8
  | _, [] => []
  | last, x :: l => vput (x - last).toNat ++ idsGo x l
theorem ids_cons (last x : Int) (l : List Int) : idsGo last (x :: l) = vput (x - last).toNat ++ idsGo x l := rfl
def U64 (x : Int) : Prop := 0 ≤ x ∧ x < 2 ^ 64
def idsB (l : List Int) : List UInt8 := vput l.length ++ idsGo 0 l
theorem c98 {n m m' q : Nat} {s : SH} {bs : List UInt8} (l : List Int) (hq : q < s.n) (hg : HP.get s.h q = some (.row [sl by' m bs])) (hr : rise l = true) (hu : ∀ x ∈ l, U64 x) (hb : bs.length + 100000 ≤ 140737488355328) :
    ∃ s', callD Try.prog AB (n + 6) (.fn 98) [pr q, sl u6 m' l] s = some [(.tuple #[], s')] ∧ Wq q s s' (bs ++ idsB l) := by
  simp only [rise, Bool.and_eq_true, decide_eq_true_eq] at hr
  obtain ⟨hr, hl⟩ := hr
  have e1 : ∃ s', callD Try.prog AB (n + 5) (.fn 147) [pr q, sl u6 m' l, .func (.func 142) #[] #[], .func (.func 148) #[] #[]] s = some [(.tuple #[], s')] ∧ Wq q s s' (bs ++ idsB l) := by
    rw [call_fn (fn := Try.f147) rfl rfl (by kernel_rfl)]
    suffices h : One (bodyD Try.prog false (callD Try.prog AB (n + 4)) AB.N 147 Try.f147 [pr q, sl u6 m' l, .func (.func 142) #[] #[], .func (.func 148) #[] #[]] s) fun w s' => w = .tuple #[] ∧ Wq q s s' (bs ++ idsB l) by
      obtain ⟨w, s', e, rfl, h⟩ := h
      exact ⟨s', e, h⟩
    rw [f147_r]
    have hw : IntKind.u64.wrap (l.length : Int) = (l.length : Int) := wrap_u64 (by omega) (by omega)
    obtain ⟨s1, e, k1⟩ := c99 (n := n) (m := m) (s := s) hq hg (l.length : Int) (by omega) (by omega) (by omega)
    rw [Int.toNat_natCast] at k1
    simp only [f147, o_bool, o_alloc, o_box, o_build, o_buildSlice, o_load, o_store, o_nilCheck, o_bop, o_uop, o_conv, o_slc, o_fieldAddr, o_field, o_indexAddr, o_index, o_extract, o_lookup, o_mapUpdate, o_makeMap, o_mapEntry, o_entryStore, o_delete, o_len, o_append, o_min, o_max, o_tgt, bindS, many1, jnE, boolS, gdB, fst', snd', len_sl u67, conv_int u3 u70, hw, e]
    refine list_one l (fun i (x : Value × Value × Value) (s' : SH) => x.2.2 = .int .i64 i ∧ ∃ (last : Int) (cur : List UInt8), x.1 = .int .u64 last ∧ 0 ≤ last ∧ riseB last (l.drop i) = true ∧ Wq q s s' cur ∧ cur ++ idsGo last (l.drop i) = bs ++ idsB l ∧ cur.length ≤ bs.length + 10 + 10 * i) ?_ ?_ ?h0 (by show l.length < 2 ^ 64; omega)
    case h0 =>
      have h10 := vput_len10 (x := l.length) (by omega)
      exact ⟨rfl, 0, bs ++ vput l.length, rfl, by omega, by simpa using hr, k1, by unfold idsB; rw [List.append_assoc, List.drop_zero], by rw [List.length_append]; omega⟩
    · rintro i hi ⟨x1, x2, x3⟩ s' ⟨g1, last, cur, g2, g3, g4, g5, g6, g7⟩ nx hnx
      simp only at g1 g2
      subst g1 g2
      have hlt : (i : Int) < l.length := by omega
      have hwi : IntKind.i64.wrap ((i : Int) + 1) = ((i + 1 : Nat) : Int) := by rw [wrap_i64 (by omega) (by omega)]; rfl
      have hux := hu _ (List.getElem_mem hi)
      rw [List.drop_eq_getElem_cons hi, rise_cons, Bool.and_eq_true, decide_eq_true_eq] at g4
      rw [List.drop_eq_getElem_cons hi, ids_cons] at g6
      generalize hxe : l[i] = x at g4 g6 hux
      obtain ⟨hx0, hx1⟩ := hux
      have hws : IntKind.u64.wrap (x - last) = x - last := wrap_u64 (by omega) (by omega)
      obtain ⟨mm, hgc⟩ := g5.2.2
      obtain ⟨s2, e2, k2⟩ := c99 (n := n) (m := mm) (s := s') (bs := cur) (Nat.lt_of_lt_of_le hq g5.1) hgc (x - last) (by omega) (by omega) (by omega)
      have h148 : ∀ s : SH, callD Try.prog AB (n + 4) (.fn 148) [.int .u64 x] s = some [(.tuple #[], s)] := fun s => by
        rw [call_fn (fn := Try.f148) rfl rfl (by kernel_rfl)]
        show bodyD Try.prog false _ _ 148 Try.f148 _ s = _
        rw [f148_r]; rfl
      simp only [f147_l0, o_bool, o_alloc, o_box, o_build, o_buildSlice, o_load, o_store, o_nilCheck, o_bop, o_uop, o_conv, o_slc, o_fieldAddr, o_field, o_indexAddr, o_index, o_extract, o_lookup, o_mapUpdate, o_makeMap, o_mapEntry, o_entryStore, o_delete, o_len, o_append, o_min, o_max, o_tgt, bindS, many1, jnE, boolS, gdB, fst', snd', bop_lss, hlt, decide_true, condT, ixs67 u6_len hi, ld_u6, hxe, tgt0, c142, b_sub, hws, e2, h148, bop_add, hwi]
      have h10 := vput_len10 (x := (x - last).toNat) (by omega)
      refine hnx (_, _, _) _ ⟨rfl, x, cur ++ vput (x - last).toNat, rfl, hx0, g4.2, g5.trans k2, by rw [← g6, List.append_assoc], by rw [List.length_append]; omega⟩
    · rintro ⟨x1, x2, x3⟩ s' ⟨g1, last, cur, g2, g3, g4, g5, g6, g7⟩ nx
      simp only at g1 g2
      subst g1 g2
      have hnlt : ¬ ((l.length : Int) < l.length) := by omega
      simp only [f147_l0, o_bool, o_alloc, o_box, o_build, o_buildSlice, o_load, o_store, o_nilCheck, o_bop, o_uop, o_conv, o_slc, o_fieldAddr, o_field, o_indexAddr, o_index, o_extract, o_lookup, o_mapUpdate, o_makeMap, o_mapEntry, o_entryStore, o_delete, o_len, o_append, o_min, o_max, o_tgt, bindS, many1, jnE, boolS, gdB, fst', snd', bop_lss, hnlt, decide_false, condF, beq_yes, condT]
      rw [List.drop_length] at g6
      have : cur = bs ++ idsB l := by rw [← g6]; simp [idsGo]
      subst this
      exact One.ret ⟨rfl, g5⟩
  obtain ⟨s', e, h⟩ := e1
  refine ⟨s', ?_, h⟩
  rw [call_fn (fn := Try.f98) rfl rfl (by kernel_rfl)]
  show bodyD Try.prog false _ _ 98 Try.f98 _ s = _
  rw [f98_r]
  simp only [f98, o_bool, o_alloc, o_box, o_build, o_buildSlice, o_load, o_store, o_nilCheck, o_bop, o_uop, o_conv, o_slc, o_fieldAddr, o_field, o_indexAddr, o_index, o_extract, o_lookup, o_mapUpdate, o_makeMap, o_mapEntry, o_entryStore, o_delete, o_len, o_append, o_min, o_max, o_tgt, bindS, many1, jnE, boolS, gdB, fst', snd', e]
/-- Series, each number less the one ahead of it. -/
def nmGo : Int → List Nm → List UInt8
  | _, [] => []
  | last, a :: l => vput (a.1 - last).toNat ++ (lput a.2.2 ++ nmGo a.1 l)
theorem nm_cons (last : Int) (a : Nm) (l : List Nm) : nmGo last (a :: l) = vput (a.1 - last).toNat ++ (lput a.2.2 ++ nmGo a.1 l) := rfl
def nmB (l : List Nm) : List UInt8 := vput l.length ++ nmGo 0 l
theorem lput_len {l : List Lab} (h : okL l = true) : (lput l).length ≤ 6000 := by
  obtain ⟨h0, h1, h2⟩ := okL_size h
  have k1 := labs_len h2
  have k2 := vput_len10 (x := l.length) (by omega)
  unfold lput
  rw [List.length_append]; omega
theorem okL_small {l : List Lab} (h : okL l = true) : SmallL l := by
  obtain ⟨h0, h1, h2⟩ := okL_size h
  exact ⟨by omega, fun a ha => by have := h2 a ha; omega⟩
theorem eqO_ptr (s : SH) (v : Value) : eqO HP (some v) v = true := by simp [eqO, FG]
theorem c145 {n m q p : Nat} {s : SH} {bs : List UInt8} (a : Nm) (hok : okL a.2.2 = true) (hq : q < s.n) (hp : p < s.n) (hpq : p ≠ q) (hg : HP.get s.h q = some (.row [sl by' m bs])) (hgp : HP.get s.h p = some (.row [pr q])) (hb : bs.length + 100000 ≤ 140737488355328) :
    ∃ s', callD Try.prog AB (n + 6) (.fn 145) [.agg (nm a).toArray, pr p] s = some [(.tuple #[], s')] ∧ Wq q s s' (bs ++ lput a.2.2) := by
  rw [call_fn (fn := Try.f145) rfl rfl (by kernel_rfl)]
  show ∃ s', bodyD Try.prog false _ _ 145 Try.f145 _ s = _ ∧ _
  rw [f145_r]
  have g1 : HP.get (newD s (.row (nm a))).h s.n = some (.row (nm a)) := get_new rfl
  have g2 : HP.get (newD s (.row (nm a))).h q = some (.row [sl by' m bs]) := by rw [get_old (by omega), hg]
  have g3 : HP.get (newD s (.row (nm a))).h p = some (.row [pr q]) := by rw [get_old (by omega), hgp]
  obtain ⟨v, s1, e, k1, k2⟩ := c24 (n := n) (m := m) (m' := a.2.1) (s := newD s (.row (nm a))) bs a.2.2 (okL_small hok) hb hok
  have k2' : Sm (newD s (.row (nm a))).n (newD s (.row (nm a))) s1 := k2
  have g4 : HP.get s1.h q = some (.row [sl by' m bs]) := by rw [k2'.2 _ (by rw [newD_n]; omega), g2]
  have g5 : HP.get s1.h p = some (.row [pr q]) := by rw [k2'.2 _ (by rw [newD_n]; omega), g3]
  obtain ⟨m', rfl⟩ := Grow.form k1
  have e' := oneS e
  simp only [f145, o_bool, o_alloc, o_box, o_build, o_buildSlice, o_load, o_store, o_nilCheck, o_bop, o_uop, o_conv, o_slc, o_fieldAddr, o_field, o_indexAddr, o_index, o_extract, o_lookup, o_mapUpdate, o_makeMap, o_mapEntry, o_entryStore, o_delete, o_len, o_append, o_min, o_max, o_tgt, bindS, many1, jnE, boolS, gdB, fst', snd', bx_nm, ld145 g3, nc, fld147_0, ld35 g2, fld135_1, ldn_1 g1, e', (ext2 _ _).1, (ext2 _ _).2, st35 g4 (sl_cells _ _ _) (sl_one _ _ _), ld145 g5, eqO_ptr s, Bool.and_self, condT]
  refine ⟨_, rfl, ?_, fun j hj hjq => ?_, m', get_put_same _⟩
  · have := k2'.1; rw [newD_n] at this; rw [putD_n]; omega
  · rw [get_put_other hjq, k2'.2 _ (by rw [newD_n]; omega), get_old (by omega)]
theorem c96 {n m m' q : Nat} {s : SH} {bs : List UInt8} (l : List Nm) (hq : q < s.n) (hg : HP.get s.h q = some (.row [sl by' m bs])) (hr : rise (l.map nid) = true) (hu : ∀ a ∈ l, U64 a.1) (hok : l.all nmOk = true) (hb : bs.length + 30000000 ≤ 140737488355328) :
    ∃ s', callD Try.prog AB (n + 8) (.fn 96) [pr q, sl nm m' l] s = some [(.tuple #[], s')] ∧ Wq q s s' (bs ++ nmB l) := by
  simp only [rise, Bool.and_eq_true, decide_eq_true_eq, List.length_map] at hr
  obtain ⟨hr, hl⟩ := hr
  have hok' : ∀ a ∈ l, okL a.2.2 = true := List.all_eq_true.1 hok
  rw [call_fn (fn := Try.f96) rfl rfl (by kernel_rfl)]
  show ∃ s', bodyD Try.prog false _ _ 96 Try.f96 _ s = _ ∧ _
  rw [f96_r]
  have g1 : HP.get (newD s (.row [pr q])).h s.n = some (.row [pr q]) := get_new rfl
  have g2 : HP.get (newD s (.row [pr q])).h q = some (.row [sl by' m bs]) := by rw [get_old (by omega), hg]
  have hn1 : s.n < (newD s (.row [pr q])).n := by rw [newD_n]; omega
  have hold : ∀ j, j < s.n → HP.get (newD s (.row [pr q])).h j = HP.get s.h j := fun j hj => get_old (by omega)
  simp only [f96, o_bool, o_alloc, o_box, o_build, o_buildSlice, o_load, o_store, o_nilCheck, o_bop, o_uop, o_conv, o_slc, o_fieldAddr, o_field, o_indexAddr, o_index, o_extract, o_lookup, o_mapUpdate, o_makeMap, o_mapEntry, o_entryStore, o_delete, o_len, o_append, o_min, o_max, o_tgt, bindS, many1, jnE, boolS, gdB, fst', snd', bx_ptr, ld145 g1]
  generalize newD s (.row [pr q]) = s0 at g1 g2 hn1 hold
  have hq0 : q < s0.n := by omega
  have e1 : ∃ s', callD Try.prog AB (n + 7) (.fn 144) [pr q, sl nm m' l, .func (.func 140) #[] #[], .func (.func 145) #[] #[pr s.n]] s0 = some [(.tuple #[], s')] ∧ Wq q s0 s' (bs ++ nmB l) := by
    rw [call_fn (fn := Try.f144) rfl rfl (by kernel_rfl)]
    suffices h : One (bodyD Try.prog false (callD Try.prog AB (n + 6)) AB.N 144 Try.f144 [pr q, sl nm m' l, .func (.func 140) #[] #[], .func (.func 145) #[] #[pr s.n]] s0) fun w s' => w = .tuple #[] ∧ Wq q s0 s' (bs ++ nmB l) by
      obtain ⟨w, s', e, rfl, h⟩ := h
      exact ⟨s', e, h⟩
    rw [f144_r]
    have hw : IntKind.u64.wrap (l.length : Int) = (l.length : Int) := wrap_u64 (by omega) (by omega)
    obtain ⟨s1, e, k1⟩ := c99 (n := n + 2) (m := m) (s := s0) hq0 g2 (l.length : Int) (by omega) (by omega) (by omega)
    rw [Int.toNat_natCast] at k1
    simp only [f144, o_bool, o_alloc, o_box, o_build, o_buildSlice, o_load, o_store, o_nilCheck, o_bop, o_uop, o_conv, o_slc, o_fieldAddr, o_field, o_indexAddr, o_index, o_extract, o_lookup, o_mapUpdate, o_makeMap, o_mapEntry, o_entryStore, o_delete, o_len, o_append, o_min, o_max, o_tgt, bindS, many1, jnE, boolS, gdB, fst', snd', len_sl u65, conv_int u3 u70, hw, e]
    refine list_one l (fun i (x : Value × Value) (s' : SH) => x.2 = .int .i64 i ∧ ∃ (last : Int) (cur : List UInt8), x.1 = .int .u64 last ∧ 0 ≤ last ∧ riseB last ((l.drop i).map nid) = true ∧ Wq q s0 s' cur ∧ cur ++ nmGo last (l.drop i) = bs ++ nmB l ∧ cur.length ≤ bs.length + 10 + 6010 * i) ?_ ?_ ?h0 (by show l.length < 2 ^ 64; omega)
    case h0 =>
      have h10 := vput_len10 (x := l.length) (by omega)
      exact ⟨rfl, 0, bs ++ vput l.length, rfl, by omega, by simpa using hr, k1, by unfold nmB; rw [List.append_assoc, List.drop_zero], by rw [List.length_append]; omega⟩
    · rintro i hi ⟨x1, x2⟩ s' ⟨h1, last, cur, h2, h3, h4, h5, h6, h7⟩ nx hnx
      simp only at h1 h2
      subst h1 h2
      have hlt : (i : Int) < l.length := by omega
      have hwi : IntKind.i64.wrap ((i : Int) + 1) = ((i + 1 : Nat) : Int) := by rw [wrap_i64 (by omega) (by omega)]; rfl
      have hux := hu _ (List.getElem_mem hi)
      have hka := hok' _ (List.getElem_mem hi)
      rw [List.drop_eq_getElem_cons hi, List.map_cons, rise_cons, Bool.and_eq_true, decide_eq_true_eq] at h4
      rw [List.drop_eq_getElem_cons hi, nm_cons] at h6
      generalize hxe : l[i] = a at h4 h6 hux hka
      obtain ⟨hx0, hx1⟩ := hux
      have h4' : last < a.1 := h4.1
      have hws : IntKind.u64.wrap (a.1 - last) = a.1 - last := wrap_u64 (by omega) (by omega)
      obtain ⟨mm, hgc⟩ := h5.2.2
      have hq' : q < s'.n := Nat.lt_of_lt_of_le hq0 h5.1
      have hst : storeD Try.prog (newD s' (.row (nm nz))) 135 (.pointer (some ⟨s'.n, 0, none⟩)) (.agg (nm a).toArray) = some (putD (newD s' (.row (nm nz))) s'.n (.row (nm a))) := st135 (get_new rfl)
      have ha : HP.get (putD (newD s' (.row (nm nz))) s'.n (.row (nm a))).h s'.n = some (.row (nm a)) := get_put_same _
      have hold2 : ∀ j, j < s'.n → HP.get (putD (newD s' (.row (nm nz))) s'.n (.row (nm a))).h j = HP.get s'.h j := fun j hj => by rw [get_put_other (by omega), get_old (by omega)]
      have hn2 : s'.n < (putD (newD s' (.row (nm nz))) s'.n (.row (nm a))).n := by rw [putD_n, newD_n]; omega
      simp only [f144_l0, o_bool, o_alloc, o_box, o_build, o_buildSlice, o_load, o_store, o_nilCheck, o_bop, o_uop, o_conv, o_slc, o_fieldAddr, o_field, o_indexAddr, o_index, o_extract, o_lookup, o_mapUpdate, o_makeMap, o_mapEntry, o_entryStore, o_delete, o_len, o_append, o_min, o_max, o_tgt, bindS, many1, jnE, boolS, gdB, fst', snd', bop_lss, hlt, decide_true, condT, ixs65 nm_len hi, ldf_nm, hxe, al135, hst, ldn ha, tgt0, c140, b_sub, hws]
      generalize putD (newD s' (.row (nm nz))) s'.n (.row (nm a)) = s2 at ha hold2 hn2
      have hgc2 : HP.get s2.h q = some (.row [sl by' mm cur]) := by rw [hold2 _ hq', hgc]
      obtain ⟨s3, e3, k3⟩ := c99 (n := n + 2) (m := mm) (s := s2) (bs := cur) (by omega) hgc2 (a.1 - last) (by omega) (by omega) (by omega)
      have ha3 : HP.get s3.h s'.n = some (.row (nm a)) := by rw [k3.2.1 _ hn2 (by omega), ha]
      obtain ⟨m3, hg3⟩ := k3.2.2
      have hp3 : HP.get s3.h s.n = some (.row [pr q]) := by rw [k3.2.1 _ (by have := h5.1; omega) (by omega), hold2 _ (by have := h5.1; omega), h5.2.1 _ hn1 (by omega), g1]
      have h10 := vput_len10 (x := (a.1 - last).toNat) (by omega)
      obtain ⟨s4, e4, k4⟩ := c145 (n := n) (m := m3) (q := q) (p := s.n) (s := s3) (bs := cur ++ vput (a.1 - last).toNat) a hka (by have := k3.1; omega) (by have := k3.1; have := h5.1; omega) (by omega) hg3 hp3 (by rw [List.length_append]; omega)
      have ha4 : HP.get s4.h s'.n = some (.row (nm a)) := by rw [k4.2.1 _ (by have := k3.1; omega) (by omega), ha3]
      simp only [e3, o_bool, o_alloc, o_box, o_build, o_buildSlice, o_load, o_store, o_nilCheck, o_bop, o_uop, o_conv, o_slc, o_fieldAddr, o_field, o_indexAddr, o_index, o_extract, o_lookup, o_mapUpdate, o_makeMap, o_mapEntry, o_entryStore, o_delete, o_len, o_append, o_min, o_max, o_tgt, bindS, many1, jnE, boolS, gdB, fst', snd', ldn ha3, tgt1, List.cons_append, List.nil_append, e4, ldn ha4, tgt0, c140, bop_add, hwi]
      have h6000 := lput_len hka
      refine hnx (_, _) _ ⟨rfl, a.1, cur ++ vput (a.1 - last).toNat ++ lput a.2.2, rfl, hx0, h4.2, ?_, by rw [← h6]; simp only [List.append_assoc], by simp only [List.length_append]; omega⟩
      exact h5.trans ((k3.from (Nat.le_of_lt hn2) hold2).trans k4)
    · rintro ⟨x1, x2⟩ s' ⟨h1, last, cur, h2, h3, h4, h5, h6, h7⟩ nx
      simp only at h1 h2
      subst h1 h2
      have hnlt : ¬ ((l.length : Int) < l.length) := by omega
      simp only [f144_l0, o_bool, o_alloc, o_box, o_build, o_buildSlice, o_load, o_store, o_nilCheck, o_bop, o_uop, o_conv, o_slc, o_fieldAddr, o_field, o_indexAddr, o_index, o_extract, o_lookup, o_mapUpdate, o_makeMap, o_mapEntry, o_entryStore, o_delete, o_len, o_append, o_min, o_max, o_tgt, bindS, many1, jnE, boolS, gdB, fst', snd', bop_lss, hnlt, decide_false, condF, beq_yes, condT]
      rw [List.drop_length] at h6
      have : cur = bs ++ nmB l := by rw [← h6]; simp [nmGo]
      subst this
      exact One.ret ⟨rfl, h5⟩
  obtain ⟨s', e, h⟩ := e1
  simp only [e, o_bool, o_alloc, o_box, o_build, o_buildSlice, o_load, o_store, o_nilCheck, o_bop, o_uop, o_conv, o_slc, o_fieldAddr, o_field, o_indexAddr, o_index, o_extract, o_lookup, o_mapUpdate, o_makeMap, o_mapEntry, o_entryStore, o_delete, o_len, o_append, o_min, o_max, o_tgt, bindS, many1, jnE, boolS, gdB, fst', snd']
  exact ⟨_, rfl, h.from (Nat.le_of_lt hn1) hold⟩

attribute [local congr] bind_cg cond_cg gd_cg
theorem shl1 (a : Int) : bopD Try.prog .shl 70 (.int .u64 a) (.int .u64 1) = some (.int .u64 (IntKind.u64.wrap (a * 2))) := by
  rw [bop_int]
  simp only [intS]
  rw [if_neg (by decide)]
  have e : ((2 : Int) ^ min (Int.toNat 1) IntKind.u64.bits) = 2 := by decide
  rw [e]
theorem shr63 (d : Int) (h0 : -70368744177664 ≤ d) (h1 : d ≤ 70368744177664) : bopD Try.prog .shr 3 (.int .i64 d) (.int .u64 63) = some (.int .i64 (if 0 ≤ d then 0 else -1)) := by
  rw [bop_int]
  simp only [intS]
  rw [if_neg (by decide)]
  have e : ((2 : Int) ^ min (Int.toNat 63) IntKind.i64.bits) = 9223372036854775808 := by decide
  rw [e, Int.fdiv_eq_ediv_of_nonneg _ (by decide)]
  congr 2
  split <;> omega
theorem ofInt_nat (a : Nat) (h : a < 2 ^ 64) : (BitVec.ofInt 64 (a : Int)).toNat = a := by rw [BitVec.ofInt_natCast, BitVec.toNat_ofNat, Nat.mod_eq_of_lt h]
theorem xor_0 (a : Nat) (h : a < 2 ^ 64) : bopD Try.prog .xor 70 (.int .u64 (a : Int)) (.int .u64 0) = some (.int .u64 (a : Int)) := by
  rw [bop_int]
  exact congrArg (fun z => some (Value.int IntKind.u64 z)) (show IntKind.u64.wrap (((BitVec.ofInt 64 (a : Int) ^^^ BitVec.ofInt 64 0).toNat : Nat) : Int) = _ by
    have e : BitVec.ofInt 64 (a : Int) ^^^ BitVec.ofInt 64 0 = BitVec.ofInt 64 (a : Int) := by rw [show BitVec.ofInt 64 0 = 0#64 from rfl, BitVec.xor_zero]
    rw [e, ofInt_nat a h, wrap_u64 (by omega) (by omega)])
theorem xor_1 (a : Nat) (h : a < 2 ^ 64) : bopD Try.prog .xor 70 (.int .u64 (a : Int)) (.int .u64 18446744073709551615) = some (.int .u64 ((18446744073709551615 - a : Nat) : Int)) := by
  rw [bop_int]
  exact congrArg (fun z => some (Value.int IntKind.u64 z)) (show IntKind.u64.wrap (((BitVec.ofInt 64 (a : Int) ^^^ BitVec.ofInt 64 18446744073709551615).toNat : Nat) : Int) = _ by
    have e : BitVec.ofInt 64 (a : Int) ^^^ BitVec.ofInt 64 18446744073709551615 = ~~~ BitVec.ofInt 64 (a : Int) := by rw [show BitVec.ofInt 64 18446744073709551615 = BitVec.allOnes 64 from rfl, BitVec.xor_allOnes]
    rw [e, BitVec.toNat_not, ofInt_nat a h, wrap_u64 (by omega) (by omega)])
theorem c179 {n : Nat} {s : SH} (d : Int) (h0 : -70368744177664 ≤ d) (h1 : d ≤ 70368744177664) : callD Try.prog AB (n + 1) (.fn 179) [.int .i64 d] s = some [(.int .u64 ((zg d : Nat) : Int), s)] := by
  rw [call_fn (fn := Try.f179) rfl rfl (by kernel_rfl)]
  show bodyD Try.prog false _ _ 179 Try.f179 _ s = _
  rw [f179_r]
  by_cases hd : 0 ≤ d
  · have e1 : IntKind.u64.wrap d = d := wrap_u64 (by omega) (by omega)
    have e2 : IntKind.u64.wrap (d * 2) = ((2 * d.toNat : Nat) : Int) := by rw [wrap_u64 (by omega) (by omega)]; omega
    have e3 : IntKind.u64.wrap 0 = 0 := wrap_u64 (by omega) (by omega)
    simp only [f179, o_bool, o_alloc, o_box, o_build, o_buildSlice, o_load, o_store, o_nilCheck, o_bop, o_uop, o_conv, o_slc, o_fieldAddr, o_field, o_indexAddr, o_index, o_extract, o_lookup, o_mapUpdate, o_makeMap, o_mapEntry, o_entryStore, o_delete, o_len, o_append, o_min, o_max, o_tgt, bindS, many1, jnE, boolS, gdB, fst', snd', conv_int u3 u70, e1, shl1, e2, shr63 d h0 h1, hd, if_true, e3, xor_0 _ (show 2 * d.toNat < 2 ^ 64 by omega)]
    unfold zg; rw [if_pos hd]
  · have e1 : IntKind.u64.wrap d = d + 18446744073709551616 := by rw [wrap_us rfl]; show d % 18446744073709551616 = _; omega
    have e2 : IntKind.u64.wrap ((d + 18446744073709551616) * 2) = ((18446744073709551616 - 2 * (-d).toNat : Nat) : Int) := by rw [wrap_us rfl]; show (d + 18446744073709551616) * 2 % 18446744073709551616 = _; omega
    have e3 : IntKind.u64.wrap (-1) = 18446744073709551615 := by decide
    simp only [f179, o_bool, o_alloc, o_box, o_build, o_buildSlice, o_load, o_store, o_nilCheck, o_bop, o_uop, o_conv, o_slc, o_fieldAddr, o_field, o_indexAddr, o_index, o_extract, o_lookup, o_mapUpdate, o_makeMap, o_mapEntry, o_entryStore, o_delete, o_len, o_append, o_min, o_max, o_tgt, bindS, many1, jnE, boolS, gdB, fst', snd', conv_int u3 u70, e1, shl1, e2, shr63 d h0 h1, hd, if_false, e3, xor_1 _ (show 18446744073709551616 - 2 * (-d).toNat < 2 ^ 64 by omega)]
    unfold zg; rw [if_neg hd]
    have : 18446744073709551615 - (18446744073709551616 - 2 * (-d).toNat) = 2 * (-d).toNat - 1 := by omega
    rw [this]
theorem c178 {n m : Nat} {s : SH} (bs : List UInt8) (d : Int) (hd0 : -70368744177664 ≤ d) (hd1 : d ≤ 70368744177664) (hb : bs.length + 20 ≤ 140737488355328) :
    ∃ v s', callD Try.prog AB (n + 2) (.fn 178) [sl by' m bs, .int .i64 d, .func (.func 179) #[] #[]] s = some [(v, s')] ∧ Grow s.n 1 by' s' v (bs ++ vput (zg d)) ∧ Sm s.n s s' := by
  rw [call_fn (fn := Try.f178) rfl rfl (by kernel_rfl)]
  suffices h : One (bodyD Try.prog false (callD Try.prog AB (n + 1)) AB.N 178 Try.f178 [sl by' m bs, .int .i64 d, .func (.func 179) #[] #[]] s) fun v s' => Grow s.n 1 by' s' v (bs ++ vput (zg d)) ∧ Sm s.n s s' by
    obtain ⟨v, s', e, h1, h2⟩ := h
    exact ⟨v, s', e, h1, h2⟩
  rw [f178_r]
  have hw : IntKind.i64.wrap ((bs.length : Int) + 10) = (bs.length : Int) + 10 := wrap_i64 (by omega) (by omega)
  have g0 : Grow s.n 1 by' (newD s (.tok 0 1)) (sl by' (s.n + 3) []) [] := .inr ⟨s.n, Nat.le_refl _, by rw [newD_n]; omega, rfl, get_new rfl⟩
  obtain ⟨v1, s1, e1, w1, w2, w3⟩ := gapp35 (m2 := m) (ys := bs) g0 (by rw [newD_n]; omega) (by simp only [List.length_nil]; omega)
  have hs1 : Sm s.n s s1 := ((Sm.refl s.n s).new (Nat.le_refl _) _).trans w2
  rw [List.nil_append] at w1
  have e179 := fun s => c179 (n := n) (s := s) d hd0 hd1
  have hx : zg d < 2 ^ 64 := by unfold zg; split <;> omega
  simp only [f178, o_bool, o_alloc, o_box, o_build, o_buildSlice, o_load, o_store, o_nilCheck, o_bop, o_uop, o_conv, o_slc, o_fieldAddr, o_field, o_indexAddr, o_index, o_extract, o_lookup, o_mapUpdate, o_makeMap, o_mapEntry, o_entryStore, o_delete, o_len, o_append, o_min, o_max, o_tgt, bindS, many1, jnE, boolS, gdB, fst', snd', len_sl u35, bop_add, hw, o_makeSlice, mk35 s _ (show 0 ≤ (bs.length : Int) + 10 by omega) (by omega), e1, tgt0, e179]
  generalize zg d = x at hx
  refine loop_rule (fun d (y : Value × Value) (s' : SH) => ∃ pre, y.2 = .int .u64 (d : Int) ∧ d ≤ x ∧ pre ++ vput d = vput x ∧ Grow s.n 1 by' s' y.1 (bs ++ pre) ∧ Sm s.n s s') (fun r => One r fun v s' => Grow s.n 1 by' s' v (bs ++ vput x) ∧ Sm s.n s s') ?_ _ x (v1, .int .u64 (x : Int)) s1 ⟨[], rfl, Nat.le_refl _, rfl, by rw [List.append_nil]; exact w1, hs1⟩ (by show x < 2 ^ 64; exact hx)
  rintro d ⟨y1, y2⟩ s' ⟨pre, h1, h2, h3, h4, h5⟩ nx hnx
  simp only at h1 h4
  subst h1
  have hpl : pre.length ≤ 10 := by
    have := vput_len10 hx
    have := congrArg List.length h3
    rw [List.length_append] at this; omega
  by_cases hd : d ≤ 127
  · have hng : ¬ ((d : Int) > 127) := by omega
    obtain ⟨v2, s2, e2, z1, z2, z3⟩ := gapp35 (m2 := 1) (ys := [UInt8.ofNat d]) h4 h5.1 (by rw [List.length_append]; simp only [List.length_singleton]; omega)
    simp only [f178_l0, o_bool, o_alloc, o_box, o_build, o_buildSlice, o_load, o_store, o_nilCheck, o_bop, o_uop, o_conv, o_slc, o_fieldAddr, o_field, o_indexAddr, o_index, o_extract, o_lookup, o_mapUpdate, o_makeMap, o_mapEntry, o_entryStore, o_delete, o_len, o_append, o_min, o_max, o_tgt, bindS, many1, jnE, boolS, gdB, fst', snd', bop_gtr, hng, decide_false, condF, beq_yes, condT, conv_int u70 u5, wrap_u8, bs35, e2]
    refine One.ret ⟨?_, h5.trans z2⟩
    rw [← h3, vput_lo hd, ← List.append_assoc]; exact z1
  · have hg : (d : Int) > 127 := by omega
    obtain ⟨v2, s2, e2, z1, z2, z3⟩ := gapp35 (m2 := 1) (ys := [UInt8.ofNat (d % 128 + 128)]) h4 h5.1 (by rw [List.length_append]; simp only [List.length_singleton]; omega)
    simp only [f178_l0, o_bool, o_alloc, o_box, o_build, o_buildSlice, o_load, o_store, o_nilCheck, o_bop, o_uop, o_conv, o_slc, o_fieldAddr, o_field, o_indexAddr, o_index, o_extract, o_lookup, o_mapUpdate, o_makeMap, o_mapEntry, o_entryStore, o_delete, o_len, o_append, o_min, o_max, o_tgt, bindS, many1, jnE, boolS, gdB, fst', snd', bop_gtr, hg, decide_true, condT, conv_int u70 u5, wrap_u8, or128, bs35, e2, shr7]
    refine hnx (d / 128) (_, _) _ (by omega) ⟨pre ++ [UInt8.ofNat (d % 128 + 128)], rfl, by omega, ?_, ?_, h5.trans z2⟩
    · rw [← h3, vput_hi hd, List.append_assoc]; rfl
    · rw [← List.append_assoc]; exact z1
theorem c146 {n m : Nat} {s : SH} (bs : List UInt8) (d : Int) (hd0 : -70368744177664 ≤ d) (hd1 : d ≤ 70368744177664) (hb : bs.length + 20 ≤ 140737488355328) :
    ∃ v s', callD Try.prog AB (n + 3) (.fn 146) [sl by' m bs, .int .i64 d] s = some [(v, s')] ∧ Grow s.n 1 by' s' v (bs ++ vput (zg d)) ∧ Sm s.n s s' := by
  obtain ⟨v, s', e, h1, h2⟩ := c178 (n := n) (m := m) (s := s) bs d hd0 hd1 hb
  refine ⟨v, s', ?_, h1, h2⟩
  rw [call_fn (fn := Try.f146) rfl rfl (by kernel_rfl)]
  show bodyD Try.prog false _ _ 146 Try.f146 _ s = _
  rw [f146_r]
  simp only [f146, e, bindS, many1]
/-- Points. -/
def ptGo : Int → List Pt → List UInt8
  | _, [] => []
  | last, p :: l => vput p.1.toNat ++ (vput (zg (p.2.1 - last)) ++ (le8 8 p.2.2.toNat ++ ptGo p.2.1 l))
theorem pt_cons (last : Int) (p : Pt) (l : List Pt) : ptGo last (p :: l) = vput p.1.toNat ++ (vput (zg (p.2.1 - last)) ++ (le8 8 p.2.2.toNat ++ ptGo p.2.1 l)) := rfl
def ptB (l : List Pt) : List UInt8 := vput l.length ++ ptGo 0 l
theorem le8_take : ∀ (n k v : Nat), k ≤ n → (le8 n v).take k = le8 k v
  | _, 0, v, _ => rfl
  | n + 1, k + 1, v, h => by
    rw [le8, le8, List.take_succ_cons, le8_take n k (v / 256) (by omega)]
theorem shrV (V k : Nat) (hk : k ≤ 56) : bopD Try.prog .shr 70 (.int .u64 (V : Int)) (.int .i64 (k : Int)) = some (.int .u64 ((V / 2 ^ k : Nat) : Int)) := by
  rw [bop_int]
  simp only [intS]
  rw [if_neg (by omega), Int.toNat_natCast, Nat.min_eq_left (by show k ≤ 64; omega)]
  have e : ((2 : Int) ^ k) = ((2 ^ k : Nat) : Int) := by simp
  rw [e, ← Int.ofNat_fdiv]
theorem tmOk_iff (t : Int) : tmOk t = true ↔ 0 ≤ t ∧ t ≤ 35184372088832 := by
  unfold tmOk; simp only [Bool.and_eq_true, Bool.not_eq_true', decide_eq_false_iff_not]; omega
end Go.Proofs.Ytmhmbmogodofeaa.S
