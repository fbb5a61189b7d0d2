import Derived.Test.YtmhmbmogodofeaaCVc
import Derived.Test.YtmhmbmogodofeaaTId
import Derived.Test.YtmhmbmogodofeaaP15
set_option autoImplicit false
set_option linter.unusedVariables false
set_option linter.unusedSimpArgs false
set_option maxRecDepth 100000
namespace Go.Proofs.Ytmhmbmogodofeaa.S
open Go.FS Go.RowKit
attribute [local congr] bind_cg cond_cg gd_cg
/-! Rows of labels. -/
def rowL (l : List Lab) : List Value := (l.map lab).flatten
theorem rowL_cons (a : Lab) (l : List Lab) : rowL (a :: l) = .string a.1 :: .string a.2 :: rowL l := rfl
theorem rowL_app (l m : List Lab) : rowL (l ++ m) = rowL l ++ rowL m := by unfold rowL; rw [List.map_append, List.flatten_append]
theorem rowL_len : ∀ (l : List Lab), (rowL l).length = l.length * 2
  | [] => rfl
  | a :: l => by rw [rowL_cons, List.length_cons, List.length_cons, rowL_len l, List.length_cons]; omega
theorem rowL_drop : ∀ (l : List Lab) (i : Nat), (rowL l).drop (i * 2) = rowL (l.drop i)
  | [], i => by simp [rowL]
  | a :: l, 0 => by simp
  | a :: l, i + 1 => by
    rw [rowL_cons, show (i + 1) * 2 = i * 2 + 1 + 1 from by omega, List.drop_succ_cons, List.drop_succ_cons, List.drop_succ_cons, rowL_drop l i]
theorem rowL_take : ∀ (l : List Lab) (i : Nat), (rowL l).take (i * 2) = rowL (l.take i)
  | [], i => by simp [rowL]
  | a :: l, 0 => by simp [rowL]
  | a :: l, i + 1 => by
    rw [rowL_cons, show (i + 1) * 2 = i * 2 + 1 + 1 from by omega, List.take_succ_cons, List.take_succ_cons, List.take_succ_cons, rowL_cons, rowL_take l i]
theorem rowL_one : ∀ (l : List Lab), (rowL l).all oneC = true
  | [] => rfl
  | a :: l => by
    rw [rowL_cons]
    show (true && (true && (rowL l).all oneC)) = true
    rw [rowL_one l]; rfl
theorem rowL_set (l : List Lab) {i : Nat} (h : i < l.length) (a : Lab) : splice (rowL l) (i * 2) (lab a) = rowL (l.set i a) := by
  unfold splice
  have e : l.set i a = l.take i ++ ([a] ++ l.drop (i + 1)) := by
    rw [List.set_eq_take_append_cons_drop, if_pos h]; rfl
  rw [e, rowL_app, rowL_app, rowL_take, show i * 2 + (lab a).length = (i + 1) * 2 from by rw [lab_len]; omega, rowL_drop]
  rfl
abbrev rl (id n c : Nat) : Value := .slice (some ⟨id, 0, none⟩) n c
theorem u22 : Try.prog.underlying 22 = some (Go.TypeDesc.slice 106) := by kernel_rfl
theorem a22 : aggD Try.prog 22 = some false := by kernel_rfl
theorem ixr {t id n c i : Nat} {k : IntKind} (ht : Try.prog.underlying t = some (.slice 106)) (hi : i < n) : indexAddrD Try.prog t (rl id n c) (.int k (i : Int)) = some (.pointer (some ⟨id, i * 2, none⟩)) := by
  have h0 : decide ((0 : Int) ≤ (i : Int)) = true := decide_eq_true (by omega)
  have h1 : decide ((i : Int) < (n : Int)) = true := decide_eq_true (by omega)
  simp only [indexAddrD, ht, z106, bindS, h0, h1, Bool.and_self, condT]
  rw [Int.toNat_natCast, Nat.zero_add]
theorem ix22 {id n c i : Nat} {k : IntKind} (hi : i < n) : indexAddrD Try.prog 22 (rl id n c) (.int k (i : Int)) = some (.pointer (some ⟨id, i * 2, none⟩)) := ixr u22 hi
theorem ix23 {id n c i : Nat} {k : IntKind} (hi : i < n) : indexAddrD Try.prog 23 (rl id n c) (.int k (i : Int)) = some (.pointer (some ⟨id, i * 2, none⟩)) := ixr u23 hi
theorem lenr {id n c : Nat} (s : SH) : lenOfD Try.prog s 23 (rl id n c) = some (.int .i64 n) := by simp only [lenOfD, u23]
theorem take_one {l : List Lab} {i : Nat} (hi : i < l.length) : ((rowL l).drop (i * 2)).take 2 = lab l[i] := by
  rw [rowL_drop, List.drop_eq_getElem_cons hi]; rfl
theorem ldr {s : SH} {id i : Nat} {l : List Lab} (h : HP.get s.h id = some (.row (rowL l))) (hi : i < l.length) : loadD Try.prog s 106 (.pointer (some ⟨id, i * 2, none⟩)) = some (.agg (lab l[i]).toArray) := by
  rw [load_row h, part_agg a106 z106 (take_one hi) rfl]
theorem ldr0 {s : SH} {id i : Nat} {l : List Lab} (h : HP.get s.h id = some (.row (rowL l))) (hi : i < l.length) : loadD Try.prog s 9 (.pointer (some ⟨id, i * 2, none⟩)) = some (.string l[i].1) := by
  rw [load_row h, part_one a9]
  have := congrArg (fun z : List Value => z[0]?) (take_one hi)
  simp only [List.getElem?_take_of_lt (show 0 < 2 by decide), List.getElem?_drop, Nat.add_zero] at this
  rw [this]; rfl
theorem str_ {s : SH} {id i : Nat} {l : List Lab} (a : Lab) (h : HP.get s.h id = some (.row (rowL l))) (hi : i < l.length) : storeD Try.prog s 106 (.pointer (some ⟨id, i * 2, none⟩)) (.agg (lab a).toArray) = some (putD s id (.row (rowL (l.set i a)))) := by
  rw [store_row (l := lab a) z106 h rfl rfl rfl (by rw [rowL_len]; omega), rowL_set l hi]
theorem fldr0 (id i : Nat) : fieldAddrD Try.prog 106 (.pointer (some ⟨id, i, none⟩)) 0 = some (.pointer (some ⟨id, i, none⟩)) := by
  have := field_own (P := Try.prog) (t := 106) (f := 0) (id := id) (o := i) (n := 1) (fd := { name := "Name", type := 9, offset := 0, embedded := false, tag := "", pkgPath := "", byteOffset := 0 }) u106 rfl z9 (by decide)
  exact this
def LR (id : Nat) (s : SH) (R : List Lab) : Prop := HP.get s.h id = some (.row (rowL R))
/-! A row of labels in hand. -/
def RE (lo : Nat) (s : SH) (v : Value) (l : List Lab) : Prop := ∃ id c, v = rl id l.length c ∧ lo ≤ id ∧ id < s.n ∧ c / 2 = 2 ∧ LR id s l
theorem RE.same {lo : Nat} {s s' : SH} {v : Value} {l : List Lab} (h : RE lo s v l) (k : Sm s.n s s') : RE lo s' v l := by
  obtain ⟨id, c, h1, h2, h3, h4, h5⟩ := h
  exact ⟨id, c, h1, h2, Nat.lt_of_lt_of_le h3 k.1, h4, by unfold LR; rw [k.2 id h3]; exact h5⟩
theorem take_rl {s : SH} {id q : Nat} {R : List Lab} (h : LR id s R) (hq : q ≤ R.length) : (rowD s id).bind (fun r => takeD r 0 (q * 2)) = some (rowL (R.take q)) := by
  rw [row_of h, bindS]
  unfold takeD
  rw [List.drop_zero, rowL_take, rowL_len, List.length_take, Nat.min_eq_left hq, beq_yes, condT]
theorem cells_rl {lo : Nat} {s : SH} {v : Value} {l : List Lab} (h : RE lo s v l) : cellsD s 2 l.length v = some (rowL l) := by
  obtain ⟨id, c, rfl, _, _, h4, h5⟩ := h
  show (bif Nat.ble l.length l.length && Nat.beq (c / 2) 2 then (bif Nat.beq l.length 0 then some [] else (rowD s id).bind fun r => takeD r 0 (l.length * 2)) else none) = _
  rw [Nat.ble_eq_true_of_le (Nat.le_refl _), h4, beq_yes, Bool.and_self, condT, take_rl h5 (Nat.le_refl _), List.take_length]
  cases l with
  | nil => rfl
  | cons x l => rfl
theorem aggL_fz2 (xs : List Lab) : aggL ((xs.map lab).map fun e => Value.agg e.toArray) = some (rowL xs) := by
  induction xs with
  | nil => rfl
  | cons x xs ih =>
    show (aggL ((xs.map lab).map fun e => Value.agg e.toArray)).map ((lab x).toArray.toList ++ ·) = _
    rw [ih]; rfl
theorem cells_sl2 (s : SH) (m : Nat) (l : List Lab) : cellsD s 2 l.length (sl lab m l) = some (rowL l) := by
  have hf : fzOk 2 ((l.map lab).map fun e => Value.agg e.toArray).toArray = true := fzOk_fz fun e he => by obtain ⟨x, _, rfl⟩ := List.mem_map.1 he; rfl
  unfold sl
  simp only [fz_list, cellsD, fz_size, List.length_map, hf, Nat.ble_eq_true_of_le (Nat.le_refl _), Bool.and_self, condT]
  rw [List.take_of_length_le (by simp), aggL_fz2]
theorem len_Dl {lo : Nat} {s : SH} {v : Value} {l : List Lab} (h : RE lo s v l) : lenD v = some l.length := by
  obtain ⟨id, c, rfl, _⟩ := h
  rfl
theorem app_rl {lo : Nat} {md : Bool} {s : SH} {v w : Value} {xs ys : List Lab} (h : RE lo s v xs) (hlo : lo ≤ s.n) (hw : lenD w = some ys.length) (hc : cellsD s 2 ys.length w = some (rowL ys)) (hb : (xs.length + ys.length) * 32 ≤ 140737488355328) :
    ∃ v' s', appD Try.prog md s 23 23 v w = some (v', s') ∧ RE lo s' v' (xs ++ ys) ∧ Sm lo s s' := by
  obtain ⟨id, c, rfl, h2, h3, h4, h5⟩ := h
  have hni : isInt Try.prog 23 = false := by unfold isInt; rw [u23]
  have hi : Try.prog.info? 106 = some Try.t106 := by kernel_rfl
  have hz : (Try.t106.size : Nat) = 2 := by kernel_rfl
  have hbt : (Try.t106.bytes : Nat) = 32 := by kernel_rfl
  have hcond : (decide ((xs.length + ys.length) * Try.t106.bytes ≤ 140737488355328) && decide (xs.length + ys.length ≤ 140737488355328) && Nat.beq [Value.string ⟨#[]⟩, Value.string ⟨#[]⟩].length Try.t106.size && Nat.blt 0 Try.t106.size) = true := by
    rw [hbt, hz, decide_eq_true hb, decide_eq_true (by omega)]; rfl
  have hx : lenD (rl id xs.length c) = some xs.length := rfl
  unfold appD
  rw [hni, condF]
  unfold appendD
  simp only [u23, bindS, hi, hw, zr106, hx, hcond, condT]
  by_cases h0 : ys.length = 0
  · have : ys = [] := List.length_eq_zero_iff.1 h0
    subst this
    refine ⟨rl id xs.length c, s, by rw [show Nat.beq ([] : List Lab).length 0 = true from rfl, condT], ?_, .refl _ _⟩
    rw [List.append_nil]
    exact ⟨id, c, rfl, h2, h3, h4, h5⟩
  · rw [beq_no h0, condF, hz, hc, bindS, rowL_one, Bool.not_true, condF]
    have ht := take_rl h5 (Nat.le_refl _)
    rw [List.take_length] at ht
    have hlen : ∀ s0 : SH, s0.n = s.n → (∀ j, j < lo → HP.get s0.h j = HP.get s.h j) → (some (Value.slice (some ⟨s0.n, 0, none⟩) (xs.length + ys.length) (2 * 2), newD s0 (.row (rowL xs ++ rowL ys))) : Option (Value × SH)) = some (rl s0.n (xs ++ ys).length 4, newD s0 (.row (rowL (xs ++ ys)))) ∧ RE lo (newD s0 (.row (rowL (xs ++ ys)))) (rl s0.n (xs ++ ys).length 4) (xs ++ ys) ∧ Sm lo s (newD s0 (.row (rowL (xs ++ ys)))) := fun s0 hn hg => by
      refine ⟨by rw [List.length_append, rowL_app], ⟨s0.n, 4, rfl, by omega, by rw [newD_n]; omega, rfl, get_new rfl⟩, ⟨by rw [newD_n]; omega, fun j hj => by rw [get_old (by omega), hg j hj]⟩⟩
    by_cases hcc : c % 2 = 1
    · rw [hcc, beq_yes, condT]
      have := cells_rl (⟨id, c, rfl, h2, h3, h4, h5⟩ : RE lo s _ xs)
      rw [this]
      obtain ⟨q1, q2, q3⟩ := hlen s rfl fun _ _ => rfl
      exact ⟨_, _, q1, q2, q3⟩
    · rw [beq_no hcc, condF, h4, beq_yes]
      simp only [condT]
      rw [row_of h5, bindS] at ht ⊢
      rw [ht]
      obtain ⟨q1, q2, q3⟩ := hlen (delD s id) rfl fun j hj => get_del (by omega)
      exact ⟨_, _, q1, q2, q3⟩
theorem bs23_0 (s : SH) : buildSliceD Try.prog true s 23 0 [] = some (rl s.n 0 5, newD s (.row [])) := by kernel_rfl
theorem bs23_1 (s : SH) (x : Lab) : buildSliceD Try.prog true s 23 1 [(0, .agg (lab x).toArray)] = some (rl s.n 1 5, newD s (.row (rowL [x]))) := by kernel_rfl
theorem RE_new {s : SH} : RE s.n (newD s (.row [])) (rl s.n 0 5) [] := ⟨s.n, 5, rfl, Nat.le_refl _, by rw [newD_n]; omega, rfl, get_new rfl⟩
theorem RE_one {s : SH} (x : Lab) : RE s.n (newD s (.row (rowL [x]))) (rl s.n 1 5) [x] := ⟨s.n, 5, rfl, Nat.le_refl _, by rw [newD_n]; omega, rfl, get_new rfl⟩
/-- Labels in hand: a row, or some that are borne. -/
def LbIn (s : SH) (v : Value) (l : List Lab) : Prop := (∃ lo, RE lo s v l) ∨ ∃ m, v = sl lab m l ∧ l ≠ []
theorem LbIn.same {s s' : SH} {v : Value} {l : List Lab} (h : LbIn s v l) (k : Sm s.n s s') : LbIn s' v l := by
  rcases h with ⟨lo, h⟩ | h
  · exact .inl ⟨lo, h.same k⟩
  · exact .inr h
theorem LbIn.cells {s : SH} {v : Value} {l : List Lab} (h : LbIn s v l) : cellsD s 2 l.length v = some (rowL l) := by
  rcases h with ⟨lo, h⟩ | ⟨m, rfl, _⟩
  · exact cells_rl h
  · exact cells_sl2 _ _ _
theorem LbIn.len {s : SH} {v : Value} {l : List Lab} (h : LbIn s v l) : lenD v = some l.length := by
  rcases h with ⟨lo, h⟩ | ⟨m, rfl, _⟩
  · exact len_Dl h
  · simp only [sl, fz_list, lenD, isFz_fz, condT, fz_size, List.length_map]
theorem LbIn.nil {s : SH} {v : Value} {l : List Lab} (h : LbIn s v l) : bopD Try.prog .eql 23 v (fzV 2 #[]) = some (.bool false) := by
  rcases h with ⟨lo, id, c, rfl, _⟩ | ⟨m, rfl, hne⟩
  · show ((binD Try.prog .eql 23 (rl id l.length c) (fzV 2 #[])).or (nilD Try.prog .eql 23 (rl id l.length c) (fzV 2 #[]))) = _
    have e1 : binD Try.prog .eql 23 (rl id l.length c) (fzV 2 #[]) = none := rfl
    have e2 : nilD Try.prog .eql 23 (rl id l.length c) (fzV 2 #[]) = some (.bool false) := by
      simp only [nilD, u23, nilEq]
      rfl
    rw [e1, e2]; rfl
  · show ((binD Try.prog .eql 23 (sl lab m l) (fzV 2 #[])).or (nilD Try.prog .eql 23 (sl lab m l) (fzV 2 #[]))) = _
    have e1 : binD Try.prog .eql 23 (sl lab m l) (fzV 2 #[]) = none := rfl
    have e2 : nilD Try.prog .eql 23 (sl lab m l) (fzV 2 #[]) = some (.bool false) := by
      have hs : Nat.blt 0 ((l.map lab).map fun e => Value.agg e.toArray).toArray.size = true := by
        rw [blt_dec, decide_eq_true]
        simp only [List.size_toArray, List.length_map]
        exact List.length_pos_iff.2 hne
      simp only [nilD, u23]
      show (bif (Nat.blt 0 ((l.map lab).map fun e => Value.agg e.toArray).toArray.size && isFz ((l.map lab).map fun e => Value.agg e.toArray).toArray && Nat.beq #[].size 0) then some (Value.bool false) else _) = _
      rw [hs, isFz_fz]; rfl
    rw [e1, e2]; rfl
theorem c64 {n : Nat} {s : SH} {v : Value} {l : List Lab} (h : LbIn s v l) (hl : l.length ≤ 1000000) : ∃ w s', callD Try.prog AB (n + 1) (.fn 64) [v] s = some [(w, s')] ∧ RE s.n s' w l ∧ Sm s.n s s' := by
  rw [call_fn (fn := Try.f64) rfl rfl (by kernel_rfl)]
  show ∃ w s', bodyD Try.prog true _ _ 64 Try.f64 _ s = _ ∧ _
  rw [f64_r]
  have hS1 : Sm s.n s (newD s (.row [])) := (Sm.refl _ _).new (Nat.le_refl _) _
  have h1 := h.same hS1
  obtain ⟨v', s3, e1, w1, w2⟩ := app_rl (md := true) RE_new hS1.1 h1.len h1.cells (by simp only [List.length_nil]; omega)
  simp only [f64, o_bool, o_alloc, o_box, o_build, o_buildSlice, o_load, o_store, o_nilCheck, o_bop, o_uop, o_conv, o_slc, o_fieldAddr, o_field, o_indexAddr, o_index, o_extract, o_lookup, o_mapUpdate, o_makeSlice, o_clear, o_makeMap, o_mapEntry, o_entryStore, o_delete, o_len, o_append, o_min, o_max, o_tgt, bindS, many1, jnE, boolS, gdB, fst', snd', h.nil, condF, bs23_0, e1]
  exact ⟨v', s3, rfl, by rw [List.nil_append] at w1; exact w1, hS1.trans w2⟩
theorem c22r {n id q c : Nat} {s : SH} {R : List Lab} (hid : id < s.n) (hR : LR id s R) (hq : q ≤ R.length) (l : List Lab) (hlR : l = R.take q) (hl : SmallL l) : callD Try.prog AB (n + 3) (.fn 22) [rl id q c] s = some [(.int .i64 (if okL l then 0 else 40), s)] := by
  have hql : q = l.length := by rw [hlR, List.length_take]; omega
  have hgi : ∀ i (h : i < l.length), R[i]'(by omega) = l[i] := fun i h => by simp only [hlR, List.getElem_take]
  subst hql
  refine cut_call (fn := Try.f22) rfl rfl (by kernel_rfl) (v := .int .i64 (if okL l then 0 else 40)) (fun _ h => by cases h) (.int _ _) ?_
  show One (bodyD Try.prog false _ _ 22 Try.f22 _ s) _
  rw [f22_r]
  simp only [f22, o_bool, o_alloc, o_box, o_build, o_buildSlice, o_load, o_store, o_nilCheck, o_bop, o_uop, o_conv, o_slc, o_fieldAddr, o_field, o_indexAddr, o_index, o_extract, o_lookup, o_mapUpdate, o_makeSlice, o_clear, o_makeMap, o_mapEntry, o_entryStore, o_delete, o_len, o_append, o_min, o_max, o_tgt, bindS, many1, jnE, boolS, gdB, fst', snd', lenr, bop_eql, bop_gtr]
  by_cases h0 : l.length = 0
  · have h0' : (l.length : Int) = 0 := by omega
    simp only [h0', decide_true, condT]
    exact One.ret ⟨by unfold okL; rw [decide_eq_true h0]; rfl, .refl s⟩
  · have h0' : ¬ ((l.length : Int) = 0) := by omega
    by_cases h16 : 16 < l.length
    · have h16' : (l.length : Int) > 16 := by omega
      simp only [h0', h16', decide_true, decide_false, condT, condF, o_bool, o_alloc, o_box, o_build, o_buildSlice, o_load, o_store, o_nilCheck, o_bop, o_uop, o_conv, o_slc, o_fieldAddr, o_field, o_indexAddr, o_index, o_extract, o_lookup, o_mapUpdate, o_makeSlice, o_clear, o_makeMap, o_mapEntry, o_entryStore, o_delete, o_len, o_append, o_min, o_max, o_tgt, bindS, many1, jnE, boolS, gdB, fst', snd', lenr, bop_gtr]
      exact One.ret ⟨by unfold okL; rw [decide_eq_false h0, decide_eq_true h16]; rfl, .refl s⟩
    · have h16' : ¬ ((l.length : Int) > 16) := by omega
      simp only [h0', h16', decide_false, condF, o_bool, o_alloc, o_box, o_build, o_buildSlice, o_load, o_store, o_nilCheck, o_bop, o_uop, o_conv, o_slc, o_fieldAddr, o_field, o_indexAddr, o_index, o_extract, o_lookup, o_mapUpdate, o_makeSlice, o_clear, o_makeMap, o_mapEntry, o_entryStore, o_delete, o_len, o_append, o_min, o_max, o_tgt, bindS, many1, jnE, boolS, gdB, fst', snd', lenr, bop_gtr]
      have hok : okL l = chk ⟨#[]⟩ l := by unfold okL; rw [decide_eq_false h0, decide_eq_false h16]; rfl
      rw [hok]
      refine list_one l (fun i (x : Value × Value × Value) (s' : SH) => Sm s.n s s' ∧ x.1 = .int .i64 0 ∧ x.2.2 = .int .i64 i ∧ ∃ last, x.2.1 = .string last ∧ chk ⟨#[]⟩ l = chk last (l.drop i)) ?_ ?_ ⟨.refl _ _, rfl, rfl, _, rfl, rfl⟩ (by show l.length < 2 ^ 64; have := hl.1; omega)
      · rintro i hi ⟨x1, x2, x3⟩ s' ⟨hsm, h1, h2, last, h3, h4⟩ nx hnx
        simp only at h1 h2 h3
        subst h1 h2 h3
        have hlt : (i : Int) < l.length := by omega
        have hw : IntKind.i64.wrap ((i : Int) + 1) = ((i + 1 : Nat) : Int) := by rw [wrap_i64 (by omega) (by omega)]; rfl
        have hsz := hl.2 _ (List.getElem_mem hi)
        rw [List.drop_eq_getElem_cons hi] at h4
        have hldr : loadD Try.prog s' 106 (.pointer (some ⟨id, i * 2, none⟩)) = some (.agg (lab l[i]).toArray) := by rw [← hgi i hi]; exact ldr (by unfold LR at hR; rw [hsm.2 _ hid]; exact hR) (by omega)
        have ha : HP.get (putD (newD s' (.row (lab lz))) s'.n (.row (lab l[i]))).h s'.n = some (.row (lab l[i])) := get_put_same _
        have hsm2 : Sm s.n s (putD (newD s' (.row (lab lz))) s'.n (.row (lab l[i]))) := (hsm.new (by have := hsm.1; omega) _).put (by have := hsm.1; omega) _
        have hst : storeD Try.prog (newD s' (.row (lab lz))) 106 (.pointer (some ⟨s'.n, 0, none⟩)) (.agg (lab l[i]).toArray) = some (putD (newD s' (.row (lab lz))) s'.n (.row (lab l[i]))) := st106 (get_new rfl)
        simp only [f22_l0, o_bool, o_alloc, o_box, o_build, o_buildSlice, o_load, o_store, o_nilCheck, o_bop, o_uop, o_conv, o_slc, o_fieldAddr, o_field, o_indexAddr, o_index, o_extract, o_lookup, o_mapUpdate, o_makeSlice, o_clear, o_makeMap, o_mapEntry, o_entryStore, o_delete, o_len, o_append, o_min, o_max, o_tgt, bindS, many1, jnE, boolS, gdB, fst', snd', bop_lss, hlt, decide_true, condT, ix23 hi, hldr, al106, hst]
        generalize putD (newD s' (.row (lab lz))) s'.n (.row (lab l[i])) = s2 at ha hsm2
        generalize l[i] = a at ha h4 hsz
        simp only [fld106_0, fld106_1, lds0 ha, lds1 ha, o_bool, o_alloc, o_box, o_build, o_buildSlice, o_load, o_store, o_nilCheck, o_bop, o_uop, o_conv, o_slc, o_fieldAddr, o_field, o_indexAddr, o_index, o_extract, o_lookup, o_mapUpdate, o_makeSlice, o_clear, o_makeMap, o_mapEntry, o_entryStore, o_delete, o_len, o_append, o_min, o_max, o_tgt, bindS, many1, jnE, boolS, gdB, fst', snd', c68 (n := n) a.1 (by omega), uop_not]
        rw [chk_cons] at h4
        cases q1 : namedB a.1 with
        | false =>
          simp only [Bool.not_false, condT]
          exact One.ret ⟨by rw [h4, q1]; rfl, hsm2⟩
        | true =>
          simp only [Bool.not_true, condF, o_bool, o_alloc, o_box, o_build, o_buildSlice, o_load, o_store, o_nilCheck, o_bop, o_uop, o_conv, o_slc, o_fieldAddr, o_field, o_indexAddr, o_index, o_extract, o_lookup, o_mapUpdate, o_makeSlice, o_clear, o_makeMap, o_mapEntry, o_entryStore, o_delete, o_len, o_append, o_min, o_max, o_tgt, bindS, many1, jnE, boolS, gdB, fst', snd', fld106_0, lds0 ha, bop_sle]
          cases q2 : sle a.1 last with
          | true =>
            simp only [condT]
            exact One.ret ⟨by rw [h4, q1, q2]; rfl, hsm2⟩
          | false =>
            simp only [condF, o_bool, o_alloc, o_box, o_build, o_buildSlice, o_load, o_store, o_nilCheck, o_bop, o_uop, o_conv, o_slc, o_fieldAddr, o_field, o_indexAddr, o_index, o_extract, o_lookup, o_mapUpdate, o_makeSlice, o_clear, o_makeMap, o_mapEntry, o_entryStore, o_delete, o_len, o_append, o_min, o_max, o_tgt, bindS, many1, jnE, boolS, gdB, fst', snd', fld106_1, lds1 ha, bop_seq]
            cases q3 : (a.2.toList == ByteArray.toList ⟨#[]⟩) with
            | true =>
              simp only [condT]
              exact One.ret ⟨by rw [h4, q1, q2, q3]; rfl, hsm2⟩
            | false =>
              simp only [condF, o_bool, o_alloc, o_box, o_build, o_buildSlice, o_load, o_store, o_nilCheck, o_bop, o_uop, o_conv, o_slc, o_fieldAddr, o_field, o_indexAddr, o_index, o_extract, o_lookup, o_mapUpdate, o_makeSlice, o_clear, o_makeMap, o_mapEntry, o_entryStore, o_delete, o_len, o_append, o_min, o_max, o_tgt, bindS, many1, jnE, boolS, gdB, fst', snd', fld106_1, lds1 ha, len_str u9, bop_gtr]
              by_cases q4 : 256 < a.2.size
              · have q4' : (a.2.size : Int) > 256 := by omega
                simp only [q4', decide_true, condT]
                exact One.ret ⟨by rw [h4, q1, q2, q3, decide_eq_true q4]; rfl, hsm2⟩
              · have q4' : ¬ ((a.2.size : Int) > 256) := by omega
                simp only [q4', decide_false, condF, o_bool, o_alloc, o_box, o_build, o_buildSlice, o_load, o_store, o_nilCheck, o_bop, o_uop, o_conv, o_slc, o_fieldAddr, o_field, o_indexAddr, o_index, o_extract, o_lookup, o_mapUpdate, o_makeSlice, o_clear, o_makeMap, o_mapEntry, o_entryStore, o_delete, o_len, o_append, o_min, o_max, o_tgt, bindS, many1, jnE, boolS, gdB, fst', snd', fld106_0, lds0 ha, bop_add, hw]
                exact hnx (_, _, _) _ ⟨hsm2, rfl, rfl, a.1, rfl, by rw [h4, q1, q2, q3, decide_eq_false q4]; rfl⟩
      · rintro ⟨x1, x2, x3⟩ s' ⟨hsm, h1, h2, last, h3, h4⟩ nx
        simp only at h1 h2 h3
        subst h1 h2 h3
        have hnlt : ¬ ((l.length : Int) < l.length) := by omega
        rw [List.drop_length] at h4
        simp only [f22_l0, o_bool, o_alloc, o_box, o_build, o_buildSlice, o_load, o_store, o_nilCheck, o_bop, o_uop, o_conv, o_slc, o_fieldAddr, o_field, o_indexAddr, o_index, o_extract, o_lookup, o_mapUpdate, o_makeSlice, o_clear, o_makeMap, o_mapEntry, o_entryStore, o_delete, o_len, o_append, o_min, o_max, o_tgt, bindS, many1, jnE, boolS, gdB, fst', snd', bop_lss, hnlt, decide_false, condF, beq_yes, condT]
        exact One.ret ⟨by rw [h4]; rfl, hsm⟩
theorem slc_rl {k : IntKind} (s : SH) {id n c j : Nat} (hc : c / 2 = 2) (hj : j ≤ n) : ∃ c', c' / 2 = 2 ∧ slcD Try.prog s 23 (rl id n c) none (some (.int k (j : Int))) none = some (rl id j c') := by
  have h0 : decide ((0 : Int) ≤ (j : Int)) = true := by simp
  refine ⟨2 * 2 + (bif (false || Nat.beq (c % 2) 1) && Nat.beq j n then 1 else 0), by cases (false || Nat.beq (c % 2) 1) && Nat.beq j n <;> rfl, ?_⟩
  have e1 : sliceD Try.prog 23 (rl id n c) none (some (.int k (j : Int))) none = some (rl id j (2 * 2 + (bif (false || Nat.beq (c % 2) 1) && Nat.beq j n then 1 else 0))) := by
    unfold sliceD
    simp only [optInt, h0, condT, bindS, Int.toNat_natCast, u23, z106, hc, beq_yes, Option.getD_none, Option.getD_some, Nat.ble_eq_true_of_le hj, Nat.ble_eq_true_of_le (Nat.zero_le _), Nat.ble_eq_true_of_le (Nat.le_refl n), Option.isSome_none, Option.isNone_none, Option.isSome_some, Bool.or_true, Bool.true_or, Bool.and_self, Bool.false_or, Nat.zero_mul, Nat.add_zero, Nat.sub_zero]
  unfold slcD
  rw [e1]; rfl
section cut
variable {G : Nat → Option (Array Value)} {P : Program}
theorem cutL_none {s s' : St (FG G)} : ∀ (l : List Value) (fl : List (Option Nat)) (st : St (FG G)), (∀ x ∈ fl, x = none) → (∀ c ∈ l, Bel s.n (stripN 8 s.n c)) → cutL s s' fl l st = some (l.map (stripN 8 s.n), st)
  | [], fl, st, _, _ => rfl
  | c :: l, fl, st, hf, hb => by
    have e : fl.headD none = none := by cases fl with
      | nil => rfl
      | cons a _ => exact hf a (List.mem_cons_self ..)
    unfold cutL
    rw [e]
    have e2 : cutC s s' st none c = some (stripN 8 s.n c, st) := by
      unfold cutC
      simp only
      rw [if_pos (hb c (List.mem_cons_self ..))]
    rw [e2]
    show ((cutL s s' fl.tail l st).map _) = _
    rw [cutL_none l fl.tail st (fun x hx => hf x (List.mem_of_mem_tail hx)) fun x hx => hb x (List.mem_cons_of_mem _ hx)]
    rfl
theorem cut_tup {s s' s2 : St (FG G)} {a : Array Value} {l : List Value} (hf : frzL (frz2 s.n) a.toList s' = (l, s2)) (h : Ext s s2) (hb : ∀ c ∈ l, Bel s.n (stripN 8 s.n c)) : cutJ [none] s [(.tuple a, s')] = some [(.tuple (l.map (stripN 8 s.n)).toArray, s)] := by
  have hc : s.n ≤ s2.n ∧ (∀ i, i < s.n → (FG G).get s2.h i = (FG G).get s.h i ∨ BelO s.n ((FG G).get s2.h i)) ∧ (([none] : List (Option Nat)).filter Option.isSome).length ≤ 1 := ⟨h.1, fun i hi => .inl (h.2 i hi), by decide⟩
  have e0 : frzT s.n s' (.tuple a) = (.tuple l.toArray, s2) := by
    show (Value.tuple (frzL (frz2 s.n) a.toList s').1.toArray, (frzL (frz2 s.n) a.toList s').2) = _
    rw [hf]
  have e : cutD [none] s (.tuple a) s' = some (.tuple (l.map (stripN 8 s.n)).toArray, s) := by
    unfold cutD
    rw [e0]
    show cutD0 [none] s (.tuple l.toArray) s2 = _
    unfold cutD0
    rw [if_pos hc]
    show ((cutL s s2 [none] l.toArray.toList (mrg s s2)).map _) = _
    rw [mrg_same h, cutL_none l [none] s (fun x hx => by simpa using hx) hb]
    rfl
  unfold cutJ
  simp only [List.map_cons, List.map_nil, e, Option.map_some, joinO, List.append_nil, merge_one]
theorem cutT_call {A : Ann (FG G)} {n : Nat} {f : FuncId} {fn : Func} (hI : A.i f = none) (hc : A.cut f = some [none]) (hf : P.funcs[f]? = some fn) {args : List Value} {s : St (FG G)} {l : List Value} (hb : ∀ c ∈ l, Bel s.n (stripN 8 s.n c))
    (h : One (bodyD P (A.row f) (callD P A n) A.N f fn args s) fun v' s' => ∃ a, v' = .tuple a ∧ ∃ s2, frzL (frz2 s.n) a.toList s' = (l, s2) ∧ Ext s s2) : callD P A (n + 1) (.fn f) args s = some [(.tuple (l.map (stripN 8 s.n)).toArray, s)] := by
  obtain ⟨v', s', e, a, rfl, s2, h1, h2⟩ := h
  rw [call_cut hI hc hf, e, bindS, cut_tup h1 h2 hb]
end cut
theorem lab_bel (n : Nat) (x : Lab) : ∀ v ∈ lab x, Bel n v := fun v hv => by
  simp only [lab, List.mem_cons, List.not_mem_nil, or_false] at hv
  rcases hv with rfl | rfl <;> exact .string _
theorem strip_labs (n m : Nat) (l : List Lab) (hm : m < 3) : stripN 8 n (sl lab m l) = sl lab m l := by
  have := strip_nest (k := 6) (n := n) (enc := lab) (f := id) (fun x => rfl) m l
  rw [List.map_id] at this
  rw [this]
  have : Nat.blt m (n + 3) = true := by rw [blt_dec, decide_eq_true]; omega
  rw [this]; rfl
theorem chunk_labs : ∀ (l : List Lab), chunkL 2 l.length (rowL l) = (l.map lab).map fun e => Value.agg e.toArray := fun l => by
  refine List.ext_getElem (by simp [chunkL]) fun i h1 h2 => ?_
  simp only [chunkL_len] at h1
  have := take_one (l := l) h1
  simp only [chunkL, List.getElem_map, List.getElem_range]
  rw [this]
theorem frz_rl {s : SH} {lo id q c : Nat} {R : List Lab} (hid : lo ≤ id) (hc : c / 2 = 2) (hq : q ≤ R.length) (h : LR id s R) : frz1 lo s (rl id q c) = (sl lab 0 (R.take q), delD s id) := by
  unfold frz1
  simp only
  rw [if_pos ⟨hid, by omega⟩, hc, take_rl h hq]
  simp only
  rw [if_pos (rowL_one _)]
  congr 1
  have hl : q = (R.take q).length := by rw [List.length_take]; omega
  show fzV 0 (chunkL 2 q (rowL (R.take q))).toArray = _
  have : chunkL 2 q (rowL (R.take q)) = chunkL 2 (R.take q).length (rowL (R.take q)) := by rw [← hl]
  rw [this, chunk_labs]; rfl
theorem bop_seqB (t : TypeId) (x y : ByteArray) (ht : t = 9) : bopD Try.prog .eql t (.string x) (.string y) = some (.bool (x.toList == y.toList)) := by
  subst ht; rfl

theorem lab_neq (a b : Lab) : bopD Try.prog .neq 106 (.agg (lab a).toArray) (.agg (lab b).toArray) = some (.bool (!decide (a = b))) := by
  refine (bop_agg (P := Try.prog) (d := 4) (t := 106) (a := (lab a).toArray) (b := (lab b).toArray) (r := decide (a = b)) (by decide) (by kernel_rfl) rfl rfl ?_).2
  have : eqS Try.prog 4 106 (.agg #[.string a.1, .string a.2]) (.agg #[.string b.1, .string b.2]) = cond (a.1 == b.1) (cond (a.2 == b.2) (some true) (some false)) (some false) := by kernel_rfl
  refine Eq.trans this ?_
  rw [ba_beq, ba_beq]
  have e : (a = b) ↔ a.1 = b.1 ∧ a.2 = b.2 := Prod.ext_iff
  by_cases h1 : a.1 = b.1 <;> by_cases h2 : a.2 = b.2 <;> simp [e, h1, h2]
theorem c21 {n m m' : Nat} {s : SH} (xs ys : List Lab) (hl : xs.length < 2 ^ 62) : callD Try.prog AB (n + 1) (.fn 21) [sl lab m xs, sl lab m' ys] s = some [(.bool (decide (xs = ys)), s)] := by
  refine cut_call (fn := Try.f21) rfl rfl (by kernel_rfl) (v := .bool (decide (xs = ys))) (fun _ h => by cases h) (.bool _) ?_
  show One (bodyD Try.prog false _ _ 21 Try.f21 _ s) _
  rw [f21_r]
  simp only [f21, o_bool, o_alloc, o_box, o_build, o_buildSlice, o_load, o_store, o_nilCheck, o_bop, o_uop, o_conv, o_slc, o_fieldAddr, o_field, o_indexAddr, o_index, o_extract, o_lookup, o_mapUpdate, o_makeSlice, o_clear, o_makeMap, o_mapEntry, o_entryStore, o_delete, o_len, o_append, o_min, o_max, o_tgt, bindS, many1, jnE, boolS, gdB, fst', snd', len_sl u23, b_neq]
  by_cases h : xs.length = ys.length
  · have e : ((xs.length : Int) = ys.length) := by omega
    simp only [e, decide_true, Bool.not_true, condF]
    try rw [← e]
    refine list_one xs (fun i (x : Value × Value) (s' : SH) => s = s' ∧ x.1 = .bool false ∧ x.2 = .int .i64 i ∧ xs.take i = ys.take i) ?_ ?_ ⟨rfl, rfl, rfl, rfl⟩ (by show xs.length < 2 ^ 64; omega)
    · rintro i hi ⟨x1, x2⟩ s' ⟨rfl, h1, h2, h3⟩ nx hnx
      simp only at h1 h2
      subst h1 h2
      have hlt : (i : Int) < xs.length := by omega
      have hi' : i < ys.length := by omega
      have hw : IntKind.i64.wrap ((i : Int) + 1) = ((i + 1 : Nat) : Int) := by rw [wrap_i64 (by omega) (by omega)]; rfl
      simp only [f21_l0, o_bool, o_alloc, o_box, o_build, o_buildSlice, o_load, o_store, o_nilCheck, o_bop, o_uop, o_conv, o_slc, o_fieldAddr, o_field, o_indexAddr, o_index, o_extract, o_lookup, o_mapUpdate, o_makeSlice, o_clear, o_makeMap, o_mapEntry, o_entryStore, o_delete, o_len, o_append, o_min, o_max, o_tgt, bindS, many1, jnE, boolS, gdB, fst', snd', len_sl u23, bop_lss, hlt, decide_true, condT, ixs23 lab_len hi, ixs23 lab_len hi', ld_lab, lab_neq, bop_add, hw]
      by_cases hq : xs[i] = ys[i]
      · simp only [hq, decide_true, Bool.not_true, condF]
        refine hnx (_, _) _ ⟨rfl, rfl, rfl, ?_⟩
        rw [List.take_succ_eq_append_getElem hi, List.take_succ_eq_append_getElem hi', h3, hq]
      · simp only [hq, decide_false, Bool.not_false, condT]
        have hne : xs ≠ ys := fun e => hq (by simp only [e])
        exact One.ret ⟨by rw [decide_eq_false hne], .refl s⟩
    · rintro ⟨x1, x2⟩ s' ⟨rfl, h1, h2, h3⟩ nx
      simp only at h1 h2
      subst h1 h2
      have hnlt : ¬ ((xs.length : Int) < xs.length) := by omega
      have hxy : xs = ys := by rw [List.take_length, h, List.take_length] at h3; exact h3
      simp only [f21_l0, o_bool, o_alloc, o_box, o_build, o_buildSlice, o_load, o_store, o_nilCheck, o_bop, o_uop, o_conv, o_slc, o_fieldAddr, o_field, o_indexAddr, o_index, o_extract, o_lookup, o_mapUpdate, o_makeSlice, o_clear, o_makeMap, o_mapEntry, o_entryStore, o_delete, o_len, o_append, o_min, o_max, o_tgt, bindS, many1, jnE, boolS, gdB, fst', snd', len_sl u23, bop_lss, hnlt, decide_false, condF, beq_yes, condT]
      exact One.ret ⟨by rw [decide_eq_true hxy], .refl s⟩
  · have e : ¬ ((xs.length : Int) = ys.length) := by omega
    have hne : xs ≠ ys := fun e => h (by rw [e])
    simp only [e, decide_false, Bool.not_false, condT]
    exact One.ret ⟨by rw [decide_eq_false hne], .refl s⟩

theorem bld106 (a b : ByteArray) : buildD Try.prog 106 [(0, .string a), (1, .string b)] = some (.agg (lab (a, b)).toArray) := by kernel_rfl
theorem gapp23 {lo : Nat} {s : SH} {v : Value} {m2 : Nat} {xs ys : List Lab} (h : Grow lo 2 lab s v xs) (hlo : lo ≤ s.n) (hb : (xs.length + ys.length) * 32 ≤ 140737488355328) :
    ∃ v' s', appD Try.prog false s 23 23 v (sl lab m2 ys) = some (v', s') ∧ Grow lo 2 lab s' v' (xs ++ ys) ∧ Sm lo s s' ∧ (∀ j, j < s.n → HP.get s.h j ≠ some (.tok xs.length 2) → HP.get s'.h j = HP.get s.h j) :=
  h.app (i := Try.t106) hlo u23 u23 (by kernel_rfl) zr106 rfl (by kernel_rfl) (by kernel_rfl) (by decide) lab_len hb (by omega)
theorem bs23 (s : SH) (y : Lab) : buildSliceD Try.prog false s 23 1 [(0, .agg (lab y).toArray)] = some (sl lab 1 [y], s) := by kernel_rfl
def cutB (b : ByteArray) (n : Nat) : ByteArray := b.extract 0 (min b.size n)
theorem cutB_size (b : ByteArray) (n : Nat) : (cutB b n).size = min b.size n := by
  unfold cutB
  rw [ByteArray.size_extract]; omega
def fewL (l : Lab) : Lab := (cutB l.1 65, cutB l.2 257)
def few4 (l : List Lab) : List Lab := (l.take 40).map fewL
theorem few4_small (l : List Lab) : (few4 l).length ≤ 40 ∧ ∀ a ∈ few4 l, a.1.size ≤ 65 ∧ a.2.size ≤ 257 := by
  refine ⟨by unfold few4; rw [List.length_map, List.length_take]; omega, fun a ha => ?_⟩
  obtain ⟨b, _, rfl⟩ := List.mem_map.1 ha
  unfold fewL
  rw [cutB_size, cutB_size]
  exact ⟨Nat.min_le_right _ _, Nat.min_le_right _ _⟩
theorem few4_S (l : List Lab) : SmallL (few4 l) := ⟨by have := (few4_small l).1; omega, fun a ha => by have := (few4_small l).2 a ha; omega⟩
theorem min65 (n : Nat) : minD Try.prog (.int .i64 (n : Int)) [.int .i64 65] = some (.int .i64 ((min n 65 : Nat) : Int)) := min_nat .i64 n 65
theorem min257 (n : Nat) : minD Try.prog (.int .i64 (n : Int)) [.int .i64 257] = some (.int .i64 ((min n 257 : Nat) : Int)) := min_nat .i64 n 257
theorem ldf_l0 {s : SH} (a : Lab) : loadD Try.prog s 9 (fpV (lab a).toArray 0) = some (.string a.1) := by rw [load_fp, part_one a9]; rfl
theorem ldf_l1 {s : SH} (a : Lab) : loadD Try.prog s 9 (fpV (lab a).toArray 1) = some (.string a.2) := by rw [load_fp, part_one a9]; rfl
theorem bsf23 (s : SH) : buildSliceD Try.prog false s 23 0 [] = some (sl lab 1 [], s) := by kernel_rfl
theorem c18 {n m : Nat} {s : SH} (l : List Lab) : ∃ m' s', callD Try.prog AB (n + 1) (.fn 18) [sl lab m l] s = some [(sl lab m' (few4 l), s')] ∧ Sm s.n s s' := by
  rw [call_fn (fn := Try.f18) rfl rfl (by kernel_rfl)]
  suffices h : One (bodyD Try.prog false (callD Try.prog AB n) AB.N 18 Try.f18 [sl lab m l] s) fun w s' => Grow s.n 2 lab s' w (few4 l) ∧ Sm s.n s s' by
    obtain ⟨w, s', e, h1, h2⟩ := h
    obtain ⟨mm, rfl⟩ := Grow.form h1
    exact ⟨mm, s', e, h2⟩
  rw [f18_r]
  simp only [f18, o_bool, o_alloc, o_box, o_build, o_buildSlice, o_load, o_store, o_nilCheck, o_bop, o_uop, o_conv, o_slc, o_fieldAddr, o_field, o_indexAddr, o_index, o_extract, o_lookup, o_mapUpdate, o_makeSlice, o_clear, o_makeMap, o_mapEntry, o_entryStore, o_delete, o_len, o_append, o_min, o_max, o_tgt, bindS, many1, jnE, boolS, gdB, fst', snd', bsf23]
  refine list_one (l.take 40) (fun i (x : Value × Value) (s' : SH) => Sm s.n s s' ∧ x.2 = .int .i64 i ∧ Grow s.n 2 lab s' x.1 ((l.take i).map fewL)) ?_ ?_ ⟨.refl _ _, rfl, .inl ⟨rfl, .inr rfl⟩⟩ (by rw [List.length_take]; show _ < 2 ^ 64; omega)
  · rintro i hi ⟨x1, x2⟩ s' ⟨hsm, h2, hg⟩ nx hnx
    simp only at h2 hg
    subst h2
    rw [List.length_take] at hi
    have hi1 : i < l.length := by omega
    have hlt : (i : Int) < l.length := by omega
    have hlt2 : (i : Int) < 40 := by omega
    have hw : IntKind.i64.wrap ((i : Int) + 1) = ((i + 1 : Nat) : Int) := by rw [wrap_i64 (by omega) (by omega)]; rfl
    have hts : (l.take (i + 1)).map fewL = (l.take i).map fewL ++ [fewL l[i]] := by rw [List.take_succ_eq_append_getElem hi1, List.map_append]; rfl
    have hln : ((l.take i).map fewL).length = i := by rw [List.length_map, List.length_take]; omega
    obtain ⟨v', s3, e1, w1, w2, w3⟩ := gapp23 (m2 := 1) (ys := [fewL l[i]]) hg hsm.1 (by rw [hln]; simp only [List.length_singleton]; omega)
    have e1 : appD Try.prog false s' 23 23 x1 (sl lab 1 [(ByteArray.extract l[i].1 0 (min l[i].1.size 65), ByteArray.extract l[i].2 0 (min l[i].2.size 257))]) = some (v', s3) := e1
    simp only [f18_l0, o_bool, o_alloc, o_box, o_build, o_buildSlice, o_load, o_store, o_nilCheck, o_bop, o_uop, o_conv, o_slc, o_fieldAddr, o_field, o_indexAddr, o_index, o_extract, o_lookup, o_mapUpdate, o_makeSlice, o_clear, o_makeMap, o_mapEntry, o_entryStore, o_delete, o_len, o_append, o_min, o_max, o_tgt, bindS, many1, jnE, boolS, gdB, fst', snd', len_sl u23, bop_lss, hlt, hlt2, decide_true, condT, ixs23 lab_len hi1, flf106_0, flf106_1, ldf_l0, ldf_l1, len_str u9, min65, min257, slc_str u9 _ (Nat.min_le_left _ 65), slc_str u9 _ (Nat.min_le_left _ 257), bld106, bs23, e1, bop_add, hw]
    refine hnx (_, _) _ ⟨hsm.trans w2, rfl, ?_⟩
    rw [hts]; exact w1
  · rintro ⟨x1, x2⟩ s' ⟨hsm, h2, hg⟩ nx
    simp only at h2 hg
    subst h2
    rw [List.length_take] at hg ⊢
    have hgo : Grow s.n 2 lab s' x1 (few4 l) := by
      have : few4 l = (l.take (min 40 l.length)).map fewL := by
        unfold few4
        congr 1
        by_cases h : 40 ≤ l.length
        · rw [Nat.min_eq_left h]
        · rw [Nat.min_eq_right (by omega), List.take_length, List.take_of_length_le (by omega)]
      rw [this]; exact hg
    by_cases h : l.length ≤ 40
    · have hnlt : ¬ (((min 40 l.length : Nat) : Int) < l.length) := by omega
      simp only [f18_l0, o_bool, o_alloc, o_box, o_build, o_buildSlice, o_load, o_store, o_nilCheck, o_bop, o_uop, o_conv, o_slc, o_fieldAddr, o_field, o_indexAddr, o_index, o_extract, o_lookup, o_mapUpdate, o_makeSlice, o_clear, o_makeMap, o_mapEntry, o_entryStore, o_delete, o_len, o_append, o_min, o_max, o_tgt, bindS, many1, jnE, boolS, gdB, fst', snd', len_sl u23, bop_lss, hnlt, decide_false, condF, beq_yes, condT]
      exact One.ret ⟨hgo, hsm⟩
    · have hlt : ((min 40 l.length : Nat) : Int) < l.length := by omega
      have hnlt2 : ¬ (((min 40 l.length : Nat) : Int) < 40) := by omega
      simp only [f18_l0, o_bool, o_alloc, o_box, o_build, o_buildSlice, o_load, o_store, o_nilCheck, o_bop, o_uop, o_conv, o_slc, o_fieldAddr, o_field, o_indexAddr, o_index, o_extract, o_lookup, o_mapUpdate, o_makeSlice, o_clear, o_makeMap, o_mapEntry, o_entryStore, o_delete, o_len, o_append, o_min, o_max, o_tgt, bindS, many1, jnE, boolS, gdB, fst', snd', len_sl u23, bop_lss, hlt, hnlt2, decide_true, decide_false, condF, beq_yes, condT]
      exact One.ret ⟨hgo, hsm⟩
/-! What a set is that may be. -/
theorem chk_ris : ∀ {l : List Lab} {last : ByteArray}, chk last l = true → (∀ a ∈ l, lt' last.toList a.1.toList ∧ (a.2.toList == ByteArray.toList ⟨#[]⟩) = false) ∧ l.Pairwise fun a b => lt' a.1.toList b.1.toList
  | [], _, _ => ⟨fun a h => (List.not_mem_nil h).elim, .nil⟩
  | a :: l, last, h => by
    rw [chk_cons, Bool.and_eq_true, Bool.and_eq_true, Bool.and_eq_true, Bool.and_eq_true] at h
    obtain ⟨_, h2, h3, _, h5⟩ := h
    obtain ⟨i1, i2⟩ := chk_ris h5
    have hl : lt' last.toList a.1.toList := by
      have h2 : sle a.1 last = false := by simpa using h2
      unfold sle at h2
      rw [Bool.or_eq_false_iff] at h2
      exact lt_of_le_ne (x := last.toList) (y := a.1.toList) h2.1 fun e => by
        have := h2.2
        rw [e] at this
        simp at this
    refine ⟨fun b hb => ?_, List.pairwise_cons.2 ⟨fun b hb => (i1 b hb).1, i2⟩⟩
    rcases List.mem_cons.1 hb with rfl | hb
    · exact ⟨hl, by simpa using h3⟩
    · exact ⟨lt_le_trans hl (le_of_lt' (i1 b hb).1), (i1 b hb).2⟩
theorem chk_size : ∀ {l : List Lab} {last : ByteArray}, chk last l = true → ∀ a ∈ l, a.1.size ≤ 64 ∧ a.2.size ≤ 256
  | [], _, _, a, h => absurd h List.not_mem_nil
  | b :: l, last, h, a, ha => by
    simp only [chk, Bool.and_eq_true, Bool.not_eq_true', decide_eq_false_iff_not] at h
    rcases List.mem_cons.1 ha with rfl | ha
    · refine ⟨?_, by have := h.2.2.2.1; omega⟩
      have := h.1
      simp only [namedB, Bool.and_eq_true, decide_eq_true_eq] at this
      exact this.2.2
    · exact chk_size h.2.2.2.2 a ha
theorem okL_size {l : List Lab} (h : okL l = true) : 0 < l.length ∧ l.length ≤ 16 ∧ ∀ a ∈ l, a.1.size ≤ 64 ∧ a.2.size ≤ 256 := by
  simp only [okL, Bool.and_eq_true, Bool.not_eq_true', decide_eq_false_iff_not] at h
  exact ⟨by omega, by omega, chk_size h.2.2⟩
theorem c17 {n : Nat} {s : SH} : callD Try.prog AB (n + 1) (.fn 17) [] s = some [(.bool true, s)] := by
  rw [call_i (i := yes) rfl]; rfl
/-! A set that may be is what its labels are sorted to, in whatever order they come. -/
theorem okL_chk {l : List Lab} (h : okL l = true) : chk ⟨#[]⟩ l = true := by
  unfold okL at h
  rw [Bool.and_eq_true, Bool.and_eq_true] at h
  exact h.2.2
theorem okL_S {l : List Lab} (h : okL l = true) : SmallL l := by
  obtain ⟨_, h1, h2⟩ := okL_size h
  exact ⟨by omega, fun a ha => by have := h2 a ha; omega⟩
end Go.Proofs.Ytmhmbmogodofeaa.S
