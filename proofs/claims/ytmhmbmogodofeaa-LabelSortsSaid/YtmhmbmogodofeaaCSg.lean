import Derived.Test.YtmhmbmogodofeaaCSf
set_option autoImplicit false
set_option linter.unusedVariables false
set_option linter.unusedSimpArgs false
set_option maxRecDepth 100000
namespace Go.Proofs.Ytmhmbmogodofeaa.S
open Go.FS Go.RowKit
attribute [local congr] bind_cg cond_cg gd_cg
/-! A row of labels in hand. -/
def RE (lo : Nat) (s : SH) (v : Value) (l : List Lab) : Prop := ∃ id c, v = rl id l.length c ∧ lo ≤ id ∧ id < s.n ∧ c / 2 = 2 ∧ LR id s l
theorem RE.same {lo : Nat} {s s' : SH} {v : Value} {l : List Lab} (h : RE lo s v l) (k : Sm s.n s s') : RE lo s' v l := by
  obtain ⟨id, c, h1, h2, h3, h4, h5⟩ := h
  exact ⟨id, c, h1, h2, Nat.lt_of_lt_of_le h3 k.1, h4, by unfold LR; rw [k.2 id h3]; exact h5⟩
theorem take_rl {s : SH} {id q : Nat} {R : List Lab} (h : LR id s R) (hq : q ≤ R.length) : (rowD s id).bind (fun r => takeD r 0 (q * 2)) = some (rowL (R.take q)) := by
  rw [row_of h, bindS]
  unfold takeD
  rw [List.drop_zero, rowL_take, rowL_len, List.length_take, Nat.min_eq_left hq, beq_yes, condT]
theorem cells_rl {lo : Nat} {s : SH} {v : Value} {l : List Lab} (h : RE lo s v l) : cellsD s 2 l.length v = some (rowL l) := by
  obtain ⟨id, c, rfl, _, _, h4, h5⟩ := h
  show (bif Nat.ble l.length l.length && Nat.beq (c / 2) 2 then (bif Nat.beq l.length 0 then some [] else (rowD s id).bind fun r => takeD r 0 (l.length * 2)) else none) = _
  rw [Nat.ble_eq_true_of_le (Nat.le_refl _), h4, beq_yes, Bool.and_self, condT, take_rl h5 (Nat.le_refl _), List.take_length]
  cases l with
  | nil => rfl
  | cons x l => rfl
theorem aggL_fz2 (xs : List Lab) : aggL ((xs.map lab).map fun e => Value.agg e.toArray) = some (rowL xs) := by
  induction xs with
  | nil => rfl
  | cons x xs ih =>
    show (aggL ((xs.map lab).map fun e => Value.agg e.toArray)).map ((lab x).toArray.toList ++ ·) = _
    rw [ih]; rfl
theorem cells_sl2 (s : SH) (m : Nat) (l : List Lab) : cellsD s 2 l.length (sl lab m l) = some (rowL l) := by
  have hf : fzOk 2 ((l.map lab).map fun e => Value.agg e.toArray).toArray = true := fzOk_fz fun e he => by obtain ⟨x, _, rfl⟩ := List.mem_map.1 he; rfl
  unfold sl
  simp only [fz_list, cellsD, fz_size, List.length_map, hf, Nat.ble_eq_true_of_le (Nat.le_refl _), Bool.and_self, condT]
  rw [List.take_of_length_le (by simp), aggL_fz2]
theorem len_Dl {lo : Nat} {s : SH} {v : Value} {l : List Lab} (h : RE lo s v l) : lenD v = some l.length := by
  obtain ⟨id, c, rfl, _⟩ := h
  rfl
theorem app_rl {lo : Nat} {md : Bool} {s : SH} {v w : Value} {xs ys : List Lab} (h : RE lo s v xs) (hlo : lo ≤ s.n) (hw : lenD w = some ys.length) (hc : cellsD s 2 ys.length w = some (rowL ys)) (hb : (xs.length + ys.length) * 32 ≤ 140737488355328) :
    ∃ v' s', appD Try.prog md s 23 23 v w = some (v', s') ∧ RE lo s' v' (xs ++ ys) ∧ Sm lo s s' := by
  obtain ⟨id, c, rfl, h2, h3, h4, h5⟩ := h
  have hni : isInt Try.prog 23 = false := by unfold isInt; rw [u23]
  have hi : Try.prog.info? 106 = some Try.t106 := by kernel_rfl
  have hz : (Try.t106.size : Nat) = 2 := by kernel_rfl
  have hbt : (Try.t106.bytes : Nat) = 32 := by kernel_rfl
  have hcond : (decide ((xs.length + ys.length) * Try.t106.bytes ≤ 140737488355328) && decide (xs.length + ys.length ≤ 140737488355328) && Nat.beq [Value.string ⟨#[]⟩, Value.string ⟨#[]⟩].length Try.t106.size && Nat.blt 0 Try.t106.size) = true := by
    rw [hbt, hz, decide_eq_true hb, decide_eq_true (by omega)]; rfl
  have hx : lenD (rl id xs.length c) = some xs.length := rfl
  unfold appD
  rw [hni, condF]
  unfold appendD
  simp only [u23, bindS, hi, hw, zr106, hx, hcond, condT]
  by_cases h0 : ys.length = 0
  · have : ys = [] := List.length_eq_zero_iff.1 h0
    subst this
    refine ⟨rl id xs.length c, s, by rw [show Nat.beq ([] : List Lab).length 0 = true from rfl, condT], ?_, .refl _ _⟩
    rw [List.append_nil]
    exact ⟨id, c, rfl, h2, h3, h4, h5⟩
  · rw [beq_no h0, condF, hz, hc, bindS, rowL_one, Bool.not_true, condF]
    have ht := take_rl h5 (Nat.le_refl _)
    rw [List.take_length] at ht
    have hlen : ∀ s0 : SH, s0.n = s.n → (∀ j, j < lo → HP.get s0.h j = HP.get s.h j) → (some (Value.slice (some ⟨s0.n, 0, none⟩) (xs.length + ys.length) (2 * 2), newD s0 (.row (rowL xs ++ rowL ys))) : Option (Value × SH)) = some (rl s0.n (xs ++ ys).length 4, newD s0 (.row (rowL (xs ++ ys)))) ∧ RE lo (newD s0 (.row (rowL (xs ++ ys)))) (rl s0.n (xs ++ ys).length 4) (xs ++ ys) ∧ Sm lo s (newD s0 (.row (rowL (xs ++ ys)))) := fun s0 hn hg => by
      refine ⟨by rw [List.length_append, rowL_app], ⟨s0.n, 4, rfl, by omega, by rw [newD_n]; omega, rfl, get_new rfl⟩, ⟨by rw [newD_n]; omega, fun j hj => by rw [get_old (by omega), hg j hj]⟩⟩
    by_cases hcc : c % 2 = 1
    · rw [hcc, beq_yes, condT]
      have := cells_rl (⟨id, c, rfl, h2, h3, h4, h5⟩ : RE lo s _ xs)
      rw [this]
      obtain ⟨q1, q2, q3⟩ := hlen s rfl fun _ _ => rfl
      exact ⟨_, _, q1, q2, q3⟩
    · rw [beq_no hcc, condF, h4, beq_yes]
      simp only [condT]
      rw [row_of h5, bindS] at ht ⊢
      rw [ht]
      obtain ⟨q1, q2, q3⟩ := hlen (delD s id) rfl fun j hj => get_del (by omega)
      exact ⟨_, _, q1, q2, q3⟩
theorem bs23_0 (s : SH) : buildSliceD Try.prog true s 23 0 [] = some (rl s.n 0 5, newD s (.row [])) := by kernel_rfl
theorem bs23_1 (s : SH) (x : Lab) : buildSliceD Try.prog true s 23 1 [(0, .agg (lab x).toArray)] = some (rl s.n 1 5, newD s (.row (rowL [x]))) := by kernel_rfl
theorem RE_new {s : SH} : RE s.n (newD s (.row [])) (rl s.n 0 5) [] := ⟨s.n, 5, rfl, Nat.le_refl _, by rw [newD_n]; omega, rfl, get_new rfl⟩
theorem RE_one {s : SH} (x : Lab) : RE s.n (newD s (.row (rowL [x]))) (rl s.n 1 5) [x] := ⟨s.n, 5, rfl, Nat.le_refl _, by rw [newD_n]; omega, rfl, get_new rfl⟩
/-- Labels in hand: a row, or some that are borne. -/
def LbIn (s : SH) (v : Value) (l : List Lab) : Prop := (∃ lo, RE lo s v l) ∨ ∃ m, v = sl lab m l ∧ l ≠ []
theorem LbIn.same {s s' : SH} {v : Value} {l : List Lab} (h : LbIn s v l) (k : Sm s.n s s') : LbIn s' v l := by
  rcases h with ⟨lo, h⟩ | h
  · exact .inl ⟨lo, h.same k⟩
  · exact .inr h
theorem LbIn.cells {s : SH} {v : Value} {l : List Lab} (h : LbIn s v l) : cellsD s 2 l.length v = some (rowL l) := by
  rcases h with ⟨lo, h⟩ | ⟨m, rfl, _⟩
  · exact cells_rl h
  · exact cells_sl2 _ _ _
theorem LbIn.len {s : SH} {v : Value} {l : List Lab} (h : LbIn s v l) : lenD v = some l.length := by
  rcases h with ⟨lo, h⟩ | ⟨m, rfl, _⟩
  · exact len_Dl h
  · simp only [sl, fz_list, lenD, isFz_fz, condT, fz_size, List.length_map]
theorem LbIn.nil {s : SH} {v : Value} {l : List Lab} (h : LbIn s v l) : bopD Try.prog .eql 23 v (fzV 2 #[]) = some (.bool false) := by
  rcases h with ⟨lo, id, c, rfl, _⟩ | ⟨m, rfl, hne⟩
  · show ((binD Try.prog .eql 23 (rl id l.length c) (fzV 2 #[])).or (nilD Try.prog .eql 23 (rl id l.length c) (fzV 2 #[]))) = _
    have e1 : binD Try.prog .eql 23 (rl id l.length c) (fzV 2 #[]) = none := rfl
    have e2 : nilD Try.prog .eql 23 (rl id l.length c) (fzV 2 #[]) = some (.bool false) := by
      simp only [nilD, u23, nilEq]
      rfl
    rw [e1, e2]; rfl
  · show ((binD Try.prog .eql 23 (sl lab m l) (fzV 2 #[])).or (nilD Try.prog .eql 23 (sl lab m l) (fzV 2 #[]))) = _
    have e1 : binD Try.prog .eql 23 (sl lab m l) (fzV 2 #[]) = none := rfl
    have e2 : nilD Try.prog .eql 23 (sl lab m l) (fzV 2 #[]) = some (.bool false) := by
      have hs : Nat.blt 0 ((l.map lab).map fun e => Value.agg e.toArray).toArray.size = true := by
        rw [blt_dec, decide_eq_true]
        simp only [List.size_toArray, List.length_map]
        exact List.length_pos_iff.2 hne
      simp only [nilD, u23]
      show (bif (Nat.blt 0 ((l.map lab).map fun e => Value.agg e.toArray).toArray.size && isFz ((l.map lab).map fun e => Value.agg e.toArray).toArray && Nat.beq #[].size 0) then some (Value.bool false) else _) = _
      rw [hs, isFz_fz]; rfl
    rw [e1, e2]; rfl
theorem c64 {n : Nat} {s : SH} {v : Value} {l : List Lab} (h : LbIn s v l) (hl : l.length ≤ 1000000) : ∃ w s', callD Try.prog AB (n + 1) (.fn 64) [v] s = some [(w, s')] ∧ RE s.n s' w l ∧ Sm s.n s s' := by
  rw [call_fn (fn := Try.f64) rfl rfl (by kernel_rfl)]
  show ∃ w s', bodyD Try.prog true _ _ 64 Try.f64 _ s = _ ∧ _
  rw [f64_r]
  have hS1 : Sm s.n s (newD s (.row [])) := (Sm.refl _ _).new (Nat.le_refl _) _
  have h1 := h.same hS1
  obtain ⟨v', s3, e1, w1, w2⟩ := app_rl (md := true) RE_new hS1.1 h1.len h1.cells (by simp only [List.length_nil]; omega)
  simp only [f64, o_bool, o_alloc, o_box, o_build, o_buildSlice, o_load, o_store, o_nilCheck, o_bop, o_uop, o_conv, o_slc, o_fieldAddr, o_field, o_indexAddr, o_index, o_extract, o_lookup, o_mapUpdate, o_makeSlice, o_clear, o_makeMap, o_mapEntry, o_entryStore, o_delete, o_len, o_append, o_min, o_max, o_tgt, bindS, many1, jnE, boolS, gdB, fst', snd', h.nil, condF, bs23_0, e1]
  exact ⟨v', s3, rfl, by rw [List.nil_append] at w1; exact w1, hS1.trans w2⟩
/-! few -/
def cutB (b : ByteArray) (n : Nat) : ByteArray := b.extract 0 (min b.size n)
theorem cutB_size (b : ByteArray) (n : Nat) : (cutB b n).size = min b.size n := by
  unfold cutB
  rw [ByteArray.size_extract]; omega
def fewL (l : Lab) : Lab := (cutB l.1 65, cutB l.2 257)
def few4 (l : List Lab) : List Lab := (l.take 40).map fewL
theorem few4_small (l : List Lab) : (few4 l).length ≤ 40 ∧ AllS (few4 l) := by
  refine ⟨by unfold few4; rw [List.length_map, List.length_take]; omega, fun a ha => ?_⟩
  obtain ⟨b, _, rfl⟩ := List.mem_map.1 ha
  unfold fewL Sml
  rw [cutB_size, cutB_size]
  constructor <;> omega
theorem min65 (n : Nat) : minD Try.prog (.int .i64 (n : Int)) [.int .i64 65] = some (.int .i64 ((min n 65 : Nat) : Int)) := min_nat .i64 n 65
theorem min257 (n : Nat) : minD Try.prog (.int .i64 (n : Int)) [.int .i64 257] = some (.int .i64 ((min n 257 : Nat) : Int)) := min_nat .i64 n 257
theorem ldf_l0 {s : SH} (a : Lab) : loadD Try.prog s 9 (fpV (lab a).toArray 0) = some (.string a.1) := by rw [load_fp, part_one a9]; rfl
theorem ldf_l1 {s : SH} (a : Lab) : loadD Try.prog s 9 (fpV (lab a).toArray 1) = some (.string a.2) := by rw [load_fp, part_one a9]; rfl
theorem bld106 (a b : ByteArray) : buildD Try.prog 106 [(0, .string a), (1, .string b)] = some (.agg (lab (a, b)).toArray) := by kernel_rfl
theorem c18 {n m : Nat} {s : SH} (l : List Lab) : ∃ v s', callD Try.prog AB (n + 1) (.fn 18) [sl lab m l] s = some [(v, s')] ∧ RE s.n s' v (few4 l) ∧ Sm s.n s s' := by
  rw [call_fn (fn := Try.f18) rfl rfl (by kernel_rfl)]
  suffices h : One (bodyD Try.prog true (callD Try.prog AB n) AB.N 18 Try.f18 [sl lab m l] s) fun w s' => RE s.n s' w (few4 l) ∧ Sm s.n s s' by
    obtain ⟨w, s', e, h1, h2⟩ := h
    exact ⟨w, s', e, h1, h2⟩
  rw [f18_r]
  simp only [f18, o_bool, o_alloc, o_box, o_build, o_buildSlice, o_load, o_store, o_nilCheck, o_bop, o_uop, o_conv, o_slc, o_fieldAddr, o_field, o_indexAddr, o_index, o_extract, o_lookup, o_mapUpdate, o_makeSlice, o_clear, o_makeMap, o_mapEntry, o_entryStore, o_delete, o_len, o_append, o_min, o_max, o_tgt, bindS, many1, jnE, boolS, gdB, fst', snd', bs23_0]
  refine list_one (l.take 40) (fun i (x : Value × Value) (s' : SH) => Sm s.n s s' ∧ x.2 = .int .i64 i ∧ RE s.n s' x.1 ((l.take i).map fewL)) ?_ ?_ ⟨(Sm.refl _ _).new (Nat.le_refl _) _, rfl, RE_new⟩ (by rw [List.length_take]; show _ < 2 ^ 64; omega)
  · rintro i hi ⟨x1, x2⟩ s' ⟨hsm, h2, hg⟩ nx hnx
    simp only at h2 hg
    subst h2
    rw [List.length_take] at hi
    have hi1 : i < l.length := by omega
    have hlt : (i : Int) < l.length := by omega
    have hlt2 : (i : Int) < 40 := by omega
    have hw : IntKind.i64.wrap ((i : Int) + 1) = ((i + 1 : Nat) : Int) := by rw [wrap_i64 (by omega) (by omega)]; rfl
    have hts : (l.take (i + 1)).map fewL = (l.take i).map fewL ++ [fewL l[i]] := by rw [List.take_succ_eq_append_getElem hi1, List.map_append]; rfl
    have hln : ((l.take i).map fewL).length = i := by rw [List.length_map, List.length_take]; omega
    have hS1 : Sm s'.n s' (newD s' (.row (rowL [fewL l[i]]))) := (Sm.refl _ _).new (Nat.le_refl _) _
    have hR1 := RE_one (s := s') (fewL l[i])
    obtain ⟨v', s3, e1, w1, w2⟩ := app_rl (md := true) (hg.same hS1) (by have := hsm.1; have := hS1.1; omega) (len_Dl hR1) (cells_rl hR1) (by rw [hln]; simp only [List.length_singleton]; omega)
    have hbs : buildSliceD Try.prog true s' 23 1 [(0, .agg (lab (ByteArray.extract l[i].1 0 (min l[i].1.size 65), ByteArray.extract l[i].2 0 (min l[i].2.size 257))).toArray)] = some (rl s'.n 1 5, newD s' (.row (rowL [fewL l[i]]))) := bs23_1 s' (fewL l[i])
    simp only [f18_l0, o_bool, o_alloc, o_box, o_build, o_buildSlice, o_load, o_store, o_nilCheck, o_bop, o_uop, o_conv, o_slc, o_fieldAddr, o_field, o_indexAddr, o_index, o_extract, o_lookup, o_mapUpdate, o_makeSlice, o_clear, o_makeMap, o_mapEntry, o_entryStore, o_delete, o_len, o_append, o_min, o_max, o_tgt, bindS, many1, jnE, boolS, gdB, fst', snd', len_sl u23, bop_lss, hlt, hlt2, decide_true, condT, ixs23 lab_len hi1, flf106_0, flf106_1, ldf_l0, ldf_l1, len_str u9, min65, min257, slc_str u9 _ (Nat.min_le_left _ 65), slc_str u9 _ (Nat.min_le_left _ 257), bld106, hbs, e1, bop_add, hw]
    refine hnx (_, _) _ ⟨(hsm.trans (⟨hS1.1, fun j hj => hS1.2 j (Nat.lt_of_lt_of_le hj hsm.1)⟩)).trans w2, rfl, ?_⟩
    rw [hts]; exact w1
  · rintro ⟨x1, x2⟩ s' ⟨hsm, h2, hg⟩ nx
    simp only at h2 hg
    subst h2
    rw [List.length_take] at hg ⊢
    have hgo : RE s.n s' x1 (few4 l) := by
      have : few4 l = (l.take (min 40 l.length)).map fewL := by
        unfold few4
        congr 1
        by_cases h : 40 ≤ l.length
        · rw [Nat.min_eq_left h]
        · rw [Nat.min_eq_right (by omega), List.take_length, List.take_of_length_le (by omega)]
      rw [this]; exact hg
    by_cases h : l.length ≤ 40
    · have hnlt : ¬ (((min 40 l.length : Nat) : Int) < l.length) := by omega
      simp only [f18_l0, o_bool, o_alloc, o_box, o_build, o_buildSlice, o_load, o_store, o_nilCheck, o_bop, o_uop, o_conv, o_slc, o_fieldAddr, o_field, o_indexAddr, o_index, o_extract, o_lookup, o_mapUpdate, o_makeSlice, o_clear, o_makeMap, o_mapEntry, o_entryStore, o_delete, o_len, o_append, o_min, o_max, o_tgt, bindS, many1, jnE, boolS, gdB, fst', snd', len_sl u23, bop_lss, hnlt, decide_false, condF, beq_yes, condT]
      exact One.ret ⟨hgo, hsm⟩
    · have hlt : ((min 40 l.length : Nat) : Int) < l.length := by omega
      have hnlt2 : ¬ (((min 40 l.length : Nat) : Int) < 40) := by omega
      simp only [f18_l0, o_bool, o_alloc, o_box, o_build, o_buildSlice, o_load, o_store, o_nilCheck, o_bop, o_uop, o_conv, o_slc, o_fieldAddr, o_field, o_indexAddr, o_index, o_extract, o_lookup, o_mapUpdate, o_makeSlice, o_clear, o_makeMap, o_mapEntry, o_entryStore, o_delete, o_len, o_append, o_min, o_max, o_tgt, bindS, many1, jnE, boolS, gdB, fst', snd', len_sl u23, bop_lss, hlt, hnlt2, decide_true, decide_false, condF, beq_yes, condT]
      exact One.ret ⟨hgo, hsm⟩
end Go.Proofs.Ytmhmbmogodofeaa.S
