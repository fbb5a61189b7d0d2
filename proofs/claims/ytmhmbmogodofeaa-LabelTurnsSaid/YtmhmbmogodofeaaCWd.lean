import Derived.Test.YtmhmbmogodofeaaCWc
set_option autoImplicit false
set_option linter.unusedVariables false
set_option linter.unusedSimpArgs false
set_option maxRecDepth 100000
namespace Go.Proofs.Ytmhmbmogodofeaa.S
open Go.FS Go.RowKit
attribute [local congr] bind_cg cond_cg gd_cg
/-! With. -/
theorem jn_rule {α β : Type} {r : α} {f : α → β} (P : α → Prop) (Q : β → Prop) (h1 : P r) (h2 : ∀ k, P k → Q (f k)) : Q (jn r f) := by rw [jnE]; exact h2 r h1
def ltN (name : ByteArray) (a : Lab) : Bool := Op.bytesLess a.1.toList name.toList
def delN (l : List Lab) (name : ByteArray) : List Lab := l.filter (keepN name)
def insN (out : List Lab) (name value : ByteArray) : List Lab := out.takeWhile (ltN name) ++ (name, value) :: out.dropWhile (ltN name)
def emp (b : ByteArray) : Bool := b.toList == ByteArray.toList ⟨#[]⟩
def outM (l : List Lab) (name value : ByteArray) : List Lab := if emp value then delN l name else insN (delN l name) name value
def resW (ok : Bool) (X : List Lab) : Value := if ok then .tuple #[sl lab 0 X, .int .i64 0] else .tuple #[sl lab 2 [], .int .i64 40]
def okW (l : List Lab) (name value : ByteArray) : Bool := okL l && okL (outM l name value)
theorem tw_len (p : Lab → Bool) : ∀ (l : List Lab), (l.takeWhile p).length ≤ l.length
  | [] => Nat.le_refl _
  | a :: l => by
    have := tw_len p l
    rw [List.takeWhile_cons]
    split <;> simp only [List.length_cons, List.length_nil] <;> omega
theorem tw_take (p : Lab → Bool) (l : List Lab) : l.take (l.takeWhile p).length = l.takeWhile p ∧ l.drop (l.takeWhile p).length = l.dropWhile p := by
  induction l with
  | nil => exact ⟨rfl, rfl⟩
  | cons a l ih =>
    rw [List.takeWhile_cons, List.dropWhile_cons]
    split
    · simp [ih.1, ih.2]
    · exact ⟨rfl, rfl⟩
theorem tw_step (p : Lab → Bool) : ∀ {l : List Lab} {k : Nat}, k ≤ (l.takeWhile p).length → (h : k < l.length) → (p l[k] = true ↔ k < (l.takeWhile p).length)
  | a :: l, k, hk, h => by
    rw [List.takeWhile_cons] at hk ⊢
    cases hp : p a with
    | true =>
      rw [hp] at hk
      rw [if_pos rfl] at hk ⊢
      cases k with
      | zero => simp [hp]
      | succ k =>
        have := tw_step p (l := l) (k := k) (by simpa using hk) (by simpa using h)
        simp only [List.getElem_cons_succ, List.length_cons]
        rw [this]; omega
    | false =>
      rw [hp] at hk
      rw [if_neg (by simp)] at hk
      simp only [List.length_nil, Nat.le_zero] at hk
      subst hk
      simp [hp]
theorem rowL_isS : ∀ (l : List Lab), (rowL l).all T.isS = true
  | [] => rfl
  | a :: l => by
    rw [rowL_cons]
    show (true && (true && (rowL l).all T.isS)) = true
    rw [rowL_isS l]; rfl
theorem bs22_1 (s : SH) (x : Lab) : buildSliceD Try.prog true s 22 1 [(0, .agg (lab x).toArray)] = some (rl s.n 1 5, newD s (.row (lab x))) := by kernel_rfl
theorem c78 {n id q c k : Nat} {s : SH} {R out : List Lab} (nv : Lab) (hc : c / 2 = 2) (hid : id < s.n) (hL : LR id s R) (hq : q ≤ R.length) (hR : R.take q = out) (hk : k ≤ q) (hq2 : q ≤ 1000) :
    callD Try.prog AB (n + 1) (.fn 78) [rl id q c, .int .i64 (k : Int), rl s.n 1 5] (newD s (.row (lab nv))) = some [(rl (s.n + 1) (q + 1) 4, delD (newD (newD s (.row (lab nv))) (.row (rowL (out.take k ++ nv :: out.drop k)))) id)] := by
  rw [call_i (i := T.iIns) rfl]
  have hr1 : rowD (newD s (.row (lab nv))) id = some (rowL R) := row_of (by rw [get_old (by omega)]; exact hL)
  have hr2 : rowD (newD s (.row (lab nv))) s.n = some (lab nv) := row_of (get_new rfl)
  have hins : T.insRow (rowL R) (lab nv) q k = rowL (out.take k ++ nv :: out.drop k) := by
    unfold T.insRow
    rw [rowL_take, rowL_take, rowL_drop, ← hR, List.take_take, Nat.min_eq_left hk]
    have : nv :: (R.take q).drop k = [nv] ++ (R.take q).drop k := rfl
    rw [this, rowL_app, rowL_app, List.append_assoc]; rfl
  show (((rowD (newD s (.row (lab nv))) id).bind fun r => (rowD (newD s (.row (lab nv))) s.n).bind fun x =>
      bif Nat.beq (c / 2) 2 && (Nat.beq (5 / 2) 2 && (decide (0 ≤ (k : Int)) && (decide ((k : Int) ≤ (q : Nat)) && (Nat.ble (q * 2) r.length && (Nat.beq x.length 2 && (r.all T.isS && (x.all T.isS && (!Nat.beq id s.n && Nat.ble q 1000)))))))) then
        some (Value.slice (some ⟨(newD s (.row (lab nv))).n, 0, none⟩) (q + 1) 4, delD (newD (newD s (.row (lab nv))) (.row (T.insRow r x q (k : Int).toNat))) id) else none).map fun p => [p]) = _
  have hx : (lab nv).all T.isS = true := rfl
  rw [hr1, bindS, hr2, bindS, hc, beq_yes, decide_eq_true (show (0 : Int) ≤ (k : Int) by omega), decide_eq_true (show (k : Int) ≤ (q : Nat) by omega), Nat.ble_eq_true_of_le (show q * 2 ≤ (rowL R).length by rw [rowL_len]; omega), rowL_isS, hx, beq_no (show id ≠ s.n by omega), Nat.ble_eq_true_of_le hq2, Int.toNat_natCast, hins]
  rfl
theorem SmallL.sub {l m : List Lab} (h : SmallL l) (hs : ∀ a ∈ m, a ∈ l) (hl : m.length ≤ l.length) : SmallL m := ⟨by have := h.1; omega, fun a ha => h.2 a (hs a ha)⟩
theorem outM_small {l : List Lab} {name value : ByteArray} (h : SmallL l) (hl : l.length ≤ 1000) (h1 : name.size < 2 ^ 46) (h2 : value.size < 2 ^ 46) : SmallL (outM l name value) ∧ (outM l name value).length ≤ l.length + 1 := by
  have hd : (delN l name).length ≤ l.length := List.length_filter_le _ _
  have hm : ∀ a ∈ delN l name, a ∈ l := fun a ha => (List.mem_filter.1 ha).1
  unfold outM
  split
  · exact ⟨h.sub hm hd, by omega⟩
  · have e : (insN (delN l name) name value).length = (delN l name).length + 1 := by
      unfold insN
      have := congrArg List.length (List.takeWhile_append_dropWhile (p := ltN name) (l := delN l name))
      rw [List.length_append] at this
      rw [List.length_append, List.length_cons]; omega
    refine ⟨⟨by rw [e]; omega, fun a ha => ?_⟩, by rw [e]; omega⟩
    unfold insN at ha
    rcases List.mem_append.1 ha with ha | ha
    · exact h.2 a (hm a ((List.takeWhile_sublist _).subset ha))
    · rcases List.mem_cons.1 ha with rfl | ha
      · exact ⟨h1, h2⟩
      · exact h.2 a (hm a ((List.dropWhile_sublist _).subset ha))
theorem c27 {n m : Nat} {s : SH} (l : List Lab) (name value : ByteArray) (hl : SmallL l) (h1 : name.size < 2 ^ 46) (h2 : value.size < 2 ^ 46) : callD Try.prog AB (n + 5) (.fn 27) [sl lab m l, .string name, .string value] s = some [(resW (okW l name value) (outM l name value), s)] := by
  have main : One (bodyD Try.prog (AB.row 27) (callD Try.prog AB (n + 4)) AB.N 27 Try.f27 [sl lab m l, .string name, .string value] s) fun v' s' => ∃ a, v' = .tuple a ∧ ∃ A B s2, resW (okW l name value) (outM l name value) = .tuple #[A, B] ∧ (stripN 8 s.n A = A ∧ Bel s.n A) ∧ (∃ z, B = .int .i64 z) ∧ frzL (frz2 s.n) a.toList s' = ([A, B], s2) ∧ Ext s s2 := by
    show One (bodyD Try.prog true _ _ 27 Try.f27 _ s) _
    rw [f27_r]
    have b1 : boxD s (.string name) = some (.pointer (some ⟨s.n, 0, none⟩), newD s (.row [.string name])) := box_at rfl rfl
    have hS1 : Sm s.n s (newD s (.row [.string name])) := (Sm.refl _ _).new (Nat.le_refl _) _
    have hn1 : (newD s (.row [.string name])).n = s.n + 1 := rfl
    have hg1 : HP.get (newD s (.row [.string name])).h s.n = some (.row [.string name]) := get_new rfl
    generalize newD s (.row [.string name]) = s1 at b1 hS1 hn1 hg1
    have h22 := c22 (n := n + 1) (m := m) (s := s1) l hl
    have bad : ∀ s4, okW l name value = false → Sm s.n s s4 → One (some [((.tuple #[sl lab 2 [], .int .i64 40] : Value), s4)]) fun v' s' => ∃ a, v' = .tuple a ∧ ∃ A B s2, resW (okW l name value) (outM l name value) = .tuple #[A, B] ∧ (stripN 8 s.n A = A ∧ Bel s.n A) ∧ (∃ z, B = .int .i64 z) ∧ frzL (frz2 s.n) a.toList s' = ([A, B], s2) ∧ Ext s s2 := fun s4 hb h4 =>
      One.ret ⟨_, rfl, sl lab 2 [], .int .i64 40, s4, by unfold resW; rw [hb]; rfl, ⟨strip_labs _ _ _ (by omega), bel_slm (by omega) fun x _ => lab_bel _ x⟩, ⟨_, rfl⟩, rfl, h4⟩
    by_cases hok : okL l = true
    · rw [if_pos hok] at h22
      obtain ⟨hl0, hl16, _⟩ := okL_size hok
      have hne : l ≠ [] := fun e => by rw [e] at hl0; exact absurd hl0 (by simp)
      obtain ⟨w, s2, e2, ⟨id, c, rfl, r1, r2, r3, r4⟩, k2⟩ := c64 (n := n + 3) (s := s1) (.inr ⟨m, rfl, hne⟩ : LbIn s1 (sl lab m l) l) (by omega)
      have n2 := k2.1
      obtain ⟨s3, c', R', e3, hc', hL3, hRl, hRt, hn3, hs3⟩ := c76 (n := n + 1) (s := s2) (id := id) (p := s.n) (c := c) (l := l) (name := name) r3 r2 (by omega) (by omega) (by omega) r4 (by rw [k2.2 _ (by omega)]; exact hg1)
      have hdel : l.filter (keepN name) = delN l name := rfl
      rw [hdel] at e3 hRt
      have hdl : (delN l name).length ≤ l.length := List.length_filter_le _ _
      have hS3 : Sm s.n s s3 := ⟨by have := hS1.1; omega, fun j hj => by rw [hs3 j (by omega) (by omega), k2.2 j (by omega), hS1.2 j hj]⟩
      have hg3 : HP.get s3.h s.n = some (.row [.string name]) := by rw [hs3 _ (by omega) (by omega), k2.2 _ (by omega)]; exact hg1
      have hev : bopD Try.prog .neq 9 (.string value) (.string ⟨#[]⟩) = some (.bool (!emp value)) := rfl
      obtain ⟨hso, hsl⟩ := outM_small (name := name) (value := value) hl (by omega) h1 h2
      have hX : okW l name value = okL (outM l name value) := by unfold okW; rw [hok]; rfl
      simp only [f27, o_bool, o_alloc, o_box, o_build, o_buildSlice, o_load, o_store, o_nilCheck, o_bop, o_uop, o_conv, o_slc, o_fieldAddr, o_field, o_indexAddr, o_index, o_extract, o_len, o_append, o_clear, o_tgt, bindS, many1, boolS, gdB, fst', snd', b1, h22, b_neq, decide_true, Bool.not_true, condF, e2, e3, hev]
      refine jn_rule (fun f => ∀ v s', (∃ id' c'' R, v = rl id' (outM l name value).length c'' ∧ c'' / 2 = 2 ∧ s.n ≤ id' ∧ id' < s'.n ∧ LR id' s' R ∧ (outM l name value).length ≤ R.length ∧ R.take (outM l name value).length = outM l name value ∧ Sm s.n s s') → One (f v s') fun v' s' => ∃ a, v' = .tuple a ∧ ∃ A B s2, resW (okW l name value) (outM l name value) = .tuple #[A, B] ∧ (stripN 8 s.n A = A ∧ Bel s.n A) ∧ (∃ z, B = .int .i64 z) ∧ frzL (frz2 s.n) a.toList s' = ([A, B], s2) ∧ Ext s s2)
        (fun r => One r fun v' s' => ∃ a, v' = .tuple a ∧ ∃ A B s2, resW (okW l name value) (outM l name value) = .tuple #[A, B] ∧ (stripN 8 s.n A = A ∧ Bel s.n A) ∧ (∃ z, B = .int .i64 z) ∧ frzL (frz2 s.n) a.toList s' = ([A, B], s2) ∧ Ext s s2) ?_ ?_
      · rintro v s4 ⟨id', c'', R, rfl, hc'', hi1, hi2, hL4, hR1, hR2, hS4⟩
        have h22b := c22r (n := n + 1) (c := c'') hi2 hL4 hR1 (outM l name value) hR2.symm hso
        have hfz := frz_rl (lo := s.n) (c := c'') hi1 hc'' hR1 hL4
        rw [hR2] at hfz
        by_cases hok2 : okL (outM l name value) = true
        · rw [if_pos hok2] at h22b
          simp only [o_bool, o_alloc, o_box, o_build, o_buildSlice, o_load, o_store, o_nilCheck, o_bop, o_uop, o_conv, o_slc, o_fieldAddr, o_field, o_indexAddr, o_index, o_extract, o_len, o_append, o_clear, o_tgt, bindS, many1, boolS, gdB, fst', snd', h22b, b_neq, decide_true, Bool.not_true, condF]
          refine One.ret ⟨_, rfl, sl lab 0 (outM l name value), .int .i64 0, delD s4 id', by unfold resW; rw [hX, if_pos hok2], ⟨strip_labs _ _ _ (by omega), bel_slm (by omega) fun x _ => lab_bel _ x⟩, ⟨_, rfl⟩, ?_, ⟨hS4.1, fun j hj => by rw [get_del (by omega), hS4.2 j hj]⟩⟩
          show ((frz1 s.n s4 (rl id' (outM l name value).length c'')).1 :: [Value.int .i64 0], (frz1 s.n s4 (rl id' (outM l name value).length c'')).2) = _
          rw [hfz]
        · rw [if_neg hok2] at h22b
          simp only [o_bool, o_alloc, o_box, o_build, o_buildSlice, o_load, o_store, o_nilCheck, o_bop, o_uop, o_conv, o_slc, o_fieldAddr, o_field, o_indexAddr, o_index, o_extract, o_len, o_append, o_clear, o_tgt, bindS, many1, boolS, gdB, fst', snd', h22b, b_neq, show ¬ ((40 : Int) = 0) from by decide, decide_false, Bool.not_false, condT]
          exact bad s4 (by rw [hX]; simpa using hok2) hS4
      · intro f hf
        cases hemp : emp value with
        | true =>
          have hout : outM l name value = delN l name := by unfold outM; rw [hemp, if_pos rfl]
          simp only [Bool.not_true, condF]
          exact hf _ _ ⟨id, c', R', by rw [hout], hc', by omega, by omega, hL3, by rw [hout]; omega, by rw [hout]; exact hRt, hS3⟩
        | false =>
          have hout : outM l name value = insN (delN l name) name value := by unfold outM; rw [hemp, if_neg (by simp)]
          simp only [Bool.not_false, condT]
          have htl := tw_len (ltN name) (delN l name)
          have hlenQ : ∀ s : SH, lenOfD Try.prog s 23 (rl id (delN l name).length c') = some (.int .i64 ((delN l name).length : Int)) := fun s => lenr s
          refine loop_rule (fun d (x : Value) (s' : SH) => s' = s3 ∧ ∃ k : Nat, k + d = (delN l name).length ∧ k ≤ ((delN l name).takeWhile (ltN name)).length ∧ x = .int .i64 (k : Int)) (fun r => One r fun v' s' => ∃ a, v' = .tuple a ∧ ∃ A B s2, resW (okW l name value) (outM l name value) = .tuple #[A, B] ∧ (stripN 8 s.n A = A ∧ Bel s.n A) ∧ (∃ z, B = .int .i64 z) ∧ frzL (frz2 s.n) a.toList s' = ([A, B], s2) ∧ Ext s s2) ?_ _ (delN l name).length _ _ ⟨rfl, 0, by omega, Nat.zero_le _, rfl⟩ (by show _ < 2 ^ 64; omega)
          rintro d x s4 ⟨rfl, k, hkd, hkt, rfl⟩ nx hnx
          -- the end of the loop
          have fin : k = ((delN l name).takeWhile (ltN name)).length → ∃ s5, callD Try.prog AB (n + 4) (.fn 78) [rl id (delN l name).length c', .int .i64 (k : Int), rl s4.n 1 5] (newD s4 (.row (lab (name, value)))) = some [(rl (s4.n + 1) (outM l name value).length 4, s5)] ∧ (∃ id' c'' R, rl (s4.n + 1) (outM l name value).length 4 = rl id' (outM l name value).length c'' ∧ c'' / 2 = 2 ∧ s.n ≤ id' ∧ id' < s5.n ∧ LR id' s5 R ∧ (outM l name value).length ≤ R.length ∧ R.take (outM l name value).length = outM l name value ∧ Sm s.n s s5) := fun hk => by
            have h78 := c78 (n := n + 3) (s := s4) (id := id) (c := c') (k := k) (name, value) hc' (by omega) hL3 (show (delN l name).length ≤ R'.length by omega) hRt (by omega) (by omega)
            obtain ⟨tw1, tw2⟩ := tw_take (ltN name) (delN l name)
            rw [← hk] at tw1 tw2
            have hins : (delN l name).take k ++ (name, value) :: (delN l name).drop k = outM l name value := by rw [hout, tw1, tw2]; rfl
            rw [hins] at h78
            have hol : (outM l name value).length = (delN l name).length + 1 := by
              rw [← hins, List.length_append, List.length_cons, List.length_take, List.length_drop]; omega
            rw [← hol] at h78
            refine ⟨_, h78, s4.n + 1, 4, outM l name value, rfl, rfl, by have := hS3.1; omega, by rw [delD_n, newD_n, newD_n]; omega, ?_, Nat.le_refl _, List.take_length, ?_⟩
            · unfold LR
              rw [get_del (by omega)]
              exact get_new rfl
            · refine ⟨by rw [delD_n, newD_n, newD_n]; have := hS3.1; omega, fun j hj => ?_⟩
              have := hS3.1
              rw [get_del (by omega), get_old (by rw [newD_n]; omega), get_old (by omega), hS3.2 j hj]
          by_cases hk2 : k < (delN l name).length
          · have hlt : (k : Int) < ((delN l name).length : Int) := by omega
            have hw : IntKind.i64.wrap ((k : Int) + 1) = ((k + 1 : Nat) : Int) := by rw [wrap_i64 (by omega) (by omega)]; rfl
            have hRk : R'[k]'(by omega) = (delN l name)[k] := by
              have := congrArg (fun z : List Lab => z[k]?) hRt
              simp only [List.getElem?_take_of_lt hk2] at this
              rw [List.getElem?_eq_getElem (show k < R'.length by omega), List.getElem?_eq_getElem hk2] at this
              injection this
            have hld := ldr0 hL3 (show k < R'.length by omega)
            rw [hRk] at hld
            have hstep := tw_step (ltN name) hkt hk2
            have hcmp : bopD Try.prog .lss 9 (.string (delN l name)[k].1) (.string name) = some (.bool (ltN name (delN l name)[k])) := rfl
            simp only [f27_l0, o_bool, o_alloc, o_box, o_build, o_buildSlice, o_load, o_store, o_nilCheck, o_bop, o_uop, o_conv, o_slc, o_fieldAddr, o_field, o_indexAddr, o_index, o_extract, o_lookup, o_mapUpdate, o_makeSlice, o_clear, o_makeMap, o_mapEntry, o_entryStore, o_delete, o_len, o_append, o_min, o_max, o_tgt, bindS, many1, jnE, boolS, gdB, fst', snd', hlenQ, bop_lss, hlt, decide_true, condT, ix23 hk2, fldr0, hld, ldn hg3, hcmp]
            cases hp : ltN name (delN l name)[k] with
            | true =>
              simp only [condT, bop_add, hw, bindS]
              exact hnx (d - 1) _ _ (by omega) ⟨rfl, k + 1, by omega, by have := hstep.1 hp; omega, rfl⟩
            | false =>
              obtain ⟨s5, h78, hh⟩ := fin (by
                have : ¬ k < ((delN l name).takeWhile (ltN name)).length := fun h => by have := hstep.2 h; rw [hp] at this; cases this
                omega)
              simp only [condF, beq_yes, condT, ldn hg3, bindS, bld106, bs22_1, h78, many1]
              exact hf _ _ hh
          · have hnlt : ¬ (k : Int) < ((delN l name).length : Int) := by omega
            obtain ⟨s5, h78, hh⟩ := fin (by omega)
            simp only [f27_l0, o_bool, o_alloc, o_box, o_build, o_buildSlice, o_load, o_store, o_nilCheck, o_bop, o_uop, o_conv, o_slc, o_fieldAddr, o_field, o_indexAddr, o_index, o_extract, o_lookup, o_mapUpdate, o_makeSlice, o_clear, o_makeMap, o_mapEntry, o_entryStore, o_delete, o_len, o_append, o_min, o_max, o_tgt, bindS, many1, jnE, boolS, gdB, fst', snd', hlenQ, bop_lss, hnlt, decide_false, condF, beq_yes, condT, ldn hg3, bld106, bs22_1, h78]
            exact hf _ _ hh
    · rw [if_neg hok] at h22
      simp only [f27, o_bool, o_alloc, o_box, o_build, o_buildSlice, o_load, o_store, o_nilCheck, o_bop, o_uop, o_conv, o_slc, o_fieldAddr, o_field, o_indexAddr, o_index, o_extract, o_lookup, o_mapUpdate, o_makeSlice, o_clear, o_makeMap, o_mapEntry, o_entryStore, o_delete, o_len, o_append, o_min, o_max, o_tgt, bindS, many1, jnE, boolS, gdB, fst', snd', b1, h22, b_neq, show ¬ ((40 : Int) = 0) from by decide, decide_false, Bool.not_false, condT]
      exact bad s1 (by unfold okW; rw [Bool.eq_false_iff.2 hok]; rfl) hS1
  obtain ⟨v', s', e, a, rfl, A, B, s5, hres, ⟨hA1, hA2⟩, ⟨z, rfl⟩, hf, hx⟩ := main
  have hc := cutT_call (A := AB) (n := n + 4) (f := 27) (fn := Try.f27) (args := [sl lab m l, .string name, .string value]) (s := s) (l := [A, .int .i64 z]) rfl rfl (by kernel_rfl) (fun c hc => by
    simp only [List.mem_cons, List.not_mem_nil, or_false] at hc
    rcases hc with rfl | rfl
    · rw [hA1]; exact hA2
    · exact .int _ _) ⟨_, _, e, a, rfl, s5, hf, hx⟩
  rw [hc, hres]
  simp only [List.map_cons, List.map_nil, hA1]
  rfl
end Go.Proofs.Ytmhmbmogodofeaa.S
