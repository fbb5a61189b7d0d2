import Derived.Test.YtmhmbmogodofeaaCWd
set_option autoImplicit false
set_option linter.unusedVariables false
set_option linter.unusedSimpArgs false
set_option maxRecDepth 100000
namespace Go.Proofs.Ytmhmbmogodofeaa.S
open Go.FS Go.RowKit
attribute [local congr] bind_cg cond_cg gd_cg
/-! The plain law of With. -/
abbrev RisL (l : List Lab) : Prop := l.Pairwise fun a b => lt' a.1.toList b.1.toList
theorem isN_eq {name : ByteArray} {a : Lab} : isN name a = true ↔ a.1 = name := by
  unfold isN
  rw [beq_iff_eq, ba_toList, ba_toList]
  exact ⟨fun h => ba_ext h, fun h => by rw [h]⟩
theorem isN_self {name value : ByteArray} : isN name (name, value) = true := isN_eq.2 rfl
theorem lt_ltN {name : ByteArray} {a : Lab} : ltN name a = true ↔ lt' a.1.toList name.toList := Iff.rfl
theorem ltN_keep {name : ByteArray} {a : Lab} (h : ltN name a = true) : keepN name a = true := by
  unfold keepN
  cases e : isN name a with
  | false => rfl
  | true =>
    have := isN_eq.1 e
    exact absurd (congrArg ByteArray.toList this) (lt_ne (lt_ltN.1 h))
theorem emp_eq {b : ByteArray} : emp b = true ↔ b = ⟨#[]⟩ := by
  unfold emp
  rw [beq_iff_eq, ba_toList, ba_toList]
  exact ⟨fun h => ba_ext h, fun h => by rw [h]⟩
/-- The reference's way: through the set, the new one ahead of the first that is not below it. -/
def goW (name value : ByteArray) : List Lab → Bool → List Lab
  | [], put => if put then [] else [(name, value)]
  | a :: l, put => (if !put && !ltN name a then [(name, value)] else []) ++ ((if keepN name a then [a] else []) ++ goW name value l (put || !ltN name a))
theorem goW_true (name value : ByteArray) : ∀ (l : List Lab), goW name value l true = delN l name
  | [] => rfl
  | a :: l => by
    show [] ++ ((if keepN name a then [a] else []) ++ goW name value l (true || !ltN name a)) = _
    rw [Bool.true_or, goW_true name value l]
    unfold delN
    rw [List.filter_cons]
    cases keepN name a <;> rfl
theorem goW_false (name value : ByteArray) : ∀ {l : List Lab}, RisL l → goW name value l false = insN (delN l name) name value
  | [], _ => rfl
  | a :: l, h => by
    have h2 := List.pairwise_cons.1 h
    show (if !false && !ltN name a then [(name, value)] else []) ++ ((if keepN name a then [a] else []) ++ goW name value l (false || !ltN name a)) = _
    cases hl : ltN name a with
    | true =>
      have hk := ltN_keep hl
      have hd : delN (a :: l) name = a :: delN l name := by unfold delN; rw [List.filter_cons, if_pos hk]
      rw [hk, hd, Bool.not_true, Bool.or_false, goW_false name value h2.2]
      unfold insN
      rw [List.takeWhile_cons, hl, List.dropWhile_cons, hl]
      rfl
    | false =>
      rw [Bool.not_false, Bool.or_true, goW_true]
      have hall : ∀ b ∈ delN (a :: l) name, ltN name b = false := fun b hb => by
        have hb := (List.mem_filter.1 hb).1
        rcases List.mem_cons.1 hb with rfl | hb
        · exact hl
        · cases e : ltN name b with
          | false => rfl
          | true =>
            have h3 : lt' a.1.toList name.toList := lt_le_trans (h2.1 b hb) (le_of_lt' (lt_ltN.1 e))
            rw [lt_ltN.2 h3] at hl; cases hl
      have hd : delN (a :: l) name = (if keepN name a then [a] else []) ++ delN l name := by
        unfold delN; rw [List.filter_cons]; cases keepN name a <;> rfl
      rw [← hd]
      unfold insN
      have : (delN (a :: l) name).takeWhile (ltN name) = [] ∧ (delN (a :: l) name).dropWhile (ltN name) = delN (a :: l) name := by
        generalize delN (a :: l) name = m at hall
        cases m with
        | nil => exact ⟨rfl, rfl⟩
        | cons b m =>
          rw [List.takeWhile_cons, List.dropWhile_cons, hall b (List.mem_cons_self ..)]
          exact ⟨rfl, rfl⟩
      rw [this.1, this.2]
      rfl
theorem goW_out {l : List Lab} (name value : ByteArray) (h : RisL l) : goW name value l (emp value) = outM l name value := by
  unfold outM
  cases emp value with
  | true => rw [goW_true, if_pos rfl]
  | false => rw [goW_false name value h, if_neg (by simp)]
theorem delN_del (l : List Lab) (name : ByteArray) : delN (delN l name) name = delN l name := by
  unfold delN; rw [List.filter_filter]; simp
theorem delN_out (l : List Lab) (name value : ByteArray) : delN (outM l name value) name = delN l name := by
  unfold outM
  split
  · exact delN_del l name
  · have hk : keepN name (name, value) = false := by unfold keepN; rw [isN_self]; rfl
    have : insN (delN l name) name value = (delN l name).takeWhile (ltN name) ++ ([(name, value)] ++ (delN l name).dropWhile (ltN name)) := rfl
    rw [this]
    have e : delN ((delN l name).takeWhile (ltN name) ++ ([(name, value)] ++ (delN l name).dropWhile (ltN name))) name = delN ((delN l name).takeWhile (ltN name) ++ (delN l name).dropWhile (ltN name)) name := by
      unfold delN
      rw [List.filter_append, List.filter_append, List.filter_append]
      congr 1
      have : List.filter (keepN name) [(name, value)] = [] := by rw [List.filter_cons, if_neg (by rw [hk]; simp)]; rfl
      rw [this]; rfl
    rw [e, List.takeWhile_append_dropWhile, delN_del]
theorem getM_out (l : List Lab) (name value : ByteArray) : getM (outM l name value) name = value := by
  have hnone : ∀ m : List Lab, (∀ a ∈ m, isN name a = false) → m.find? (isN name) = none := fun m h => List.find?_eq_none.2 fun a ha => by rw [h a ha]; simp
  have hdel : ∀ a ∈ delN l name, isN name a = false := fun a ha => by
    have := (List.mem_filter.1 ha).2
    unfold keepN at this
    simpa using this
  cases he : emp value with
  | true =>
    have : outM l name value = delN l name := by unfold outM; rw [he, if_pos rfl]
    unfold getM
    rw [this, hnone _ hdel, emp_eq.1 he]
  | false =>
    have : outM l name value = insN (delN l name) name value := by unfold outM; rw [he, if_neg (by simp)]
    unfold getM
    rw [this]
    unfold insN
    rw [List.find?_append, hnone _ fun a ha => hdel a ((List.takeWhile_sublist _).subset ha), List.find?_cons, isN_self]
    rfl
theorem getM_size {l : List Lab} (h : SmallL l) (name : ByteArray) : (getM l name).size < 2 ^ 46 := by
  unfold getM
  cases hf : l.find? (isN name) with
  | none => show 0 < 2 ^ 46; decide
  | some a => exact (h.2 a (List.mem_of_find?_eq_some hf)).2
theorem goW_self (name value : ByteArray) : ∀ {l : List Lab}, RisL l → (name, value) ∈ l → goW name value l false = l
  | a :: l, h, hm => by
    have h2 := List.pairwise_cons.1 h
    show (if !false && !ltN name a then [(name, value)] else []) ++ ((if keepN name a then [a] else []) ++ goW name value l (false || !ltN name a)) = _
    cases hl : ltN name a with
    | true =>
      have hk := ltN_keep hl
      have hm2 : (name, value) ∈ l := by
        rcases List.mem_cons.1 hm with e | hm
        · exfalso
          have := lt_ltN.1 hl
          rw [← e] at this
          exact lt_ne this rfl
        · exact hm
      rw [hk, Bool.not_true, Bool.or_false, goW_self name value h2.2 hm2]
      rfl
    | false =>
      have ha : a = (name, value) := by
        rcases List.mem_cons.1 hm with e | hm
        · exact e.symm
        · have := h2.1 _ hm
          rw [lt_ltN.2 this] at hl; cases hl
      subst ha
      have hk : keepN name (name, value) = false := by unfold keepN; rw [isN_self]; rfl
      have hd : delN l name = l := by
        unfold delN
        rw [List.filter_eq_self]
        intro b hb
        unfold keepN
        cases e : isN name b with
        | false => rfl
        | true => exact absurd (congrArg ByteArray.toList (isN_eq.1 e)).symm (lt_ne (h2.1 b hb))
      rw [hk, Bool.not_false, Bool.or_true, goW_true, hd]
      rfl
/-- With the value that there was it is as it was. -/
theorem out_self {l : List Lab} (hok : okL l = true) (name : ByteArray) : outM l name (getM l name) = l := by
  obtain ⟨hv, hr⟩ := chk_ris (okL_chk hok)
  cases hf : l.find? (isN name) with
  | none =>
    have hg : getM l name = ⟨#[]⟩ := by unfold getM; rw [hf]
    have hn := List.find?_eq_none.1 hf
    unfold outM
    rw [hg, if_pos (emp_eq.2 rfl)]
    unfold delN
    rw [List.filter_eq_self]
    intro b hb
    unfold keepN
    have := hn b hb
    simpa using this
  | some a =>
    have hg : getM l name = a.2 := by unfold getM; rw [hf]
    have ha := List.mem_of_find?_eq_some hf
    have hia := isN_eq.1 (List.find?_some hf)
    have hne : emp a.2 = false := (hv a ha).2
    have hm : (name, a.2) ∈ l := by rw [← hia]; exact ha
    rw [hg, ← goW_out name a.2 hr, hne, goW_self name a.2 hr hm]
/-! The statement LabelUndone. -/
theorem min100 (n : Nat) : minD Try.prog (.int .i64 (n : Int)) [.int .i64 100] = some (.int .i64 ((min n 100 : Nat) : Int)) := min_nat .i64 n 100
theorem min300 (n : Nat) : minD Try.prog (.int .i64 (n : Int)) [.int .i64 300] = some (.int .i64 ((min n 300 : Nat) : Int)) := min_nat .i64 n 300
theorem slcB (s : SH) (b : ByteArray) (k : Nat) : slcD Try.prog s 9 (.string b) none (some (.int .i64 ((min b.size k : Nat) : Int))) none = some (.string (cutB b k)) := slc_str u9 b (Nat.min_le_left _ _)
theorem run7 {n m : Nat} (s : SH) (l : List Lab) (name value : ByteArray) : ∃ s', callD Try.prog AB (n + 7) (.fn 7) [sl lab m l, .string name, .string value] s = some [(.bool true, s')] := by
  rw [call_fn (fn := Try.f7) rfl rfl (by kernel_rfl)]
  show ∃ s', bodyD Try.prog false _ _ 7 Try.f7 _ s = _
  rw [f7_r]
  obtain ⟨m1, s1, e1, _⟩ := c18 (n := n + 5) (m := m) (s := s) l
  have hS := few4_S l
  have hL := (few4_small l).1
  generalize few4 l = L at e1 hS hL
  have hN : (cutB name 100).size ≤ 100 := by rw [cutB_size]; omega
  have hV : (cutB value 300).size ≤ 300 := by rw [cutB_size]; omega
  have s1N := slcB s1 name 100
  have s1V := slcB s1 value 300
  generalize cutB name 100 = N at hN s1N
  generalize cutB value 300 = V at hV s1V
  have h27 := c27 (n := n + 1) (m := m1) (s := s1) L N V hS (by omega) (by omega)
  have h17 := c17 (n := n + 5) (s := s)
  by_cases hok : okW L N V = true
  · have hr : resW (okW L N V) (outM L N V) = .tuple #[sl lab 0 (outM L N V), .int .i64 0] := by unfold resW; rw [if_pos hok]
    rw [hr] at h27
    unfold okW at hok
    rw [Bool.and_eq_true] at hok
    have hXS := okL_S hok.2
    have h29 := c29 (n := n + 2) (m := m1) (s := s1) L N hS.1
    have hg2 := getM_size hS N
    generalize hG : getM L N = G at h29 hg2
    have h27b := c27 (n := n + 1) (m := 0) (s := s1) (outM L N V) N G hXS (by omega) hg2
    have hout : outM (outM L N V) N G = L := by
      have e : outM (outM L N V) N G = outM L N G := by
        unfold outM
        rw [show delN (if emp V = true then delN L N else insN (delN L N) N V) N = delN L N from delN_out L N V]
      rw [e, ← hG]; exact out_self hok.1 N
    have hokb : okW (outM L N V) N G = true := by unfold okW; rw [hok.2, hout, hok.1]; rfl
    rw [hokb, hout] at h27b
    have hr2 : resW true L = .tuple #[sl lab 0 L, .int .i64 0] := rfl
    rw [hr2] at h27b
    have h29b := c29 (n := n + 2) (m := 0) (s := s1) (outM L N V) N hXS.1
    rw [getM_out] at h29b
    have h21 := c21 (n := n + 5) (m := 0) (m' := m1) (s := s1) L L (by have := hS.1; omega)
    have hev : bopD Try.prog .eql 9 (.string V) (.string V) = some (.bool (V.toList == V.toList)) := rfl
    rw [beq_self_eq_true] at hev
    simp only [f7, o_bool, o_alloc, o_box, o_build, o_buildSlice, o_load, o_store, o_nilCheck, o_bop, o_uop, o_conv, o_slc, o_fieldAddr, o_field, o_indexAddr, o_index, o_extract, o_lookup, o_mapUpdate, o_makeSlice, o_clear, o_makeMap, o_mapEntry, o_entryStore, o_delete, o_len, o_append, o_min, o_max, o_tgt, bindS, many1, jnE, boolS, gdB, fst', snd', h17, uop_not, Bool.not_true, condF, e1, len_str u9, min100, min300, s1N, s1V, h27, (ext2 _ _).1, (ext2 _ _).2, b_neq, decide_true, h29, h27b, h29b, hev, condT, bop_eql, h21]
    exact ⟨_, rfl⟩
  · have hr : resW (okW L N V) (outM L N V) = .tuple #[sl lab 2 [], .int .i64 40] := by unfold resW; rw [if_neg hok]
    rw [hr] at h27
    have hlen : lenOfD Try.prog s1 23 (sl lab 2 []) = some (.int .i64 (([] : List Lab).length : Int)) := len_sl u23
    simp only [f7, o_bool, o_alloc, o_box, o_build, o_buildSlice, o_load, o_store, o_nilCheck, o_bop, o_uop, o_conv, o_slc, o_fieldAddr, o_field, o_indexAddr, o_index, o_extract, o_lookup, o_mapUpdate, o_makeSlice, o_clear, o_makeMap, o_mapEntry, o_entryStore, o_delete, o_len, o_append, o_min, o_max, o_tgt, bindS, many1, jnE, boolS, gdB, fst', snd', h17, uop_not, Bool.not_true, condF, e1, len_str u9, min100, min300, s1N, s1V, h27, (ext2 _ _).1, (ext2 _ _).2, b_neq, show ¬ ((40 : Int) = 0) from by decide, decide_false, Bool.not_false, condT, hlen, bop_eql]
    exact ⟨_, rfl⟩
end Go.Proofs.Ytmhmbmogodofeaa.S
