import Derived.Test.YtmhmbmogodofeaaCYc
set_option autoImplicit false
set_option linter.unusedVariables false
set_option linter.unusedSimpArgs false
set_option maxRecDepth 100000
namespace Go.Proofs.Ytmhmbmogodofeaa.S
open Go.FS Go.RowKit
attribute [local congr] bind_cg cond_cg gd_cg
/-! What a call hands on: several values. -/
section cut
variable {G : Nat → Option (Array Value)} {P : Program}
theorem cutL_none {s s' : St (FG G)} : ∀ (l : List Value) (fl : List (Option Nat)) (st : St (FG G)), (∀ x ∈ fl, x = none) → (∀ c ∈ l, Bel s.n (stripN 8 s.n c)) → cutL s s' fl l st = some (l.map (stripN 8 s.n), st)
  | [], fl, st, _, _ => rfl
  | c :: l, fl, st, hf, hb => by
    have e : fl.headD none = none := by cases fl with
      | nil => rfl
      | cons a _ => exact hf a (List.mem_cons_self ..)
    unfold cutL
    rw [e]
    have e2 : cutC s s' st none c = some (stripN 8 s.n c, st) := by
      unfold cutC
      simp only
      rw [if_pos (hb c (List.mem_cons_self ..))]
    rw [e2]
    show ((cutL s s' fl.tail l st).map _) = _
    rw [cutL_none l fl.tail st (fun x hx => hf x (List.mem_of_mem_tail hx)) fun x hx => hb x (List.mem_cons_of_mem _ hx)]
    rfl
theorem cut_tup {s s' s2 : St (FG G)} {a : Array Value} {l : List Value} (hf : frzL (frz2 s.n) a.toList s' = (l, s2)) (h : Ext s s2) (hb : ∀ c ∈ l, Bel s.n (stripN 8 s.n c)) : cutJ [none] s [(.tuple a, s')] = some [(.tuple (l.map (stripN 8 s.n)).toArray, s)] := by
  have hc : s.n ≤ s2.n ∧ (∀ i, i < s.n → (FG G).get s2.h i = (FG G).get s.h i ∨ BelO s.n ((FG G).get s2.h i)) ∧ (([none] : List (Option Nat)).filter Option.isSome).length ≤ 1 := ⟨h.1, fun i hi => .inl (h.2 i hi), by decide⟩
  have e0 : frzT s.n s' (.tuple a) = (.tuple l.toArray, s2) := by
    show (Value.tuple (frzL (frz2 s.n) a.toList s').1.toArray, (frzL (frz2 s.n) a.toList s').2) = _
    rw [hf]
  have e : cutD [none] s (.tuple a) s' = some (.tuple (l.map (stripN 8 s.n)).toArray, s) := by
    unfold cutD
    rw [e0]
    show cutD0 [none] s (.tuple l.toArray) s2 = _
    unfold cutD0
    rw [if_pos hc]
    show ((cutL s s2 [none] l.toArray.toList (mrg s s2)).map _) = _
    rw [mrg_same h, cutL_none l [none] s (fun x hx => by simpa using hx) hb]
    rfl
  unfold cutJ
  simp only [List.map_cons, List.map_nil, e, Option.map_some, joinO, List.append_nil, merge_one]
theorem cutT_call {A : Ann (FG G)} {n : Nat} {f : FuncId} {fn : Func} (hI : A.i f = none) (hc : A.cut f = some [none]) (hf : P.funcs[f]? = some fn) {args : List Value} {s : St (FG G)} {l : List Value} (hb : ∀ c ∈ l, Bel s.n (stripN 8 s.n c))
    (h : One (bodyD P (A.row f) (callD P A n) A.N f fn args s) fun v' s' => ∃ a, v' = .tuple a ∧ ∃ s2, frzL (frz2 s.n) a.toList s' = (l, s2) ∧ Ext s s2) : callD P A (n + 1) (.fn f) args s = some [(.tuple (l.map (stripN 8 s.n)).toArray, s)] := by
  obtain ⟨v', s', e, a, rfl, s2, h1, h2⟩ := h
  rw [call_cut hI hc hf, e, bindS, cut_tup h1 h2 hb]
end cut
/-! Rows of texts. -/
def tx (x : Str) : List Value := [encStr x]
theorem tx_len (x : Str) : (tx x).length = 1 := rfl
abbrev rs (id n c : Nat) : Value := .slice (some ⟨id, 0, none⟩) n c
/-- A row that begins with these texts. -/
def RowS (lo : Nat) (s : SH) (v : Value) (l : List Str) : Prop := ∃ id c, v = rs id l.length c ∧ lo ≤ id ∧ id < s.n ∧ c / 2 = 1 ∧ ∃ z, HP.get s.h id = some (.row (l.map encStr ++ z))
/-- A row of just these. -/
def RowE (lo : Nat) (s : SH) (v : Value) (l : List Str) : Prop := ∃ id c, v = rs id l.length c ∧ lo ≤ id ∧ id < s.n ∧ c / 2 = 1 ∧ HP.get s.h id = some (.row (l.map encStr))
theorem RowE.s {lo : Nat} {s : SH} {v : Value} {l : List Str} (h : RowE lo s v l) : RowS lo s v l := by
  obtain ⟨id, c, h1, h2, h3, h4, h5⟩ := h
  exact ⟨id, c, h1, h2, h3, h4, [], by rw [List.append_nil]; exact h5⟩
theorem RowS.same {lo : Nat} {s s' : SH} {v : Value} {l : List Str} (h : RowS lo s v l) (k : Sm s.n s s') : RowS lo s' v l := by
  obtain ⟨id, c, h1, h2, h3, h4, z, h5⟩ := h
  exact ⟨id, c, h1, h2, Nat.lt_of_lt_of_le h3 k.1, h4, z, by rw [k.2 id h3]; exact h5⟩
theorem RowE.same {lo : Nat} {s s' : SH} {v : Value} {l : List Str} (h : RowE lo s v l) (k : Sm s.n s s') : RowE lo s' v l := by
  obtain ⟨id, c, h1, h2, h3, h4, h5⟩ := h
  exact ⟨id, c, h1, h2, Nat.lt_of_lt_of_le h3 k.1, h4, by rw [k.2 id h3]; exact h5⟩
theorem len_rs {lo : Nat} {s s' : SH} {v : Value} {l : List Str} (h : RowS lo s v l) : lenOfD Try.prog s' 45 v = some (.int .i64 l.length) := by
  obtain ⟨id, c, rfl, _⟩ := h
  simp only [lenOfD, u45]
theorem ix_rs {id n c i : Nat} {k : IntKind} (hi : i < n) : indexAddrD Try.prog 45 (rs id n c) (.int k (i : Int)) = some (.pointer (some ⟨id, i, none⟩)) := by
  have h0 : decide ((0 : Int) ≤ (i : Int)) = true := decide_eq_true (by omega)
  have h1 : decide ((i : Int) < (n : Int)) = true := decide_eq_true (by omega)
  simp only [indexAddrD, u45, z9, bindS, h0, h1, Bool.and_self, condT]
  rw [Int.toNat_natCast, Nat.mul_one, Nat.zero_add]
theorem ld_rs {s : SH} {id i : Nat} {l : List Str} {z : List Value} (hi : i < l.length) (h : HP.get s.h id = some (.row (l.map encStr ++ z))) : loadD Try.prog s 9 (.pointer (some ⟨id, i, none⟩)) = some (encStr l[i]) := by
  rw [load_row h, part_one a9, List.getElem?_append_left (by simpa using hi)]
  simp [hi]
theorem take_rs {s : SH} {id : Nat} {l : List Str} {z : List Value} (h : HP.get s.h id = some (.row (l.map encStr ++ z))) : (rowD s id).bind (fun r => takeD r 0 (l.length * 1)) = some (l.map encStr) := by
  rw [row_of h, bindS]
  unfold takeD
  rw [List.drop_zero, Nat.mul_one, List.take_left' (by simp), List.length_map, beq_yes, condT]
theorem one_str : ∀ (l : List Str), (l.map encStr).all oneC = true
  | [] => rfl
  | x :: l => by
    show (oneC (encStr x) && (l.map encStr).all oneC) = true
    rw [one_str l]; rfl
theorem cells_rs {lo : Nat} {s : SH} {v : Value} {l : List Str} (h : RowS lo s v l) : cellsD s 1 l.length v = some (l.map encStr) := by
  obtain ⟨id, c, rfl, _, _, h4, z, h5⟩ := h
  show (bif Nat.ble l.length l.length && Nat.beq (c / 2) 1 then (bif Nat.beq l.length 0 then some [] else (rowD s id).bind fun r => takeD r 0 (l.length * 1)) else none) = _
  rw [Nat.ble_eq_true_of_le (Nat.le_refl _), h4, beq_yes, Bool.and_self, condT, take_rs h5]
  cases l with
  | nil => rfl
  | cons x l => rfl
theorem cells_sl (s : SH) (m : Nat) (l : List Str) : cellsD s 1 l.length (sl tx m l) = some (l.map encStr) := by
  have hf : fzOk 1 ((l.map tx).map fun e => Value.agg e.toArray).toArray = true := fzOk_fz fun e he => by obtain ⟨x, _, rfl⟩ := List.mem_map.1 he; rfl
  unfold sl
  simp only [fz_list, cellsD, fz_size, List.length_map, hf, Nat.ble_eq_true_of_le (Nat.le_refl _), Bool.and_self, condT]
  rw [List.take_of_length_le (by simp), aggL_fz]
  congr 1
  induction l with
  | nil => rfl
  | cons x l ih => simp only [List.map_cons, List.flatten_cons, ih (by exact fzOk_fz fun e he => by obtain ⟨x, _, rfl⟩ := List.mem_map.1 he; rfl)]; rfl
theorem len_D {lo : Nat} {s : SH} {v : Value} {l : List Str} (h : RowS lo s v l) : lenD v = some l.length := by
  obtain ⟨id, c, rfl, _⟩ := h
  rfl
theorem len_Dsl (m : Nat) (l : List Str) : lenD (sl tx m l) = some l.length := by simp only [sl, fz_list, lenD, isFz_fz, condT, fz_size, List.length_map]
/-- What is appended to a row is a new row. -/
theorem app_rs {lo : Nat} {md : Bool} {s : SH} {v w : Value} {xs ys : List Str} (h : RowE lo s v xs) (hlo : lo ≤ s.n) (hw : lenD w = some ys.length) (hc : cellsD s 1 ys.length w = some (ys.map encStr)) (hb : (xs.length + ys.length) * 16 ≤ 140737488355328) :
    ∃ v' s', appD Try.prog md s 45 45 v w = some (v', s') ∧ RowE lo s' v' (xs ++ ys) ∧ (v' = v ∧ s' = s ∨ s.n < s'.n ∧ ∀ j, j < s.n → (∀ n c, v ≠ rs j n c) → HP.get s'.h j = HP.get s.h j) := by
  obtain ⟨id, c, rfl, h2, h3, h4, h5⟩ := h
  have hni : isInt Try.prog 45 = false := by unfold isInt; rw [u45]
  have hi : Try.prog.info? 9 = some Try.t9 := by kernel_rfl
  have hz : (Try.t9.size : Nat) = 1 := by kernel_rfl
  have hbt : (Try.t9.bytes : Nat) = 16 := by kernel_rfl
  have hcond : (decide ((xs.length + ys.length) * Try.t9.bytes ≤ 140737488355328) && decide (xs.length + ys.length ≤ 140737488355328) && Nat.beq [Value.string ⟨#[]⟩].length Try.t9.size && Nat.blt 0 Try.t9.size) = true := by
    rw [hbt, hz, decide_eq_true hb, decide_eq_true (by omega)]; rfl
  unfold appD
  rw [hni, condF]
  unfold appendD
  have hx : lenD (rs id xs.length c) = some xs.length := rfl
  simp only [u45, bindS, hi, hw, zr9, hx, hcond, condT]
  by_cases h0 : ys.length = 0
  · have : ys = [] := List.length_eq_zero_iff.1 h0
    subst this
    refine ⟨rs id xs.length c, s, by rw [show Nat.beq ([] : List Str).length 0 = true from rfl, condT], ?_, .inl ⟨rfl, rfl⟩⟩
    rw [List.append_nil]
    exact ⟨id, c, rfl, h2, h3, h4, h5⟩
  · rw [beq_no h0, condF, hz, hc, bindS, one_str, Bool.not_true, condF]
    have ht := take_rs (z := []) (by rw [List.append_nil]; exact h5)
    by_cases hcc : c % 2 = 1
    · rw [hcc, beq_yes, condT]
      have := cells_rs (⟨id, c, rfl, h2, h3, h4, [], by rw [List.append_nil]; exact h5⟩ : RowS lo s _ xs)
      rw [this]
      refine ⟨rs s.n (xs ++ ys).length 2, newD s (.row ((xs ++ ys).map encStr)), by rw [List.length_append, List.map_append]; rfl, ⟨s.n, 2, rfl, hlo, by rw [newD_n]; omega, rfl, get_new rfl⟩, .inr ⟨by rw [newD_n]; omega, fun j hj _ => get_old (by omega)⟩⟩
    · rw [beq_no hcc, condF, h4, beq_yes]
      simp only [condT]
      rw [row_of h5, bindS] at ht ⊢
      rw [ht]
      refine ⟨rs s.n (xs ++ ys).length 2, newD { s with h := HP.put s.h id none } (.row ((xs ++ ys).map encStr)), by rw [List.length_append, List.map_append]; rfl, ⟨s.n, 2, rfl, hlo, by rw [newD_n]; show s.n < s.n + 1; omega, rfl, get_new rfl⟩, .inr ⟨by rw [newD_n]; show s.n < s.n + 1; omega, fun j hj hne => ?_⟩⟩
      show HP.get (newD (delD s id) (.row ((xs ++ ys).map encStr))).h j = _
      rw [get_old (s := delD s id) (show j ≠ (delD s id).n by rw [delD_n]; omega)]
      exact get_del (s := s) (l := id) fun e => hne _ _ (by rw [e])
theorem app_rs' {lo : Nat} {md : Bool} {s : SH} {v w : Value} {xs ys : List Str} (h : RowE lo s v xs) (hlo : lo ≤ s.n) (hw : lenD w = some ys.length) (hc : cellsD s 1 ys.length w = some (ys.map encStr)) (hb : (xs.length + ys.length) * 16 ≤ 140737488355328) :
    ∃ v' s', appD Try.prog md s 45 45 v w = some (v', s') ∧ RowE lo s' v' (xs ++ ys) ∧ Sm lo s s' := by
  obtain ⟨v', s', h1, h2, h3⟩ := app_rs (md := md) h hlo hw hc hb
  refine ⟨v', s', h1, h2, ?_⟩
  rcases h3 with ⟨_, rfl⟩ | ⟨h3, h4⟩
  · exact .refl _ _
  · refine ⟨by omega, fun j hj => h4 j (by omega) fun n c e => ?_⟩
    obtain ⟨id, c', rfl, k, _⟩ := h
    injection e with e _ _
    injection e with e
    injection e with e
    omega
theorem bs45_0 (s : SH) : buildSliceD Try.prog true s 45 0 [] = some (rs s.n 0 3, newD s (.row [])) := by kernel_rfl
theorem bs45_1 (s : SH) (x : Str) : buildSliceD Try.prog true s 45 1 [(0, encStr x)] = some (rs s.n 1 3, newD s (.row [encStr x])) := by kernel_rfl
theorem rowE_new {s : SH} : RowE s.n (newD s (.row [])) (rs s.n 0 3) [] := ⟨s.n, 3, rfl, Nat.le_refl _, by rw [newD_n]; omega, rfl, get_new rfl⟩
theorem rowE_one {s : SH} (x : Str) : RowE s.n (newD s (.row [encStr x])) (rs s.n 1 3) [x] := ⟨s.n, 3, rfl, Nat.le_refl _, by rw [newD_n]; omega, rfl, get_new rfl⟩
theorem RowE.lo {lo lo' : Nat} {s : SH} {v : Value} {l : List Str} (h : RowE lo s v l) (k : lo' ≤ lo) : RowE lo' s v l := by
  obtain ⟨id, c, h1, h2, h3⟩ := h
  exact ⟨id, c, h1, Nat.le_trans k h2, h3⟩
theorem RowS.lo {lo lo' : Nat} {s : SH} {v : Value} {l : List Str} (h : RowS lo s v l) (k : lo' ≤ lo) : RowS lo' s v l := by
  obtain ⟨id, c, h1, h2, h3⟩ := h
  exact ⟨id, c, h1, Nat.le_trans k h2, h3⟩
/-! Texts cut. -/
theorem len_tx (s : SH) (x : Str) : lenOfD Try.prog s 9 (encStr x) = some (.int .i64 x.length) := by
  rw [show encStr x = .string ⟨x.toArray⟩ from rfl, len_str u9]; rfl
theorem ext_toList (b : ByteArray) (i j : Nat) : (b.extract i j).data.toList = (b.data.toList.take j).drop i := by
  simp [List.extract, List.drop_take]
theorem str_mk {b : ByteArray} {x : Str} (h : b.data.toList = x) : Value.string b = encStr x := by
  subst h
  show _ = Value.string ⟨b.data.toList.toArray⟩
  rw [Array.toArray_toList]
theorem slc_tx {k : IntKind} (s : SH) (x : Str) {n : Nat} (hn : n ≤ x.length) : slcD Try.prog s 9 (encStr x) none (some (.int k (n : Int))) none = some (encStr (x.take n)) := by
  refine (slc_str u9 ⟨x.toArray⟩ (by exact hn)).trans ?_
  rw [str_mk (x := x.take n) (by rw [ext_toList]; simp)]
theorem slc_txd {k : IntKind} (s : SH) (x : Str) {n : Nat} (hn : n ≤ x.length) : slcD Try.prog s 9 (encStr x) (some (.int k (n : Int))) none none = some (encStr (x.drop n)) := by
  have h0 : decide ((0 : Int) ≤ (n : Int)) = true := by simp
  have hb1 : Nat.ble n x.length = true := Nat.ble_eq_true_of_le hn
  have hb2 : Nat.ble x.length x.length = true := Nat.ble_eq_true_of_le (Nat.le_refl _)
  have hsz : (⟨x.toArray⟩ : ByteArray).size = x.length := rfl
  have : slcD Try.prog s 9 (encStr x) (some (.int k (n : Int))) none none = some (.string ((⟨x.toArray⟩ : ByteArray).extract n (⟨x.toArray⟩ : ByteArray).size)) := by
    unfold slcD sliceD encStr
    simp [optInt, u9, hb1, hb2, hsz]
  rw [this, str_mk (x := x.drop n) (by rw [ext_toList, hsz]; simp)]
theorem min257 (n : Nat) : minD Try.prog (.int .i64 (n : Int)) [.int .i64 257] = some (.int .i64 ((min n 257 : Nat) : Int)) := min_nat .i64 n 257
end Go.Proofs.Ytmhmbmogodofeaa.S
