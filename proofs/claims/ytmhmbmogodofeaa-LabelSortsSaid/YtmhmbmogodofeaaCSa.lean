import Derived.Test.YtmhmbmogodofeaaCVc
import Derived.Test.YtmhmbmogodofeaaTXc
set_option autoImplicit false
set_option linter.unusedVariables false
set_option linter.unusedSimpArgs false
set_option maxRecDepth 100000
namespace Go.Proofs.Ytmhmbmogodofeaa.S
open Go.FS Go.RowKit
attribute [local congr] bind_cg cond_cg gd_cg
/-! Rows of labels. -/
def rowL (l : List Lab) : List Value := (l.map lab).flatten
theorem rowL_cons (a : Lab) (l : List Lab) : rowL (a :: l) = .string a.1 :: .string a.2 :: rowL l := rfl
theorem rowL_app (l m : List Lab) : rowL (l ++ m) = rowL l ++ rowL m := by unfold rowL; rw [List.map_append, List.flatten_append]
theorem rowL_len : ∀ (l : List Lab), (rowL l).length = l.length * 2
  | [] => rfl
  | a :: l => by rw [rowL_cons, List.length_cons, List.length_cons, rowL_len l, List.length_cons]; omega
theorem rowL_drop : ∀ (l : List Lab) (i : Nat), (rowL l).drop (i * 2) = rowL (l.drop i)
  | [], i => by simp [rowL]
  | a :: l, 0 => by simp
  | a :: l, i + 1 => by
    rw [rowL_cons, show (i + 1) * 2 = i * 2 + 1 + 1 from by omega, List.drop_succ_cons, List.drop_succ_cons, List.drop_succ_cons, rowL_drop l i]
theorem rowL_take : ∀ (l : List Lab) (i : Nat), (rowL l).take (i * 2) = rowL (l.take i)
  | [], i => by simp [rowL]
  | a :: l, 0 => by simp [rowL]
  | a :: l, i + 1 => by
    rw [rowL_cons, show (i + 1) * 2 = i * 2 + 1 + 1 from by omega, List.take_succ_cons, List.take_succ_cons, List.take_succ_cons, rowL_cons, rowL_take l i]
theorem rowL_one : ∀ (l : List Lab), (rowL l).all oneC = true
  | [] => rfl
  | a :: l => by
    rw [rowL_cons]
    show (true && (true && (rowL l).all oneC)) = true
    rw [rowL_one l]; rfl
theorem rowL_set (l : List Lab) {i : Nat} (h : i < l.length) (a : Lab) : splice (rowL l) (i * 2) (lab a) = rowL (l.set i a) := by
  unfold splice
  have e : l.set i a = l.take i ++ ([a] ++ l.drop (i + 1)) := by
    rw [List.set_eq_take_append_cons_drop, if_pos h]; rfl
  rw [e, rowL_app, rowL_app, rowL_take, show i * 2 + (lab a).length = (i + 1) * 2 from by rw [lab_len]; omega, rowL_drop]
  rfl
abbrev rl (id n c : Nat) : Value := .slice (some ⟨id, 0, none⟩) n c
theorem u22 : Try.prog.underlying 22 = some (Go.TypeDesc.slice 106) := by kernel_rfl
theorem a22 : aggD Try.prog 22 = some false := by kernel_rfl
theorem ixr {t id n c i : Nat} {k : IntKind} (ht : Try.prog.underlying t = some (.slice 106)) (hi : i < n) : indexAddrD Try.prog t (rl id n c) (.int k (i : Int)) = some (.pointer (some ⟨id, i * 2, none⟩)) := by
  have h0 : decide ((0 : Int) ≤ (i : Int)) = true := decide_eq_true (by omega)
  have h1 : decide ((i : Int) < (n : Int)) = true := decide_eq_true (by omega)
  simp only [indexAddrD, ht, z106, bindS, h0, h1, Bool.and_self, condT]
  rw [Int.toNat_natCast, Nat.zero_add]
theorem ix22 {id n c i : Nat} {k : IntKind} (hi : i < n) : indexAddrD Try.prog 22 (rl id n c) (.int k (i : Int)) = some (.pointer (some ⟨id, i * 2, none⟩)) := ixr u22 hi
theorem ix23 {id n c i : Nat} {k : IntKind} (hi : i < n) : indexAddrD Try.prog 23 (rl id n c) (.int k (i : Int)) = some (.pointer (some ⟨id, i * 2, none⟩)) := ixr u23 hi
theorem lenr {id n c : Nat} (s : SH) : lenOfD Try.prog s 23 (rl id n c) = some (.int .i64 n) := by simp only [lenOfD, u23]
theorem take_one {l : List Lab} {i : Nat} (hi : i < l.length) : ((rowL l).drop (i * 2)).take 2 = lab l[i] := by
  rw [rowL_drop, List.drop_eq_getElem_cons hi]; rfl
theorem ldr {s : SH} {id i : Nat} {l : List Lab} (h : HP.get s.h id = some (.row (rowL l))) (hi : i < l.length) : loadD Try.prog s 106 (.pointer (some ⟨id, i * 2, none⟩)) = some (.agg (lab l[i]).toArray) := by
  rw [load_row h, part_agg a106 z106 (take_one hi) rfl]
theorem ldr0 {s : SH} {id i : Nat} {l : List Lab} (h : HP.get s.h id = some (.row (rowL l))) (hi : i < l.length) : loadD Try.prog s 9 (.pointer (some ⟨id, i * 2, none⟩)) = some (.string l[i].1) := by
  rw [load_row h, part_one a9]
  have := congrArg (fun z : List Value => z[0]?) (take_one hi)
  simp only [List.getElem?_take_of_lt (show 0 < 2 by decide), List.getElem?_drop, Nat.add_zero] at this
  rw [this]; rfl
theorem str_ {s : SH} {id i : Nat} {l : List Lab} (a : Lab) (h : HP.get s.h id = some (.row (rowL l))) (hi : i < l.length) : storeD Try.prog s 106 (.pointer (some ⟨id, i * 2, none⟩)) (.agg (lab a).toArray) = some (putD s id (.row (rowL (l.set i a)))) := by
  rw [store_row (l := lab a) z106 h rfl rfl rfl (by rw [rowL_len]; omega), rowL_set l hi]
theorem fldr0 (id i : Nat) : fieldAddrD Try.prog 106 (.pointer (some ⟨id, i, none⟩)) 0 = some (.pointer (some ⟨id, i, none⟩)) := by
  have := field_own (P := Try.prog) (t := 106) (f := 0) (id := id) (o := i) (n := 1) (fd := { name := "Name", type := 9, offset := 0, embedded := false, tag := "", pkgPath := "", byteOffset := 0 }) u106 rfl z9 (by decide)
  exact this
/-- Is a label's name ahead of the other's? -/
def lbL (a b : Lab) : Bool := Op.bytesLess a.1.toList b.1.toList
theorem cmpB_less : ∀ (x y : List UInt8), decide (Lib.compareBytes x y < 0) = Op.bytesLess x y
  | [], [] => rfl
  | [], b :: y => rfl
  | a :: x, [] => rfl
  | a :: x, b :: y => by
    have ih := cmpB_less x y
    unfold Lib.compareBytes Op.bytesLess
    by_cases h1 : a < b
    · simp [h1]
    · by_cases h2 : b < a
      · have h3 : ¬ a = b := fun e => by subst e; exact h1 h2
        simp [h1, h2, h3]
      · have h3 : a = b := by
          have h1 : ¬ a.toNat < b.toNat := fun h => h1 (UInt8.lt_iff_toNat_lt.2 h)
          have h2 : ¬ b.toNat < a.toNat := fun h => h2 (UInt8.lt_iff_toNat_lt.2 h)
          exact UInt8.toNat_inj.1 (by omega)
        subst h3
        simp [h1, ih]
theorem c66 {n : Nat} {s : SH} (a b : Lab) : ∃ z : Int, callD Try.prog AB (n + 2) (.fn 66) [.agg (lab a).toArray, .agg (lab b).toArray] s = some [(.int .i64 z, s)] ∧ decide (z < 0) = lbL a b := by
  refine ⟨Lib.compareBytes a.1.data.toList b.1.data.toList, ?_, by rw [cmpB_less]; unfold lbL; rw [ba_toList, ba_toList]⟩
  refine cut_call (fn := Try.f66) rfl rfl (by kernel_rfl) (v := .int .i64 (Lib.compareBytes a.1.data.toList b.1.data.toList)) (fun _ h => by cases h) (.int _ _) ?_
  show One (bodyD Try.prog false _ _ 66 Try.f66 _ s) _
  rw [f66_r]
  have b1 : ∀ s : SH, boxD s (.agg (lab a).toArray) = some (.pointer (some ⟨s.n, 0, none⟩), newD s (.row (lab a))) := fun s => box_at rfl rfl
  have b2 : ∀ s : SH, boxD s (.agg (lab b).toArray) = some (.pointer (some ⟨s.n, 0, none⟩), newD s (.row (lab b))) := fun s => box_at rfl rfl
  have g1 : HP.get (newD (newD s (.row (lab a))) (.row (lab b))).h s.n = some (.row (lab a)) := by rw [get_old (by rw [newD_n]; omega), get_new rfl]
  have g2 : HP.get (newD (newD s (.row (lab a))) (.row (lab b))).h (newD s (.row (lab a))).n = some (.row (lab b)) := get_new rfl
  have h67 : ∀ s : SH, callD Try.prog AB (n + 1) (.fn 67) [.string a.1, .string b.1] s = some [(.int .i64 (Lib.compareBytes a.1.data.toList b.1.data.toList), s)] := fun s => by
    rw [call_i (i := T.iCmp) rfl]; rfl
  simp only [f66, o_bool, o_alloc, o_box, o_build, o_buildSlice, o_load, o_store, o_nilCheck, o_bop, o_uop, o_conv, o_slc, o_fieldAddr, o_field, o_indexAddr, o_index, o_extract, o_lookup, o_mapUpdate, o_makeSlice, o_clear, o_makeMap, o_mapEntry, o_entryStore, o_delete, o_len, o_append, o_min, o_max, o_tgt, bindS, many1, jnE, boolS, gdB, fst', snd', b1, b2, fld106_0, lds0 g1, lds0 g2, h67]
  exact One.ret ⟨rfl, ((Ext.refl s).new _).new _⟩
end Go.Proofs.Ytmhmbmogodofeaa.S
