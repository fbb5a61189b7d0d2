import Derived.Test.YtmhmbmogodofeaaCWa
set_option autoImplicit false
set_option linter.unusedVariables false
set_option linter.unusedSimpArgs false
set_option maxRecDepth 100000
namespace Go.Proofs.Ytmhmbmogodofeaa.S
open Go.FS Go.RowKit
attribute [local congr] bind_cg cond_cg gd_cg
/-! Names: who has one; Get; DeleteFunc. -/
def isN (name : ByteArray) (a : Lab) : Bool := a.1.toList == name.toList
theorem bx106 (s : SH) (a : Lab) : boxD s (.agg (lab a).toArray) = some (.pointer (some ⟨s.n, 0, none⟩), newD s (.row (lab a))) := box_at rfl rfl
theorem ldn {s : SH} {id : Nat} {b : ByteArray} (h : HP.get s.h id = some (.row [.string b])) : loadD Try.prog s 9 (.pointer (some ⟨id, 0, none⟩)) = some (.string b) := by rw [load_row h, part_one a9]; rfl
theorem c77 {n p : Nat} {s : SH} {name : ByteArray} (a : Lab) (hp : p < s.n) (h : HP.get s.h p = some (.row [.string name])) : callD Try.prog AB (n + 1) (.fn 77) [.agg (lab a).toArray, .pointer (some ⟨p, 0, none⟩)] s = some [(.bool (isN name a), s)] := by
  refine cut_call (fn := Try.f77) rfl rfl (by kernel_rfl) (v := .bool (isN name a)) (fun _ h => by cases h) (.bool _) ?_
  show One (bodyD Try.prog false _ _ 77 Try.f77 _ s) _
  rw [f77_r]
  have h2 : HP.get (newD s (.row (lab a))).h p = some (.row [.string name]) := by rw [get_old (by omega)]; exact h
  simp only [f77, o_bool, o_alloc, o_box, o_build, o_buildSlice, o_load, o_store, o_nilCheck, o_bop, o_uop, o_conv, o_slc, o_fieldAddr, o_field, o_indexAddr, o_index, o_extract, o_lookup, o_mapUpdate, o_makeSlice, o_clear, o_makeMap, o_mapEntry, o_entryStore, o_delete, o_len, o_append, o_min, o_max, o_tgt, bindS, many1, jnE, boolS, gdB, fst', snd', bx106, fld106_0, lds0 (get_new rfl), ldn h2, bop_seqB 9 _ _ rfl]
  exact One.ret ⟨rfl, (Ext.refl s).new _⟩
theorem c130 {n p : Nat} {s : SH} {name : ByteArray} (a : Lab) (hp : p < s.n) (h : HP.get s.h p = some (.row [.string name])) : callD Try.prog AB (n + 1) (.fn 130) [.agg (lab a).toArray, .pointer (some ⟨p, 0, none⟩)] s = some [(.bool (isN name a), s)] := by
  refine cut_call (fn := Try.f130) rfl rfl (by kernel_rfl) (v := .bool (isN name a)) (fun _ h => by cases h) (.bool _) ?_
  show One (bodyD Try.prog false _ _ 130 Try.f130 _ s) _
  rw [f130_r]
  have h2 : HP.get (newD s (.row (lab a))).h p = some (.row [.string name]) := by rw [get_old (by omega)]; exact h
  simp only [f130, o_bool, o_alloc, o_box, o_build, o_buildSlice, o_load, o_store, o_nilCheck, o_bop, o_uop, o_conv, o_slc, o_fieldAddr, o_field, o_indexAddr, o_index, o_extract, o_lookup, o_mapUpdate, o_makeSlice, o_clear, o_makeMap, o_mapEntry, o_entryStore, o_delete, o_len, o_append, o_min, o_max, o_tgt, bindS, many1, jnE, boolS, gdB, fst', snd', bx106, fld106_0, lds0 (get_new rfl), ldn h2, bop_seqB 9 _ _ rfl]
  exact One.ret ⟨rfl, (Ext.refl s).new _⟩
/-- The first place. -/
def fstI (p : Lab → Bool) : List Lab → Nat
  | [] => 0
  | a :: l => if p a then 0 else fstI p l + 1
theorem fstI_le (p : Lab → Bool) : ∀ l, fstI p l ≤ l.length
  | [] => Nat.le_refl _
  | a :: l => by
    have := fstI_le p l
    unfold fstI
    split
    · exact Nat.zero_le _
    · rw [List.length_cons]; omega
theorem fstI_take {p : Lab → Bool} : ∀ {l : List Lab} {i : Nat}, (∀ a ∈ l.take i, p a = false) → i ≤ l.length → fstI p l = i + fstI p (l.drop i)
  | l, 0, _, _ => by simp
  | [], i + 1, _, h => by simp at h
  | a :: l, i + 1, h, hl => by
    have ha := h a (by simp)
    have ih := fstI_take (p := p) (l := l) (i := i) (fun b hb => h b (by simp [hb])) (by simpa using hl)
    rw [List.drop_succ_cons]
    show (if p a then 0 else fstI p l + 1) = _
    rw [ha, if_neg (by simp), ih]; omega
theorem c126 {n g : Nat} {s : SH} {v : Value} {fs : Value} {l : List Lab} (p : Lab → Bool) (hl : l.length < 2 ^ 62) (hlen : lenOfD Try.prog s 23 v = some (.int .i64 (l.length : Int)))
    (hel : ∀ i (h : i < l.length), ∃ q, indexAddrD Try.prog 23 v (.int .i64 (i : Int)) = some q ∧ loadD Try.prog s 106 q = some (.agg (lab l[i]).toArray))
    (hf : ∀ a ∈ l, ∃ args, tgtD fs [.agg (lab a).toArray] = some (.fn g, args) ∧ callD Try.prog AB n (.fn g) args s = some [(.bool (p a), s)]) :
    callD Try.prog AB (n + 1) (.fn 126) [v, fs] s = some [(.int .i64 (if fstI p l = l.length then -1 else (fstI p l : Int)), s)] := by
  rw [call_fn (fn := Try.f126) rfl rfl (by kernel_rfl)]
  suffices h : One (bodyD Try.prog false (callD Try.prog AB n) AB.N 126 Try.f126 [v, fs] s) fun w s' => w = .int .i64 (if fstI p l = l.length then -1 else (fstI p l : Int)) ∧ s' = s by
    obtain ⟨w, s', e, rfl, rfl⟩ := h
    exact e
  rw [f126_r]
  simp only [f126, o_bool, o_alloc, o_box, o_build, o_buildSlice, o_load, o_store, o_nilCheck, o_bop, o_uop, o_conv, o_slc, o_fieldAddr, o_field, o_indexAddr, o_index, o_extract, o_lookup, o_mapUpdate, o_makeSlice, o_clear, o_makeMap, o_mapEntry, o_entryStore, o_delete, o_len, o_append, o_min, o_max, o_tgt, bindS, many1, jnE, boolS, gdB, fst', snd', hlen]
  refine list_one l (fun i (x : Value × Value × Value) (s' : SH) => s' = s ∧ x.2.2 = .int .i64 (i : Int) ∧ ∀ a ∈ l.take i, p a = false) ?_ ?_ ⟨rfl, rfl, fun a h => by simp at h⟩ (by show l.length < 2 ^ 64; omega)
  · rintro i hi ⟨x1, x2, x3⟩ s' ⟨rfl, h2, hn⟩ nx hnx
    simp only at h2
    subst h2
    have hlt : (i : Int) < l.length := by omega
    have hw : IntKind.i64.wrap ((i : Int) + 1) = ((i + 1 : Nat) : Int) := by rw [wrap_i64 (by omega) (by omega)]; rfl
    obtain ⟨q, e1, e2⟩ := hel i hi
    obtain ⟨args, e3, e4⟩ := hf l[i] (List.getElem_mem hi)
    have hft := fstI_take hn (by omega)
    rw [List.drop_eq_getElem_cons hi] at hft
    simp only [f126_l0, o_bool, o_alloc, o_box, o_build, o_buildSlice, o_load, o_store, o_nilCheck, o_bop, o_uop, o_conv, o_slc, o_fieldAddr, o_field, o_indexAddr, o_index, o_extract, o_lookup, o_mapUpdate, o_makeSlice, o_clear, o_makeMap, o_mapEntry, o_entryStore, o_delete, o_len, o_append, o_min, o_max, o_tgt, bindS, many1, jnE, boolS, gdB, fst', snd', bop_lss, hlt, decide_true, condT, e1, e2, e3, e4]
    cases hp : p l[i] with
    | true =>
      have : fstI p l = i := by rw [hft]; unfold fstI; rw [if_pos hp]; rfl
      simp only [condT]
      exact One.ret ⟨by rw [this, if_neg (by omega)], rfl⟩
    | false =>
      simp only [condF, bop_add, bindS, hw]
      refine hnx (_, _, _) _ ⟨rfl, rfl, fun a ha => ?_⟩
      rw [List.take_succ_eq_append_getElem hi] at ha
      rcases List.mem_append.1 ha with ha | ha
      · exact hn a ha
      · rw [List.mem_singleton] at ha; rw [ha]; exact hp
  · rintro ⟨x1, x2, x3⟩ s' ⟨rfl, h2, hn⟩ nx
    simp only at h2
    subst h2
    have hnlt : ¬ ((l.length : Int) < l.length) := by omega
    have hft := fstI_take hn (Nat.le_refl _)
    rw [List.drop_length] at hft
    simp only [f126_l0, o_bool, o_alloc, o_box, o_build, o_buildSlice, o_load, o_store, o_nilCheck, o_bop, o_uop, o_conv, o_slc, o_fieldAddr, o_field, o_indexAddr, o_index, o_extract, o_lookup, o_mapUpdate, o_makeSlice, o_clear, o_makeMap, o_mapEntry, o_entryStore, o_delete, o_len, o_append, o_min, o_max, o_tgt, bindS, many1, jnE, boolS, gdB, fst', snd', bop_lss, hnlt, decide_false, condF, beq_yes, condT]
    exact One.ret ⟨by rw [hft, if_pos (by simp [fstI])], rfl⟩
/-- A name's value. -/
def getM (l : List Lab) (name : ByteArray) : ByteArray :=
  match l.find? (isN name) with
  | some a => a.2
  | none => ⟨#[]⟩
theorem find_fst (p : Lab → Bool) : ∀ (l : List Lab), l.find? p = l[fstI p l]?
  | [] => rfl
  | a :: l => by
    unfold fstI
    rw [List.find?_cons]
    cases h : p a with
    | true => rfl
    | false => simp [find_fst p l]
theorem c29 {n m : Nat} {s : SH} (l : List Lab) (name : ByteArray) (hl : l.length < 2 ^ 62) : callD Try.prog AB (n + 4) (.fn 29) [sl lab m l, .string name] s = some [(.string (getM l name), s)] := by
  refine cut_call (fn := Try.f29) rfl rfl (by kernel_rfl) (v := .string (getM l name)) (fun _ h => by cases h) (.string _) ?_
  show One (bodyD Try.prog false _ _ 29 Try.f29 _ s) _
  rw [f29_r]
  have b1 : boxD s (.string name) = some (.pointer (some ⟨s.n, 0, none⟩), newD s (.row [.string name])) := box_at rfl rfl
  have h126 := c126 (n := n + 1) (g := 130) (s := newD s (.row [.string name])) (v := sl lab m l) (fs := .func (.func 130) #[] #[.pointer (some ⟨s.n, 0, none⟩)]) (isN name) hl (len_sl u23)
    (fun i h => ⟨_, ixs23 lab_len h, ld_lab _⟩) (fun a _ => ⟨[.agg (lab a).toArray, .pointer (some ⟨s.n, 0, none⟩)], by simp [tgtD], c130 a (by rw [newD_n]; omega) (get_new rfl)⟩)
  have h80 : callD Try.prog AB (n + 3) (.fn 80) [sl lab m l, .string name] s = some [(.int .i64 (if fstI (isN name) l = l.length then -1 else (fstI (isN name) l : Int)), newD s (.row [.string name]))] := by
    rw [call_fn (fn := Try.f80) rfl rfl (by kernel_rfl)]
    show bodyD Try.prog false _ _ 80 Try.f80 _ s = _
    rw [f80_r]
    simp only [f80, o_bool, o_alloc, o_box, o_build, o_buildSlice, o_load, o_store, o_nilCheck, o_bop, o_uop, o_conv, o_slc, o_fieldAddr, o_field, o_indexAddr, o_index, o_extract, o_lookup, o_mapUpdate, o_makeSlice, o_clear, o_makeMap, o_mapEntry, o_entryStore, o_delete, o_len, o_append, o_min, o_max, o_tgt, bindS, many1, jnE, boolS, gdB, fst', snd', b1, h126]
  have hg : getM l name = match l[fstI (isN name) l]? with
    | some a => a.2
    | none => ⟨#[]⟩ := by unfold getM; rw [find_fst]
  have hle := fstI_le (isN name) l
  by_cases he : fstI (isN name) l = l.length
  · rw [if_pos he] at h80
    rw [he, List.getElem?_eq_none (Nat.le_refl _)] at hg
    simp only [f29, o_bool, o_alloc, o_box, o_build, o_buildSlice, o_load, o_store, o_nilCheck, o_bop, o_uop, o_conv, o_slc, o_fieldAddr, o_field, o_indexAddr, o_index, o_extract, o_lookup, o_mapUpdate, o_makeSlice, o_clear, o_makeMap, o_mapEntry, o_entryStore, o_delete, o_len, o_append, o_min, o_max, o_tgt, bindS, many1, jnE, boolS, gdB, fst', snd', h80, bop_geq, show ¬ ((-1 : Int) ≥ 0) from by decide, decide_false, condF]
    exact One.ret ⟨by rw [hg], (Ext.refl s).new _⟩
  · rw [if_neg he] at h80
    have hlt : fstI (isN name) l < l.length := by omega
    rw [List.getElem?_eq_getElem hlt] at hg
    have hge : (fstI (isN name) l : Int) ≥ 0 := by omega
    simp only [f29, o_bool, o_alloc, o_box, o_build, o_buildSlice, o_load, o_store, o_nilCheck, o_bop, o_uop, o_conv, o_slc, o_fieldAddr, o_field, o_indexAddr, o_index, o_extract, o_lookup, o_mapUpdate, o_makeSlice, o_clear, o_makeMap, o_mapEntry, o_entryStore, o_delete, o_len, o_append, o_min, o_max, o_tgt, bindS, many1, jnE, boolS, gdB, fst', snd', h80, bop_geq, hge, decide_true, condT, ixs23 lab_len hlt, flf106_1, ldf_l1]
    exact One.ret ⟨by rw [hg], (Ext.refl s).new _⟩
end Go.Proofs.Ytmhmbmogodofeaa.S
