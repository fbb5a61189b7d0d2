import Derived.Test.YtmhmbmogodofeaaV2
set_option autoImplicit false
set_option linter.unusedVariables false
set_option linter.unusedSimpArgs false
set_option maxRecDepth 100000
namespace Go.Proofs.Ytmhmbmogodofeaa.S
open Go.FS Go.RowKit
attribute [local congr] bind_cg cond_cg gd_cg
abbrev Rg := Int × Int
def rg (r : Rg) : List Value := [.int .i64 r.1, .int .i64 r.2]
theorem rg_len (r : Rg) : (rg r).length = 2 := rfl
def u6 (n : Int) : List Value := [.int .u64 n]
theorem u6_len (n : Int) : (u6 n).length = 1 := rfl
abbrev Pt := Int × Int × Int
def pt (a : Pt) : List Value := [.int .u64 a.1, .int .i64 a.2.1, .int .u64 a.2.2]
theorem pt_len (a : Pt) : (pt a).length = 3 := rfl
theorem ib (x y : Int) : (x == y) = decide (x = y) := by by_cases h : x = y <;> simp [h]
theorem rg_cmp (a b : Rg) : bopD Try.prog .eql 69 (.agg (rg a).toArray) (.agg (rg b).toArray) = some (.bool (decide (a = b))) ∧ bopD Try.prog .neq 69 (.agg (rg a).toArray) (.agg (rg b).toArray) = some (.bool (!decide (a = b))) := by
  refine bop_agg (P := Try.prog) (d := 4) (t := 69) (a := (rg a).toArray) (b := (rg b).toArray) (r := decide (a = b)) (by decide) (by kernel_rfl) rfl rfl ?_
  have : eqS Try.prog 4 69 (.agg #[.int .i64 a.1, .int .i64 a.2]) (.agg #[.int .i64 b.1, .int .i64 b.2]) = cond (a.1 == b.1) (cond (a.2 == b.2) (some true) (some false)) (some false) := by kernel_rfl
  refine Eq.trans this ?_
  rw [ib, ib]
  have e : (a = b) ↔ a.1 = b.1 ∧ a.2 = b.2 := Prod.ext_iff
  by_cases h1 : a.1 = b.1 <;> by_cases h2 : a.2 = b.2 <;> simp [e, h1, h2]
theorem lab_neq (a b : Lab) : bopD Try.prog .neq 106 (.agg (lab a).toArray) (.agg (lab b).toArray) = some (.bool (!decide (a = b))) := by
  refine (bop_agg (P := Try.prog) (d := 4) (t := 106) (a := (lab a).toArray) (b := (lab b).toArray) (r := decide (a = b)) (by decide) (by kernel_rfl) rfl rfl ?_).2
  have : eqS Try.prog 4 106 (.agg #[.string a.1, .string a.2]) (.agg #[.string b.1, .string b.2]) = cond (a.1 == b.1) (cond (a.2 == b.2) (some true) (some false)) (some false) := by kernel_rfl
  refine Eq.trans this ?_
  rw [ba_beq, ba_beq]
  have e : (a = b) ↔ a.1 = b.1 ∧ a.2 = b.2 := Prod.ext_iff
  by_cases h1 : a.1 = b.1 <;> by_cases h2 : a.2 = b.2 <;> simp [e, h1, h2]
theorem pt_neq (a b : Pt) : bopD Try.prog .neq 142 (.agg (pt a).toArray) (.agg (pt b).toArray) = some (.bool (!decide (a = b))) := by
  refine (bop_agg (P := Try.prog) (d := 4) (t := 142) (a := (pt a).toArray) (b := (pt b).toArray) (r := decide (a = b)) (by decide) (by kernel_rfl) rfl rfl ?_).2
  have h0 : eqS Try.prog 4 142 (.agg #[.int .u64 a.1, .int .i64 a.2.1, .int .u64 a.2.2]) (.agg #[.int .u64 b.1, .int .i64 b.2.1, .int .u64 b.2.2]) = cond (a.1 == b.1) ((cond (a.2.1 == b.2.1) (cond (a.2.2 == b.2.2) (some true) (some false)) (some false)).bind fun r => cond r (some true) (some false)) (some false) := by kernel_rfl
  refine Eq.trans h0 ?_
  rw [ib, ib, ib]
  have e : (a = b) ↔ a.1 = b.1 ∧ a.2.1 = b.2.1 ∧ a.2.2 = b.2.2 := by rw [Prod.ext_iff, Prod.ext_iff]
  by_cases h1 : a.1 = b.1 <;> by_cases h2 : a.2.1 = b.2.1 <;> by_cases h3 : a.2.2 = b.2.2 <;> simp [e, h1, h2, h3]
theorem ld_pt {s : SH} (a : Pt) : loadD Try.prog s 142 (fpV (pt a).toArray 0) = some (.agg (pt a).toArray) := by rw [load_fp, part_agg a142 z142 (l := pt a) rfl rfl]
theorem ld_u6 {s : SH} (a : Int) : loadD Try.prog s 70 (fpV (u6 a).toArray 0) = some (.int .u64 a) := by rw [load_fp, part_one a70]; rfl
theorem c21 {n m m' : Nat} {s : SH} (xs ys : List Lab) (hl : xs.length < 2 ^ 62) : callD Try.prog AB (n + 1) (.fn 21) [sl lab m xs, sl lab m' ys] s = some [(.bool (decide (xs = ys)), s)] := by
  refine cut_call (fn := Try.f21) rfl rfl (by kernel_rfl) (v := .bool (decide (xs = ys))) (fun _ h => by cases h) (.bool _) ?_
  show One (bodyD Try.prog false _ _ 21 Try.f21 _ s) _
  rw [f21_r]
  simp only [f21, o_bool, o_alloc, o_box, o_build, o_buildSlice, o_load, o_store, o_nilCheck, o_bop, o_uop, o_conv, o_slc, o_fieldAddr, o_field, o_indexAddr, o_index, o_extract, o_lookup, o_mapUpdate, o_makeMap, o_mapEntry, o_entryStore, o_delete, o_len, o_append, o_min, o_max, o_tgt, bindS, many1, jnE, boolS, gdB, fst', snd', len_sl u23, b_neq]
  by_cases h : xs.length = ys.length
  · have e : ((xs.length : Int) = ys.length) := by omega
    simp only [e, decide_true, Bool.not_true, condF]
    try rw [← e]
    refine list_one xs (fun i (x : Value × Value) (s' : SH) => s = s' ∧ x.1 = .bool false ∧ x.2 = .int .i64 i ∧ xs.take i = ys.take i) ?_ ?_ ⟨rfl, rfl, rfl, rfl⟩ (by show xs.length < 2 ^ 64; omega)
    · rintro i hi ⟨x1, x2⟩ s' ⟨rfl, h1, h2, h3⟩ nx hnx
      simp only at h1 h2
      subst h1 h2
      have hlt : (i : Int) < xs.length := by omega
      have hi' : i < ys.length := by omega
      have hw : IntKind.i64.wrap ((i : Int) + 1) = ((i + 1 : Nat) : Int) := by rw [wrap_i64 (by omega) (by omega)]; rfl
      simp only [f21_l0, o_bool, o_alloc, o_box, o_build, o_buildSlice, o_load, o_store, o_nilCheck, o_bop, o_uop, o_conv, o_slc, o_fieldAddr, o_field, o_indexAddr, o_index, o_extract, o_lookup, o_mapUpdate, o_makeMap, o_mapEntry, o_entryStore, o_delete, o_len, o_append, o_min, o_max, o_tgt, bindS, many1, jnE, boolS, gdB, fst', snd', len_sl u23, bop_lss, hlt, decide_true, condT, ixs23 lab_len hi, ixs23 lab_len hi', ld_lab, lab_neq, bop_add, hw]
      by_cases hq : xs[i] = ys[i]
      · simp only [hq, decide_true, Bool.not_true, condF]
        refine hnx (_, _) _ ⟨rfl, rfl, rfl, ?_⟩
        rw [List.take_succ_eq_append_getElem hi, List.take_succ_eq_append_getElem hi', h3, hq]
      · simp only [hq, decide_false, Bool.not_false, condT]
        have hne : xs ≠ ys := fun e => hq (by simp only [e])
        exact One.ret ⟨by rw [decide_eq_false hne], .refl s⟩
    · rintro ⟨x1, x2⟩ s' ⟨rfl, h1, h2, h3⟩ nx
      simp only at h1 h2
      subst h1 h2
      have hnlt : ¬ ((xs.length : Int) < xs.length) := by omega
      have hxy : xs = ys := by rw [List.take_length, h, List.take_length] at h3; exact h3
      simp only [f21_l0, o_bool, o_alloc, o_box, o_build, o_buildSlice, o_load, o_store, o_nilCheck, o_bop, o_uop, o_conv, o_slc, o_fieldAddr, o_field, o_indexAddr, o_index, o_extract, o_lookup, o_mapUpdate, o_makeMap, o_mapEntry, o_entryStore, o_delete, o_len, o_append, o_min, o_max, o_tgt, bindS, many1, jnE, boolS, gdB, fst', snd', len_sl u23, bop_lss, hnlt, decide_false, condF, beq_yes, condT]
      exact One.ret ⟨by rw [decide_eq_true hxy], .refl s⟩
  · have e : ¬ ((xs.length : Int) = ys.length) := by omega
    have hne : xs ≠ ys := fun e => h (by rw [e])
    simp only [e, decide_false, Bool.not_false, condT]
    exact One.ret ⟨by rw [decide_eq_false hne], .refl s⟩

/-- A series with its labels; the number in the middle tells what is known of the room behind them. -/
abbrev Nm := Int × Nat × List Lab
def nm (a : Nm) : List Value := [.int .u64 a.1, sl lab a.2.1 a.2.2]
theorem nm_len (a : Nm) : (nm a).length = 2 := rfl
/-- What counts. -/
def nk (a : Nm) : Int × List Lab := (a.1, a.2.2)
theorem ldn_0 {s : SH} {id : Nat} {a : Nm} (h : HP.get s.h id = some (.row (nm a))) : loadD Try.prog s 70 (.pointer (some ⟨id, 0, none⟩)) = some (.int .u64 a.1) := by rw [load_row h, part_one a70]; rfl
theorem ldn_1 {s : SH} {id : Nat} {a : Nm} (h : HP.get s.h id = some (.row (nm a))) : loadD Try.prog s 23 (.pointer (some ⟨id, 1, none⟩)) = some (sl lab a.2.1 a.2.2) := by rw [load_row h, part_one a23]; rfl
theorem ldn {s : SH} {id : Nat} {a : Nm} (h : HP.get s.h id = some (.row (nm a))) : loadD Try.prog s 135 (.pointer (some ⟨id, 0, none⟩)) = some (.agg (nm a).toArray) := by rw [load_row h, part_agg a135 z135 (l := nm a) rfl rfl]
theorem ldf_nm {s : SH} (a : Nm) : loadD Try.prog s 135 (fpV (nm a).toArray 0) = some (.agg (nm a).toArray) := by rw [load_fp, part_agg a135 z135 (l := nm a) rfl rfl]
theorem ldf_nm0 {s : SH} (a : Nm) : loadD Try.prog s 70 (fpV (nm a).toArray 0) = some (.int .u64 a.1) := by rw [load_fp, part_one a70]; rfl
theorem ldf_nm1 {s : SH} (a : Nm) : loadD Try.prog s 23 (fpV (nm a).toArray 1) = some (sl lab a.2.1 a.2.2) := by rw [load_fp, part_one a23]; rfl
/-- A record. -/
structure RecD where
  kind : Int
  mN : Nat
  new : List Nm
  mP : Nat
  pts : List Pt
  mI : Nat
  ids : List Int
  rng : Rg
  n : Int
def enR (r : RecD) : List Value := [.int .i64 r.kind, sl nm r.mN r.new, sl pt r.mP r.pts, sl u6 r.mI r.ids, .int .i64 r.rng.1, .int .i64 r.rng.2, .int .u64 r.n]
def Small (r : RecD) : Prop := r.new.length < 2 ^ 62 ∧ (∀ a ∈ r.new, a.2.2.length < 2 ^ 62) ∧ r.pts.length < 2 ^ 62 ∧ r.ids.length < 2 ^ 62
theorem bx_r (s : SH) (r : RecD) : boxD s (.agg (enR r).toArray) = some (.pointer (some ⟨s.n, 0, none⟩), newD s (.row (enR r))) := box_at rfl rfl
section lds
variable {s : SH} {id : Nat} {r : RecD} (h : HP.get s.h id = some (.row (enR r)))
include h
theorem lr : loadD Try.prog s 72 (.pointer (some ⟨id, 0, none⟩)) = some (.agg (enR r).toArray) := by rw [load_row h, part_agg a72 z72 (l := enR r) rfl rfl]
theorem lr0 : loadD Try.prog s 3 (.pointer (some ⟨id, 0, none⟩)) = some (.int .i64 r.kind) := by rw [load_row h, part_one a3]; rfl
theorem lr1 : loadD Try.prog s 65 (.pointer (some ⟨id, 1, none⟩)) = some (sl nm r.mN r.new) := by rw [load_row h, part_one a65]; rfl
theorem lr2 : loadD Try.prog s 66 (.pointer (some ⟨id, 2, none⟩)) = some (sl pt r.mP r.pts) := by rw [load_row h, part_one a66]; rfl
theorem lr3 : loadD Try.prog s 67 (.pointer (some ⟨id, 3, none⟩)) = some (sl u6 r.mI r.ids) := by rw [load_row h, part_one a67]; rfl
theorem lr4 : loadD Try.prog s 69 (.pointer (some ⟨id, 4, none⟩)) = some (.agg (rg r.rng).toArray) := by rw [load_row h, part_agg a69 z69 (l := rg r.rng) rfl rfl]
theorem lr5 : loadD Try.prog s 70 (.pointer (some ⟨id, 6, none⟩)) = some (.int .u64 r.n) := by rw [load_row h, part_one a70]; rfl
end lds
def sameR (a b : RecD) : Bool := decide (a.kind = b.kind) && (decide (a.rng = b.rng) && (decide (a.n = b.n) && (decide (a.new.map nk = b.new.map nk) && (decide (a.pts = b.pts) && decide (a.ids = b.ids)))))
end Go.Proofs.Ytmhmbmogodofeaa.S
