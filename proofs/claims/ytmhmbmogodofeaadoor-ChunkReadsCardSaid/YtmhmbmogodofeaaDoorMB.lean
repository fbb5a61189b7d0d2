import Derived.Test.YtmhmbmogodofeaaDoorMA
import Derived.Test.YtmhmbmogodofeaaDoorTD
import Derived.Test.YtmhmbmogodofeaaDoorWD
import Derived.Test.YtmhmbmogodofeaaDoorFy
set_option autoImplicit false
set_option linter.unusedVariables false
set_option linter.unusedSimpArgs false
set_option maxRecDepth 100000
namespace Go.Proofs.YtmhmbmogodofeaaDoor.S
open Go.FS Go.RowKit
attribute [local congr] bind_cg cond_cg gd_cg
section short
variable {H : HeapI} {P : Program}
theorem oa : (dOps (H := H) P).boolO = boolD := rfl
theorem ob : (dOps (H := H) P).alloc = allocD P := rfl
theorem oc : (dOps (H := H) P).box = boxD := rfl
theorem od : (dOps (H := H) P).build = buildD P := rfl
theorem oe : (dOps (H := H) P).buildSlice = buildSliceD P := rfl
theorem of : (dOps (H := H) P).load = loadD P := rfl
theorem og : (dOps (H := H) P).store = storeD P := rfl
theorem oh : (dOps (H := H) P).nilCheck = nilCheckD := rfl
theorem oi : (dOps (H := H) P).bop = bopD P := rfl
theorem oj : (dOps (H := H) P).uop = uopD P := rfl
theorem ok : (dOps (H := H) P).conv = convertD P := rfl
theorem ol : (dOps (H := H) P).slc = slcD P := rfl
theorem om : (dOps (H := H) P).fieldAddr = fieldAddrD P := rfl
theorem on : (dOps (H := H) P).field = fieldD P := rfl
theorem oo : (dOps (H := H) P).indexAddr = indexAddrD P := rfl
theorem op : (dOps (H := H) P).index = indexD P := rfl
theorem oq : (dOps (H := H) P).extract = extractD := rfl
theorem or : (dOps (H := H) P).lookup = lookupD P := rfl
theorem os : (dOps (H := H) P).mapUpdate = mapUpdateD P := rfl
theorem ot : (dOps (H := H) P).makeSlice = makeSliceD P := rfl
theorem ou : (dOps (H := H) P).makeMap = makeMapO P := rfl
theorem ov : (dOps (H := H) P).mapEntry = mapEntryD P := rfl
theorem ow : (dOps (H := H) P).entryStore = entryStoreD := rfl
theorem ox : (dOps (H := H) P).delete = deleteD P := rfl
theorem oy : (dOps (H := H) P).len = lenOfD P := rfl
theorem oz : (dOps (H := H) P).append = appD P := rfl
theorem oA : (dOps (H := H) P).minO = minD P := rfl
theorem oB : (dOps (H := H) P).maxO = maxD P := rfl
theorem oC : (dOps (H := H) P).tgt = tgtD := rfl
theorem oO : ((dOps (H := H) P).boolO = boolD) ∧ ((dOps (H := H) P).alloc = allocD P) ∧ ((dOps (H := H) P).box = boxD) ∧ ((dOps (H := H) P).build = buildD P) ∧ ((dOps (H := H) P).buildSlice = buildSliceD P) ∧ ((dOps (H := H) P).load = loadD P) ∧ ((dOps (H := H) P).store = storeD P) ∧ ((dOps (H := H) P).nilCheck = nilCheckD) ∧ ((dOps (H := H) P).bop = bopD P) ∧ ((dOps (H := H) P).uop = uopD P) ∧ ((dOps (H := H) P).conv = convertD P) ∧ ((dOps (H := H) P).slc = slcD P) ∧ ((dOps (H := H) P).fieldAddr = fieldAddrD P) ∧ ((dOps (H := H) P).field = fieldD P) ∧ ((dOps (H := H) P).indexAddr = indexAddrD P) ∧ ((dOps (H := H) P).index = indexD P) ∧ ((dOps (H := H) P).extract = extractD) ∧ ((dOps (H := H) P).lookup = lookupD P) ∧ ((dOps (H := H) P).mapUpdate = mapUpdateD P) ∧ ((dOps (H := H) P).makeSlice = makeSliceD P) ∧ ((dOps (H := H) P).makeMap = makeMapO P) ∧ ((dOps (H := H) P).mapEntry = mapEntryD P) ∧ ((dOps (H := H) P).entryStore = entryStoreD) ∧ ((dOps (H := H) P).delete = deleteD P) ∧ ((dOps (H := H) P).len = lenOfD P) ∧ ((dOps (H := H) P).append = appD P) ∧ ((dOps (H := H) P).minO = minD P) ∧ ((dOps (H := H) P).maxO = maxD P) ∧ ((dOps (H := H) P).tgt = tgtD) := ⟨oa, ob, oc, od, oe, of, og, oh, oi, oj, ok, ol, om, on, oo, op, oq, or, os, ot, ou, ov, ow, ox, oy, oz, oA, oB, oC⟩
end short
noncomputable abbrev HP : HeapI := FG tabs
noncomputable def IB : Intr HP := fun f => bif Nat.beq f 13 then some yes else none
def cutB' (f : Nat) : Option (List (Option Nat)) := match f with
  | 9 | 10 | 12 | 14 | 16 | 20 | 27 | 34 | 35 | 36 | 40 | 44 | 46 | 47 | 61 | 62 | 63 | 67 | 69 | 73 | 74 | 75 | 77 | 78 | 79 | 81 | 82 | 83 | 84 | 86 | 87 | 93 | 94 | 95 | 96 | 98 | 100 | 101 | 102 | 105 | 106 | 107 | 108 | 110 | 111 => some [none]
  | _ => none
noncomputable def AB : Ann HP := { i := IB, N := 2 ^ 64, row := fun f => Nat.beq f 99 || Nat.beq f 71 || Nat.beq f 40, cut := cutB' }
abbrev SH := St HP
theorem Sm.weak {lo lo' : Nat} {a b : SH} (h : Sm lo' a b) (hl : lo ≤ lo') : Sm lo a b := ⟨h.1, fun j hj => h.2 j (Nat.lt_of_lt_of_le hj hl)⟩
theorem Grow.weak {α : Type} {lo lo' z : Nat} {enc : α → List Value} {s : SH} {v : Value} {xs : List α} (h : Grow lo' z enc s v xs) (hl : lo ≤ lo') : Grow lo z enc s v xs := by
  rcases h with h | ⟨id, h1, h2⟩
  · exact .inl h
  · exact .inr ⟨id, Nat.le_trans hl h1, h2⟩
theorem Grow.form {α : Type} {lo z : Nat} {enc : α → List Value} {s : SH} {v : Value} {xs : List α} (h : Grow lo z enc s v xs) : ∃ m, v = sl enc m xs := by
  rcases h with ⟨rfl, rfl | rfl⟩ | ⟨id, _, _, rfl, _⟩
  · exact ⟨2, rfl⟩
  · exact ⟨1, rfl⟩
  · exact ⟨id + 3, rfl⟩
theorem eqO_s (v : Value) : eqO HP (some v) v = true := by simp [eqO, FG]
theorem c13 {n : Nat} {s : SH} : callD Tryd.prog AB (n + 1) (.fn 13) [] s = some [(.bool true, s)] := by
  rw [call_i (i := yes) rfl]; rfl
/-! Operations on numbers. -/
theorem or64 {a b : Nat} (ha : a < 2 ^ 64) (hb : b < 2 ^ 64) : bopD Tryd.prog .or 38 (.int .u64 (a : Int)) (.int .u64 (b : Int)) = some (.int .u64 ((a ||| b : Nat) : Int)) := by
  rw [bop_int]
  have hlt : a ||| b < 2 ^ 64 := Nat.or_lt_two_pow ha hb
  have e1 : (BitVec.ofInt 64 (a : Int)).toNat = a := by rw [BitVec.ofInt_natCast, BitVec.toNat_ofNat, Nat.mod_eq_of_lt ha]
  have e2 : (BitVec.ofInt 64 (b : Int)).toNat = b := by rw [BitVec.ofInt_natCast, BitVec.toNat_ofNat, Nat.mod_eq_of_lt hb]
  have e3 : (BitVec.ofInt 64 (a : Int) ||| BitVec.ofInt 64 (b : Int)).toNat = a ||| b := by rw [BitVec.toNat_or, e1, e2]
  exact congrArg (fun z => some (Value.int IntKind.u64 z)) (show IntKind.u64.wrap (((BitVec.ofInt 64 (a : Int) ||| BitVec.ofInt 64 (b : Int)).toNat : Nat) : Int) = _ by rw [e3, wrap_u64 (by omega) (by omega)])
theorem and64 {a b : Nat} (ha : a < 2 ^ 64) (hb : b < 2 ^ 64) : bopD Tryd.prog .and 38 (.int .u64 (a : Int)) (.int .u64 (b : Int)) = some (.int .u64 ((a &&& b : Nat) : Int)) := by
  rw [bop_int]
  have hlt : a &&& b < 2 ^ 64 := Nat.and_lt_two_pow _ hb
  have e1 : (BitVec.ofInt 64 (a : Int)).toNat = a := by rw [BitVec.ofInt_natCast, BitVec.toNat_ofNat, Nat.mod_eq_of_lt ha]
  have e2 : (BitVec.ofInt 64 (b : Int)).toNat = b := by rw [BitVec.ofInt_natCast, BitVec.toNat_ofNat, Nat.mod_eq_of_lt hb]
  have e3 : (BitVec.ofInt 64 (a : Int) &&& BitVec.ofInt 64 (b : Int)).toNat = a &&& b := by rw [BitVec.toNat_and, e1, e2]
  exact congrArg (fun z => some (Value.int IntKind.u64 z)) (show IntKind.u64.wrap (((BitVec.ofInt 64 (a : Int) &&& BitVec.ofInt 64 (b : Int)).toNat : Nat) : Int) = _ by rw [e3, wrap_u64 (by omega) (by omega)])
theorem shr64 {a k : Nat} (hk : k ≤ 64) : bopD Tryd.prog .shr 38 (.int .u64 (a : Int)) (.int .i64 (k : Int)) = some (.int .u64 ((a / 2 ^ k : Nat) : Int)) := by
  rw [bop_int]
  simp only [intS, IntKind.bits]
  rw [if_neg (by omega), Int.toNat_natCast, Nat.min_eq_left hk]
  have e : ((2 : Int) ^ k) = ((2 ^ k : Nat) : Int) := by simp
  rw [e, ← Int.ofNat_fdiv]
theorem shl64w {a k : Nat} (hk : k ≤ 64) : bopD Tryd.prog .shl 38 (.int .u64 (a : Int)) (.int .i64 (k : Int)) = some (.int .u64 ((a * 2 ^ k % 2 ^ 64 : Nat) : Int)) := by
  rw [bop_int]
  simp only [intS, IntKind.bits]
  rw [if_neg (by omega), Int.toNat_natCast, Nat.min_eq_left hk]
  have e : (a : Int) * 2 ^ k = ((a * 2 ^ k : Nat) : Int) := by simp
  rw [e, wrap_us rfl]
  congr 2
theorem shl64 {a k : Nat} (hk : k ≤ 64) (h : a * 2 ^ k < 2 ^ 64) : bopD Tryd.prog .shl 38 (.int .u64 (a : Int)) (.int .i64 (k : Int)) = some (.int .u64 ((a * 2 ^ k : Nat) : Int)) := by
  rw [shl64w hk, Nat.mod_eq_of_lt h]
/-- A number's lowest bits. -/
theorem c96 {n : Nat} {s : SH} (x k : Nat) (hx : x < 2 ^ 64) (hk : k ≤ 64) : callD Tryd.prog AB (n + 1) (.fn 96) [.int .u64 (x : Int), .int .i64 (k : Int)] s = some [(.int .u64 ((x % 2 ^ k : Nat) : Int), s)] := by
  refine cut_call (fn := Tryd.f96) rfl rfl (by kernel_rfl) (v := .int .u64 ((x % 2 ^ k : Nat) : Int)) (fun _ h => by cases h) (.int _ _) ?_
  show One (bodyD Tryd.prog false _ _ 96 Tryd.f96 _ s) _
  rw [f96_r]
  by_cases h : k = 64
  · subst h
    have hg : ((64 : Nat) : Int) ≥ 64 := by omega
    simp only [f96, o_bool, o_alloc, o_box, o_build, o_buildSlice, o_load, o_store, o_nilCheck, o_bop, o_uop, o_conv, o_slc, o_fieldAddr, o_field, o_indexAddr, o_index, o_extract, o_lookup, o_mapUpdate, o_makeSlice, o_makeMap, o_mapEntry, o_entryStore, o_delete, o_len, o_append, o_min, o_max, o_tgt, bindS, many1, jnE, boolS, gdB, fst', snd', bop_geq, hg, decide_true, condT]
    exact One.ret ⟨by rw [Nat.mod_eq_of_lt hx], .refl s⟩
  · have hg : ¬ (k : Int) ≥ 64 := by omega
    have hp : 2 ^ k < 2 ^ 64 := Nat.pow_lt_pow_right (by decide) (by omega)
    have h1 : bopD Tryd.prog .shl 38 (.int .u64 1) (.int .i64 (k : Int)) = some (.int .u64 ((2 ^ k : Nat) : Int)) := by
      have := shl64 (a := 1) (k := k) hk (by omega)
      rw [Nat.one_mul] at this; exact this
    have hpos := Nat.two_pow_pos k
    have h2 : IntKind.u64.wrap (((2 ^ k : Nat) : Int) - 1) = ((2 ^ k - 1 : Nat) : Int) := by rw [wrap_u64 (by omega) (by omega)]; omega
    simp only [f96, o_bool, o_alloc, o_box, o_build, o_buildSlice, o_load, o_store, o_nilCheck, o_bop, o_uop, o_conv, o_slc, o_fieldAddr, o_field, o_indexAddr, o_index, o_extract, o_lookup, o_mapUpdate, o_makeSlice, o_makeMap, o_mapEntry, o_entryStore, o_delete, o_len, o_append, o_min, o_max, o_tgt, bindS, many1, jnE, boolS, gdB, fst', snd', bop_geq, hg, decide_false, condF, h1, b_sub, h2, and64 hx (show 2 ^ k - 1 < 2 ^ 64 by omega), Nat.and_two_pow_sub_one_eq_mod]
    exact One.ret ⟨rfl, .refl s⟩
end Go.Proofs.YtmhmbmogodofeaaDoor.S

set_option autoImplicit false
set_option linter.unusedVariables false
set_option linter.unusedSimpArgs false
set_option maxRecDepth 100000
namespace Go.Proofs.YtmhmbmogodofeaaDoor.S
open Go.FS Go.RowKit
attribute [local congr] bind_cg cond_cg gd_cg
/-! The writer. -/
def rowB (B : List UInt8) : List Value := B.map fun b => .int .u8 (b.toNat : Int)
/-- A row of bytes. -/
def IsB (o : Option DObj) : Prop := ∃ B, o = some (.row (rowB B))
theorem not_isB {o : Option DObj} {x : Value} {l : List Value} (h : o = some (.row (x :: l))) (hx : ∀ y, x ≠ .int .u8 y) : ¬ IsB o := by
  rintro ⟨B, e⟩
  rw [h] at e
  simp only [Option.some.injEq, DObj.row.injEq] at e
  cases B with
  | nil => cases e
  | cons b B => simp only [rowB, List.map_cons, List.cons.injEq] at e; exact hx _ e.1
/-- The bytes of a buffer: none, or a row of its own. -/
def BufV (lo id : Nat) (s : SH) (v : Value) (B : List UInt8) : Prop := (B = [] ∧ v = fzV 2 #[]) ∨ ∃ ib c, v = .slice (some ⟨ib, 0, none⟩) B.length c ∧ c / 2 = 1 ∧ (lo ≤ ib ∧ ib ≠ id) ∧ ib < s.n ∧ HP.get s.h ib = some (.row (rowB B))
theorem BufV.len {lo id : Nat} {s s' : SH} {v : Value} {B : List UInt8} (h : BufV lo id s v B) : lenOfD Tryd.prog s' 22 v = some (.int .i64 (B.length : Int)) := by
  rcases h with ⟨rfl, rfl⟩ | ⟨ib, c, rfl, _⟩
  · simp only [lenOfD, u22]; rfl
  · simp only [lenOfD, u22]
theorem BufV.one {lo id : Nat} {s : SH} {v : Value} {B : List UInt8} (h : BufV lo id s v B) : v.cells.toList = [v] ∧ oneC v = true := by
  rcases h with ⟨rfl, rfl⟩ | ⟨ib, c, rfl, _⟩ <;> exact ⟨rfl, rfl⟩
/-- A writer that has these bits. -/
def Wr (lo id : Nat) (s : SH) (bs : List Bool) : Prop := ∃ v B, HP.get s.h id = some (.row [v, .int .i64 (bs.length : Int), .bool true]) ∧ (id < s.n ∧ lo ≤ s.n) ∧ BufV lo id s v B ∧ padded bs B
def Kp (lo id : Nat) (s s' : SH) : Prop := s.n ≤ s'.n ∧ ∀ j, j < s.n → j ≠ id → (lo ≤ j → ¬ IsB (HP.get s.h j)) → HP.get s'.h j = HP.get s.h j
theorem Kp.refl (lo id : Nat) (s : SH) : Kp lo id s s := ⟨Nat.le_refl _, fun _ _ _ _ => rfl⟩
theorem Kp.trans {lo id : Nat} {a b c : SH} (h : Kp lo id a b) (k : Kp lo id b c) : Kp lo id a c := ⟨Nat.le_trans h.1 k.1, fun j h1 h2 h3 => (k.2 j (Nat.lt_of_lt_of_le h1 h.1) h2 (fun hl => by rw [h.2 j h1 h2 h3]; exact h3 hl)).trans (h.2 j h1 h2 h3)⟩
theorem Kp.ext {lo id : Nat} {a b : SH} (h : Ext a b) : Kp lo id a b := ⟨h.1, fun j h1 _ _ => h.2 j h1⟩
theorem Kp.row {lo id j : Nat} {a b : SH} (h : Kp lo id a b) {x : Value} {l : List Value} (hj : j ≠ id) (hg : HP.get a.h j = some (.row (x :: l))) (hx : ∀ y, x ≠ .int .u8 y) (hl : j < a.n) : HP.get b.h j = some (.row (x :: l)) := by
  rw [h.2 j hl hj (fun _ => not_isB hg hx), hg]
theorem Wr.ext {lo id : Nat} {a b : SH} {bs : List Bool} (h : Wr lo id a bs) (k : Ext a b) : Wr lo id b bs := by
  obtain ⟨v, B, h1, h2, h3, h4⟩ := h
  refine ⟨v, B, by rw [k.2 id h2.1]; exact h1, ⟨Nat.lt_of_lt_of_le h2.1 k.1, Nat.le_trans h2.2 k.1⟩, ?_, h4⟩
  rcases h3 with h3 | ⟨ib, c, q1, q2, q3, q4, q5⟩
  · exact .inl h3
  · exact .inr ⟨ib, c, q1, q2, q3, Nat.lt_of_lt_of_le q4 k.1, by rw [k.2 ib q4]; exact q5⟩
/-- Another object is written. -/
theorem Wr.put {lo id i : Nat} {a : SH} {bs : List Bool} {o : DObj} (h : Wr lo id a bs) (hi : i ≠ id) (hb : ¬ IsB (HP.get a.h i)) : Wr lo id (putD a i o) bs := by
  obtain ⟨v, B, h1, h2, h3, h4⟩ := h
  refine ⟨v, B, by rw [get_put_other (Ne.symm hi)]; exact h1, h2, ?_, h4⟩
  rcases h3 with h3 | ⟨ib, c, q1, q2, q3, q4, q5⟩
  · exact .inl h3
  · exact .inr ⟨ib, c, q1, q2, q3, q4, by rw [get_put_other (fun e => hb ⟨B, by rw [← e]; exact q5⟩)]; exact q5⟩
theorem nilc (id o : Nat) : nilCheckD (.pointer (some ⟨id, o, none⟩)) = some (.pointer (some ⟨id, o, none⟩)) := rfl
end Go.Proofs.YtmhmbmogodofeaaDoor.S

set_option autoImplicit false
set_option linter.unusedVariables false
set_option linter.unusedSimpArgs false
set_option maxRecDepth 100000
namespace Go.Proofs.YtmhmbmogodofeaaDoor.S
open Go.FS Go.RowKit
attribute [local congr] bind_cg cond_cg gd_cg
/-! The writer: New, Put, Bytes. -/
theorem ptr_neq (t id o : Nat) {e : TypeId} (ht : Tryd.prog.underlying t = some (.pointer e)) : bopD Tryd.prog .neq t (.pointer (some ⟨id, o, none⟩)) (.pointer none) = some (.bool true) := by
  show ((binD Tryd.prog .neq t (.pointer (some ⟨id, o, none⟩)) (.pointer none)).or (nilD Tryd.prog .neq t (.pointer (some ⟨id, o, none⟩)) (.pointer none))) = _
  have e1 : binD Tryd.prog .neq t (.pointer (some ⟨id, o, none⟩)) (.pointer none) = none := rfl
  have e2 : nilD Tryd.prog .neq t (.pointer (some ⟨id, o, none⟩)) (.pointer none) = some (.bool true) := by
    simp only [nilD, ht, nilEq]
    rfl
  rw [e1, e2]; rfl
theorem Wr.new {lo id : Nat} {s : SH} (h : HP.get s.h id = some (.row [fzV 2 #[], .int .i64 0, .bool true])) (h1 : id < s.n) (h2 : lo ≤ s.n) : Wr lo id s [] := ⟨fzV 2 #[], [], h, ⟨h1, h2⟩, .inl ⟨rfl, rfl⟩, padded_nil⟩
/-! Bytes. -/
def by' (b : UInt8) : List Value := [.int .u8 (b.toNat : Int)]
theorem by_len (b : UInt8) : (by' b).length = 1 := rfl
theorem bs22_0 (s : SH) : buildSliceD Tryd.prog false s 22 0 [] = some (sl by' 1 [], s) := by kernel_rfl
end Go.Proofs.YtmhmbmogodofeaaDoor.S

set_option autoImplicit false
set_option linter.unusedVariables false
set_option linter.unusedSimpArgs false
set_option maxRecDepth 100000
namespace Go.Proofs.YtmhmbmogodofeaaDoor.S
open Go.FS Go.RowKit
attribute [local congr] bind_cg cond_cg gd_cg

/-! States of times. -/
abbrev I (a : Int) : Value := .int .i64 a
abbrev U (a : Int) : Value := .int .u64 a
abbrev pt (id o : Nat) : Value := .pointer (some ⟨id, o, none⟩)
theorem p3_0 (v : Value) (l : List Value) : partD Tryd.prog 3 (v :: l) 0 = some v := part_one a3
theorem p3_1 (u v : Value) (l : List Value) : partD Tryd.prog 3 (u :: v :: l) 1 = some v := part_one a3
theorem p3_2 (t u v : Value) (l : List Value) : partD Tryd.prog 3 (t :: u :: v :: l) 2 = some v := part_one a3
theorem p3_3 (w t u v : Value) (l : List Value) : partD Tryd.prog 3 (w :: t :: u :: v :: l) 3 = some v := part_one a3
theorem p38_0 (v : Value) (l : List Value) : partD Tryd.prog 38 (v :: l) 0 = some v := part_one a38
theorem p38_1 (u v : Value) (l : List Value) : partD Tryd.prog 38 (u :: v :: l) 1 = some v := part_one a38
abbrev ts (a b c : Int) : Value := .agg #[I a, I b, I c]
abbrev tr (a b c : Int) : List Value := [I a, I b, I c]
theorem bx102 (s : SH) (a b c : Int) : boxD s (ts a b c) = some (pt s.n 0, newD s (.row (tr a b c))) := box_at rfl rfl
theorem al102 (s : SH) : allocD Tryd.prog s 102 = some (pt s.n 0, newD s (.row (tr 0 0 0))) := alloc_at zr102
theorem bl102_0 : buildD Tryd.prog 102 [] = some (ts 0 0 0) := by kernel_rfl
theorem bl102 (a b c : Int) : buildD Tryd.prog 102 [(0, I a), (1, I b), (2, I c)] = some (ts a b c) := by kernel_rfl
theorem p102 (a b c : Int) : partD Tryd.prog 102 (tr a b c) 0 = some (ts a b c) := part_agg a102 z102 rfl rfl
theorem st102_0 (s : SH) (x y z a b c : Int) : storeD Tryd.prog (newD s (.row (tr x y z))) 102 (pt s.n 0) (ts a b c) = some (newD s (.row (tr a b c))) := st_n0 (l := tr a b c) s z102 rfl rfl rfl
def tsV (u : TS) : Value := ts u.n u.last u.delta
theorem ts_plain (a b c : Int) : Plain (ts a b c) := Plain.agg (l := [I a, I b, I c]) rfl
theorem ext1 (s : SH) (a : DObj) : Ext s (newD s a) := (Ext.refl s).new a
theorem ext2' (s : SH) (a b : DObj) : Ext s (newD (newD s a) b) := (ext1 s a).new b
theorem ext3' (s : SH) (a b c : DObj) : Ext s (newD (newD (newD s a) b) c) := (ext2' s a b).new c
theorem pl2 {a b : Value} (h : Plain a) (k : Plain b) : ∀ v ∈ [a, b], Plain v := fun v hv => by
  simp only [List.mem_cons, List.not_mem_nil, or_false] at hv
  rcases hv with rfl | rfl <;> assumption
theorem pl3 {a b c : Value} (h : Plain a) (k : Plain b) (l : Plain c) : ∀ v ∈ [a, b, c], Plain v := fun v hv => by
  simp only [List.mem_cons, List.not_mem_nil, or_false] at hv
  rcases hv with rfl | rfl | rfl <;> assumption
theorem c98 {n : Nat} {s : SH} (a m : Int) (h : 0 ≤ a ∧ a ≤ m) : callD Tryd.prog AB (n + 1) (.fn 98) [I a, I m] s = some [(.bool true, s)] := by
  refine cut_plain (fn := Tryd.f98) rfl rfl (by kernel_rfl) (fun _ h => by cases h) (.bool _) ?_
  show One (bodyD Tryd.prog false _ _ 98 Tryd.f98 _ _) _
  rw [f98_r]
  have h1 : a ≥ 0 := h.1
  simp only [f98, oO, bindS, many1, jnE, boolS, gdB, fst', snd', bop_geq, h1, h.2, bop_leq, decide_true, condT]
  exact One.ret ⟨rfl, .refl s⟩
theorem c74 {n : Nat} {s : SH} (u : TS) (hn : u.n ≤ 4096) (hu : TSok u) : callD Tryd.prog AB (n + 2) (.fn 74) [tsV u] s = some [(.bool true, s)] := by
  refine cut_plain (fn := Tryd.f74) rfl rfl (by kernel_rfl) (fun _ h => by cases h) (.bool _) ?_
  show One (bodyD Tryd.prog false _ _ 74 Tryd.f74 _ _) _
  rw [f74_r]
  obtain ⟨h1, h2⟩ := hu
  unfold mxT at h1 h2
  have e1 := fun s => c98 (n := n) (s := s) (u.n : Int) 4096 (by omega)
  have e2 := fun s => c98 (n := n) (s := s) (u.last : Int) 35184372088832 (by omega)
  have e3 := fun s => c98 (n := n) (s := s) (u.delta : Int) 35184372088832 (by omega)
  simp only [f74, oO, bindS, many1, jnE, boolS, gdB, fst', snd', tsV, bx102, fld102_0, fld102_1, fld102_2, ld_n0, ld_n1, ld_n2, ld_n3, p3_0, p3_1, p3_2, p3_3, p38_0, p38_1, e1, e2, e3, condT]
  exact One.ret ⟨rfl, ext1 s _⟩
theorem c73_yes {n : Nat} {s : SH} (u : TS) (t : Nat) (hn : u.n < 2 ^ 62) (h : tmay u t) : callD Tryd.prog AB (n + 1) (.fn 73) [tsV u, I (t : Int)] s = some [(.tuple #[tsV (tnext u t), .bool true], s)] := by
  refine cutT_plain (fn := Tryd.f73) rfl rfl (by kernel_rfl) (l := [tsV (tnext u t), .bool true]) (pl2 (ts_plain _ _ _) (.bool _)) ?_
  show One (bodyD Tryd.prog false _ _ 73 Tryd.f73 _ _) _
  rw [f73_r]
  obtain ⟨h1, h2, h3⟩ := h
  unfold mxT at h2
  have g1 : ¬ (t : Int) < 0 := by omega
  have g2 : ¬ (t : Int) > 35184372088832 := by omega
  by_cases h0 : u.n = 0
  · have g3 : (u.n : Int) = 0 := by omega
    simp only [f73, oO, bindS, many1, jnE, boolS, gdB, fst', snd', tsV, bx102, al102, bop_lss, g1, decide_false, condF, bop_gtr, g2, fld102_0, ld_n0, ld_n1, ld_n2, ld_n3, p3_0, p3_1, p3_2, p3_3, p38_0, p38_1, bop_eql, g3, decide_true, condT, bl102, st102_0, p102, tnext, h0, if_true]
    exact One.ret ⟨rfl, ext2' s _ _⟩
  · have g3 : ¬ (u.n : Int) = 0 := by omega
    have g4 : ¬ (t : Int) ≤ (u.last : Int) := by omega
    have w1 : IntKind.i64.wrap ((u.n : Int) + 1) = ((u.n + 1 : Nat) : Int) := by rw [wrap_i64 (by omega) (by omega)]; rfl
    have w2 : IntKind.i64.wrap ((t : Int) - (u.last : Int)) = ((t - u.last : Nat) : Int) := by rw [wrap_i64 (by omega) (by omega)]; omega
    simp only [f73, oO, bindS, many1, jnE, boolS, gdB, fst', snd', tsV, bx102, al102, bop_lss, g1, decide_false, condF, bop_gtr, g2, fld102_0, fld102_1, ld_n0, ld_n1, ld_n2, ld_n3, p3_0, p3_1, p3_2, p3_3, p38_0, p38_1, bop_eql, g3, bop_leq, g4, bop_add, w1, b_sub, w2, bl102, st102_0, p102, tnext, h0, if_false]
    exact One.ret ⟨rfl, ext2' s _ _⟩
theorem c73_no {n : Nat} {s : SH} (u : TS) (t : Int) (h : ¬ tmay u t) : callD Tryd.prog AB (n + 1) (.fn 73) [tsV u, I t] s = some [(.tuple #[ts 0 0 0, .bool false], s)] := by
  refine cutT_plain (fn := Tryd.f73) rfl rfl (by kernel_rfl) (l := [ts 0 0 0, .bool false]) (pl2 (ts_plain _ _ _) (.bool _)) ?_
  show One (bodyD Tryd.prog false _ _ 73 Tryd.f73 _ _) _
  rw [f73_r]
  by_cases g1 : t < 0
  · simp only [f73, oO, bindS, many1, jnE, boolS, gdB, fst', snd', tsV, bx102, al102, bop_lss, g1, decide_true, condT, bl102_0, st102_0, ld_n0, ld_n1, ld_n2, ld_n3, p3_0, p3_1, p3_2, p3_3, p38_0, p38_1, p102]
    exact One.ret ⟨rfl, ext2' s _ _⟩
  · by_cases g2 : t > 35184372088832
    · simp only [f73, oO, bindS, many1, jnE, boolS, gdB, fst', snd', tsV, bx102, al102, bop_lss, g1, decide_false, condF, bop_gtr, g2, decide_true, condT, bl102_0, st102_0, ld_n0, ld_n1, ld_n2, ld_n3, p3_0, p3_1, p3_2, p3_3, p38_0, p38_1, p102]
      exact One.ret ⟨rfl, ext2' s _ _⟩
    · have h0 : ¬ u.n = 0 := fun e => h ⟨by omega, by unfold mxT; omega, .inl e⟩
      have g3 : ¬ (u.n : Int) = 0 := by omega
      have g4 : t ≤ (u.last : Int) := Int.not_lt.1 fun hl => h ⟨by omega, by unfold mxT; omega, .inr hl⟩
      simp only [f73, oO, bindS, many1, jnE, boolS, gdB, fst', snd', tsV, bx102, al102, bop_lss, g1, decide_false, condF, bop_gtr, g2, fld102_0, fld102_1, ld_n0, ld_n1, ld_n2, ld_n3, p3_0, p3_1, p3_2, p3_3, p38_0, p38_1, bop_eql, g3, bop_leq, g4, decide_true, condT, bl102_0, st102_0, p102]
      exact One.ret ⟨rfl, ext2' s _ _⟩
end Go.Proofs.YtmhmbmogodofeaaDoor.S

set_option autoImplicit false
set_option linter.unusedVariables false
set_option linter.unusedSimpArgs false
set_option maxRecDepth 100000
namespace Go.Proofs.YtmhmbmogodofeaaDoor.S
open Go.FS Go.RowKit
attribute [local congr] bind_cg cond_cg gd_cg

/-! Classes of differences. -/
abbrev cl (a b c : Int) : Value := .agg #[I a, I b, I c]
theorem al147 (s : SH) : allocD Tryd.prog s 147 = some (pt s.n 0, newD s (.row (tr 0 0 0))) := alloc_at zr147
theorem bx147 (s : SH) (a b c : Int) : boxD s (cl a b c) = some (pt s.n 0, newD s (.row (tr a b c))) := box_at rfl rfl
theorem p147 (a b c : Int) : partD Tryd.prog 147 (tr a b c) 0 = some (cl a b c) := part_agg a147 z147 rfl rfl
theorem st147_0 (s : SH) (x y z a b c : Int) : storeD Tryd.prog (newD s (.row (tr x y z))) 147 (pt s.n 0) (cl a b c) = some (newD s (.row (tr a b c))) := st_n0 (l := tr a b c) s z147 rfl rfl rfl
def cEnd (k : Nat) : Nat := if k < 4 then 1 else 0
theorem lt5 {k : Nat} (h : k < 5) : k = 0 ∨ k = 1 ∨ k = 2 ∨ k = 3 ∨ k = 4 := by omega
theorem ix148 {k : Nat} (h : k < 5) : indexD Tryd.prog 148 (.agg classes) (I (k : Int)) = some (cl (k : Int) (cEnd k : Int) (tw k : Int)) := by
  rcases lt5 h with rfl | rfl | rfl | rfl | rfl <;> kernel_rfl
theorem ld148 (s : SH) : loadD Tryd.prog s 148 (gpV 0 0) = some (.agg classes) := by
  rw [load_gp (cs := classes) rfl]; kernel_rfl
theorem ixa148 {k : Nat} (h : k < 5) : indexAddrD Tryd.prog 148 (gpV 0 0) (I (k : Int)) = some (gpV 0 (k * 3)) := by
  rcases lt5 h with rfl | rfl | rfl | rfl | rfl <;> kernel_rfl
theorem flg147_2 {k : Nat} (h : k < 5) : fieldAddrD Tryd.prog 147 (gpV 0 (k * 3)) 2 = some (gpV 0 (k * 3 + 2)) := by
  rcases lt5 h with rfl | rfl | rfl | rfl | rfl <;> kernel_rfl
theorem ldg3 {k : Nat} (s : SH) (h : k < 5) : loadD Tryd.prog s 3 (gpV 0 (k * 3 + 2)) = some (I (tw k : Int)) := by
  rw [load_gp (cs := classes) rfl]
  rcases lt5 h with rfl | rfl | rfl | rfl | rfl <;> kernel_rfl
theorem c100 {n : Nat} {s : SH} (a b : Int) (w z : Nat) (hw : w ≤ 64) : callD Tryd.prog AB (n + 1) (.fn 100) [cl a b (w : Int), U (z : Int)] s = some [(.bool (decide (z / 2 ^ w = 0)), s)] := by
  refine cut_plain (fn := Tryd.f100) rfl rfl (by kernel_rfl) (fun _ h => by cases h) (.bool _) ?_
  show One (bodyD Tryd.prog false _ _ 100 Tryd.f100 _ _) _
  rw [f100_r]
  have e : decide (((z / 2 ^ w : Nat) : Int) = 0) = decide (z / 2 ^ w = 0) := by
    by_cases h : z / 2 ^ w = 0
    · rw [h]; rfl
    · rw [decide_eq_false h, decide_eq_false (by omega)]
  simp only [f100, oO, bindS, many1, jnE, boolS, gdB, fst', snd', bx147, fld147_2, ld_n0, ld_n1, ld_n2, ld_n3, p3_0, p3_1, p3_2, p3_3, p38_0, p38_1, shr64 hw, bop_eql, e]
  exact One.ret ⟨rfl, ext1 s _⟩
theorem tcls_min {z i : Nat} (h : z < 2 ^ tw i) : tcls z ≤ i := by
  unfold tcls
  match i, h with
  | 0, h => simp only [tw] at h; rw [if_pos (by omega)]; omega
  | 1, h => simp only [tw] at h; (repeat' split) <;> omega
  | 2, h => simp only [tw] at h; (repeat' split) <;> omega
  | 3, h => simp only [tw] at h; (repeat' split) <;> omega
  | i + 4, h => (repeat' split) <;> omega
theorem c77 {n : Nat} {s : SH} (z : Nat) (hz : z < 2 ^ 48) : callD Tryd.prog AB (n + 2) (.fn 77) [U (z : Int)] s = some [(I (tcls z : Int), s)] := by
  refine cut_plain (fn := Tryd.f77) rfl rfl (by kernel_rfl) (fun _ h => by cases h) (.int _ _) ?_
  show One (bodyD Tryd.prog false _ _ 77 Tryd.f77 _ _) _
  rw [f77_r]
  simp only [f77, oO, bindS, many1, jnE, boolS, gdB, fst', snd', ld148]
  refine list_one (List.replicate 5 ()) (fun i (x : Value × Value × Value) (s' : SH) => i ≤ tcls z ∧ x.2.2 = I i ∧ Ext s s') ?_ ?_ ⟨Nat.zero_le _, rfl, .refl s⟩ (by rw [List.length_replicate]; show _ < 2 ^ 64; omega)
  · rintro i hi ⟨x1, x2, x3⟩ s' ⟨h1, h2, h3⟩ nx hnx
    rw [List.length_replicate] at hi
    simp only at h2
    subst h2
    have hlt : (i : Int) < 5 := by omega
    have hw : IntKind.i64.wrap ((i : Int) + 1) = ((i + 1 : Nat) : Int) := by rw [wrap_i64 (by omega) (by omega)]; rfl
    have e100 := fun s => c100 (n := n) (s := s) (i : Int) (cEnd i : Int) (tw i) z (by have := tw_le i; omega)
    simp only [f77_l0, oO, bindS, many1, jnE, boolS, gdB, fst', snd', bop_lss, hlt, decide_true, condT, ix148 hi, al147, st147_0, ld_n0, ld_n1, ld_n2, ld_n3, p3_0, p3_1, p3_2, p3_3, p38_0, p38_1, p147, e100]
    by_cases h0 : z / 2 ^ tw i = 0
    · have hl : z < 2 ^ tw i := (Nat.div_eq_zero_iff_lt (Nat.two_pow_pos _)).1 h0
      have : tcls z = i := by have := tcls_min hl; omega
      simp only [h0, decide_true, condT]
      exact One.ret ⟨by rw [this], h3.new _⟩
    · simp only [h0, decide_false, condF, bop_add, hw]
      refine hnx (_, _, _) _ ⟨?_, rfl, h3.new _⟩
      rcases Nat.lt_or_ge i (tcls z) with h | h
      · exact h
      · have : tcls z = i := by omega
        have h4 := tcls_lt hz
        rw [this] at h4
        exact absurd ((Nat.div_eq_zero_iff_lt (Nat.two_pow_pos _)).2 h4) h0
  · rintro ⟨x1, x2, x3⟩ s' ⟨h1, h2, h3⟩ nx
    rw [List.length_replicate] at h1
    have := tcls_le z
    omega
/-! A number with a sign as one without. -/
theorem xor3_0 (t : TypeId) (a : Int) (h : 0 ≤ a) (h2 : a < 2 ^ 62) : bopD Tryd.prog .xor t (I a) (I 0) = some (I a) := by
  rw [bop_int]
  show some (Value.int IntKind.i64 (IntKind.i64.wrap ((BitVec.ofInt 64 a ^^^ BitVec.ofInt 64 0).toNat : Nat))) = _
  have e1 : BitVec.ofInt 64 a ^^^ BitVec.ofInt 64 0 = BitVec.ofInt 64 a := by simp
  have e2 : ((BitVec.ofInt 64 a).toNat : Int) = a := by
    rw [BitVec.toNat_ofInt]
    omega
  rw [e1, e2, wrap_i64 (by omega) (by omega)]
theorem Kp.putNew {lo id i : Nat} {a b : SH} (h : Kp lo id a b) (hi : a.n ≤ i) (o : DObj) : Kp lo id a (putD b i o) := ⟨h.1, fun j h1 h2 h3 => by rw [get_put_other (by omega)]; exact h.2 j h1 h2 h3⟩
theorem Kp.new {lo id : Nat} {a b : SH} (h : Kp lo id a b) (o : DObj) : Kp lo id a (newD b o) := ⟨by rw [newD_n]; exact Nat.le_succ_of_le h.1, fun j h1 h2 h3 => by rw [get_old (by have := h.1; omega)]; exact h.2 j h1 h2 h3⟩
theorem Wr.new' {lo id : Nat} {s : SH} {bs : List Bool} (h : Wr lo id s bs) (o : DObj) : Wr lo id (newD s o) bs := h.ext (ext1 s o)
end Go.Proofs.YtmhmbmogodofeaaDoor.S

set_option autoImplicit false
set_option linter.unusedVariables false
set_option linter.unusedSimpArgs false
set_option maxRecDepth 100000
namespace Go.Proofs.YtmhmbmogodofeaaDoor.S
open Go.FS Go.RowKit
attribute [local congr] bind_cg cond_cg gd_cg

/-! stamp.Put. -/
theorem tst_n (s : SH) (id : Nat) {x y z a b c : Int} (h : HP.get s.h id = some (.row (tr x y z))) : storeD Tryd.prog s 102 (pt id 0) (ts a b c) = some (putD s id (.row (tr a b c))) := st_all (l := tr a b c) z102 h rfl rfl rfl
theorem tld_n {s : SH} {id : Nat} {a b c : Int} (h : HP.get s.h id = some (.row (tr a b c))) : loadD Tryd.prog s 102 (pt id 0) = some (ts a b c) := by rw [load_row h]; exact p102 a b c
theorem tld_0 {s : SH} {id : Nat} {a b c : Int} (h : HP.get s.h id = some (.row (tr a b c))) : loadD Tryd.prog s 3 (pt id 0) = some (I a) := by rw [load_row h, p3_0]
theorem tld_1 {s : SH} {id : Nat} {a b c : Int} (h : HP.get s.h id = some (.row (tr a b c))) : loadD Tryd.prog s 3 (pt id 1) = some (I b) := by rw [load_row h, p3_1]
theorem tld_2 {s : SH} {id : Nat} {a b c : Int} (h : HP.get s.h id = some (.row (tr a b c))) : loadD Tryd.prog s 3 (pt id 2) = some (I c) := by rw [load_row h, p3_2]
theorem ext2 (a b : Value) : extractD (.tuple #[a, b]) 0 = some a ∧ extractD (.tuple #[a, b]) 1 = some b := by cases a <;> exact ⟨rfl, rfl⟩
theorem ext3 (a b c : Value) : extractD (.tuple #[a, b, c]) 0 = some a ∧ extractD (.tuple #[a, b, c]) 1 = some b ∧ extractD (.tuple #[a, b, c]) 2 = some c := by cases a <;> exact ⟨rfl, rfl, rfl⟩
end Go.Proofs.YtmhmbmogodofeaaDoor.S
