import Derived.Test.YtmhmbmogodofeaaDoorMA
import Derived.Test.YtmhmbmogodofeaaDoorTD
import Derived.Test.YtmhmbmogodofeaaDoorWD
import Derived.Test.YtmhmbmogodofeaaDoorFy
set_option autoImplicit false
set_option linter.unusedVariables false
set_option linter.unusedSimpArgs false
set_option maxRecDepth 100000
namespace Go.Proofs.YtmhmbmogodofeaaDoor.S
open Go.FS Go.RowKit
attribute [local congr] bind_cg cond_cg gd_cg
section short
variable {H : HeapI} {P : Program}
theorem oa : (dOps (H := H) P).boolO = boolD := rfl
theorem ob : (dOps (H := H) P).alloc = allocD P := rfl
theorem oc : (dOps (H := H) P).box = boxD := rfl
theorem od : (dOps (H := H) P).build = buildD P := rfl
theorem oe : (dOps (H := H) P).buildSlice = buildSliceD P := rfl
theorem of : (dOps (H := H) P).load = loadD P := rfl
theorem og : (dOps (H := H) P).store = storeD P := rfl
theorem oh : (dOps (H := H) P).nilCheck = nilCheckD := rfl
theorem oi : (dOps (H := H) P).bop = bopD P := rfl
theorem oj : (dOps (H := H) P).uop = uopD P := rfl
theorem ok : (dOps (H := H) P).conv = convertD P := rfl
theorem ol : (dOps (H := H) P).slc = slcD P := rfl
theorem om : (dOps (H := H) P).fieldAddr = fieldAddrD P := rfl
theorem on : (dOps (H := H) P).field = fieldD P := rfl
theorem oo : (dOps (H := H) P).indexAddr = indexAddrD P := rfl
theorem op : (dOps (H := H) P).index = indexD P := rfl
theorem oq : (dOps (H := H) P).extract = extractD := rfl
theorem or : (dOps (H := H) P).lookup = lookupD P := rfl
theorem os : (dOps (H := H) P).mapUpdate = mapUpdateD P := rfl
theorem ot : (dOps (H := H) P).makeSlice = makeSliceD P := rfl
theorem ou : (dOps (H := H) P).makeMap = makeMapO P := rfl
theorem ov : (dOps (H := H) P).mapEntry = mapEntryD P := rfl
theorem ow : (dOps (H := H) P).entryStore = entryStoreD := rfl
theorem ox : (dOps (H := H) P).delete = deleteD P := rfl
theorem oy : (dOps (H := H) P).len = lenOfD P := rfl
theorem oz : (dOps (H := H) P).append = appD P := rfl
theorem oA : (dOps (H := H) P).minO = minD P := rfl
theorem oB : (dOps (H := H) P).maxO = maxD P := rfl
theorem oC : (dOps (H := H) P).tgt = tgtD := rfl
theorem oO : ((dOps (H := H) P).boolO = boolD) ∧ ((dOps (H := H) P).alloc = allocD P) ∧ ((dOps (H := H) P).box = boxD) ∧ ((dOps (H := H) P).build = buildD P) ∧ ((dOps (H := H) P).buildSlice = buildSliceD P) ∧ ((dOps (H := H) P).load = loadD P) ∧ ((dOps (H := H) P).store = storeD P) ∧ ((dOps (H := H) P).nilCheck = nilCheckD) ∧ ((dOps (H := H) P).bop = bopD P) ∧ ((dOps (H := H) P).uop = uopD P) ∧ ((dOps (H := H) P).conv = convertD P) ∧ ((dOps (H := H) P).slc = slcD P) ∧ ((dOps (H := H) P).fieldAddr = fieldAddrD P) ∧ ((dOps (H := H) P).field = fieldD P) ∧ ((dOps (H := H) P).indexAddr = indexAddrD P) ∧ ((dOps (H := H) P).index = indexD P) ∧ ((dOps (H := H) P).extract = extractD) ∧ ((dOps (H := H) P).lookup = lookupD P) ∧ ((dOps (H := H) P).mapUpdate = mapUpdateD P) ∧ ((dOps (H := H) P).makeSlice = makeSliceD P) ∧ ((dOps (H := H) P).makeMap = makeMapO P) ∧ ((dOps (H := H) P).mapEntry = mapEntryD P) ∧ ((dOps (H := H) P).entryStore = entryStoreD) ∧ ((dOps (H := H) P).delete = deleteD P) ∧ ((dOps (H := H) P).len = lenOfD P) ∧ ((dOps (H := H) P).append = appD P) ∧ ((dOps (H := H) P).minO = minD P) ∧ ((dOps (H := H) P).maxO = maxD P) ∧ ((dOps (H := H) P).tgt = tgtD) := ⟨oa, ob, oc, od, oe, of, og, oh, oi, oj, ok, ol, om, on, oo, op, oq, or, os, ot, ou, ov, ow, ox, oy, oz, oA, oB, oC⟩
end short
noncomputable abbrev HP : HeapI := FG tabs
noncomputable def IB : Intr HP := fun f => bif Nat.beq f 13 then some yes else none
def cutB' (f : Nat) : Option (List (Option Nat)) := match f with
  | 9 | 10 | 12 | 14 | 16 | 20 | 27 | 34 | 35 | 36 | 40 | 44 | 46 | 47 | 61 | 62 | 63 | 67 | 69 | 73 | 74 | 75 | 77 | 78 | 79 | 81 | 82 | 83 | 84 | 86 | 87 | 93 | 94 | 95 | 96 | 98 | 100 | 101 | 102 | 105 | 106 | 107 | 108 | 110 | 111 => some [none]
  | _ => none
noncomputable def AB : Ann HP := { i := IB, N := 2 ^ 64, row := fun f => Nat.beq f 99 || Nat.beq f 71 || Nat.beq f 40, cut := cutB' }
abbrev SH := St HP
theorem Grow.form {α : Type} {lo z : Nat} {enc : α → List Value} {s : SH} {v : Value} {xs : List α} (h : Grow lo z enc s v xs) : ∃ m, v = sl enc m xs := by
  rcases h with ⟨rfl, rfl | rfl⟩ | ⟨id, _, _, rfl, _⟩
  · exact ⟨2, rfl⟩
  · exact ⟨1, rfl⟩
  · exact ⟨id + 3, rfl⟩
theorem eqO_s (v : Value) : eqO HP (some v) v = true := by simp [eqO, FG]
theorem c13 {n : Nat} {s : SH} : callD Tryd.prog AB (n + 1) (.fn 13) [] s = some [(.bool true, s)] := by
  rw [call_i (i := yes) rfl]; rfl
/-! Operations on numbers. -/
theorem or8 {a b : Nat} (ha : a < 256) (hb : b < 256) : bopD Tryd.prog .or 5 (.int .u8 (a : Int)) (.int .u8 (b : Int)) = some (.int .u8 ((a ||| b : Nat) : Int)) := by
  rw [bop_int]
  have hlt : a ||| b < 256 := Nat.or_lt_two_pow (n := 8) ha hb
  have e1 : (BitVec.ofInt 8 (a : Int)).toNat = a := by rw [BitVec.ofInt_natCast, BitVec.toNat_ofNat, Nat.mod_eq_of_lt ha]
  have e2 : (BitVec.ofInt 8 (b : Int)).toNat = b := by rw [BitVec.ofInt_natCast, BitVec.toNat_ofNat, Nat.mod_eq_of_lt hb]
  have e3 : (BitVec.ofInt 8 (a : Int) ||| BitVec.ofInt 8 (b : Int)).toNat = a ||| b := by rw [BitVec.toNat_or, e1, e2]
  have hw : IntKind.u8.wrap ((a ||| b : Nat) : Int) = ((a ||| b : Nat) : Int) := by
    rw [wrap_us rfl]
    show (((a ||| b : Nat) : Int) % 256) = _
    omega
  exact congrArg (fun z => some (Value.int IntKind.u8 z)) (show IntKind.u8.wrap (((BitVec.ofInt 8 (a : Int) ||| BitVec.ofInt 8 (b : Int)).toNat : Nat) : Int) = _ by rw [e3, hw])
theorem and64 {a b : Nat} (ha : a < 2 ^ 64) (hb : b < 2 ^ 64) : bopD Tryd.prog .and 38 (.int .u64 (a : Int)) (.int .u64 (b : Int)) = some (.int .u64 ((a &&& b : Nat) : Int)) := by
  rw [bop_int]
  have hlt : a &&& b < 2 ^ 64 := Nat.and_lt_two_pow _ hb
  have e1 : (BitVec.ofInt 64 (a : Int)).toNat = a := by rw [BitVec.ofInt_natCast, BitVec.toNat_ofNat, Nat.mod_eq_of_lt ha]
  have e2 : (BitVec.ofInt 64 (b : Int)).toNat = b := by rw [BitVec.ofInt_natCast, BitVec.toNat_ofNat, Nat.mod_eq_of_lt hb]
  have e3 : (BitVec.ofInt 64 (a : Int) &&& BitVec.ofInt 64 (b : Int)).toNat = a &&& b := by rw [BitVec.toNat_and, e1, e2]
  exact congrArg (fun z => some (Value.int IntKind.u64 z)) (show IntKind.u64.wrap (((BitVec.ofInt 64 (a : Int) &&& BitVec.ofInt 64 (b : Int)).toNat : Nat) : Int) = _ by rw [e3, wrap_u64 (by omega) (by omega)])
theorem shr64 {a k : Nat} (hk : k ≤ 64) : bopD Tryd.prog .shr 38 (.int .u64 (a : Int)) (.int .i64 (k : Int)) = some (.int .u64 ((a / 2 ^ k : Nat) : Int)) := by
  rw [bop_int]
  simp only [intS, IntKind.bits]
  rw [if_neg (by omega), Int.toNat_natCast, Nat.min_eq_left hk]
  have e : ((2 : Int) ^ k) = ((2 ^ k : Nat) : Int) := by simp
  rw [e, ← Int.ofNat_fdiv]
theorem shl64w {a k : Nat} (hk : k ≤ 64) : bopD Tryd.prog .shl 38 (.int .u64 (a : Int)) (.int .i64 (k : Int)) = some (.int .u64 ((a * 2 ^ k % 2 ^ 64 : Nat) : Int)) := by
  rw [bop_int]
  simp only [intS, IntKind.bits]
  rw [if_neg (by omega), Int.toNat_natCast, Nat.min_eq_left hk]
  have e : (a : Int) * 2 ^ k = ((a * 2 ^ k : Nat) : Int) := by simp
  rw [e, wrap_us rfl]
  congr 2
theorem shl64 {a k : Nat} (hk : k ≤ 64) (h : a * 2 ^ k < 2 ^ 64) : bopD Tryd.prog .shl 38 (.int .u64 (a : Int)) (.int .i64 (k : Int)) = some (.int .u64 ((a * 2 ^ k : Nat) : Int)) := by
  rw [shl64w hk, Nat.mod_eq_of_lt h]
/-- A number's lowest bits. -/
theorem c96 {n : Nat} {s : SH} (x k : Nat) (hx : x < 2 ^ 64) (hk : k ≤ 64) : callD Tryd.prog AB (n + 1) (.fn 96) [.int .u64 (x : Int), .int .i64 (k : Int)] s = some [(.int .u64 ((x % 2 ^ k : Nat) : Int), s)] := by
  refine cut_call (fn := Tryd.f96) rfl rfl (by kernel_rfl) (v := .int .u64 ((x % 2 ^ k : Nat) : Int)) (fun _ h => by cases h) (.int _ _) ?_
  show One (bodyD Tryd.prog false _ _ 96 Tryd.f96 _ s) _
  rw [f96_r]
  by_cases h : k = 64
  · subst h
    have hg : ((64 : Nat) : Int) ≥ 64 := by omega
    simp only [f96, o_bool, o_alloc, o_box, o_build, o_buildSlice, o_load, o_store, o_nilCheck, o_bop, o_uop, o_conv, o_slc, o_fieldAddr, o_field, o_indexAddr, o_index, o_extract, o_lookup, o_mapUpdate, o_makeSlice, o_makeMap, o_mapEntry, o_entryStore, o_delete, o_len, o_append, o_min, o_max, o_tgt, bindS, many1, jnE, boolS, gdB, fst', snd', bop_geq, hg, decide_true, condT]
    exact One.ret ⟨by rw [Nat.mod_eq_of_lt hx], .refl s⟩
  · have hg : ¬ (k : Int) ≥ 64 := by omega
    have hp : 2 ^ k < 2 ^ 64 := Nat.pow_lt_pow_right (by decide) (by omega)
    have h1 : bopD Tryd.prog .shl 38 (.int .u64 1) (.int .i64 (k : Int)) = some (.int .u64 ((2 ^ k : Nat) : Int)) := by
      have := shl64 (a := 1) (k := k) hk (by omega)
      rw [Nat.one_mul] at this; exact this
    have hpos := Nat.two_pow_pos k
    have h2 : IntKind.u64.wrap (((2 ^ k : Nat) : Int) - 1) = ((2 ^ k - 1 : Nat) : Int) := by rw [wrap_u64 (by omega) (by omega)]; omega
    simp only [f96, o_bool, o_alloc, o_box, o_build, o_buildSlice, o_load, o_store, o_nilCheck, o_bop, o_uop, o_conv, o_slc, o_fieldAddr, o_field, o_indexAddr, o_index, o_extract, o_lookup, o_mapUpdate, o_makeSlice, o_makeMap, o_mapEntry, o_entryStore, o_delete, o_len, o_append, o_min, o_max, o_tgt, bindS, many1, jnE, boolS, gdB, fst', snd', bop_geq, hg, decide_false, condF, h1, b_sub, h2, and64 hx (show 2 ^ k - 1 < 2 ^ 64 by omega), Nat.and_two_pow_sub_one_eq_mod]
    exact One.ret ⟨rfl, .refl s⟩
end Go.Proofs.YtmhmbmogodofeaaDoor.S

set_option autoImplicit false
set_option linter.unusedVariables false
set_option linter.unusedSimpArgs false
set_option maxRecDepth 100000
namespace Go.Proofs.YtmhmbmogodofeaaDoor.S
open Go.FS Go.RowKit
attribute [local congr] bind_cg cond_cg gd_cg
/-! The writer. -/
def rowB (B : List UInt8) : List Value := B.map fun b => .int .u8 (b.toNat : Int)
theorem rowB_len (B : List UInt8) : (rowB B).length = B.length := by unfold rowB; rw [List.length_map]
theorem rowB_one (B : List UInt8) : (rowB B).all oneC = true := by
  unfold rowB
  rw [List.all_eq_true]
  intro x hx
  obtain ⟨b, _, rfl⟩ := List.mem_map.1 hx
  rfl
/-- A row of bytes. -/
def IsB (o : Option DObj) : Prop := ∃ B, o = some (.row (rowB B))
theorem not_isB {o : Option DObj} {x : Value} {l : List Value} (h : o = some (.row (x :: l))) (hx : ∀ y, x ≠ .int .u8 y) : ¬ IsB o := by
  rintro ⟨B, e⟩
  rw [h] at e
  simp only [Option.some.injEq, DObj.row.injEq] at e
  cases B with
  | nil => cases e
  | cons b B => simp only [rowB, List.map_cons, List.cons.injEq] at e; exact hx _ e.1
/-- The bytes of a buffer: none, or a row of its own. -/
def BufV (lo id : Nat) (s : SH) (v : Value) (B : List UInt8) : Prop := (B = [] ∧ v = fzV 2 #[]) ∨ ∃ ib c, v = .slice (some ⟨ib, 0, none⟩) B.length c ∧ c / 2 = 1 ∧ (lo ≤ ib ∧ ib ≠ id) ∧ ib < s.n ∧ HP.get s.h ib = some (.row (rowB B))
theorem BufV.len {lo id : Nat} {s s' : SH} {v : Value} {B : List UInt8} (h : BufV lo id s v B) : lenOfD Tryd.prog s' 22 v = some (.int .i64 (B.length : Int)) := by
  rcases h with ⟨rfl, rfl⟩ | ⟨ib, c, rfl, _⟩
  · simp only [lenOfD, u22]; rfl
  · simp only [lenOfD, u22]
theorem BufV.one {lo id : Nat} {s : SH} {v : Value} {B : List UInt8} (h : BufV lo id s v B) : v.cells.toList = [v] ∧ oneC v = true := by
  rcases h with ⟨rfl, rfl⟩ | ⟨ib, c, rfl, _⟩ <;> exact ⟨rfl, rfl⟩
theorem bs22_1 (s : SH) : buildSliceD Tryd.prog true s 22 1 [(0, .int .u8 0)] = some (.slice (some ⟨s.n, 0, none⟩) 1 3, newD s (.row [.int .u8 0])) := by kernel_rfl
theorem app_buf {lo id : Nat} {s : SH} {v : Value} {B : List UInt8} (h : BufV lo id s v B) (hid : id < s.n) (hlo : lo ≤ s.n) (hb : B.length < 1000000) :
    ∃ v' s', appD Tryd.prog true (newD s (.row [.int .u8 0])) 22 22 v (.slice (some ⟨s.n, 0, none⟩) 1 3) = some (v', s') ∧ BufV lo id s' v' (B ++ [0]) ∧ s.n ≤ s'.n ∧ ∀ j, j < s.n → (lo ≤ j → ¬ IsB (HP.get s.h j)) → HP.get s'.h j = HP.get s.h j := by
  have hni : isInt Tryd.prog 22 = false := by unfold isInt; rw [u22]
  have hi : Tryd.prog.info? 5 = some Tryd.t5 := by kernel_rfl
  have hz : (Tryd.t5.size : Nat) = 1 := by kernel_rfl
  have hbt : (Tryd.t5.bytes : Nat) = 1 := by kernel_rfl
  have hcond : (decide ((B.length + 1) * Tryd.t5.bytes ≤ 140737488355328) && decide (B.length + 1 ≤ 140737488355328) && Nat.beq [Value.int .u8 0].length Tryd.t5.size && Nat.blt 0 Tryd.t5.size) = true := by
    rw [hbt, hz, decide_eq_true (by omega), decide_eq_true (by omega)]; rfl
  have ly : lenD (.slice (some ⟨s.n, 0, none⟩) 1 3) = some 1 := rfl
  have gy : HP.get (newD s (.row [.int .u8 0])).h s.n = some (.row [.int .u8 0]) := get_new rfl
  have cy : ∀ s' : SH, HP.get s'.h s.n = some (.row [.int .u8 0]) → cellsD s' 1 1 (.slice (some ⟨s.n, 0, none⟩) 1 3) = some [.int .u8 0] := fun s' hg => by
    show (rowD s' s.n).bind (fun r => takeD r 0 (1 * 1)) = _
    rw [row_of hg, bindS]; rfl
  have hrow : rowB (B ++ [0]) = rowB B ++ [.int .u8 0] := by unfold rowB; rw [List.map_append]; rfl
  rcases h with ⟨rfl, rfl⟩ | ⟨ib, c, rfl, h2, h3, h4, h5⟩
  · refine ⟨.slice (some ⟨s.n + 1, 0, none⟩) 1 2, newD (newD s (.row [.int .u8 0])) (.row [.int .u8 0]), ?_, .inr ⟨s.n + 1, 2, rfl, rfl, ⟨by omega, by omega⟩, by rw [newD_n, newD_n]; omega, get_new rfl⟩, by rw [newD_n, newD_n]; omega, fun j hj _ => by rw [get_old (by rw [newD_n]; omega), get_old (by omega)]⟩
    unfold appD
    rw [hni, condF]
    unfold appendD
    have lx : lenD (fzV 2 #[]) = some 0 := rfl
    have hcond0 : (decide ((0 + 1) * Tryd.t5.bytes ≤ 140737488355328) && decide (0 + 1 ≤ 140737488355328) && Nat.beq [Value.int .u8 0].length Tryd.t5.size && Nat.blt 0 Tryd.t5.size) = true := hcond
    simp only [u22, bindS, hi, ly, lx, zr5, hcond0, condT]
    have he : elemsD (newD s (.row [.int .u8 0])) 1 1 (.slice (some ⟨s.n, 0, none⟩) 1 3) = some [.agg #[.int .u8 0]] := by
      show ((cellsD (newD s (.row [.int .u8 0])) 1 1 (.slice (some ⟨s.n, 0, none⟩) 1 3)).bind fun l => bif l.all oneC then some (chunkL 1 1 l) else none) = _
      rw [cy _ gy, bindS]; rfl
    rw [hz]
    show (bif fzOk 1 #[] then ((elemsD (newD s (.row [.int .u8 0])) 1 1 (.slice (some ⟨s.n, 0, none⟩) 1 3)).map fun new => cond (true && Nat.beq 1 0) (fzV 2 #[], newD s (.row [.int .u8 0])) (appNew true (newD s (.row [.int .u8 0])) 1 (0 + 1) ([] ++ new))) else none) = _
    rw [he]; rfl
  · have lx : lenD (.slice (some ⟨ib, 0, none⟩) B.length c) = some B.length := rfl
    have g1 : HP.get (newD s (.row [.int .u8 0])).h ib = some (.row (rowB B)) := by rw [get_old (by omega)]; exact h5
    have tk : takeD (rowB B) 0 (B.length * 1) = some (rowB B) := by
      unfold takeD
      rw [List.drop_zero, List.take_of_length_le (by rw [rowB_len]; omega), rowB_len, Nat.mul_one, beq_yes, condT]
    have key : ∀ s0 : SH, s0.n = s.n + 1 → (∀ j, j < s.n → (lo ≤ j → ¬ IsB (HP.get s.h j)) → HP.get s0.h j = HP.get s.h j) → BufV lo id (newD s0 (.row (rowB (B ++ [0])))) (.slice (some ⟨s0.n, 0, none⟩) (B.length + 1) 2) (B ++ [0]) ∧ s.n ≤ (newD s0 (.row (rowB (B ++ [0])))).n ∧ ∀ j, j < s.n → (lo ≤ j → ¬ IsB (HP.get s.h j)) → HP.get (newD s0 (.row (rowB (B ++ [0])))).h j = HP.get s.h j := fun s0 hn hg =>
      ⟨.inr ⟨s0.n, 2, by rw [List.length_append]; rfl, rfl, by omega, by rw [newD_n]; omega, get_new rfl⟩, by rw [newD_n]; omega, fun j hj hb => by rw [get_old (by omega), hg j hj hb]⟩
    unfold appD
    rw [hni, condF]
    unfold appendD
    simp only [u22, bindS, hi, ly, lx, zr5, hcond, condT]
    rw [show Nat.beq 1 0 = false from rfl, condF, hz, cy _ gy, bindS]
    simp only [show (!([Value.int .u8 0].all oneC)) = false from rfl, condF]
    by_cases hcc : c % 2 = 1
    · rw [hcc, beq_yes, condT]
      have cx : cellsD (newD s (.row [.int .u8 0])) 1 B.length (.slice (some ⟨ib, 0, none⟩) B.length c) = some (rowB B) := by
        show (bif Nat.ble B.length B.length && Nat.beq (c / 2) 1 then (bif Nat.beq B.length 0 then some [] else (rowD (newD s (.row [.int .u8 0])) ib).bind fun r => takeD r 0 (B.length * 1)) else none) = _
        rw [Nat.ble_eq_true_of_le (Nat.le_refl _), h2]
        show (bif Nat.beq B.length 0 then some [] else (rowD (newD s (.row [.int .u8 0])) ib).bind fun r => takeD r 0 (B.length * 1)) = _
        by_cases h0 : B.length = 0
        · have : B = [] := List.length_eq_zero_iff.1 h0
          subst this; rfl
        · rw [beq_no h0, condF, row_of g1, bindS, tk]
      rw [cx]
      obtain ⟨q1, q2, q3⟩ := key (newD s (.row [.int .u8 0])) rfl fun j hj _ => get_old (by omega)
      exact ⟨_, _, by rw [hrow]; rfl, q1, q2, q3⟩
    · rw [beq_no hcc, condF, row_of g1, bindS, h2]
      simp only [beq_yes, condT]
      rw [tk]
      obtain ⟨q1, q2, q3⟩ := key (delD (newD s (.row [.int .u8 0])) ib) rfl fun j hj hb => by rw [get_del (fun e => hb (by rw [e]; exact h3.1) ⟨B, by rw [e]; exact h5⟩), get_old (by omega)]
      exact ⟨_, _, by rw [hrow]; rfl, q1, q2, q3⟩
/-- A writer that has these bits. -/
def Wr (lo id : Nat) (s : SH) (bs : List Bool) : Prop := ∃ v B, HP.get s.h id = some (.row [v, .int .i64 (bs.length : Int), .bool true]) ∧ (id < s.n ∧ lo ≤ s.n) ∧ BufV lo id s v B ∧ padded bs B
def Kp (lo id : Nat) (s s' : SH) : Prop := s.n ≤ s'.n ∧ ∀ j, j < s.n → j ≠ id → (lo ≤ j → ¬ IsB (HP.get s.h j)) → HP.get s'.h j = HP.get s.h j
theorem Kp.refl (lo id : Nat) (s : SH) : Kp lo id s s := ⟨Nat.le_refl _, fun _ _ _ _ => rfl⟩
theorem Kp.trans {lo id : Nat} {a b c : SH} (h : Kp lo id a b) (k : Kp lo id b c) : Kp lo id a c := ⟨Nat.le_trans h.1 k.1, fun j h1 h2 h3 => (k.2 j (Nat.lt_of_lt_of_le h1 h.1) h2 (fun hl => by rw [h.2 j h1 h2 h3]; exact h3 hl)).trans (h.2 j h1 h2 h3)⟩
theorem Kp.ext {lo id : Nat} {a b : SH} (h : Ext a b) : Kp lo id a b := ⟨h.1, fun j h1 _ _ => h.2 j h1⟩
theorem Kp.row {lo id j : Nat} {a b : SH} (h : Kp lo id a b) {x : Value} {l : List Value} (hj : j ≠ id) (hg : HP.get a.h j = some (.row (x :: l))) (hx : ∀ y, x ≠ .int .u8 y) (hl : j < a.n) : HP.get b.h j = some (.row (x :: l)) := by
  rw [h.2 j hl hj (fun _ => not_isB hg hx), hg]
theorem Wr.ext {lo id : Nat} {a b : SH} {bs : List Bool} (h : Wr lo id a bs) (k : Ext a b) : Wr lo id b bs := by
  obtain ⟨v, B, h1, h2, h3, h4⟩ := h
  refine ⟨v, B, by rw [k.2 id h2.1]; exact h1, ⟨Nat.lt_of_lt_of_le h2.1 k.1, Nat.le_trans h2.2 k.1⟩, ?_, h4⟩
  rcases h3 with h3 | ⟨ib, c, q1, q2, q3, q4, q5⟩
  · exact .inl h3
  · exact .inr ⟨ib, c, q1, q2, q3, Nat.lt_of_lt_of_le q4 k.1, by rw [k.2 ib q4]; exact q5⟩
/-- Another object is written. -/
theorem Wr.put {lo id i : Nat} {a : SH} {bs : List Bool} {o : DObj} (h : Wr lo id a bs) (hi : i ≠ id) (hb : ¬ IsB (HP.get a.h i)) : Wr lo id (putD a i o) bs := by
  obtain ⟨v, B, h1, h2, h3, h4⟩ := h
  refine ⟨v, B, by rw [get_put_other (Ne.symm hi)]; exact h1, h2, ?_, h4⟩
  rcases h3 with h3 | ⟨ib, c, q1, q2, q3, q4, q5⟩
  · exact .inl h3
  · exact .inr ⟨ib, c, q1, q2, q3, q4, by rw [get_put_other (fun e => hb ⟨B, by rw [← e]; exact q5⟩)]; exact q5⟩
theorem ld3c {s : SH} {id : Nat} {a b c : Value} (h : HP.get s.h id = some (.row [a, b, c])) : loadD Tryd.prog s 22 (.pointer (some ⟨id, 0, none⟩)) = some a ∧ loadD Tryd.prog s 3 (.pointer (some ⟨id, 1, none⟩)) = some b ∧ loadD Tryd.prog s 4 (.pointer (some ⟨id, 2, none⟩)) = some c := by
  refine ⟨by rw [load_row h, part_one a22]; rfl, by rw [load_row h, part_one a3]; rfl, by rw [load_row h, part_one a4]; rfl⟩
theorem st0c {s : SH} {id : Nat} {a b c v : Value} (h : HP.get s.h id = some (.row [a, b, c])) (hv : v.cells.toList = [v] ∧ oneC v = true) : storeD Tryd.prog s 22 (.pointer (some ⟨id, 0, none⟩)) v = some (putD s id (.row [v, b, c])) := by
  rw [store_row (l := [v]) z22 h hv.1 rfl (by simp [hv.2]) (Nat.le_of_ble_eq_true rfl)]; rfl
theorem st1c {s : SH} {id : Nat} {a b c : Value} (i : Int) (h : HP.get s.h id = some (.row [a, b, c])) : storeD Tryd.prog s 3 (.pointer (some ⟨id, 1, none⟩)) (.int .i64 i) = some (putD s id (.row [a, .int .i64 i, c])) := by
  rw [store_row (l := [.int .i64 i]) z3 h rfl rfl rfl (Nat.le_of_ble_eq_true rfl)]; rfl
theorem nilc (id o : Nat) : nilCheckD (.pointer (some ⟨id, o, none⟩)) = some (.pointer (some ⟨id, o, none⟩)) := rfl
theorem ixb {s : SH} {ib n c i : Nat} (hi : i < n) : indexAddrD Tryd.prog 22 (.slice (some ⟨ib, 0, none⟩) n c) (.int .i64 (i : Int)) = some (.pointer (some ⟨ib, i, none⟩)) := by
  have h0 : decide ((0 : Int) ≤ (i : Int)) = true := decide_eq_true (by omega)
  have h1 : decide ((i : Int) < (n : Int)) = true := decide_eq_true (by omega)
  simp only [indexAddrD, u22, z5, bindS, h0, h1, Bool.and_self, condT]
  rw [Int.toNat_natCast, Nat.mul_one, Nat.zero_add]
theorem ld5 {s : SH} {ib i : Nat} {B : List UInt8} (h : HP.get s.h ib = some (.row (rowB B))) (hi : i < B.length) : loadD Tryd.prog s 5 (.pointer (some ⟨ib, i, none⟩)) = some (.int .u8 (B[i].toNat : Int)) := by
  rw [load_row h, part_one a5]
  unfold rowB
  simp [hi]
theorem wrap8 {x : Nat} (h : x < 256) : IntKind.u8.wrap (x : Int) = (x : Int) := by
  rw [wrap_us rfl]
  show ((x : Int) % 256) = _
  omega
theorem c99 {n lo id x k : Nat} {s : SH} {bs : List Bool} (hW : Wr lo id s bs) (hk : 1 ≤ k) (hk8 : k ≤ 8 - bs.length % 8) (hx : x < 2 ^ k) (hb : bs.length < 1000000) :
    ∃ s', callD Tryd.prog AB (n + 1) (.fn 99) [.pointer (some ⟨id, 0, none⟩), .int .u64 (x : Int), .int .i64 (k : Int)] s = some [(.tuple #[], s')] ∧ Wr lo id s' (bs ++ bitsN k x) ∧ Kp lo id s s' := by
  rw [call_fn (fn := Tryd.f99) rfl rfl (by kernel_rfl)]
  suffices h : One (bodyD Tryd.prog true (callD Tryd.prog AB n) AB.N 99 Tryd.f99 [.pointer (some ⟨id, 0, none⟩), .int .u64 (x : Int), .int .i64 (k : Int)] s) fun w s' => w = .tuple #[] ∧ Wr lo id s' (bs ++ bitsN k x) ∧ Kp lo id s s' by
    obtain ⟨w, s', e, rfl, h⟩ := h
    exact ⟨s', e, h⟩
  rw [f99_r]
  obtain ⟨v, B, hg, ⟨hid, hlo⟩, hB, hp⟩ := hW
  have hnb : ¬ IsB (HP.get s.h id) := by
    refine not_isB hg fun y e => ?_
    rcases hB with ⟨_, rfl⟩ | ⟨_, _, rfl, _⟩ <;> cases e
  have hp' := hp
  obtain ⟨p1, p2, p3⟩ := hp'
  obtain ⟨l1, l2, _⟩ := ld3c hg
  have hm : IntKind.i64.wrap ((B.length : Int) * 8) = ((B.length * 8 : Nat) : Int) := by rw [wrap_i64 (by omega) (by omega)]; omega
  have hsb : IntKind.i64.wrap (((B.length * 8 : Nat) : Int) - (bs.length : Int)) = ((B.length * 8 - bs.length : Nat) : Int) := by rw [wrap_i64 (by omega) (by omega)]; omega
  have hwa : IntKind.i64.wrap ((bs.length : Int) + (k : Int)) = (((bs ++ bitsN k x).length : Nat) : Int) := by rw [List.length_append, bitsN_len, wrap_i64 (by omega) (by omega)]; omega
  by_cases h8 : bs.length % 8 = 0
  · -- a new byte
    have he : ((B.length * 8 - bs.length : Nat) : Int) = 0 := by omega
    obtain ⟨v', s2, e2, hB2, hn2, hs2⟩ := app_buf (s := s) hB hid hlo (by omega)
    have hg2 : HP.get s2.h id = some (.row [v, .int .i64 (bs.length : Int), .bool true]) := by rw [hs2 id hid (fun _ => hnb), hg]
    have hst := st0c hg2 hB2.one
    rcases hB2 with ⟨hnil, _⟩ | ⟨ib, c, rfl, c2, hib, hibn, hgb⟩
    · exact absurd hnil (by simp)
    have hbl : (B ++ [0]).length = B.length + 1 := by rw [List.length_append]; rfl
    have hg3 : HP.get (putD s2 id (.row [.slice (some ⟨ib, 0, none⟩) (B ++ [0]).length c, .int .i64 (bs.length : Int), .bool true])).h id = some (.row [.slice (some ⟨ib, 0, none⟩) (B ++ [0]).length c, .int .i64 (bs.length : Int), .bool true]) := get_put_same _
    have hgb3 : HP.get (putD s2 id (.row [.slice (some ⟨ib, 0, none⟩) (B ++ [0]).length c, .int .i64 (bs.length : Int), .bool true])).h ib = some (.row (rowB (B ++ [0]))) := by rw [get_put_other hib.2]; exact hgb
    obtain ⟨l3, l4, _⟩ := ld3c hg3
    have hlen : ∀ s : SH, lenOfD Tryd.prog s 22 (.slice (some ⟨ib, 0, none⟩) (B ++ [0]).length c) = some (.int .i64 ((B.length + 1 : Nat) : Int)) := fun s => by simp only [lenOfD, u22, hbl]
    have hw1 : IntKind.i64.wrap (((B.length + 1 : Nat) : Int) - 1) = (B.length : Int) := by rw [wrap_i64 (by omega) (by omega)]; omega
    have hix : indexAddrD Tryd.prog 22 (.slice (some ⟨ib, 0, none⟩) (B ++ [0]).length c) (.int .i64 (B.length : Int)) = some (.pointer (some ⟨ib, B.length, none⟩)) := ixb (s := s) (by rw [hbl]; omega)
    have hl5 := ld5 hgb3 (show B.length < (B ++ [0]).length by rw [hbl]; omega)
    have hz0 : (B ++ [0])[B.length]'(by rw [hbl]; omega) = 0 := by simp
    rw [hz0] at hl5
    have hk8' : k ≤ 8 := by omega
    have hw2 : IntKind.i64.wrap (8 - (k : Int)) = ((8 - k : Nat) : Int) := by rw [wrap_i64 (by omega) (by omega)]; omega
    have hxl : x * 2 ^ (8 - k) < 256 := by
      calc x * 2 ^ (8 - k) < 2 ^ k * 2 ^ (8 - k) := Nat.mul_lt_mul_of_pos_right hx (Nat.two_pow_pos _)
        _ = 256 := by rw [← Nat.pow_add, show k + (8 - k) = 8 from by omega]
    have hsh := shl64 (a := x) (k := 8 - k) (by omega) (by omega)
    have hor := or8 (a := (0 : UInt8).toNat) (b := x * 2 ^ (8 - k)) (by decide) hxl
    rw [show (0 : UInt8).toNat ||| x * 2 ^ (8 - k) = x * 2 ^ (8 - k) from Nat.zero_or _] at hor
    have hst5 : storeD Tryd.prog (putD s2 id (.row [.slice (some ⟨ib, 0, none⟩) (B ++ [0]).length c, .int .i64 (bs.length : Int), .bool true])) 5 (.pointer (some ⟨ib, B.length, none⟩)) (.int .u8 ((x * 2 ^ (8 - k) : Nat) : Int)) = some (putD (putD s2 id (.row [.slice (some ⟨ib, 0, none⟩) (B ++ [0]).length c, .int .i64 (bs.length : Int), .bool true])) ib (.row (rowB (B ++ [UInt8.ofNat (x * 2 ^ (8 - k))])))) := by
      rw [store_row (l := [.int .u8 ((x * 2 ^ (8 - k) : Nat) : Int)]) z5 hgb3 rfl rfl rfl (by rw [rowB_len, hbl]; exact Nat.le_refl _)]
      congr 3
      have h1 : rowB (B ++ [0]) = rowB B ++ [.int .u8 0] := by unfold rowB; rw [List.map_append]; rfl
      have h2 : rowB (B ++ [UInt8.ofNat (x * 2 ^ (8 - k))]) = rowB B ++ [.int .u8 ((x * 2 ^ (8 - k) : Nat) : Int)] := by
        unfold rowB; rw [List.map_append]
        show _ ++ [Value.int .u8 (((UInt8.ofNat (x * 2 ^ (8 - k))).toNat : Nat) : Int)] = _
        rw [toNat_ofNat hxl]
      rw [h1, h2]
      unfold splice
      rw [List.take_append_of_le_length (by rw [rowB_len]; exact Nat.le_refl _), List.take_of_length_le (by rw [rowB_len]; exact Nat.le_refl _), List.drop_eq_nil_of_le (by rw [List.length_append, rowB_len]; exact Nat.le_refl _), List.append_nil]
    have hg6 : HP.get (putD (putD s2 id (.row [.slice (some ⟨ib, 0, none⟩) (B ++ [0]).length c, .int .i64 (bs.length : Int), .bool true])) ib (.row (rowB (B ++ [UInt8.ofNat (x * 2 ^ (8 - k))])))).h id = some (.row [.slice (some ⟨ib, 0, none⟩) (B ++ [0]).length c, .int .i64 (bs.length : Int), .bool true]) := by rw [get_put_other (Ne.symm hib.2)]; exact hg3
    obtain ⟨_, l6, _⟩ := ld3c hg6
    simp only [f99, o_bool, o_alloc, o_box, o_build, o_buildSlice, o_load, o_store, o_nilCheck, o_bop, o_uop, o_conv, o_slc, o_fieldAddr, o_field, o_indexAddr, o_index, o_extract, o_lookup, o_mapUpdate, o_makeSlice, o_makeMap, o_mapEntry, o_entryStore, o_delete, o_len, o_append, o_min, o_max, o_tgt, bindS, many1, jnE, boolS, gdB, fst', snd', nilc, fld138_0, l1, hB.len, bop_mul, hm, fld138_1, l2, b_sub, hsb, bop_eql, he, decide_true, condT, bs22_1, e2, hst, l3, hlen, hw1, hix, hl5, hw2, hsh, conv_int u38 u5, wrap8 hxl, hor, hst5, l6, bop_add, hwa, st1c _ hg6]
    refine One.ret ⟨rfl, ⟨.slice (some ⟨ib, 0, none⟩) (B ++ [0]).length c, B ++ [UInt8.ofNat (x * 2 ^ (8 - k))], get_put_same _, ⟨by rw [putD_n, putD_n, putD_n]; omega, by rw [putD_n, putD_n, putD_n]; omega⟩, .inr ⟨ib, c, by rw [hbl, List.length_append]; rfl, c2, hib, by rw [putD_n, putD_n, putD_n]; omega, by rw [get_put_other hib.2]; exact get_put_same _⟩, padded_more hp h8 hk hk8' hx⟩, by rw [putD_n, putD_n, putD_n]; exact hn2, fun j h1 h2 h3 => by
      have hj : j ≠ ib := fun e => h3 (by rw [e]; exact hib.1) (by rw [← hs2 j h1 h3, e]; exact ⟨_, hgb⟩)
      rw [get_put_other h2, get_put_other hj, get_put_other h2, hs2 j h1 h3]⟩
  · -- the last byte
    have he : ¬ ((B.length * 8 - bs.length : Nat) : Int) = 0 := by omega
    have hfr : B.length * 8 - bs.length = 8 - bs.length % 8 := by omega
    rw [hfr] at hsb he
    obtain ⟨B0, b, hBe, hlt, hpf⟩ := padded_fill hp h8 hk hk8 hx
    rcases hB with ⟨hnil, _⟩ | ⟨ib, c, rfl, c2, hib, hibn, hgb⟩
    · rw [hnil] at hBe; exact absurd hBe (by simp)
    have hbl : B.length = B0.length + 1 := by rw [hBe, List.length_append]; rfl
    have hw1 : IntKind.i64.wrap ((B.length : Int) - 1) = (B0.length : Int) := by rw [wrap_i64 (by omega) (by omega)]; omega
    have hix : indexAddrD Tryd.prog 22 (.slice (some ⟨ib, 0, none⟩) B.length c) (.int .i64 (B0.length : Int)) = some (.pointer (some ⟨ib, B0.length, none⟩)) := ixb (s := s) (by omega)
    have hl5 := ld5 hgb (show B0.length < B.length by omega)
    have hz0 : B[B0.length]'(by omega) = b := by simp only [hBe]; simp
    rw [hz0] at hl5
    generalize hf : 8 - bs.length % 8 = f at *
    have hw2 : IntKind.i64.wrap ((f : Int) - (k : Int)) = ((f - k : Nat) : Int) := by rw [wrap_i64 (by omega) (by omega)]; omega
    have hxl : x * 2 ^ (f - k) < 256 := by
      calc x * 2 ^ (f - k) < 2 ^ k * 2 ^ (f - k) := Nat.mul_lt_mul_of_pos_right hx (Nat.two_pow_pos _)
        _ = 2 ^ f := by rw [← Nat.pow_add, show k + (f - k) = f from by omega]
        _ ≤ 2 ^ 8 := Nat.pow_le_pow_right (by decide) (by omega)
    have hsh := shl64 (a := x) (k := f - k) (by omega) (by omega)
    have hor := or8 (a := b.toNat) (b := x * 2 ^ (f - k)) b.toNat_lt hxl
    have hst5 : storeD Tryd.prog s 5 (.pointer (some ⟨ib, B0.length, none⟩)) (.int .u8 ((b.toNat ||| x * 2 ^ (f - k) : Nat) : Int)) = some (putD s ib (.row (rowB (B0 ++ [UInt8.ofNat (b.toNat ||| x * 2 ^ (f - k))])))) := by
      rw [store_row (l := [.int .u8 ((b.toNat ||| x * 2 ^ (f - k) : Nat) : Int)]) z5 hgb rfl rfl rfl (by rw [rowB_len]; omega)]
      congr 3
      have h1 : rowB B = rowB B0 ++ [.int .u8 (b.toNat : Int)] := by rw [hBe]; unfold rowB; rw [List.map_append]; rfl
      have h2 : rowB (B0 ++ [UInt8.ofNat (b.toNat ||| x * 2 ^ (f - k))]) = rowB B0 ++ [.int .u8 ((b.toNat ||| x * 2 ^ (f - k) : Nat) : Int)] := by
        unfold rowB; rw [List.map_append]
        show _ ++ [Value.int .u8 (((UInt8.ofNat (b.toNat ||| x * 2 ^ (f - k))).toNat : Nat) : Int)] = _
        rw [toNat_ofNat hlt]
      rw [h1, h2]
      unfold splice
      rw [List.take_append_of_le_length (by rw [rowB_len]; exact Nat.le_refl _), List.take_of_length_le (by rw [rowB_len]; exact Nat.le_refl _), List.drop_eq_nil_of_le (by rw [List.length_append, rowB_len]; exact Nat.le_refl _), List.append_nil]
    have hlen : ∀ s : SH, lenOfD Tryd.prog s 22 (.slice (some ⟨ib, 0, none⟩) B.length c) = some (.int .i64 (B.length : Int)) := fun s => by simp only [lenOfD, u22]
    have hg6 : HP.get (putD s ib (.row (rowB (B0 ++ [UInt8.ofNat (b.toNat ||| x * 2 ^ (f - k))])))).h id = some (.row [.slice (some ⟨ib, 0, none⟩) B.length c, .int .i64 (bs.length : Int), .bool true]) := by rw [get_put_other (Ne.symm hib.2)]; exact hg
    obtain ⟨_, l6, _⟩ := ld3c hg6
    simp only [f99, o_bool, o_alloc, o_box, o_build, o_buildSlice, o_load, o_store, o_nilCheck, o_bop, o_uop, o_conv, o_slc, o_fieldAddr, o_field, o_indexAddr, o_index, o_extract, o_lookup, o_mapUpdate, o_makeSlice, o_makeMap, o_mapEntry, o_entryStore, o_delete, o_len, o_append, o_min, o_max, o_tgt, bindS, many1, jnE, boolS, gdB, fst', snd', nilc, fld138_0, l1, hlen, bop_mul, hm, fld138_1, l2, b_sub, hsb, bop_eql, he, decide_false, condF, hw1, hix, hl5, hw2, hsh, conv_int u38 u5, wrap8 hxl, hor, hst5, l6, bop_add, hwa, st1c _ hg6]
    refine One.ret ⟨rfl, ⟨.slice (some ⟨ib, 0, none⟩) B.length c, B0 ++ [UInt8.ofNat (b.toNat ||| x * 2 ^ (f - k))], get_put_same _, ⟨by rw [putD_n, putD_n]; omega, by rw [putD_n, putD_n]; omega⟩, .inr ⟨ib, c, by rw [hbl, List.length_append]; rfl, c2, hib, by rw [putD_n, putD_n]; omega, by rw [get_put_other hib.2]; exact get_put_same _⟩, hpf⟩, by rw [putD_n, putD_n]; exact Nat.le_refl _, fun j h1 h2 h3 => by
      have hj : j ≠ ib := fun e => h3 (by rw [e]; exact hib.1) (by rw [e]; exact ⟨_, hgb⟩)
      rw [get_put_other h2, get_put_other hj]⟩
end Go.Proofs.YtmhmbmogodofeaaDoor.S

set_option autoImplicit false
set_option linter.unusedVariables false
set_option linter.unusedSimpArgs false
set_option maxRecDepth 100000
namespace Go.Proofs.YtmhmbmogodofeaaDoor.S
open Go.FS Go.RowKit
attribute [local congr] bind_cg cond_cg gd_cg
/-! The writer: New, Put, Bytes. -/
theorem ptr_neq (t id o : Nat) {e : TypeId} (ht : Tryd.prog.underlying t = some (.pointer e)) : bopD Tryd.prog .neq t (.pointer (some ⟨id, o, none⟩)) (.pointer none) = some (.bool true) := by
  show ((binD Tryd.prog .neq t (.pointer (some ⟨id, o, none⟩)) (.pointer none)).or (nilD Tryd.prog .neq t (.pointer (some ⟨id, o, none⟩)) (.pointer none))) = _
  have e1 : binD Tryd.prog .neq t (.pointer (some ⟨id, o, none⟩)) (.pointer none) = none := rfl
  have e2 : nilD Tryd.prog .neq t (.pointer (some ⟨id, o, none⟩)) (.pointer none) = some (.bool true) := by
    simp only [nilD, ht, nilEq]
    rfl
  rw [e1, e2]; rfl
theorem c45 {n : Nat} {s : SH} : callD Tryd.prog AB (n + 1) (.fn 45) [] s = some [(.pointer (some ⟨s.n, 0, none⟩), newD s (.row [fzV 2 #[], .int .i64 0, .bool true]))] := by
  rw [call_fn (fn := Tryd.f45) rfl rfl (by kernel_rfl)]
  show bodyD Tryd.prog false _ _ 45 Tryd.f45 _ s = _
  rw [f45_r]
  have b1 : buildD Tryd.prog 138 [(2, .bool true)] = some (.agg #[fzV 2 #[], .int .i64 0, .bool true]) := by kernel_rfl
  have b2 : buildD Tryd.prog 140 [(0, .agg #[fzV 2 #[], .int .i64 0, .bool true])] = some (.agg #[fzV 2 #[], .int .i64 0, .bool true]) := by kernel_rfl
  have b3 : boxD s (.agg #[fzV 2 #[], .int .i64 0, .bool true]) = some (.pointer (some ⟨s.n, 0, none⟩), newD s (.row [fzV 2 #[], .int .i64 0, .bool true])) := box_at rfl rfl
  simp only [f45, o_bool, o_alloc, o_box, o_build, o_buildSlice, o_load, o_store, o_nilCheck, o_bop, o_uop, o_conv, o_slc, o_fieldAddr, o_field, o_indexAddr, o_index, o_extract, o_lookup, o_mapUpdate, o_makeSlice, o_makeMap, o_mapEntry, o_entryStore, o_delete, o_len, o_append, o_min, o_max, o_tgt, bindS, many1, jnE, boolS, gdB, fst', snd', b1, b2, b3]
theorem Wr.new {lo id : Nat} {s : SH} (h : HP.get s.h id = some (.row [fzV 2 #[], .int .i64 0, .bool true])) (h1 : id < s.n) (h2 : lo ≤ s.n) : Wr lo id s [] := ⟨fzV 2 #[], [], h, ⟨h1, h2⟩, .inl ⟨rfl, rfl⟩, padded_nil⟩
theorem c87 {n lo id : Nat} {s : SH} {bs : List Bool} (h : Wr lo id s bs) : callD Tryd.prog AB (n + 1) (.fn 87) [.pointer (some ⟨id, 0, none⟩)] s = some [(.bool true, s)] := by
  refine cut_call (fn := Tryd.f87) rfl rfl (by kernel_rfl) (v := .bool true) (fun _ h => by cases h) (.bool _) ?_
  show One (bodyD Tryd.prog false _ _ 87 Tryd.f87 _ s) _
  rw [f87_r]
  obtain ⟨v, B, hg, _⟩ := h
  simp only [f87, o_bool, o_alloc, o_box, o_build, o_buildSlice, o_load, o_store, o_nilCheck, o_bop, o_uop, o_conv, o_slc, o_fieldAddr, o_field, o_indexAddr, o_index, o_extract, o_lookup, o_mapUpdate, o_makeSlice, o_makeMap, o_mapEntry, o_entryStore, o_delete, o_len, o_append, o_min, o_max, o_tgt, bindS, many1, jnE, boolS, gdB, fst', snd', ptr_neq 105 id 0 u105, condT, nilc, fld140_0, fld138_2, (ld3c hg).2.2]
  exact One.ret ⟨rfl, .refl s⟩
theorem c76 {n lo id x k : Nat} {s : SH} {bs : List Bool} (hW : Wr lo id s bs) (hx : x < 2 ^ 64) (hk : k ≤ 64) (hb : bs.length + k ≤ 524288) :
    ∃ s', callD Tryd.prog AB (n + 2) (.fn 76) [.pointer (some ⟨id, 0, none⟩), .int .u64 (x : Int), .int .i64 (k : Int)] s = some [(.int .i64 0, s')] ∧ Wr lo id s' (bs ++ bitsN k x) ∧ Kp lo id s s' := by
  rw [call_fn (fn := Tryd.f76) rfl rfl (by kernel_rfl)]
  suffices h : One (bodyD Tryd.prog false (callD Tryd.prog AB (n + 1)) AB.N 76 Tryd.f76 [.pointer (some ⟨id, 0, none⟩), .int .u64 (x : Int), .int .i64 (k : Int)] s) fun w s' => w = .int .i64 0 ∧ Wr lo id s' (bs ++ bitsN k x) ∧ Kp lo id s s' by
    obtain ⟨w, s', e, rfl, h⟩ := h
    exact ⟨s', e, h⟩
  rw [f76_r]
  have hW' := hW
  obtain ⟨v, B, hg, _⟩ := hW'
  have h87 := c87 (n := n) hW
  have h96 := c96 (n := n) (s := s) x k hx hk
  have k0 : ¬ (k : Int) < 0 := by omega
  have k1 : ¬ (k : Int) > 64 := by omega
  have hwa : IntKind.i64.wrap ((bs.length : Int) + (k : Int)) = ((bs.length + k : Nat) : Int) := by rw [wrap_i64 (by omega) (by omega)]; omega
  have k2 : ¬ ((bs.length + k : Nat) : Int) > 524288 := by omega
  have hxm : x % 2 ^ k < 2 ^ 64 := Nat.lt_of_le_of_lt (Nat.mod_le _ _) hx
  have hxk : x % 2 ^ k < 2 ^ k := Nat.mod_lt _ (Nat.two_pow_pos _)
  have hbm : bitsN k x = bitsN k (x % 2 ^ k) := (bitsN_mod k k x (Nat.le_refl _)).symm
  simp only [f76, o_bool, o_alloc, o_box, o_build, o_buildSlice, o_load, o_store, o_nilCheck, o_bop, o_uop, o_conv, o_slc, o_fieldAddr, o_field, o_indexAddr, o_index, o_extract, o_lookup, o_mapUpdate, o_makeSlice, o_makeMap, o_mapEntry, o_entryStore, o_delete, o_len, o_append, o_min, o_max, o_tgt, bindS, many1, jnE, boolS, gdB, fst', snd', h87, uop_not, Bool.not_true, condF, bop_lss, k0, decide_false, bop_gtr, k1, nilc, fld140_0, fld138_1, (ld3c hg).2.1, bop_add, hwa, k2, h96]
  rw [hbm]
  generalize x % 2 ^ k = y at hxm hxk
  refine loop_rule (fun d (z : Value × Value × Value) (s' : SH) => ∃ r : Nat, d = r ∧ r ≤ k ∧ z.1 = .int .i64 (r : Int) ∧ Wr lo id s' (bs ++ bitsN (k - r) (y / 2 ^ r)) ∧ Kp lo id s s') (fun r => One r fun w s' => w = .int .i64 0 ∧ Wr lo id s' (bs ++ bitsN k y) ∧ Kp lo id s s') ?_ _ k _ _ ⟨k, rfl, Nat.le_refl _, rfl, by rw [Nat.sub_self]; show Wr lo id s (bs ++ []); rw [List.append_nil]; exact hW, .refl _ _ _⟩ (by show k < 2 ^ 64; omega)
  rintro d ⟨z1, z2, z3⟩ s1 ⟨r, rfl, hr, e1, hW1, hK1⟩ nx hnx
  simp only at e1
  subst e1
  by_cases h0 : d = 0
  · subst h0
    have hng : ¬ (((0 : Nat) : Int) > 0) := by omega
    simp only [f76_l0, o_bool, o_alloc, o_box, o_build, o_buildSlice, o_load, o_store, o_nilCheck, o_bop, o_uop, o_conv, o_slc, o_fieldAddr, o_field, o_indexAddr, o_index, o_extract, o_lookup, o_mapUpdate, o_makeSlice, o_makeMap, o_mapEntry, o_entryStore, o_delete, o_len, o_append, o_min, o_max, o_tgt, bindS, many1, jnE, boolS, gdB, fst', snd', bop_gtr, hng, decide_false, condF, beq_yes, condT]
    rw [Nat.sub_zero, Nat.pow_zero, Nat.div_one] at hW1
    exact One.ret ⟨rfl, hW1, hK1⟩
  · have hgt : (d : Int) > 0 := by omega
    have hW1' := hW1
    obtain ⟨v1, B1, hg1, _⟩ := hW1'
    have hlen : (bs ++ bitsN (k - d) (y / 2 ^ d)).length = bs.length + (k - d) := by rw [List.length_append, bitsN_len]
    have hmod : Int.tmod (((bs ++ bitsN (k - d) (y / 2 ^ d)).length : Nat) : Int) 8 = (((bs ++ bitsN (k - d) (y / 2 ^ d)).length % 8 : Nat) : Int) := rfl
    have hfr : IntKind.i64.wrap (8 - (((bs ++ bitsN (k - d) (y / 2 ^ d)).length % 8 : Nat) : Int)) = ((8 - (bs ++ bitsN (k - d) (y / 2 ^ d)).length % 8 : Nat) : Int) := by rw [wrap_i64 (by omega) (by omega)]; omega
    generalize hbs1 : bs ++ bitsN (k - d) (y / 2 ^ d) = bs1 at hW1 hg1 hlen hmod hfr
    generalize hm : min d (8 - bs1.length % 8) = m
    have hm1 : 1 ≤ m := by omega
    have hm2 : m ≤ 8 - bs1.length % 8 := by omega
    have hmd : m ≤ d := by omega
    have hmin : minD Tryd.prog (.int .i64 (d : Int)) [.int .i64 ((8 - bs1.length % 8 : Nat) : Int)] = some (.int .i64 (m : Int)) := by rw [min_nat, hm]
    have hws : IntKind.i64.wrap ((d : Int) - (m : Int)) = ((d - m : Nat) : Int) := by rw [wrap_i64 (by omega) (by omega)]; omega
    have hsh := shr64 (a := y) (k := d - m) (by omega)
    have hdl : y / 2 ^ (d - m) < 2 ^ 64 := Nat.lt_of_le_of_lt (Nat.div_le_self _ _) hxm
    have h96b := oneS (c96 (n := n) (s := s1) (y / 2 ^ (d - m)) m hdl (by omega))
    obtain ⟨s2, e99, hW2, hK2⟩ := c99 (n := n) (x := y / 2 ^ (d - m) % 2 ^ m) (k := m) hW1 hm1 hm2 (Nat.mod_lt _ (Nat.two_pow_pos _)) (by omega)
    have e99 := oneS e99
    simp only [f76_l0, o_bool, o_alloc, o_box, o_build, o_buildSlice, o_load, o_store, o_nilCheck, o_bop, o_uop, o_conv, o_slc, o_fieldAddr, o_field, o_indexAddr, o_index, o_extract, o_lookup, o_mapUpdate, o_makeSlice, o_makeMap, o_mapEntry, o_entryStore, o_delete, o_len, o_append, o_min, o_max, o_tgt, bindS, many1, jnE, boolS, gdB, fst', snd', bop_gtr, hgt, decide_true, condT, nilc, fld140_0, fld138_1, (ld3c hg1).2.1, b_rem _ _ _ _ (show (8 : Int) ≠ 0 by decide), hmod, b_sub, hfr, hmin, hws, hsh, h96b, e99]
    refine hnx (d - m) (_, _, _) _ (by omega) ⟨d - m, rfl, by omega, rfl, ?_, hK1.trans hK2⟩
    have e3 : bitsN m (y / 2 ^ (d - m) % 2 ^ m) = bitsN m (y / 2 ^ (d - m)) := bitsN_mod m m _ (Nat.le_refl _)
    have e4 : bitsN (k - (d - m)) (y / 2 ^ (d - m)) = bitsN (k - d) (y / 2 ^ d) ++ bitsN m (y / 2 ^ (d - m)) := by
      rw [show k - (d - m) = (k - d) + m from by omega, bitsN_add, Nat.div_div_eq_div_mul, ← Nat.pow_add, show d - m + m = d from by omega]
    rw [e4, ← List.append_assoc, hbs1, ← e3]
    exact hW2
/-! Bytes. -/
def by' (b : UInt8) : List Value := [.int .u8 (b.toNat : Int)]
theorem by_len (b : UInt8) : (by' b).length = 1 := rfl
theorem app_bytes {lo id : Nat} {s : SH} {v : Value} {B : List UInt8} (h : BufV lo id s v B) (hb : B.length < 1000000) : appD Tryd.prog false s 22 22 (sl by' 1 []) v = some (sl by' (s.n + 3) B, newD s (.tok B.length 1)) := by
  have hni : isInt Tryd.prog 22 = false := by unfold isInt; rw [u22]
  have hi : Tryd.prog.info? 5 = some Tryd.t5 := by kernel_rfl
  have hz : (Tryd.t5.size : Nat) = 1 := by kernel_rfl
  have hbt : (Tryd.t5.bytes : Nat) = 1 := by kernel_rfl
  rcases h with ⟨rfl, rfl⟩ | ⟨ib, c, rfl, h2, h3, h4, h5⟩
  · unfold appD
    rw [hni, condF]
    unfold appendD
    have hcond0 : (decide ((0 + 0) * Tryd.t5.bytes ≤ 140737488355328) && decide (0 + 0 ≤ 140737488355328) && Nat.beq [Value.int .u8 0].length Tryd.t5.size && Nat.blt 0 Tryd.t5.size) = true := by kernel_rfl
    have lx : lenD (sl by' 1 []) = some 0 := rfl
    have ly : lenD (fzV 2 #[]) = some 0 := rfl
    simp only [u22, bindS, hi, ly, lx, zr5, hcond0, condT]
    rfl
  · have hcond : (decide ((0 + B.length) * Tryd.t5.bytes ≤ 140737488355328) && decide (0 + B.length ≤ 140737488355328) && Nat.beq [Value.int .u8 0].length Tryd.t5.size && Nat.blt 0 Tryd.t5.size) = true := by
      rw [hbt, hz, decide_eq_true (by omega), decide_eq_true (by omega)]; rfl
    have ly : lenD (.slice (some ⟨ib, 0, none⟩) B.length c) = some B.length := rfl
    have lx : lenD (sl by' 1 []) = some 0 := rfl
    have cx : cellsD s 1 B.length (.slice (some ⟨ib, 0, none⟩) B.length c) = some (rowB B) := by
      show (bif Nat.ble B.length B.length && Nat.beq (c / 2) 1 then (bif Nat.beq B.length 0 then some [] else (rowD s ib).bind fun r => takeD r 0 (B.length * 1)) else none) = _
      rw [Nat.ble_eq_true_of_le (Nat.le_refl _), h2]
      show (bif Nat.beq B.length 0 then some [] else (rowD s ib).bind fun r => takeD r 0 (B.length * 1)) = _
      by_cases h0 : B.length = 0
      · have : B = [] := List.length_eq_zero_iff.1 h0
        subst this; rfl
      · rw [beq_no h0, condF, row_of h5, bindS]
        unfold takeD
        rw [List.drop_zero, List.take_of_length_le (by rw [rowB_len]; omega), rowB_len, Nat.mul_one, beq_yes, condT]
    have hch : chunkL 1 B.length (rowB B) = (B.map by').map fun e => Value.agg e.toArray := by
      refine List.ext_getElem (by simp [chunkL]) fun i h1 h2 => ?_
      simp only [chunkL_len] at h1
      simp [chunkL, List.take_one, h1, by', rowB]
    have he : elemsD s 1 B.length (.slice (some ⟨ib, 0, none⟩) B.length c) = some ((B.map by').map fun e => Value.agg e.toArray) := by
      show ((cellsD s 1 B.length (.slice (some ⟨ib, 0, none⟩) B.length c)).bind fun l => bif l.all oneC then some (chunkL 1 B.length l) else none) = _
      rw [cx, bindS, rowB_one, condT, hch]
    unfold appD
    rw [hni, condF]
    unfold appendD
    simp only [u22, bindS, hi, ly, lx, zr5, hcond, condT]
    rw [hz]
    show (bif fzOk 1 #[] then ((elemsD s 1 B.length (.slice (some ⟨ib, 0, none⟩) B.length c)).map fun new => cond (false && Nat.beq B.length 0) (sl by' 1 [], s) (appNew false s 1 (0 + B.length) ([] ++ new))) else none) = _
    rw [he, Nat.zero_add]
    rfl
theorem bs22_0 (s : SH) : buildSliceD Tryd.prog false s 22 0 [] = some (sl by' 1 [], s) := by kernel_rfl
theorem c52 {n lo id : Nat} {s : SH} {bs : List Bool} (hW : Wr lo id s bs) (hb : bs.length < 1000000) :
    ∃ B, padded bs B ∧ callD Tryd.prog AB (n + 2) (.fn 52) [.pointer (some ⟨id, 0, none⟩)] s = some [(sl by' (s.n + 3) B, newD s (.tok B.length 1))] := by
  have h87 := c87 (n := n) hW
  obtain ⟨v, B, hg, h2, h3, h4⟩ := hW
  refine ⟨B, h4, ?_⟩
  rw [call_fn (fn := Tryd.f52) rfl rfl (by kernel_rfl)]
  show bodyD Tryd.prog false _ _ 52 Tryd.f52 _ s = _
  rw [f52_r]
  have hap := app_bytes h3 (by have := h4.2.2; omega)
  simp only [f52, o_bool, o_alloc, o_box, o_build, o_buildSlice, o_load, o_store, o_nilCheck, o_bop, o_uop, o_conv, o_slc, o_fieldAddr, o_field, o_indexAddr, o_index, o_extract, o_lookup, o_mapUpdate, o_makeSlice, o_makeMap, o_mapEntry, o_entryStore, o_delete, o_len, o_append, o_min, o_max, o_tgt, bindS, many1, jnE, boolS, gdB, fst', snd', h87, uop_not, Bool.not_true, condF, bs22_0, nilc, fld140_0, fld138_0, (ld3c hg).1, hap]
end Go.Proofs.YtmhmbmogodofeaaDoor.S

set_option autoImplicit false
set_option linter.unusedVariables false
set_option linter.unusedSimpArgs false
set_option maxRecDepth 100000
namespace Go.Proofs.YtmhmbmogodofeaaDoor.S
open Go.FS Go.RowKit
attribute [local congr] bind_cg cond_cg gd_cg

/-! States of times. -/
abbrev I (a : Int) : Value := .int .i64 a
abbrev U (a : Int) : Value := .int .u64 a
abbrev pt (id o : Nat) : Value := .pointer (some ⟨id, o, none⟩)
theorem p3_0 (v : Value) (l : List Value) : partD Tryd.prog 3 (v :: l) 0 = some v := part_one a3
theorem p3_1 (u v : Value) (l : List Value) : partD Tryd.prog 3 (u :: v :: l) 1 = some v := part_one a3
theorem p3_2 (t u v : Value) (l : List Value) : partD Tryd.prog 3 (t :: u :: v :: l) 2 = some v := part_one a3
theorem p3_3 (w t u v : Value) (l : List Value) : partD Tryd.prog 3 (w :: t :: u :: v :: l) 3 = some v := part_one a3
theorem p38_0 (v : Value) (l : List Value) : partD Tryd.prog 38 (v :: l) 0 = some v := part_one a38
theorem p38_1 (u v : Value) (l : List Value) : partD Tryd.prog 38 (u :: v :: l) 1 = some v := part_one a38
abbrev ts (a b c : Int) : Value := .agg #[I a, I b, I c]
abbrev tr (a b c : Int) : List Value := [I a, I b, I c]
theorem bx102 (s : SH) (a b c : Int) : boxD s (ts a b c) = some (pt s.n 0, newD s (.row (tr a b c))) := box_at rfl rfl
theorem al102 (s : SH) : allocD Tryd.prog s 102 = some (pt s.n 0, newD s (.row (tr 0 0 0))) := alloc_at zr102
theorem bl102 (a b c : Int) : buildD Tryd.prog 102 [(0, I a), (1, I b), (2, I c)] = some (ts a b c) := by kernel_rfl
theorem p102 (a b c : Int) : partD Tryd.prog 102 (tr a b c) 0 = some (ts a b c) := part_agg a102 z102 rfl rfl
theorem st102_0 (s : SH) (x y z a b c : Int) : storeD Tryd.prog (newD s (.row (tr x y z))) 102 (pt s.n 0) (ts a b c) = some (newD s (.row (tr a b c))) := st_n0 (l := tr a b c) s z102 rfl rfl rfl
def tsV (u : TS) : Value := ts u.n u.last u.delta
theorem ts_plain (a b c : Int) : Plain (ts a b c) := Plain.agg (l := [I a, I b, I c]) rfl
theorem ext1 (s : SH) (a : DObj) : Ext s (newD s a) := (Ext.refl s).new a
theorem ext2' (s : SH) (a b : DObj) : Ext s (newD (newD s a) b) := (ext1 s a).new b
theorem ext3' (s : SH) (a b c : DObj) : Ext s (newD (newD (newD s a) b) c) := (ext2' s a b).new c
theorem pl2 {a b : Value} (h : Plain a) (k : Plain b) : ∀ v ∈ [a, b], Plain v := fun v hv => by
  simp only [List.mem_cons, List.not_mem_nil, or_false] at hv
  rcases hv with rfl | rfl <;> assumption
theorem c98 {n : Nat} {s : SH} (a m : Int) (h : 0 ≤ a ∧ a ≤ m) : callD Tryd.prog AB (n + 1) (.fn 98) [I a, I m] s = some [(.bool true, s)] := by
  refine cut_plain (fn := Tryd.f98) rfl rfl (by kernel_rfl) (fun _ h => by cases h) (.bool _) ?_
  show One (bodyD Tryd.prog false _ _ 98 Tryd.f98 _ _) _
  rw [f98_r]
  have h1 : a ≥ 0 := h.1
  simp only [f98, oO, bindS, many1, jnE, boolS, gdB, fst', snd', bop_geq, h1, h.2, bop_leq, decide_true, condT]
  exact One.ret ⟨rfl, .refl s⟩
theorem c74 {n : Nat} {s : SH} (u : TS) (hn : u.n ≤ 4096) (hu : TSok u) : callD Tryd.prog AB (n + 2) (.fn 74) [tsV u] s = some [(.bool true, s)] := by
  refine cut_plain (fn := Tryd.f74) rfl rfl (by kernel_rfl) (fun _ h => by cases h) (.bool _) ?_
  show One (bodyD Tryd.prog false _ _ 74 Tryd.f74 _ _) _
  rw [f74_r]
  obtain ⟨h1, h2⟩ := hu
  unfold mxT at h1 h2
  have e1 := fun s => c98 (n := n) (s := s) (u.n : Int) 4096 (by omega)
  have e2 := fun s => c98 (n := n) (s := s) (u.last : Int) 35184372088832 (by omega)
  have e3 := fun s => c98 (n := n) (s := s) (u.delta : Int) 35184372088832 (by omega)
  simp only [f74, oO, bindS, many1, jnE, boolS, gdB, fst', snd', tsV, bx102, fld102_0, fld102_1, fld102_2, ld_n0, ld_n1, ld_n2, ld_n3, p3_0, p3_1, p3_2, p3_3, p38_0, p38_1, e1, e2, e3, condT]
  exact One.ret ⟨rfl, ext1 s _⟩
theorem c73_yes {n : Nat} {s : SH} (u : TS) (t : Nat) (hn : u.n < 2 ^ 62) (h : tmay u t) : callD Tryd.prog AB (n + 1) (.fn 73) [tsV u, I (t : Int)] s = some [(.tuple #[tsV (tnext u t), .bool true], s)] := by
  refine cutT_plain (fn := Tryd.f73) rfl rfl (by kernel_rfl) (l := [tsV (tnext u t), .bool true]) (pl2 (ts_plain _ _ _) (.bool _)) ?_
  show One (bodyD Tryd.prog false _ _ 73 Tryd.f73 _ _) _
  rw [f73_r]
  obtain ⟨h1, h2, h3⟩ := h
  unfold mxT at h2
  have g1 : ¬ (t : Int) < 0 := by omega
  have g2 : ¬ (t : Int) > 35184372088832 := by omega
  by_cases h0 : u.n = 0
  · have g3 : (u.n : Int) = 0 := by omega
    simp only [f73, oO, bindS, many1, jnE, boolS, gdB, fst', snd', tsV, bx102, al102, bop_lss, g1, decide_false, condF, bop_gtr, g2, fld102_0, ld_n0, ld_n1, ld_n2, ld_n3, p3_0, p3_1, p3_2, p3_3, p38_0, p38_1, bop_eql, g3, decide_true, condT, bl102, st102_0, p102, tnext, h0, if_true]
    exact One.ret ⟨rfl, ext2' s _ _⟩
  · have g3 : ¬ (u.n : Int) = 0 := by omega
    have g4 : ¬ (t : Int) ≤ (u.last : Int) := by omega
    have w1 : IntKind.i64.wrap ((u.n : Int) + 1) = ((u.n + 1 : Nat) : Int) := by rw [wrap_i64 (by omega) (by omega)]; rfl
    have w2 : IntKind.i64.wrap ((t : Int) - (u.last : Int)) = ((t - u.last : Nat) : Int) := by rw [wrap_i64 (by omega) (by omega)]; omega
    simp only [f73, oO, bindS, many1, jnE, boolS, gdB, fst', snd', tsV, bx102, al102, bop_lss, g1, decide_false, condF, bop_gtr, g2, fld102_0, fld102_1, ld_n0, ld_n1, ld_n2, ld_n3, p3_0, p3_1, p3_2, p3_3, p38_0, p38_1, bop_eql, g3, bop_leq, g4, bop_add, w1, b_sub, w2, bl102, st102_0, p102, tnext, h0, if_false]
    exact One.ret ⟨rfl, ext2' s _ _⟩
theorem c75 {n : Nat} {s : SH} (u : TS) : callD Tryd.prog AB (n + 1) (.fn 75) [tsV u, I 0] s = some [(.tuple #[tsV u, I 0], s)] := by
  refine cutT_plain (fn := Tryd.f75) rfl rfl (by kernel_rfl) (l := [tsV u, I 0]) (pl2 (ts_plain _ _ _) (.int _ _)) ?_
  show One (bodyD Tryd.prog false _ _ 75 Tryd.f75 _ _) _
  rw [f75_r]
  simp only [f75, oO, bindS, many1, jnE, boolS, gdB, fst', snd', tsV, bx102, al102, b_neq, decide_true, Bool.not_true, condF, ld_n0, ld_n1, ld_n2, ld_n3, p3_0, p3_1, p3_2, p3_3, p38_0, p38_1, p102, st102_0]
  exact One.ret ⟨rfl, ext2' s _ _⟩
end Go.Proofs.YtmhmbmogodofeaaDoor.S

set_option autoImplicit false
set_option linter.unusedVariables false
set_option linter.unusedSimpArgs false
set_option maxRecDepth 100000
namespace Go.Proofs.YtmhmbmogodofeaaDoor.S
open Go.FS Go.RowKit
attribute [local congr] bind_cg cond_cg gd_cg

/-! Classes of differences. -/
abbrev cl (a b c : Int) : Value := .agg #[I a, I b, I c]
theorem al147 (s : SH) : allocD Tryd.prog s 147 = some (pt s.n 0, newD s (.row (tr 0 0 0))) := alloc_at zr147
theorem bx147 (s : SH) (a b c : Int) : boxD s (cl a b c) = some (pt s.n 0, newD s (.row (tr a b c))) := box_at rfl rfl
theorem p147 (a b c : Int) : partD Tryd.prog 147 (tr a b c) 0 = some (cl a b c) := part_agg a147 z147 rfl rfl
theorem st147_0 (s : SH) (x y z a b c : Int) : storeD Tryd.prog (newD s (.row (tr x y z))) 147 (pt s.n 0) (cl a b c) = some (newD s (.row (tr a b c))) := st_n0 (l := tr a b c) s z147 rfl rfl rfl
def cEnd (k : Nat) : Nat := if k < 4 then 1 else 0
theorem lt5 {k : Nat} (h : k < 5) : k = 0 ∨ k = 1 ∨ k = 2 ∨ k = 3 ∨ k = 4 := by omega
theorem ix148 {k : Nat} (h : k < 5) : indexD Tryd.prog 148 (.agg classes) (I (k : Int)) = some (cl (k : Int) (cEnd k : Int) (tw k : Int)) := by
  rcases lt5 h with rfl | rfl | rfl | rfl | rfl <;> kernel_rfl
theorem ld148 (s : SH) : loadD Tryd.prog s 148 (gpV 0 0) = some (.agg classes) := by
  rw [load_gp (cs := classes) rfl]; kernel_rfl
theorem ixa148 {k : Nat} (h : k < 5) : indexAddrD Tryd.prog 148 (gpV 0 0) (I (k : Int)) = some (gpV 0 (k * 3)) := by
  rcases lt5 h with rfl | rfl | rfl | rfl | rfl <;> kernel_rfl
theorem lda147 {k : Nat} (s : SH) (h : k < 5) : loadD Tryd.prog s 147 (gpV 0 (k * 3)) = some (cl (k : Int) (cEnd k : Int) (tw k : Int)) := by
  rw [load_gp (cs := classes) rfl]
  rcases lt5 h with rfl | rfl | rfl | rfl | rfl <;> kernel_rfl
theorem c100 {n : Nat} {s : SH} (a b : Int) (w z : Nat) (hw : w ≤ 64) : callD Tryd.prog AB (n + 1) (.fn 100) [cl a b (w : Int), U (z : Int)] s = some [(.bool (decide (z / 2 ^ w = 0)), s)] := by
  refine cut_plain (fn := Tryd.f100) rfl rfl (by kernel_rfl) (fun _ h => by cases h) (.bool _) ?_
  show One (bodyD Tryd.prog false _ _ 100 Tryd.f100 _ _) _
  rw [f100_r]
  have e : decide (((z / 2 ^ w : Nat) : Int) = 0) = decide (z / 2 ^ w = 0) := by
    by_cases h : z / 2 ^ w = 0
    · rw [h]; rfl
    · rw [decide_eq_false h, decide_eq_false (by omega)]
  simp only [f100, oO, bindS, many1, jnE, boolS, gdB, fst', snd', bx147, fld147_2, ld_n0, ld_n1, ld_n2, ld_n3, p3_0, p3_1, p3_2, p3_3, p38_0, p38_1, shr64 hw, bop_eql, e]
  exact One.ret ⟨rfl, ext1 s _⟩
theorem tcls_min {z i : Nat} (h : z < 2 ^ tw i) : tcls z ≤ i := by
  unfold tcls
  match i, h with
  | 0, h => simp only [tw] at h; rw [if_pos (by omega)]; omega
  | 1, h => simp only [tw] at h; (repeat' split) <;> omega
  | 2, h => simp only [tw] at h; (repeat' split) <;> omega
  | 3, h => simp only [tw] at h; (repeat' split) <;> omega
  | i + 4, h => (repeat' split) <;> omega
theorem c77 {n : Nat} {s : SH} (z : Nat) (hz : z < 2 ^ 48) : callD Tryd.prog AB (n + 2) (.fn 77) [U (z : Int)] s = some [(I (tcls z : Int), s)] := by
  refine cut_plain (fn := Tryd.f77) rfl rfl (by kernel_rfl) (fun _ h => by cases h) (.int _ _) ?_
  show One (bodyD Tryd.prog false _ _ 77 Tryd.f77 _ _) _
  rw [f77_r]
  simp only [f77, oO, bindS, many1, jnE, boolS, gdB, fst', snd', ld148]
  refine list_one (List.replicate 5 ()) (fun i (x : Value × Value × Value) (s' : SH) => i ≤ tcls z ∧ x.2.2 = I i ∧ Ext s s') ?_ ?_ ⟨Nat.zero_le _, rfl, .refl s⟩ (by rw [List.length_replicate]; show _ < 2 ^ 64; omega)
  · rintro i hi ⟨x1, x2, x3⟩ s' ⟨h1, h2, h3⟩ nx hnx
    rw [List.length_replicate] at hi
    simp only at h2
    subst h2
    have hlt : (i : Int) < 5 := by omega
    have hw : IntKind.i64.wrap ((i : Int) + 1) = ((i + 1 : Nat) : Int) := by rw [wrap_i64 (by omega) (by omega)]; rfl
    have e100 := fun s => c100 (n := n) (s := s) (i : Int) (cEnd i : Int) (tw i) z (by have := tw_le i; omega)
    simp only [f77_l0, oO, bindS, many1, jnE, boolS, gdB, fst', snd', bop_lss, hlt, decide_true, condT, ix148 hi, al147, st147_0, ld_n0, ld_n1, ld_n2, ld_n3, p3_0, p3_1, p3_2, p3_3, p38_0, p38_1, p147, e100]
    by_cases h0 : z / 2 ^ tw i = 0
    · have hl : z < 2 ^ tw i := (Nat.div_eq_zero_iff_lt (Nat.two_pow_pos _)).1 h0
      have : tcls z = i := by have := tcls_min hl; omega
      simp only [h0, decide_true, condT]
      exact One.ret ⟨by rw [this], h3.new _⟩
    · simp only [h0, decide_false, condF, bop_add, hw]
      refine hnx (_, _, _) _ ⟨?_, rfl, h3.new _⟩
      rcases Nat.lt_or_ge i (tcls z) with h | h
      · exact h
      · have : tcls z = i := by omega
        have h4 := tcls_lt hz
        rw [this] at h4
        exact absurd ((Nat.div_eq_zero_iff_lt (Nat.two_pow_pos _)).2 h4) h0
  · rintro ⟨x1, x2, x3⟩ s' ⟨h1, h2, h3⟩ nx
    rw [List.length_replicate] at h1
    have := tcls_le z
    omega
/-! A number with a sign as one without. -/
theorem shl3 (d : Int) (h : -2 ^ 60 < d) (h2 : d < 2 ^ 60) : bopD Tryd.prog .shl 3 (I d) (.int .u64 1) = some (I (2 * d)) := by
  rw [bop_int]
  simp only [intS, IntKind.bits]
  rw [if_neg (by decide)]
  have e : d * 2 ^ min (Int.toNat 1) 64 = 2 * d := by
    show d * 2 = _
    omega
  rw [e, wrap_i64 (by omega) (by omega)]
theorem shr3 (d : Int) (h : -2 ^ 60 < d) (h2 : d < 2 ^ 60) : bopD Tryd.prog .shr 3 (I d) (.int .u64 63) = some (I (if d < 0 then -1 else 0)) := by
  rw [bop_int]
  simp only [intS, IntKind.bits]
  rw [if_neg (by decide)]
  have e : d.fdiv (2 ^ min (Int.toNat 63) 64) = if d < 0 then -1 else 0 := by
    show d.fdiv 9223372036854775808 = _
    rw [Int.fdiv_eq_ediv_of_nonneg _ (by decide)]
    split <;> omega
  rw [e]
theorem xor3_0 (t : TypeId) (a : Int) (h : 0 ≤ a) (h2 : a < 2 ^ 62) : bopD Tryd.prog .xor t (I a) (I 0) = some (I a) := by
  rw [bop_int]
  show some (Value.int IntKind.i64 (IntKind.i64.wrap ((BitVec.ofInt 64 a ^^^ BitVec.ofInt 64 0).toNat : Nat))) = _
  have e1 : BitVec.ofInt 64 a ^^^ BitVec.ofInt 64 0 = BitVec.ofInt 64 a := by simp
  have e2 : ((BitVec.ofInt 64 a).toNat : Int) = a := by
    rw [BitVec.toNat_ofInt]
    omega
  rw [e1, e2, wrap_i64 (by omega) (by omega)]
theorem xor3_m (t : TypeId) (a : Int) (h : a < 0) (h2 : -2 ^ 62 < a) : bopD Tryd.prog .xor t (I a) (I (-1)) = some (I (-a - 1)) := by
  rw [bop_int]
  show some (Value.int IntKind.i64 (IntKind.i64.wrap ((BitVec.ofInt 64 a ^^^ BitVec.ofInt 64 (-1)).toNat : Nat))) = _
  have e1 : BitVec.ofInt 64 a ^^^ BitVec.ofInt 64 (-1) = ~~~ BitVec.ofInt 64 a := by
    have : BitVec.ofInt 64 (-1) = BitVec.allOnes 64 := by decide
    rw [this, BitVec.xor_allOnes]
  have e2 : ((~~~ BitVec.ofInt 64 a).toNat : Int) = -a - 1 := by
    rw [BitVec.toNat_not, BitVec.toNat_ofInt]
    omega
  rw [e1, e2, wrap_i64 (by omega) (by omega)]
theorem foldW (d : Int) (h : -2 ^ 60 < d) (h2 : d < 2 ^ 60) : bopD Tryd.prog .xor 3 (I (2 * d)) (I (if d < 0 then -1 else 0)) = some (I (foldZ d : Int)) := by
  unfold foldZ
  by_cases hd : d < 0
  · rw [if_pos hd, if_pos hd, xor3_m 3 (2 * d) (by omega) (by omega)]
    congr 2; omega
  · rw [if_neg hd, if_neg hd, xor3_0 3 (2 * d) (by omega) (by omega)]
    congr 2; omega
theorem lead_bits {k : Nat} (h : k ≤ 4) : bitsN (k + cEnd k) ((2 ^ k - 1) * 2 ^ cEnd k) = leadB k := by
  rcases lt5 (show k < 5 by omega) with rfl | rfl | rfl | rfl | rfl <;> rfl
theorem Kp.putNew {lo id i : Nat} {a b : SH} (h : Kp lo id a b) (hi : a.n ≤ i) (o : DObj) : Kp lo id a (putD b i o) := ⟨h.1, fun j h1 h2 h3 => by rw [get_put_other (by omega)]; exact h.2 j h1 h2 h3⟩
theorem Kp.new {lo id : Nat} {a b : SH} (h : Kp lo id a b) (o : DObj) : Kp lo id a (newD b o) := ⟨by rw [newD_n]; exact Nat.le_succ_of_le h.1, fun j h1 h2 h3 => by rw [get_old (by have := h.1; omega)]; exact h.2 j h1 h2 h3⟩
theorem Wr.id_lt {lo id : Nat} {s : SH} {bs : List Bool} (h : Wr lo id s bs) : id < s.n := by obtain ⟨_, _, _, h, _⟩ := h; exact h.1
theorem Wr.new' {lo id : Nat} {s : SH} {bs : List Bool} (h : Wr lo id s bs) (o : DObj) : Wr lo id (newD s o) bs := h.ext (ext1 s o)
theorem i_nb (a : Int) : ∀ y, I a ≠ .int .u8 y := fun y e => by injection e with e; cases e
theorem tr_nb {s : SH} {i : Nat} {a b c : Int} (h : HP.get s.h i = some (.row (tr a b c))) : ¬ IsB (HP.get s.h i) := not_isB h (i_nb a)
end Go.Proofs.YtmhmbmogodofeaaDoor.S

set_option autoImplicit false
set_option linter.unusedVariables false
set_option linter.unusedSimpArgs false
set_option maxRecDepth 100000
namespace Go.Proofs.YtmhmbmogodofeaaDoor.S
open Go.FS Go.RowKit
attribute [local congr] bind_cg cond_cg gd_cg

/-! stamp.Put. -/
theorem tst_n (s : SH) (id : Nat) {x y z a b c : Int} (h : HP.get s.h id = some (.row (tr x y z))) : storeD Tryd.prog s 102 (pt id 0) (ts a b c) = some (putD s id (.row (tr a b c))) := st_all (l := tr a b c) z102 h rfl rfl rfl
theorem tld_n {s : SH} {id : Nat} {a b c : Int} (h : HP.get s.h id = some (.row (tr a b c))) : loadD Tryd.prog s 102 (pt id 0) = some (ts a b c) := by rw [load_row h]; exact p102 a b c
theorem tld_0 {s : SH} {id : Nat} {a b c : Int} (h : HP.get s.h id = some (.row (tr a b c))) : loadD Tryd.prog s 3 (pt id 0) = some (I a) := by rw [load_row h, p3_0]
theorem tld_1 {s : SH} {id : Nat} {a b c : Int} (h : HP.get s.h id = some (.row (tr a b c))) : loadD Tryd.prog s 3 (pt id 1) = some (I b) := by rw [load_row h, p3_1]
theorem tld_2 {s : SH} {id : Nat} {a b c : Int} (h : HP.get s.h id = some (.row (tr a b c))) : loadD Tryd.prog s 3 (pt id 2) = some (I c) := by rw [load_row h, p3_2]
theorem ext2 (a b : Value) : extractD (.tuple #[a, b]) 0 = some a ∧ extractD (.tuple #[a, b]) 1 = some b := by cases a <;> exact ⟨rfl, rfl⟩
theorem tput_len {u : TS} {t : Nat} : (tput u t).length ≤ 60 := by
  unfold tput
  split
  · rw [bitsN_len]; omega
  · have h1 := tcls_le (tz u t)
    have h2 := tw_le (tcls (tz u t))
    unfold leadB
    rw [List.length_append, List.length_append, bitsN_len, List.length_replicate]
    split <;> simp <;> omega
theorem c48 {n lo id : Nat} {s : SH} {bs : List Bool} (u : TS) (t : Nat) (hW : Wr lo id s bs) (hu : TSok u) (hn : u.n ≤ 4096) (ht : tmay u t) (hb : bs.length + 60 ≤ 524288) :
    ∃ s', callD Tryd.prog AB (n + 4) (.fn 48) [pt id 0, tsV u, I (t : Int)] s = some [(.tuple #[tsV (tnext u t), I 0], s')] ∧ Wr lo id s' (bs ++ tput u t) ∧ Kp lo id s s' := by
  rw [call_fn (fn := Tryd.f48) rfl rfl (by kernel_rfl)]
  suffices h : One (bodyD Tryd.prog false (callD Tryd.prog AB (n + 3)) AB.N 48 Tryd.f48 [pt id 0, tsV u, I (t : Int)] s) fun w s' => w = .tuple #[tsV (tnext u t), I 0] ∧ Wr lo id s' (bs ++ tput u t) ∧ Kp lo id s s' by
    obtain ⟨w, s', e, rfl, h⟩ := h
    exact ⟨s', e, h⟩
  rw [f48_r]
  have hid := hW.id_lt
  have e73 := fun s => c73_yes (n := n + 2) (s := s) u t (by omega) ht
  have e74 := fun s => c74 (n := n + 1) (s := s) u hn hu
  obtain ⟨ht1, ht2, ht3⟩ := ht
  have ht2' : (t : Int) ≤ 35184372088832 := ht2
  obtain ⟨hu1, hu2⟩ := hu
  unfold mxT at hu1 hu2
  let s1 : SH := newD s (.row (tr u.n u.last u.delta))
  let s2 : SH := newD s1 (.row (tr 0 0 0))
  generalize hv : tnext u t = v at *
  let s3 : SH := newD s2 (.row (tr v.n v.last v.delta))
  have hs1 : s1.n = s.n + 1 := rfl
  have hs2 : s2.n = s.n + 2 := rfl
  have hs3 : s3.n = s.n + 3 := rfl
  have hW3 : Wr lo id s3 bs := ((hW.new' _).new' _).new' _
  have hK3 : Kp lo id s s3 := Kp.ext (ext3' s _ _ _)
  have g1 : HP.get s3.h s.n = some (.row (tr u.n u.last u.delta)) := get_n2 s _ _ _
  have g2 : HP.get s3.h s1.n = some (.row (tr 0 0 0)) := get_n1 s1 _ _
  have g3 : HP.get s3.h s2.n = some (.row (tr v.n v.last v.delta)) := get_n0 s2 _
  have k3 : allocD Tryd.prog s2 102 = some (pt s2.n 0, newD s2 (.row (tr 0 0 0))) := al102 s2
  have k4 : storeD Tryd.prog (newD s2 (.row (tr 0 0 0))) 102 (pt s2.n 0) (tsV v) = some s3 := st102_0 s2 0 0 0 _ _ _
  have m1 : loadD Tryd.prog s2 102 (pt s.n 0) = some (tsV u) := tld_n (get_n1 s _ _)
  have m2 : loadD Tryd.prog s3 102 (pt s.n 0) = some (tsV u) := tld_n g1
  have b1 : boxD s (tsV u) = some (pt s.n 0, s1) := bx102 s _ _ _
  have b2 : allocD Tryd.prog s1 102 = some (pt s1.n 0, s2) := al102 s1
  by_cases h0 : u.n = 0
  · have hz : (u.n : Int) = 0 := by omega
    have hct : IntKind.u64.wrap (t : Int) = (t : Int) := wrap_u64 (by omega) (by omega)
    obtain ⟨s4, e76, hW4, hK4⟩ := c76 (n := n + 1) (x := t) (k := 46) hW3 (by omega) (by decide) (by omega)
    have e76 := oneS e76
    have e75 := oneS (c75 (n := n + 2) (s := s4) v)
    have q2 := hK4.row (show s1.n ≠ id by omega) g2 (i_nb _) (by omega)
    have q3 := hK4.row (show s2.n ≠ id by omega) g3 (i_nb _) (by omega)
    have m3 : loadD Tryd.prog s3 102 (pt s2.n 0) = some (tsV v) := tld_n g3
    have m4 : loadD Tryd.prog s4 102 (pt s2.n 0) = some (tsV v) := tld_n q3
    have k5 : storeD Tryd.prog s4 102 (pt s1.n 0) (tsV v) = some (putD s4 s1.n (.row (tr v.n v.last v.delta))) := tst_n s4 _ q2
    have m5 : loadD Tryd.prog (putD s4 s1.n (.row (tr v.n v.last v.delta))) 102 (pt s1.n 0) = some (tsV v) := tld_n (get_put_same _)
    simp only [f48, oO, bindS, many1, jnE, boolS, gdB, fst', snd', b1, b2, m1, e73, ext2, k3, k4, uop_not, Bool.not_true, condF, m2, e74, fld102_0, tld_0 g1, bop_eql, hz, decide_true, condT, m3, conv_int u3 u38, hct]
    simp only [show (46 : Int) = ((46 : Nat) : Int) from rfl, e76, oO, bindS, many1, jnE, boolS, gdB, fst', snd', e75, ext2, k5, m3, m4, eqO_s, Bool.and_true, condT, m5]
    refine One.ret ⟨rfl, ?_, (hK3.trans hK4).putNew (by omega) _⟩
    have : tput u t = bitsN 46 t := by unfold tput; rw [if_pos h0]
    rw [this]
    exact hW4.put (by omega) (tr_nb q2)
  · have hz : ¬ (u.n : Int) = 0 := by omega
    have hlast : u.last < t := by omega
    have hvd : v.delta = t - u.last := by rw [← hv]; unfold tnext; rw [if_neg h0]
    have hd : IntKind.i64.wrap ((v.delta : Int) - (u.delta : Int)) = (t : Int) - u.last - u.delta := by rw [wrap_i64 (by omega) (by omega), hvd]; omega
    have hzl := tz_lt (s := u) (t := t) ⟨hu1, hu2⟩ (by unfold mxT; omega)
    have x1 := shl3 ((t : Int) - u.last - u.delta) (by omega) (by omega)
    have x2 := shr3 ((t : Int) - u.last - u.delta) (by omega) (by omega)
    have x3 := foldW ((t : Int) - u.last - u.delta) (by omega) (by omega)
    have htz : tz u t = foldZ ((t : Int) - u.last - u.delta) := rfl
    rw [← htz] at x3
    have htp : tput u t = leadB (tcls (tz u t)) ++ bitsN (tw (tcls (tz u t))) (tz u t) := by unfold tput; rw [if_neg h0]
    have hcl := tcls_le (tz u t)
    have htw := tw_le (tcls (tz u t))
    have e77 := fun s => c77 (n := n + 1) (s := s) (tz u t) hzl
    rw [htp]
    generalize tz u t = z at *
    have x4 : IntKind.u64.wrap (z : Int) = (z : Int) := wrap_u64 (by omega) (by omega)
    generalize hk : tcls z = k at *
    have hk5 : k < 5 := by omega
    let s4 : SH := newD s3 (.row (tr (k : Int) (cEnd k : Int) (tw k : Int)))
    have b4 : allocD Tryd.prog s3 147 = some (pt s3.n 0, newD s3 (.row (tr 0 0 0))) := al147 s3
    have k6 : storeD Tryd.prog (newD s3 (.row (tr 0 0 0))) 147 (pt s3.n 0) (cl (k : Int) (cEnd k : Int) (tw k : Int)) = some s4 := st147_0 s3 0 0 0 _ _ _
    have hW4 : Wr lo id s4 bs := hW3.new' _
    have hce : cEnd k ≤ 1 := by unfold cEnd; split <;> omega
    have h2k : 2 ^ k ≤ 16 := by rcases lt5 hk5 with rfl | rfl | rfl | rfl | rfl <;> decide
    have h1k : 1 ≤ 2 ^ k := Nat.two_pow_pos k
    have h2e : 2 ^ cEnd k ≤ 2 := by unfold cEnd; split <;> decide
    have hmul : (2 ^ k - 1) * 2 ^ cEnd k ≤ 15 * 2 := Nat.mul_le_mul (by omega) h2e
    have y1 : bopD Tryd.prog .shl 38 (.int .u64 1) (I (k : Int)) = some (U ((2 ^ k : Nat) : Int)) := by
      have := shl64 (a := 1) (k := k) (by omega) (by omega)
      rw [Nat.one_mul] at this; exact this
    have y2 : IntKind.u64.wrap (((2 ^ k : Nat) : Int) - 1) = ((2 ^ k - 1 : Nat) : Int) := by rw [wrap_u64 (by omega) (by omega)]; omega
    have y3 := shl64 (a := 2 ^ k - 1) (k := cEnd k) (by omega) (by omega)
    have y4 : IntKind.i64.wrap ((k : Int) + (cEnd k : Int)) = ((k + cEnd k : Nat) : Int) := by rw [wrap_i64 (by omega) (by omega)]; omega
    have r1 : HP.get s4.h s.n = some (.row (tr u.n u.last u.delta)) := get_n3 s _ _ _ _
    have r2 : HP.get s4.h s1.n = some (.row (tr 0 0 0)) := get_n2 s1 _ _ _
    have r3 : HP.get s4.h s2.n = some (.row (tr v.n v.last v.delta)) := get_n1 s2 _ _
    have r4 : HP.get s4.h s3.n = some (.row (tr (k : Int) (cEnd k : Int) (tw k : Int))) := get_n0 s3 _
    obtain ⟨s5, e5, hW5, hK5⟩ := c76 (n := n + 1) (x := (2 ^ k - 1) * 2 ^ cEnd k) (k := k + cEnd k) hW4 (by omega) (by omega) (by omega)
    have e5 := oneS e5
    have hs4 : s4.n = s.n + 4 := rfl
    rw [lead_bits hcl] at hW5
    have hlead : (leadB k).length ≤ 5 := by unfold leadB; rw [List.length_append, List.length_replicate]; split <;> simp <;> omega
    obtain ⟨s6, e6, hW6, hK6⟩ := c76 (n := n + 1) (x := z) (k := tw k) hW5 (by omega) (by omega) (by rw [List.length_append]; omega)
    have e6 := oneS e6
    have q2 := hK5.row (show s1.n ≠ id by omega) r2 (i_nb _) (by omega)
    have q3 := hK5.row (show s2.n ≠ id by omega) r3 (i_nb _) (by omega)
    have q4 := hK5.row (show s3.n ≠ id by omega) r4 (i_nb _) (by omega)
    have hn5 := hK5.1
    have w2 := hK6.row (show s1.n ≠ id by omega) q2 (i_nb _) (by omega)
    have w3 := hK6.row (show s2.n ≠ id by omega) q3 (i_nb _) (by omega)
    have e75 := oneS (c75 (n := n + 2) (s := s6) v)
    have m4 : loadD Tryd.prog s5 102 (pt s2.n 0) = some (tsV v) := tld_n q3
    have m6 : loadD Tryd.prog s6 102 (pt s2.n 0) = some (tsV v) := tld_n w3
    have k7 : storeD Tryd.prog s6 102 (pt s1.n 0) (tsV v) = some (putD s6 s1.n (.row (tr v.n v.last v.delta))) := tst_n s6 _ w2
    have m7 : loadD Tryd.prog (putD s6 s1.n (.row (tr v.n v.last v.delta))) 102 (pt s1.n 0) = some (tsV v) := tld_n (get_put_same _)
    simp only [f48, oO, bindS, many1, jnE, boolS, gdB, fst', snd', b1, b2, m1, e73, ext2, k3, k4, uop_not, Bool.not_true, condF, m2, e74, fld102_0, fld102_2, tld_0 g1, tld_2 g1, tld_2 g3, bop_eql, hz, decide_false, b_sub, hd, x1, x2, x3, conv_int u3 u38, x4, e77, ixa148 hk5, lda147 _ hk5, b4, k6]
    simp only [oO, bindS, many1, jnE, boolS, gdB, fst', snd', fld147_0, fld147_1, tld_0 r4, tld_1 r4, y1, b_sub, y2, y3, bop_add, y4, e5, b_neq, decide_true, Bool.not_true, condF, m4, fld147_2, tld_2 q4, e6, e75, ext2, k7, m6, eqO_s, Bool.and_true, condT, m7]
    refine One.ret ⟨rfl, ?_, ((hK3.trans (Kp.ext (ext1 s3 _))).trans (hK5.trans hK6)).putNew (by omega) _⟩
    rw [← List.append_assoc]
    exact hW6.put (by omega) (tr_nb w2)
end Go.Proofs.YtmhmbmogodofeaaDoor.S
