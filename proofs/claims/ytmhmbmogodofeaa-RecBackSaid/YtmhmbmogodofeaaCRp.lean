import Derived.Test.YtmhmbmogodofeaaCRm
set_option autoImplicit false
set_option linter.unusedVariables false
set_option linter.unusedSimpArgs false
set_option maxRecDepth 100000
namespace Go.Proofs.Ytmhmbmogodofeaa.S
open Go.FS Go.RowKit
attribute [local congr] bind_cg cond_cg gd_cg
theorem ld151 {s : SH} {p q : Nat} (h : HP.get s.h p = some (.row [pr q])) : loadD Try.prog s 151 (pr p) = some (pr q) := by rw [load_row h, part_one a151]; rfl
theorem st_u {s : SH} {p : Nat} {x : Int} (y : Int) (h : HP.get s.h p = some (.row [.int .u64 x])) : storeD Try.prog s 70 (pr p) (.int .u64 y) = some (putD s p (.row [.int .u64 y])) := store_row (l := [.int .u64 y]) z70 h rfl rfl rfl (by simp)
theorem st_i {s : SH} {p : Nat} {x : Int} (y : Int) (h : HP.get s.h p = some (.row [.int .i64 x])) : storeD Try.prog s 3 (pr p) (.int .i64 y) = some (putD s p (.row [.int .i64 y])) := store_row (l := [.int .i64 y]) z3 h rfl rfl rfl (by simp)
/-- What one member's reading leaves: all stands but for the reader's row and the last one's. -/
def Tq (q p m : Nat) (bs : List UInt8) (s s' : SH) (r : Rs) (w : Value) : Prop := s.n ≤ s'.n ∧ (∀ j, j < s.n → j ≠ q → j ≠ p → HP.get s'.h j = HP.get s.h j) ∧ HP.get s'.h q = some (.row (rdr m bs r)) ∧ HP.get s'.h p = some (.row [w])
def oneI (bs : List UInt8) (last : Nat) (r : Rs) : Int × Nat × Rs := (((aftM bs last r).1 : Int), (aftM bs last r).1, (aftM bs last r).2)
theorem c194 {n m q p1 p2 : Nat} {s : SH} {bs : List UInt8} {r : Rs} (last : Nat) (hq : q < s.n) (h1 : p1 < s.n) (h2 : p2 < s.n) (n1 : p1 ≠ q) (n2 : p2 ≠ q) (g1 : HP.get s.h p1 = some (.row [pr q])) (g2 : HP.get s.h p2 = some (.row [.int .u64 (last : Int)])) (hg : HP.get s.h q = some (.row (rdr m bs r))) (hr : r.1 ≤ bs.length) (hb : bs.length < 2 ^ 46) :
    ∃ s', callD Try.prog AB (n + 4) (.fn 194) [pr p1, pr p2] s = some [(.int .u64 (oneI bs last r).1, s')] ∧ Tq q p2 m bs s s' (oneI bs last r).2.2 (.int .u64 ((oneI bs last r).2.1 : Int)) := by
  rw [call_fn (fn := Try.f194) rfl rfl (by kernel_rfl)]
  show ∃ s', bodyD Try.prog false _ _ 194 Try.f194 _ s = _ ∧ _
  rw [f194_r]
  obtain ⟨s1, e, k⟩ := c182 (n := n) (m := m) (q := q) (s := s) (r := r) last hq hg hr hb
  have g3 : HP.get s1.h p2 = some (.row [.int .u64 (last : Int)]) := by rw [k.2.1 _ h2 n2, g2]
  simp only [f194, o_bool, o_alloc, o_box, o_build, o_buildSlice, o_load, o_store, o_nilCheck, o_bop, o_uop, o_conv, o_slc, o_fieldAddr, o_field, o_indexAddr, o_index, o_extract, o_lookup, o_mapUpdate, o_makeMap, o_mapEntry, o_entryStore, o_delete, o_len, o_append, o_min, o_max, o_tgt, bindS, many1, jnE, boolS, gdB, fst', snd', ld151 g1, ld_u g2, e, st_u _ g3, ld_u (get_put_same (H := HP) _)]
  refine ⟨_, rfl, k.1, fun j hj hjq hjp => by rw [get_put_other hjp, k.2.1 _ hj hjq], by rw [get_put_other (fun h => n2 h.symm), k.2.2]; rfl, get_put_same _⟩
def oneN (bs : List UInt8) (last : Nat) (r : Rs) : (Int × List Lab) × Nat × Rs := ((((aftM bs last r).1 : Int), (labM bs (aftM bs last r).2).1), (aftM bs last r).1, (labM bs (aftM bs last r).2).2)
theorem bld135' (i : Int) (m : Nat) (xs : List Lab) : buildD Try.prog 135 [(0, .int .u64 i), (1, sl lab m xs)] = some (.agg (nm (i, m, xs)).toArray) := by kernel_rfl
theorem c181 {n m q p1 p2 : Nat} {s : SH} {bs : List UInt8} {r : Rs} (last : Nat) (hq : q < s.n) (h1 : p1 < s.n) (h2 : p2 < s.n) (n1 : p1 ≠ q) (n2 : p2 ≠ q) (n3 : p1 ≠ p2) (g1 : HP.get s.h p1 = some (.row [pr q])) (g2 : HP.get s.h p2 = some (.row [.int .u64 (last : Int)])) (hg : HP.get s.h q = some (.row (rdr m bs r))) (hr : r.1 ≤ bs.length) (hb : bs.length < 2 ^ 46) :
    ∃ mm s', callD Try.prog AB (n + 7) (.fn 181) [pr p1, pr p2] s = some [(.agg (nm ((oneN bs last r).1.1, mm, (oneN bs last r).1.2)).toArray, s')] ∧ Tq q p2 m bs s s' (oneN bs last r).2.2 (.int .u64 ((oneN bs last r).2.1 : Int)) := by
  rw [call_fn (fn := Try.f181) rfl rfl (by kernel_rfl)]
  show ∃ mm s', bodyD Try.prog false _ _ 181 Try.f181 _ s = _ ∧ _
  rw [f181_r]
  have o0 : HP.get (newD s (.row (nm nz))).h s.n = some (.row (nm nz)) := get_new rfl
  have o1 : HP.get (newD s (.row (nm nz))).h p1 = some (.row [pr q]) := by rw [get_old (by omega), g1]
  have o2 : HP.get (newD s (.row (nm nz))).h p2 = some (.row [.int .u64 (last : Int)]) := by rw [get_old (by omega), g2]
  have o3 : HP.get (newD s (.row (nm nz))).h q = some (.row (rdr m bs r)) := by rw [get_old (by omega), hg]
  have hn1 : s.n < (newD s (.row (nm nz))).n := by rw [newD_n]; omega
  have hold : ∀ j, j < s.n → HP.get (newD s (.row (nm nz))).h j = HP.get s.h j := fun j hj => get_old (by omega)
  simp only [f181, o_bool, o_alloc, o_box, o_build, o_buildSlice, o_load, o_store, o_nilCheck, o_bop, o_uop, o_conv, o_slc, o_fieldAddr, o_field, o_indexAddr, o_index, o_extract, o_lookup, o_mapUpdate, o_makeMap, o_mapEntry, o_entryStore, o_delete, o_len, o_append, o_min, o_max, o_tgt, bindS, many1, jnE, boolS, gdB, fst', snd', al135, ld151 o1, ld_u o2]
  generalize newD s (.row (nm nz)) = s0 at o0 o1 o2 o3 hn1 hold
  obtain ⟨s1, e, k⟩ := c182 (n := n + 3) (m := m) (q := q) (s := s0) (r := r) last (by omega) o3 hr hb
  have i2 : HP.get s1.h p2 = some (.row [.int .u64 (last : Int)]) := by rw [k.2.1 _ (by omega) n2, o2]
  have i1 : HP.get s1.h p1 = some (.row [pr q]) := by rw [k.2.1 _ (by omega) n1, o1]
  have i0 : HP.get s1.h s.n = some (.row (nm nz)) := by rw [k.2.1 _ hn1 (by omega), o0]
  have j2 : HP.get (putD s1 p2 (.row [.int .u64 ((aftM bs last r).1 : Int)])).h p2 = some (.row [.int .u64 ((aftM bs last r).1 : Int)]) := get_put_same _
  have j1 : HP.get (putD s1 p2 (.row [.int .u64 ((aftM bs last r).1 : Int)])).h p1 = some (.row [pr q]) := by rw [get_put_other n3, i1]
  have j0 : HP.get (putD s1 p2 (.row [.int .u64 ((aftM bs last r).1 : Int)])).h s.n = some (.row (nm nz)) := by rw [get_put_other (by omega), i0]
  have jq : HP.get (putD s1 p2 (.row [.int .u64 ((aftM bs last r).1 : Int)])).h q = some (.row (rdr m bs (aftM bs last r).2)) := by rw [get_put_other (fun h => n2 h.symm), k.2.2]
  have jo : ∀ j, j < s.n → j ≠ q → j ≠ p2 → HP.get (putD s1 p2 (.row [.int .u64 ((aftM bs last r).1 : Int)])).h j = HP.get s.h j := fun j hj hjq hjp => by rw [get_put_other hjp, k.2.1 _ (by omega) hjq, hold _ hj]
  have jn : s0.n ≤ (putD s1 p2 (.row [.int .u64 ((aftM bs last r).1 : Int)])).n := k.1
  simp only [e, o_bool, o_alloc, o_box, o_build, o_buildSlice, o_load, o_store, o_nilCheck, o_bop, o_uop, o_conv, o_slc, o_fieldAddr, o_field, o_indexAddr, o_index, o_extract, o_lookup, o_mapUpdate, o_makeMap, o_mapEntry, o_entryStore, o_delete, o_len, o_append, o_min, o_max, o_tgt, bindS, many1, jnE, boolS, gdB, fst', snd', st_u _ i2, ld_u j2, ld151 j1]
  generalize putD s1 p2 (.row [.int .u64 ((aftM bs last r).1 : Int)]) = s2 at j0 j1 j2 jq jo jn
  obtain ⟨mm, s3, e3, k3⟩ := c183 (n := n) (m := m) (q := q) (s := s2) (r := (aftM bs last r).2) (by omega) jq (aft_le hr last) hb
  have l2 : HP.get s3.h p2 = some (.row [.int .u64 ((aftM bs last r).1 : Int)]) := by rw [k3.2.1 _ (by omega) n2, j2]
  have l0 : HP.get s3.h s.n = some (.row (nm nz)) := by rw [k3.2.1 _ (by omega) (by omega), j0]
  have e3' := oneS e3
  simp only [e3', o_bool, o_alloc, o_box, o_build, o_buildSlice, o_load, o_store, o_nilCheck, o_bop, o_uop, o_conv, o_slc, o_fieldAddr, o_field, o_indexAddr, o_index, o_extract, o_lookup, o_mapUpdate, o_makeMap, o_mapEntry, o_entryStore, o_delete, o_len, o_append, o_min, o_max, o_tgt, bindS, many1, jnE, boolS, gdB, fst', snd', bld135', st135 l0, ld_u l2, eqO_s, Bool.and_self, condT, ldn (get_put_same (H := HP) _)]
  refine ⟨mm, _, rfl, ?_, fun j hj hjq hjp => ?_, ?_, ?_⟩
  · have := k3.1; rw [putD_n]; omega
  · rw [get_put_other (by omega), k3.2.1 _ (by omega) hjq, jo _ hj hjq hjp]
  · rw [get_put_other (by omega), k3.2.2]; rfl
  · rw [get_put_other (by omega), l2]; rfl
def oneP (bs : List UInt8) (last : Int) (r : Rs) : Pt × Int × Rs :=
  ((((numM bs 18446744073709551615 r).1 : Int), last + (intM bs last (numM bs 18446744073709551615 r).2).1, ((valM bs (intM bs last (numM bs 18446744073709551615 r).2).2).1 : Int)),
    last + (intM bs last (numM bs 18446744073709551615 r).2).1, (valM bs (intM bs last (numM bs 18446744073709551615 r).2).2).2)
theorem bld142 (a : Int) : buildD Try.prog 142 [(0, .int .u64 a)] = some (.agg (pt (a, 0, 0)).toArray) := by kernel_rfl
theorem bld140 (a b : Int) : buildD Try.prog 140 [(0, .int .i64 a), (1, .int .u64 b)] = some (.agg #[.int .i64 a, .int .u64 b]) := by kernel_rfl
theorem st140 {s : SH} {id : Nat} {p : Pt} (a b : Int) (h : HP.get s.h id = some (.row (pt p))) : storeD Try.prog s 140 (.pointer (some ⟨id, 1, none⟩)) (.agg #[.int .i64 a, .int .u64 b]) = some (putD s id (.row (pt (p.1, a, b)))) := store_row (l := [.int .i64 a, .int .u64 b]) z140 h rfl rfl rfl (by simp [pt])
theorem c186 {n m q p1 p2 : Nat} {s : SH} {bs : List UInt8} {r : Rs} (last : Int) (t0 : 0 ≤ last) (t1 : last ≤ 35184372088832) (hq : q < s.n) (h1 : p1 < s.n) (h2 : p2 < s.n) (n1 : p1 ≠ q) (n2 : p2 ≠ q) (n3 : p1 ≠ p2) (g1 : HP.get s.h p1 = some (.row [pr q])) (g2 : HP.get s.h p2 = some (.row [.int .i64 last])) (hg : HP.get s.h q = some (.row (rdr m bs r))) (hr : r.1 ≤ bs.length) (hb : bs.length < 2 ^ 46) :
    ∃ s', callD Try.prog AB (n + 7) (.fn 186) [pr p1, pr p2] s = some [(.agg (pt (oneP bs last r).1).toArray, s')] ∧ Tq q p2 m bs s s' (oneP bs last r).2.2 (.int .i64 (oneP bs last r).2.1) := by
  rw [call_fn (fn := Try.f186) rfl rfl (by kernel_rfl)]
  show ∃ s', bodyD Try.prog false _ _ 186 Try.f186 _ s = _ ∧ _
  rw [f186_r]
  have o0 : HP.get (newD s (.row (pt ptz))).h s.n = some (.row (pt ptz)) := get_new rfl
  have o1 : HP.get (newD s (.row (pt ptz))).h p1 = some (.row [pr q]) := by rw [get_old (by omega), g1]
  have o2 : HP.get (newD s (.row (pt ptz))).h p2 = some (.row [.int .i64 last]) := by rw [get_old (by omega), g2]
  have o3 : HP.get (newD s (.row (pt ptz))).h q = some (.row (rdr m bs r)) := by rw [get_old (by omega), hg]
  have hn1 : s.n < (newD s (.row (pt ptz))).n := by rw [newD_n]; omega
  have hold : ∀ j, j < s.n → HP.get (newD s (.row (pt ptz))).h j = HP.get s.h j := fun j hj => get_old (by omega)
  simp only [f186, o_bool, o_alloc, o_box, o_build, o_buildSlice, o_load, o_store, o_nilCheck, o_bop, o_uop, o_conv, o_slc, o_fieldAddr, o_field, o_indexAddr, o_index, o_extract, o_lookup, o_mapUpdate, o_makeMap, o_mapEntry, o_entryStore, o_delete, o_len, o_append, o_min, o_max, o_tgt, bindS, many1, jnE, boolS, gdB, fst', snd', al142, ld151 o1]
  generalize newD s (.row (pt ptz)) = s0 at o0 o1 o2 o3 hn1 hold
  unfold oneP
  obtain ⟨s1, e, k⟩ := c152 (n := n + 3) (m := m) (q := q) (s := s0) (r := r) 18446744073709551615 (by omega) o3 hr hb
  have hr1 := num_le hr 18446744073709551615
  generalize numM bs 18446744073709551615 r = x1 at e k hr1
  have e : callD Try.prog AB (n + 6) (.fn 152) [pr q, .int .u64 18446744073709551615] s0 = some [(.int .u64 (x1.1 : Int), s1)] := e
  have i2 : HP.get s1.h p2 = some (.row [.int .i64 last]) := by rw [k.2.1 _ (by omega) n2, o2]
  have i1 : HP.get s1.h p1 = some (.row [pr q]) := by rw [k.2.1 _ (by omega) n1, o1]
  have i0 : HP.get s1.h s.n = some (.row (pt ptz)) := by rw [k.2.1 _ hn1 (by omega), o0]
  have hstp : storeD Try.prog (newD s1 (.row (pt ptz))) 142 (.pointer (some ⟨s1.n, 0, none⟩)) (.agg (pt ((x1.1 : Int), 0, 0)).toArray) = some (putD (newD s1 (.row (pt ptz))) s1.n (.row (pt ((x1.1 : Int), 0, 0)))) := st142 (get_new rfl) _
  have j3 : HP.get (putD (newD s1 (.row (pt ptz))) s1.n (.row (pt ((x1.1 : Int), 0, 0)))).h s1.n = some (.row (pt ((x1.1 : Int), 0, 0))) := get_put_same _
  have jo : ∀ j, j < s1.n → HP.get (putD (newD s1 (.row (pt ptz))) s1.n (.row (pt ((x1.1 : Int), 0, 0)))).h j = HP.get s1.h j := fun j hj => by rw [get_put_other (by omega), get_old (by omega)]
  have jn : s1.n < (putD (newD s1 (.row (pt ptz))) s1.n (.row (pt ((x1.1 : Int), 0, 0)))).n := by rw [putD_n, newD_n]; omega
  have hk := k.1
  have j2 := (jo p2 (by omega)).trans i2
  have j1 := (jo p1 (by omega)).trans i1
  have j0 := (jo s.n (by omega)).trans i0
  have jq := (jo q (by omega)).trans k.2.2
  simp only [e, o_bool, o_alloc, o_box, o_build, o_buildSlice, o_load, o_store, o_nilCheck, o_bop, o_uop, o_conv, o_slc, o_fieldAddr, o_field, o_indexAddr, o_index, o_extract, o_lookup, o_mapUpdate, o_makeMap, o_mapEntry, o_entryStore, o_delete, o_len, o_append, o_min, o_max, o_tgt, bindS, many1, jnE, boolS, gdB, fst', snd', bld142, al142, hstp, ld_i j2, ld151 j1]
  generalize hs2 : putD (newD s1 (.row (pt ptz))) s1.n (.row (pt ((x1.1 : Int), 0, 0))) = s2 at j0 j1 j2 j3 jq jo jn
  obtain ⟨s3, e3, k3⟩ := c187 (n := n) (m := m) (q := q) (p := p2) (s := s2) (r := x1.2) t0 t1 (by omega) j2 jq hr1 hb
  have hr2 := int_le hr1 last
  have rng := int_rng (bs := bs) (r := x1.2) t0 t1
  generalize intM bs last x1.2 = x2 at e3 k3 hr2 rng
  have hk3 := k3.1
  have l2 : HP.get s3.h p2 = some (.row [.int .i64 last]) := by rw [k3.2.1 _ (by omega) n2, j2]
  have l1 : HP.get s3.h p1 = some (.row [pr q]) := by rw [k3.2.1 _ (by omega) n1, j1]
  have l0 : HP.get s3.h s.n = some (.row (pt ptz)) := by rw [k3.2.1 _ (by omega) (by omega), j0]
  have l3 : HP.get s3.h s1.n = some (.row (pt ((x1.1 : Int), 0, 0))) := by rw [k3.2.1 _ jn (by omega), j3]
  have hw : IntKind.i64.wrap (last + x2.1) = last + x2.1 := wrap_i64 (by omega) (by omega)
  have u2 : HP.get (putD s3 p2 (.row [.int .i64 (last + x2.1)])).h p2 = some (.row [.int .i64 (last + x2.1)]) := get_put_same _
  have u1 : HP.get (putD s3 p2 (.row [.int .i64 (last + x2.1)])).h p1 = some (.row [pr q]) := by rw [get_put_other n3, l1]
  have u0 : HP.get (putD s3 p2 (.row [.int .i64 (last + x2.1)])).h s.n = some (.row (pt ptz)) := by rw [get_put_other (by omega), l0]
  have u3 : HP.get (putD s3 p2 (.row [.int .i64 (last + x2.1)])).h s1.n = some (.row (pt ((x1.1 : Int), 0, 0))) := by rw [get_put_other (by omega), l3]
  have uq : HP.get (putD s3 p2 (.row [.int .i64 (last + x2.1)])).h q = some (.row (rdr m bs x2.2)) := by rw [get_put_other (fun h => n2 h.symm), k3.2.2]
  have uo : ∀ j, j < s.n → j ≠ q → j ≠ p2 → HP.get (putD s3 p2 (.row [.int .i64 (last + x2.1)])).h j = HP.get s.h j := fun j hj hjq hjp => by rw [get_put_other hjp, k3.2.1 _ (by omega) hjq, jo _ (by omega), k.2.1 _ (by omega) hjq, hold _ hj]
  have un : s2.n ≤ (putD s3 p2 (.row [.int .i64 (last + x2.1)])).n := hk3
  have e3' := oneS e3
  simp only [e3', o_bool, o_alloc, o_box, o_build, o_buildSlice, o_load, o_store, o_nilCheck, o_bop, o_uop, o_conv, o_slc, o_fieldAddr, o_field, o_indexAddr, o_index, o_extract, o_lookup, o_mapUpdate, o_makeMap, o_mapEntry, o_entryStore, o_delete, o_len, o_append, o_min, o_max, o_tgt, bindS, many1, jnE, boolS, gdB, fst', snd', bop_add, hw, st_i _ l2, ld_i l2, eqO_s, Bool.and_self, condT, ld_i u2, ld151 u1]
  generalize putD s3 p2 (.row [.int .i64 (last + x2.1)]) = s4 at u0 u1 u2 u3 uq uo un
  obtain ⟨s5, e5, k5⟩ := c190v (n := n + 4) (m := m) (q := q) (s := s4) (r := x2.2) (by omega) uq hr2 hb
  generalize valM bs x2.2 = x3 at e5 k5
  have hk5 := k5.1
  have v2 : HP.get s5.h p2 = some (.row [.int .i64 (last + x2.1)]) := by rw [k5.2.1 _ (by omega) n2, u2]
  have v0 : HP.get s5.h s.n = some (.row (pt ptz)) := by rw [k5.2.1 _ (by omega) (by omega), u0]
  have v3 : HP.get s5.h s1.n = some (.row (pt ((x1.1 : Int), 0, 0))) := by rw [k5.2.1 _ (by omega) (by omega), u3]
  have w0 : HP.get (putD s5 s1.n (.row (pt ((x1.1 : Int), last + x2.1, (x3.1 : Int))))).h s.n = some (.row (pt ptz)) := by rw [get_put_other (by omega), v0]
  have w3 : HP.get (putD s5 s1.n (.row (pt ((x1.1 : Int), last + x2.1, (x3.1 : Int))))).h s1.n = some (.row (pt ((x1.1 : Int), last + x2.1, (x3.1 : Int)))) := get_put_same _
  have e5' := oneS e5
  simp only [e5', o_bool, o_alloc, o_box, o_build, o_buildSlice, o_load, o_store, o_nilCheck, o_bop, o_uop, o_conv, o_slc, o_fieldAddr, o_field, o_indexAddr, o_index, o_extract, o_lookup, o_mapUpdate, o_makeMap, o_mapEntry, o_entryStore, o_delete, o_len, o_append, o_min, o_max, o_tgt, bindS, many1, jnE, boolS, gdB, fst', snd', bld140, fld142_1, st140 _ _ v3, ld_i v2, eqO_s, Bool.and_self, condT, ldp w3, st142 w0, ldp (get_put_same (H := HP) _)]
  refine ⟨_, rfl, ?_, fun j hj hjq hjp => ?_, ?_, ?_⟩
  · rw [putD_n, putD_n]; omega
  · rw [get_put_other (by omega), get_put_other (by omega), k5.2.1 _ (by omega) hjq, uo _ hj hjq hjp]
  · rw [get_put_other (by omega), get_put_other (by omega), k5.2.2]
  · rw [get_put_other (by omega), get_put_other (by omega), v2]
end Go.Proofs.Ytmhmbmogodofeaa.S
