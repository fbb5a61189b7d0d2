import Derived.Test.YtmhmbmogodofeaaCRq
set_option autoImplicit false
set_option linter.unusedVariables false
set_option linter.unusedSimpArgs false
set_option maxRecDepth 100000
namespace Go.Proofs.Ytmhmbmogodofeaa.S
open Go.FS Go.RowKit
attribute [local congr] bind_cg cond_cg gd_cg
theorem al70 (s : SH) : allocD Try.prog s 70 = some (pr s.n, newD s (.row [.int .u64 0])) := alloc_at zr70
theorem al3 (s : SH) : allocD Try.prog s 3 = some (pr s.n, newD s (.row [.int .i64 0])) := alloc_at zr3
theorem c151 {n m q : Nat} {s : SH} {bs : List UInt8} {r : Rs} (hq : q < s.n) (hg : HP.get s.h q = some (.row (rdr m bs r))) (hr : r.1 ≤ bs.length) (hb : bs.length < 2 ^ 46) :
    ∃ mm xs s', callD Try.prog AB (n + 9) (.fn 151) [pr q] s = some [(sl u6 mm xs, s')] ∧ xs = (eachM bs (oneI bs) 0 r).1 ∧ Rq q m bs s s' (eachM bs (oneI bs) 0 r).2.2 ∧ (eachM bs (oneI bs) 0 r).2.2.1 ≤ bs.length := by
  rw [call_fn (fn := Try.f151) rfl rfl (by kernel_rfl)]
  show ∃ mm xs s', bodyD Try.prog false _ _ 151 Try.f151 _ s = _ ∧ _
  rw [f151_r]
  have g2 : HP.get (newD (newD s (.row [pr q])) (.row [.int .u64 0])).h (s.n + 1) = some (.row [.int .u64 0]) := get_new (by rw [newD_n])
  have h1 : HP.get (putD (newD (newD s (.row [pr q])) (.row [.int .u64 0])) (s.n + 1) (.row [.int .u64 0])).h s.n = some (.row [pr q]) := by rw [get_put_other (by omega), get_old (by rw [newD_n]; omega), get_new rfl]
  have h2 : HP.get (putD (newD (newD s (.row [pr q])) (.row [.int .u64 0])) (s.n + 1) (.row [.int .u64 0])).h (s.n + 1) = some (.row [.int .u64 0]) := get_put_same _
  have hold : ∀ j, j < s.n → HP.get (putD (newD (newD s (.row [pr q])) (.row [.int .u64 0])) (s.n + 1) (.row [.int .u64 0])).h j = HP.get s.h j := fun j hj => by rw [get_put_other (by omega), get_old (by rw [newD_n]; omega), get_old (by omega)]
  have hn : s.n + 2 ≤ (putD (newD (newD s (.row [pr q])) (.row [.int .u64 0])) (s.n + 1) (.row [.int .u64 0])).n := by rw [putD_n, newD_n, newD_n]; omega
  simp only [f151, o_bool, o_alloc, o_box, o_build, o_buildSlice, o_load, o_store, o_nilCheck, o_bop, o_uop, o_conv, o_slc, o_fieldAddr, o_field, o_indexAddr, o_index, o_extract, o_lookup, o_mapUpdate, o_makeMap, o_mapEntry, o_entryStore, o_delete, o_len, o_append, o_min, o_max, o_tgt, bindS, many1, jnE, boolS, gdB, fst', snd', bx_ptr, al70, newD_n, st_u _ g2, ld151 h1]
  generalize putD (newD (newD s (.row [pr q])) (.row [.int .u64 0])) (s.n + 1) (.row [.int .u64 0]) = s1 at h1 h2 hold hn
  obtain ⟨v, s', e, ⟨mm, xs, rfl, hx⟩, k1, k2, k3, k4⟩ := c193 (n := n) (m := m) (q := q) (p1 := s.n) (p2 := s.n + 1) (s := s1) (r := r) 0 (by omega) (by omega) (by omega) (by omega) (by omega) (by omega) h1 h2 (by rw [hold _ hq, hg]) hr hb
  simp only [e, o_bool, o_alloc, o_box, o_build, o_buildSlice, o_load, o_store, o_nilCheck, o_bop, o_uop, o_conv, o_slc, o_fieldAddr, o_field, o_indexAddr, o_index, o_extract, o_lookup, o_mapUpdate, o_makeMap, o_mapEntry, o_entryStore, o_delete, o_len, o_append, o_min, o_max, o_tgt, bindS, many1, jnE, boolS, gdB, fst', snd']
  exact ⟨mm, xs, s', rfl, hx, ⟨by omega, fun j hj hjq => by rw [k2 _ (by omega) hjq (by omega), hold _ hj], k3⟩, k4⟩
theorem c149 {n m q : Nat} {s : SH} {bs : List UInt8} {r : Rs} (hq : q < s.n) (hg : HP.get s.h q = some (.row (rdr m bs r))) (hr : r.1 ≤ bs.length) (hb : bs.length < 2 ^ 46) :
    ∃ mm xs s', callD Try.prog AB (n + 9) (.fn 149) [pr q] s = some [(sl nm mm xs, s')] ∧ xs.map nk = (eachM bs (oneN bs) 0 r).1 ∧ Rq q m bs s s' (eachM bs (oneN bs) 0 r).2.2 ∧ (eachM bs (oneN bs) 0 r).2.2.1 ≤ bs.length := by
  rw [call_fn (fn := Try.f149) rfl rfl (by kernel_rfl)]
  show ∃ mm xs s', bodyD Try.prog false _ _ 149 Try.f149 _ s = _ ∧ _
  rw [f149_r]
  have g2 : HP.get (newD (newD s (.row [pr q])) (.row [.int .u64 0])).h (s.n + 1) = some (.row [.int .u64 0]) := get_new (by rw [newD_n])
  have h1 : HP.get (putD (newD (newD s (.row [pr q])) (.row [.int .u64 0])) (s.n + 1) (.row [.int .u64 0])).h s.n = some (.row [pr q]) := by rw [get_put_other (by omega), get_old (by rw [newD_n]; omega), get_new rfl]
  have h2 : HP.get (putD (newD (newD s (.row [pr q])) (.row [.int .u64 0])) (s.n + 1) (.row [.int .u64 0])).h (s.n + 1) = some (.row [.int .u64 0]) := get_put_same _
  have hold : ∀ j, j < s.n → HP.get (putD (newD (newD s (.row [pr q])) (.row [.int .u64 0])) (s.n + 1) (.row [.int .u64 0])).h j = HP.get s.h j := fun j hj => by rw [get_put_other (by omega), get_old (by rw [newD_n]; omega), get_old (by omega)]
  have hn : s.n + 2 ≤ (putD (newD (newD s (.row [pr q])) (.row [.int .u64 0])) (s.n + 1) (.row [.int .u64 0])).n := by rw [putD_n, newD_n, newD_n]; omega
  simp only [f149, o_bool, o_alloc, o_box, o_build, o_buildSlice, o_load, o_store, o_nilCheck, o_bop, o_uop, o_conv, o_slc, o_fieldAddr, o_field, o_indexAddr, o_index, o_extract, o_lookup, o_mapUpdate, o_makeMap, o_mapEntry, o_entryStore, o_delete, o_len, o_append, o_min, o_max, o_tgt, bindS, many1, jnE, boolS, gdB, fst', snd', bx_ptr, al70, newD_n, st_u _ g2, ld151 h1]
  generalize putD (newD (newD s (.row [pr q])) (.row [.int .u64 0])) (s.n + 1) (.row [.int .u64 0]) = s1 at h1 h2 hold hn
  obtain ⟨v, s', e, ⟨mm, xs, rfl, hx⟩, k1, k2, k3, k4⟩ := c180 (n := n) (m := m) (q := q) (p1 := s.n) (p2 := s.n + 1) (s := s1) (r := r) 0 (by omega) (by omega) (by omega) (by omega) (by omega) (by omega) h1 h2 (by rw [hold _ hq, hg]) hr hb
  simp only [e, o_bool, o_alloc, o_box, o_build, o_buildSlice, o_load, o_store, o_nilCheck, o_bop, o_uop, o_conv, o_slc, o_fieldAddr, o_field, o_indexAddr, o_index, o_extract, o_lookup, o_mapUpdate, o_makeMap, o_mapEntry, o_entryStore, o_delete, o_len, o_append, o_min, o_max, o_tgt, bindS, many1, jnE, boolS, gdB, fst', snd']
  exact ⟨mm, xs, s', rfl, hx, ⟨by omega, fun j hj hjq => by rw [k2 _ (by omega) hjq (by omega), hold _ hj], k3⟩, k4⟩
theorem c150 {n m q : Nat} {s : SH} {bs : List UInt8} {r : Rs} (hq : q < s.n) (hg : HP.get s.h q = some (.row (rdr m bs r))) (hr : r.1 ≤ bs.length) (hb : bs.length < 2 ^ 46) :
    ∃ mm xs s', callD Try.prog AB (n + 9) (.fn 150) [pr q] s = some [(sl pt mm xs, s')] ∧ xs = (eachM bs (oneP bs) 0 r).1 ∧ Rq q m bs s s' (eachM bs (oneP bs) 0 r).2.2 ∧ (eachM bs (oneP bs) 0 r).2.2.1 ≤ bs.length := by
  rw [call_fn (fn := Try.f150) rfl rfl (by kernel_rfl)]
  show ∃ mm xs s', bodyD Try.prog false _ _ 150 Try.f150 _ s = _ ∧ _
  rw [f150_r]
  have g2 : HP.get (newD (newD s (.row [pr q])) (.row [.int .i64 0])).h (s.n + 1) = some (.row [.int .i64 0]) := get_new (by rw [newD_n])
  have h1 : HP.get (putD (newD (newD s (.row [pr q])) (.row [.int .i64 0])) (s.n + 1) (.row [.int .i64 0])).h s.n = some (.row [pr q]) := by rw [get_put_other (by omega), get_old (by rw [newD_n]; omega), get_new rfl]
  have h2 : HP.get (putD (newD (newD s (.row [pr q])) (.row [.int .i64 0])) (s.n + 1) (.row [.int .i64 0])).h (s.n + 1) = some (.row [.int .i64 0]) := get_put_same _
  have hold : ∀ j, j < s.n → HP.get (putD (newD (newD s (.row [pr q])) (.row [.int .i64 0])) (s.n + 1) (.row [.int .i64 0])).h j = HP.get s.h j := fun j hj => by rw [get_put_other (by omega), get_old (by rw [newD_n]; omega), get_old (by omega)]
  have hn : s.n + 2 ≤ (putD (newD (newD s (.row [pr q])) (.row [.int .i64 0])) (s.n + 1) (.row [.int .i64 0])).n := by rw [putD_n, newD_n, newD_n]; omega
  simp only [f150, o_bool, o_alloc, o_box, o_build, o_buildSlice, o_load, o_store, o_nilCheck, o_bop, o_uop, o_conv, o_slc, o_fieldAddr, o_field, o_indexAddr, o_index, o_extract, o_lookup, o_mapUpdate, o_makeMap, o_mapEntry, o_entryStore, o_delete, o_len, o_append, o_min, o_max, o_tgt, bindS, many1, jnE, boolS, gdB, fst', snd', bx_ptr, al3, newD_n, st_i _ g2, ld151 h1]
  generalize putD (newD (newD s (.row [pr q])) (.row [.int .i64 0])) (s.n + 1) (.row [.int .i64 0]) = s1 at h1 h2 hold hn
  obtain ⟨v, s', e, ⟨mm, xs, rfl, hx⟩, k1, k2, k3, k4⟩ := c185 (n := n) (m := m) (q := q) (p1 := s.n) (p2 := s.n + 1) (s := s1) (r := r) 0 (by omega) (by omega) (by omega) (by omega) (by omega) (by omega) (by omega) (by omega) h1 h2 (by rw [hold _ hq, hg]) hr hb
  simp only [e, o_bool, o_alloc, o_box, o_build, o_buildSlice, o_load, o_store, o_nilCheck, o_bop, o_uop, o_conv, o_slc, o_fieldAddr, o_field, o_indexAddr, o_index, o_extract, o_lookup, o_mapUpdate, o_makeMap, o_mapEntry, o_entryStore, o_delete, o_len, o_append, o_min, o_max, o_tgt, bindS, many1, jnE, boolS, gdB, fst', snd']
  exact ⟨mm, xs, s', rfl, hx, ⟨by omega, fun j hj hjq => by rw [k2 _ (by omega) hjq (by omega), hold _ hj], k3⟩, k4⟩
/-- Records that are told from each other by nothing but their rooms. -/
def Eqv (x y : RecD) : Prop := x.kind = y.kind ∧ x.new.map nk = y.new.map nk ∧ x.pts = y.pts ∧ x.ids = y.ids ∧ x.rng = y.rng ∧ x.n = y.n
def zrec (k : Int) : RecD := ⟨k, 2, [], 2, [], 2, [], (0, 0), 0⟩
def toNm (a : Int × List Lab) : Nm := (a.1, 0, a.2)
theorem toNm_nk (l : List (Int × List Lab)) : (l.map toNm).map nk = l := by
  rw [List.map_map]
  exact (List.map_congr_left (fun a _ => rfl)).trans (List.map_id l)
def bodyM (bs : List UInt8) (k : Int) (r : Rs) : RecD × Rs :=
  if k = 1 then ({ zrec k with new := (eachM bs (oneN bs) 0 r).1.map toNm, pts := (eachM bs (oneP bs) 0 (eachM bs (oneN bs) 0 r).2.2).1 }, (eachM bs (oneP bs) 0 (eachM bs (oneN bs) 0 r).2.2).2.2)
  else if k = 2 then ({ zrec k with ids := (eachM bs (oneI bs) 0 r).1, rng := (((numM bs 35184372088832 (eachM bs (oneI bs) 0 r).2.2).1 : Int), ((numM bs 35184372088832 (eachM bs (oneI bs) 0 r).2.2).1 : Int) + ((numM bs 35184372088832 (numM bs 35184372088832 (eachM bs (oneI bs) 0 r).2.2).2).1 : Int)) }, (numM bs 35184372088832 (numM bs 35184372088832 (eachM bs (oneI bs) 0 r).2.2).2).2)
  else if k = 3 then ({ zrec k with new := (eachM bs (oneN bs) 0 r).1.map toNm }, (eachM bs (oneN bs) 0 r).2.2)
  else if k = 4 then ({ zrec k with ids := (eachM bs (oneI bs) 0 r).1, n := ((numM bs 18446744073709551615 (eachM bs (oneI bs) 0 r).2.2).1 : Int), new := (eachM bs (oneN bs) 0 (numM bs 18446744073709551615 (eachM bs (oneI bs) 0 r).2.2).2).1.map toNm }, (eachM bs (oneN bs) 0 (numM bs 18446744073709551615 (eachM bs (oneI bs) 0 r).2.2).2).2.2)
  else if k = 5 then ({ zrec k with n := ((numM bs 18446744073709551615 r).1 : Int) }, (numM bs 18446744073709551615 r).2)
  else ({ zrec k with n := ((numM bs 35184372088832 r).1 : Int) }, (numM bs 35184372088832 r).2)
section sts
variable {s : SH} {id : Nat} {r : RecD} (h : HP.get s.h id = some (.row (enR r)))
include h
theorem sr4a (a : Int) : storeD Try.prog s 3 (.pointer (some ⟨id, 4, none⟩)) (.int .i64 a) = some (putD s id (.row (enR { r with rng := (a, r.rng.2) }))) := store_row (l := [.int .i64 a]) z3 h rfl rfl rfl (by simp [enR])
theorem sr4b (a : Int) : storeD Try.prog s 3 (.pointer (some ⟨id, 5, none⟩)) (.int .i64 a) = some (putD s id (.row (enR { r with rng := (r.rng.1, a) }))) := store_row (l := [.int .i64 a]) z3 h rfl rfl rfl (by simp [enR])
theorem sr5 (a : Int) : storeD Try.prog s 70 (.pointer (some ⟨id, 6, none⟩)) (.int .u64 a) = some (putD s id (.row (enR { r with n := a }))) := store_row (l := [.int .u64 a]) z70 h rfl rfl rfl (by simp [enR])
end sts
/-- Both rows, the reader's and the record's; all else stands. -/
def Bq (q x m : Nat) (bs : List UInt8) (s s' : SH) (r : Rs) (v : RecD) : Prop := s.n ≤ s'.n ∧ (∀ j, j < s.n → j ≠ q → j ≠ x → HP.get s'.h j = HP.get s.h j) ∧ HP.get s'.h q = some (.row (rdr m bs r)) ∧ HP.get s'.h x = some (.row (enR v))
theorem Bq.step {q x m : Nat} {bs : List UInt8} {a b c : SH} {r r' : Rs} {v w : RecD} (h : Bq q x m bs a b r v) (hx : x < a.n) (hxq : x ≠ q) (k : Rq q m bs b c r') : Bq q x m bs a (putD c x (.row (enR w))) r' w :=
  ⟨Nat.le_trans h.1 k.1, fun j hj h1 h2 => by rw [get_put_other h2, k.2.1 _ (Nat.lt_of_lt_of_le hj h.1) h1, h.2.1 _ hj h1 h2], by rw [get_put_other (fun e => hxq e.symm), k.2.2], get_put_same _⟩
theorem Bq.row {q x m : Nat} {bs : List UInt8} {a b c : SH} {r r' : Rs} {v : RecD} (h : Bq q x m bs a b r v) (hx : x < a.n) (hxq : x ≠ q) (k : Rq q m bs b c r') : HP.get c.h x = some (.row (enR v)) := by rw [k.2.1 _ (Nat.lt_of_lt_of_le hx h.1) hxq, h.2.2.2]
theorem c100 {n m q x : Nat} {s : SH} {bs : List UInt8} {r : Rs} {k : Int} (hq : q < s.n) (hx : x < s.n) (hxq : x ≠ q) (hg : HP.get s.h q = some (.row (rdr m bs r))) (hgx : HP.get s.h x = some (.row (enR (zrec k)))) (hr : r.1 ≤ bs.length) (hb : bs.length < 2 ^ 46) (hk : 1 ≤ k ∧ k ≤ 6) :
    ∃ v s', callD Try.prog AB (n + 10) (.fn 100) [pr q, pr x] s = some [(.bool true, s')] ∧ Eqv v (bodyM bs k r).1 ∧ Bq q x m bs s s' (bodyM bs k r).2 v := by
  rw [call_fn (fn := Try.f100) rfl rfl (by kernel_rfl)]
  show ∃ v s', bodyD Try.prog false _ _ 100 Try.f100 _ s = _ ∧ _
  rw [f100_r]
  have b0 : Bq q x m bs s s r (zrec k) := ⟨Nat.le_refl _, fun _ _ _ _ => rfl, hg, hgx⟩
  have lk : loadD Try.prog s 3 (.pointer (some ⟨x, 0, none⟩)) = some (.int .i64 k) := lr0 hgx
  unfold bodyM
  have f152 : ∀ {s : SH} {r : Rs} (most : Nat), q < s.n → HP.get s.h q = some (.row (rdr m bs r)) → r.1 ≤ bs.length → ∃ s', callD Try.prog AB (n + 9) (.fn 152) [pr q, .int .u64 (most : Int)] s = some [(.int .u64 ((numM bs most r).1 : Int), s')] ∧ Rq q m bs s s' (numM bs most r).2 := fun most h1 h2 h3 => c152 (n := n + 6) most h1 h2 h3 hb
  by_cases k1 : k = 1
  · subst k1
    obtain ⟨mm, xs, s1, e1, x1, r1, l1⟩ := c149 (n := n) (m := m) (q := q) (s := s) (r := r) hq hg hr hb
    have b1 := fun w => b0.step (w := w) hx hxq r1
    obtain ⟨mp, ps, s2, e2, x2, r2, l2⟩ := c150 (n := n) (m := m) (q := q) (s := putD s1 x (.row (enR { zrec 1 with mN := mm, new := xs }))) (r := (eachM bs (oneN bs) 0 r).2.2) (by have := (b1 (zrec 1)).1; rw [putD_n] at this ⊢; omega) (b1 _).2.2.1 l1 hb
    simp only [f100, o_bool, o_alloc, o_box, o_build, o_buildSlice, o_load, o_store, o_nilCheck, o_bop, o_uop, o_conv, o_slc, o_fieldAddr, o_field, o_indexAddr, o_index, o_extract, o_lookup, o_mapUpdate, o_makeMap, o_mapEntry, o_entryStore, o_delete, o_len, o_append, o_min, o_max, o_tgt, bindS, many1, jnE, boolS, gdB, fst', snd', nc, fld72_0, lk, bop_eql, decide_true, condT, e1, fld72_1, sr1 (b0.row hx hxq r1), e2, fld72_2, sr2 ((b1 _).row hx hxq r2), if_true]
    refine ⟨_, _, rfl, ?_, (b1 _).step hx hxq r2⟩
    exact ⟨rfl, x1.trans (toNm_nk _).symm, x2, rfl, rfl, rfl⟩
  by_cases k2 : k = 2
  · subst k2
    have n1 : ¬ ((2 : Int) = 1) := by decide
    obtain ⟨mm, xs, s1, e1, x1, r1, l1⟩ := c151 (n := n) (m := m) (q := q) (s := s) (r := r) hq hg hr hb
    have b1 := fun w => b0.step (w := w) hx hxq r1
    obtain ⟨s2, e2, r2⟩ := f152 (s := putD s1 x (.row (enR { zrec 2 with mI := mm, ids := xs }))) (r := (eachM bs (oneI bs) 0 r).2.2) 35184372088832 (by have := (b1 (zrec 2)).1; rw [putD_n] at this ⊢; omega) (b1 _).2.2.1 l1
    have l2 := num_le l1 35184372088832
    have q2 := num_bd bs 35184372088832 (eachM bs (oneI bs) 0 r).2.2
    generalize numM bs 35184372088832 (eachM bs (oneI bs) 0 r).2.2 = y2 at e2 r2 l2 q2
    have b2 := fun w => (b1 _).step (w := w) hx hxq r2
    obtain ⟨s3, e3, r3⟩ := f152 (s := putD s2 x (.row (enR { zrec 2 with mI := mm, ids := xs, rng := ((y2.1 : Int), 0) }))) (r := y2.2) 35184372088832 (by have := (b2 (zrec 2)).1; rw [putD_n] at this ⊢; omega) (b2 _).2.2.1 l2
    have q3 := num_bd bs 35184372088832 y2.2
    generalize numM bs 35184372088832 y2.2 = y3 at e3 r3 q3
    have w1 : IntKind.i64.wrap (y2.1 : Int) = (y2.1 : Int) := wrap_i64 (by omega) (by omega)
    have w2 : IntKind.i64.wrap (y3.1 : Int) = (y3.1 : Int) := wrap_i64 (by omega) (by omega)
    have w3 : IntKind.i64.wrap ((y2.1 : Int) + (y3.1 : Int)) = (y2.1 : Int) + (y3.1 : Int) := wrap_i64 (by omega) (by omega)
    have e2 : callD Try.prog AB (n + 9) (.fn 152) [pr q, .int .u64 35184372088832] _ = some [(.int .u64 (y2.1 : Int), s2)] := e2
    have e3 : oneO (callD Try.prog AB (n + 9)) (.fn 152) [pr q, .int .u64 35184372088832] _ = some (.int .u64 (y3.1 : Int), s3) := oneS e3
    have g2 := (b1 _).row hx hxq r2
    have g3 := (b2 { zrec 2 with mI := mm, ids := xs, rng := ((y2.1 : Int), 0) }).row hx hxq r3
    have t2 : storeD Try.prog s2 3 (.pointer (some ⟨x, 4, none⟩)) (.int .i64 (y2.1 : Int)) = some (putD s2 x (.row (enR { zrec 2 with mI := mm, ids := xs, rng := ((y2.1 : Int), 0) }))) := sr4a g2 _
    have t3 : storeD Try.prog s3 3 (.pointer (some ⟨x, 5, none⟩)) (.int .i64 ((y2.1 : Int) + (y3.1 : Int))) = some (putD s3 x (.row (enR { zrec 2 with mI := mm, ids := xs, rng := ((y2.1 : Int), (y2.1 : Int) + (y3.1 : Int)) }))) := sr4b g3 _
    have p2 : loadD Try.prog (putD s2 x (.row (enR { zrec 2 with mI := mm, ids := xs, rng := ((y2.1 : Int), 0) }))) 3 (.pointer (some ⟨x, 4, none⟩)) = some (.int .i64 (y2.1 : Int)) := lr4a (get_put_same (H := HP) _)
    have p3 : loadD Try.prog s3 3 (.pointer (some ⟨x, 4, none⟩)) = some (.int .i64 (y2.1 : Int)) := lr4a g3
    simp only [f100, o_bool, o_alloc, o_box, o_build, o_buildSlice, o_load, o_store, o_nilCheck, o_bop, o_uop, o_conv, o_slc, o_fieldAddr, o_field, o_indexAddr, o_index, o_extract, o_lookup, o_mapUpdate, o_makeMap, o_mapEntry, o_entryStore, o_delete, o_len, o_append, o_min, o_max, o_tgt, bindS, many1, jnE, boolS, gdB, fst', snd', nc, fld72_0, lk, bop_eql, n1, decide_true, decide_false, condT, condF, e1, fld72_3, sr3 (b0.row hx hxq r1), e2, conv_int u70 u3, w1, fld72_4, flo69_0, flo69_1, t2, p2, e3, w2, bop_add, w3, t3, p3, eqO_s, Bool.and_self, if_true, if_false]
    refine ⟨_, _, rfl, ?_, (b2 _).step hx hxq r3⟩
    exact ⟨rfl, rfl, rfl, x1, rfl, rfl⟩
  by_cases k3 : k = 3
  · subst k3
    have n1 : ¬ ((3 : Int) = 1) := by decide
    have n2 : ¬ ((3 : Int) = 2) := by decide
    obtain ⟨mm, xs, s1, e1, x1, r1, l1⟩ := c149 (n := n) (m := m) (q := q) (s := s) (r := r) hq hg hr hb
    simp only [f100, o_bool, o_alloc, o_box, o_build, o_buildSlice, o_load, o_store, o_nilCheck, o_bop, o_uop, o_conv, o_slc, o_fieldAddr, o_field, o_indexAddr, o_index, o_extract, o_lookup, o_mapUpdate, o_makeMap, o_mapEntry, o_entryStore, o_delete, o_len, o_append, o_min, o_max, o_tgt, bindS, many1, jnE, boolS, gdB, fst', snd', nc, fld72_0, lk, bop_eql, n1, n2, decide_true, decide_false, condT, condF, e1, fld72_1, sr1 (b0.row hx hxq r1), if_true, if_false]
    refine ⟨_, _, rfl, ?_, b0.step hx hxq r1⟩
    exact ⟨rfl, x1.trans (toNm_nk _).symm, rfl, rfl, rfl, rfl⟩
  by_cases k4 : k = 4
  · subst k4
    have n1 : ¬ ((4 : Int) = 1) := by decide
    have n2 : ¬ ((4 : Int) = 2) := by decide
    have n3 : ¬ ((4 : Int) = 3) := by decide
    obtain ⟨mm, xs, s1, e1, x1, r1, l1⟩ := c151 (n := n) (m := m) (q := q) (s := s) (r := r) hq hg hr hb
    have b1 := fun w => b0.step (w := w) hx hxq r1
    obtain ⟨s2, e2, r2⟩ := f152 (s := putD s1 x (.row (enR { zrec 4 with mI := mm, ids := xs }))) (r := (eachM bs (oneI bs) 0 r).2.2) 18446744073709551615 (by have := (b1 (zrec 4)).1; rw [putD_n] at this ⊢; omega) (b1 _).2.2.1 l1
    have l2 := num_le l1 18446744073709551615
    generalize numM bs 18446744073709551615 (eachM bs (oneI bs) 0 r).2.2 = y2 at e2 r2 l2
    have b2 := fun w => (b1 _).step (w := w) hx hxq r2
    obtain ⟨mn, ns, s3, e3, x3, r3, l3⟩ := c149 (n := n) (m := m) (q := q) (s := putD s2 x (.row (enR { zrec 4 with mI := mm, ids := xs, n := (y2.1 : Int) }))) (r := y2.2) (by have := (b2 (zrec 4)).1; rw [putD_n] at this ⊢; omega) (b2 _).2.2.1 l2 hb
    have e2 : callD Try.prog AB (n + 9) (.fn 152) [pr q, .int .u64 18446744073709551615] _ = some [(.int .u64 (y2.1 : Int), s2)] := e2
    simp only [f100, o_bool, o_alloc, o_box, o_build, o_buildSlice, o_load, o_store, o_nilCheck, o_bop, o_uop, o_conv, o_slc, o_fieldAddr, o_field, o_indexAddr, o_index, o_extract, o_lookup, o_mapUpdate, o_makeMap, o_mapEntry, o_entryStore, o_delete, o_len, o_append, o_min, o_max, o_tgt, bindS, many1, jnE, boolS, gdB, fst', snd', nc, fld72_0, lk, bop_eql, n1, n2, n3, decide_true, decide_false, condT, condF, e1, fld72_3, sr3 (b0.row hx hxq r1), e2, fld72_5, sr5 ((b1 _).row hx hxq r2), e3, fld72_1, sr1 ((b2 _).row hx hxq r3), if_true, if_false]
    refine ⟨_, _, rfl, ?_, (b2 _).step hx hxq r3⟩
    exact ⟨rfl, x3.trans (toNm_nk _).symm, rfl, x1, rfl, rfl⟩
  by_cases k5 : k = 5
  · subst k5
    have n1 : ¬ ((5 : Int) = 1) := by decide
    have n2 : ¬ ((5 : Int) = 2) := by decide
    have n3 : ¬ ((5 : Int) = 3) := by decide
    have n4 : ¬ ((5 : Int) = 4) := by decide
    obtain ⟨s2, e2, r2⟩ := f152 (s := s) (r := r) 18446744073709551615 hq hg hr
    have e2 : callD Try.prog AB (n + 9) (.fn 152) [pr q, .int .u64 18446744073709551615] s = some [(.int .u64 ((numM bs 18446744073709551615 r).1 : Int), s2)] := e2
    simp only [f100, o_bool, o_alloc, o_box, o_build, o_buildSlice, o_load, o_store, o_nilCheck, o_bop, o_uop, o_conv, o_slc, o_fieldAddr, o_field, o_indexAddr, o_index, o_extract, o_lookup, o_mapUpdate, o_makeMap, o_mapEntry, o_entryStore, o_delete, o_len, o_append, o_min, o_max, o_tgt, bindS, many1, jnE, boolS, gdB, fst', snd', nc, fld72_0, lk, bop_eql, n1, n2, n3, n4, decide_true, decide_false, condT, condF, e2, fld72_5, sr5 (b0.row hx hxq r2), if_true, if_false]
    refine ⟨_, _, rfl, ?_, b0.step hx hxq r2⟩
    exact ⟨rfl, rfl, rfl, rfl, rfl, rfl⟩
  · have k6 : k = 6 := by omega
    subst k6
    obtain ⟨s2, e2, r2⟩ := f152 (s := s) (r := r) 35184372088832 hq hg hr
    have e2 : callD Try.prog AB (n + 9) (.fn 152) [pr q, .int .u64 35184372088832] s = some [(.int .u64 ((numM bs 35184372088832 r).1 : Int), s2)] := e2
    simp only [f100, o_bool, o_alloc, o_box, o_build, o_buildSlice, o_load, o_store, o_nilCheck, o_bop, o_uop, o_conv, o_slc, o_fieldAddr, o_field, o_indexAddr, o_index, o_extract, o_lookup, o_mapUpdate, o_makeMap, o_mapEntry, o_entryStore, o_delete, o_len, o_append, o_min, o_max, o_tgt, bindS, many1, jnE, boolS, gdB, fst', snd', nc, fld72_0, lk, bop_eql, k1, k2, k3, k4, k5, decide_true, decide_false, condT, condF, e2, fld72_5, sr5 (b0.row hx hxq r2), if_false]
    refine ⟨_, _, rfl, ?_, b0.step hx hxq r2⟩
    exact ⟨rfl, rfl, rfl, rfl, rfl, rfl⟩
theorem c100_no {n q x : Nat} {s : SH} {k : Int} (hgx : HP.get s.h x = some (.row (enR (zrec k)))) (hk : ¬ (1 ≤ k ∧ k ≤ 6)) : callD Try.prog AB (n + 1) (.fn 100) [pr q, pr x] s = some [(.bool false, s)] := by
  rw [call_fn (fn := Try.f100) rfl rfl (by kernel_rfl)]
  show bodyD Try.prog false _ _ 100 Try.f100 _ s = _
  rw [f100_r]
  have lk : loadD Try.prog s 3 (.pointer (some ⟨x, 0, none⟩)) = some (.int .i64 k) := lr0 hgx
  have k1 : ¬ k = 1 := by omega
  have k2 : ¬ k = 2 := by omega
  have k3 : ¬ k = 3 := by omega
  have k4 : ¬ k = 4 := by omega
  have k5 : ¬ k = 5 := by omega
  have k6 : ¬ k = 6 := by omega
  simp only [f100, o_bool, o_alloc, o_box, o_build, o_buildSlice, o_load, o_store, o_nilCheck, o_bop, o_uop, o_conv, o_slc, o_fieldAddr, o_field, o_indexAddr, o_index, o_extract, o_lookup, o_mapUpdate, o_makeMap, o_mapEntry, o_entryStore, o_delete, o_len, o_append, o_min, o_max, o_tgt, bindS, many1, jnE, boolS, gdB, fst', snd', nc, fld72_0, lk, bop_eql, k1, k2, k3, k4, k5, k6, decide_false, condF]
end Go.Proofs.Ytmhmbmogodofeaa.S
