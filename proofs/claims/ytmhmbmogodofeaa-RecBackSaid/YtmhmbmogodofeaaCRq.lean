import Derived.Test.YtmhmbmogodofeaaCRp
set_option autoImplicit false
set_option linter.unusedVariables false
set_option linter.unusedSimpArgs false
set_option maxRecDepth 100000
namespace Go.Proofs.Ytmhmbmogodofeaa.S
open Go.FS Go.RowKit
attribute [local congr] bind_cg cond_cg gd_cg
/-- Members read one by one. -/
def goM {σ α : Type} (one : σ → Rs → α × σ × Rs) : Nat → σ → Rs → List α → List α × σ × Rs
  | 0, st, r, acc => (acc, st, r)
  | k + 1, st, r, acc => if (one st r).2.2.2 ≠ 0 then ([], (one st r).2.1, (one st r).2.2) else goM one k (one st r).2.1 (one st r).2.2 (acc ++ [(one st r).1])
theorem goM_succ {σ α : Type} (one : σ → Rs → α × σ × Rs) (k : Nat) (st : σ) (r : Rs) (acc : List α) : goM one (k + 1) st r acc = if (one st r).2.2.2 ≠ 0 then ([], (one st r).2.1, (one st r).2.2) else goM one k (one st r).2.1 (one st r).2.2 (acc ++ [(one st r).1]) := rfl
def eachM {σ α : Type} (bs : List UInt8) (one : σ → Rs → α × σ × Rs) (st : σ) (r : Rs) : List α × σ × Rs := goM one (numM bs 4096 r).1 st (numM bs 4096 r).2 []
theorem num_bd (bs : List UInt8) (most : Nat) (r : Rs) : (numM bs most r).1 ≤ most := by
  unfold numM takeM
  split
  · exact Nat.zero_le _
  · split
    · exact Nat.zero_le _
    · split
      · next h => exact of_decide_eq_true h
      · exact Nat.zero_le _
theorem Tq.trans {q p m : Nat} {bs : List UInt8} {a b c : SH} {x y : Rs} {v w : Value} (h : Tq q p m bs a b x v) (k : Tq q p m bs b c y w) : Tq q p m bs a c y w := ⟨Nat.le_trans h.1 k.1, fun j hj hq hp => (k.2.1 j (Nat.lt_of_lt_of_le hj h.1) hq hp).trans (h.2.1 j hj hq hp), k.2.2.1, k.2.2.2⟩
theorem Tq.sm {q p m : Nat} {bs : List UInt8} {a b c : SH} {x : Rs} {v : Value} (h : Tq q p m bs a b x v) (hq : q < a.n) (hp : p < a.n) (k : Sm a.n b c) : Tq q p m bs a c x v := ⟨Nat.le_trans h.1 k.1, fun j hj h1 h2 => (k.2 j hj).trans (h.2.1 j hj h1 h2), (k.2 q hq).trans h.2.2.1, (k.2 p hp).trans h.2.2.2⟩
theorem Rq.tq {q p m : Nat} {bs : List UInt8} {a b : SH} {x : Rs} {v : Value} (h : Rq q m bs a b x) (hp : p < a.n) (hpq : p ≠ q) (hg : HP.get a.h p = some (.row [v])) : Tq q p m bs a b x v := ⟨h.1, fun j hj h1 _ => h.2.1 j hj h1, h.2.2, by rw [h.2.1 _ hp hpq, hg]⟩
theorem gapp67 {lo : Nat} {s : SH} {v : Value} {m2 : Nat} {xs ys : List Int} (h : Grow lo 1 u6 s v xs) (hlo : lo ≤ s.n) (hb : (xs.length + ys.length) * 8 ≤ 140737488355328) :
    ∃ v' s', appD Try.prog false s 67 67 v (sl u6 m2 ys) = some (v', s') ∧ Grow lo 1 u6 s' v' (xs ++ ys) ∧ Sm lo s s' ∧ (∀ j, j < s.n → HP.get s.h j ≠ some (.tok xs.length 1) → HP.get s'.h j = HP.get s.h j) :=
  h.app (i := Try.t70) hlo u67 u67 (by kernel_rfl) zr70 rfl (by kernel_rfl) (by kernel_rfl) (by decide) u6_len hb (by omega)
theorem gapp66 {lo : Nat} {s : SH} {v : Value} {m2 : Nat} {xs ys : List Pt} (h : Grow lo 3 pt s v xs) (hlo : lo ≤ s.n) (hb : (xs.length + ys.length) * 24 ≤ 140737488355328) :
    ∃ v' s', appD Try.prog false s 66 66 v (sl pt m2 ys) = some (v', s') ∧ Grow lo 3 pt s' v' (xs ++ ys) ∧ Sm lo s s' ∧ (∀ j, j < s.n → HP.get s.h j ≠ some (.tok xs.length 3) → HP.get s'.h j = HP.get s.h j) :=
  h.app (i := Try.t142) hlo u66 u66 (by kernel_rfl) zr142 rfl (by kernel_rfl) (by kernel_rfl) (by decide) pt_len hb (by omega)
theorem bs67 (s : SH) (a : Int) : buildSliceD Try.prog false s 67 1 [(0, .int .u64 a)] = some (sl u6 1 [a], s) := by kernel_rfl
theorem bs66 (s : SH) (a : Pt) : buildSliceD Try.prog false s 66 1 [(0, .agg (pt a).toArray)] = some (sl pt 1 [a], s) := by kernel_rfl
theorem wrap_succ {k : Nat} (h : k ≤ 5000) : IntKind.u64.wrap ((k : Int) + 1) = ((k + 1 : Nat) : Int) := by rw [wrap_u64 (by omega) (by omega)]; rfl
theorem c193 {n m q p1 p2 : Nat} {s : SH} {bs : List UInt8} {r : Rs} (last : Nat) (hq : q < s.n) (h1 : p1 < s.n) (h2 : p2 < s.n) (n1 : p1 ≠ q) (n2 : p2 ≠ q) (n3 : p1 ≠ p2) (g1 : HP.get s.h p1 = some (.row [pr q])) (g2 : HP.get s.h p2 = some (.row [.int .u64 (last : Int)])) (hg : HP.get s.h q = some (.row (rdr m bs r))) (hr : r.1 ≤ bs.length) (hb : bs.length < 2 ^ 46) :
    ∃ v s', callD Try.prog AB (n + 8) (.fn 193) [pr q, .func (.func 194) #[] #[pr p1, pr p2]] s = some [(v, s')] ∧ (∃ mm xs, v = sl u6 mm xs ∧ xs = (eachM bs (oneI bs) last r).1) ∧ s.n ≤ s'.n ∧ (∀ j, j < s.n → j ≠ q → j ≠ p2 → HP.get s'.h j = HP.get s.h j) ∧ HP.get s'.h q = some (.row (rdr m bs (eachM bs (oneI bs) last r).2.2)) ∧ (eachM bs (oneI bs) last r).2.2.1 ≤ bs.length := by
  rw [call_fn (fn := Try.f193) rfl rfl (by kernel_rfl)]
  suffices h : One (bodyD Try.prog false (callD Try.prog AB (n + 7)) AB.N 193 Try.f193 [pr q, .func (.func 194) #[] #[pr p1, pr p2]] s) fun v s' => (∃ mm xs, v = sl u6 mm xs ∧ xs = (eachM bs (oneI bs) last r).1) ∧ s.n ≤ s'.n ∧ (∀ j, j < s.n → j ≠ q → j ≠ p2 → HP.get s'.h j = HP.get s.h j) ∧ HP.get s'.h q = some (.row (rdr m bs (eachM bs (oneI bs) last r).2.2)) ∧ (eachM bs (oneI bs) last r).2.2.1 ≤ bs.length by
    obtain ⟨v, s', e, h⟩ := h
    exact ⟨v, s', e, h⟩
  rw [f193_r]
  obtain ⟨s1, e, k⟩ := c152 (n := n + 4) (m := m) (q := q) (s := s) (r := r) 4096 hq hg hr hb
  have e : callD Try.prog AB (n + 7) (.fn 152) [pr q, .int .u64 4096] s = some [(.int .u64 ((numM bs 4096 r).1 : Int), s1)] := e
  have hr1 := num_le hr 4096
  have hc := num_bd bs 4096 r
  unfold eachM
  generalize numM bs 4096 r = x at e k hr1 hc
  obtain ⟨c, r1⟩ := x
  simp only at e k hr1 hc
  simp only [f193, o_bool, o_alloc, o_box, o_build, o_buildSlice, o_load, o_store, o_nilCheck, o_bop, o_uop, o_conv, o_slc, o_fieldAddr, o_field, o_indexAddr, o_index, o_extract, o_lookup, o_mapUpdate, o_makeMap, o_mapEntry, o_entryStore, o_delete, o_len, o_append, o_min, o_max, o_tgt, bindS, many1, jnE, boolS, gdB, fst', snd', e, sl_nil u6]
  refine list_one (List.replicate c ()) (fun k (x : Value × Value × Value × Value) (s' : SH) => x.2.2.2 = .int .u64 ((k : Nat) : Int) ∧ x.1 = fzV 2 #[] ∧ ∃ (xs : List Int) (st : Nat) (r' : Rs), Tq q p2 m bs s s' r' (.int .u64 (st : Int)) ∧ r'.1 ≤ bs.length ∧ Grow s.n 1 u6 s' x.2.1 xs ∧ xs.length = k ∧ goM (oneI bs) c last r1 [] = goM (oneI bs) (c - k) st r' xs) ?_ ?_ ?h0 (by show (List.replicate c ()).length < 2 ^ 64; rw [List.length_replicate]; omega)
  case h0 => exact ⟨rfl, rfl, [], last, r1, k.tq h2 n2 g2, hr1, .inl ⟨rfl, .inl rfl⟩, rfl, rfl⟩
  · rintro i hi ⟨x1, x2, x3, x4⟩ s' ⟨i1, i0, xs, st, r', i2, i3, i4, i5, i6⟩ nx hnx
    simp only at i1 i0 i4
    subst i1 i0 
    rw [List.length_replicate] at hi
    have hlt : (i : Int) < (c : Int) := by omega
    have hwi := wrap_succ (show i ≤ 5000 by omega)
    have hn' := i2.1
    have a1 : HP.get s'.h p1 = some (.row [pr q]) := by rw [i2.2.1 _ h1 n1 n3, g1]
    obtain ⟨s9, e9, k9⟩ := c194 (n := n + 3) (m := m) (q := q) (p1 := p1) (p2 := p2) (s := s') (r := r') st (by omega) (by omega) (by omega) n1 n2  a1 i2.2.2.2 i2.2.2.1 i3 hb
    have hck : c - i = (c - (i + 1)) + 1 := by omega
    rw [hck, goM_succ] at i6
    have hle : (oneI bs st r').2.2.1 ≤ bs.length := aft_le i3 st
    have hG := i4.mono k9.1 fun j hj hj2 _ => k9.2.1 j hj2 (by omega) (by omega)
    have hT := i2.trans k9
    simp only [f193_l0, o_bool, o_alloc, o_box, o_build, o_buildSlice, o_load, o_store, o_nilCheck, o_bop, o_uop, o_conv, o_slc, o_fieldAddr, o_field, o_indexAddr, o_index, o_extract, o_lookup, o_mapUpdate, o_makeMap, o_mapEntry, o_entryStore, o_delete, o_len, o_append, o_min, o_max, o_tgt, bindS, many1, jnE, boolS, gdB, fst', snd', bop_lss, hlt, decide_true, condT, tgt2, List.nil_append, e9]
    generalize oneI bs st r' = o at i6 hle k9 hT
    obtain ⟨a, st2, r2⟩ := o
    simp only at i6 hle k9 hT
    simp only [nc, fld153_2, lrd2 hT.2.2.1, o_bool, o_alloc, o_box, o_build, o_buildSlice, o_load, o_store, o_nilCheck, o_bop, o_uop, o_conv, o_slc, o_fieldAddr, o_field, o_indexAddr, o_index, o_extract, o_lookup, o_mapUpdate, o_makeMap, o_mapEntry, o_entryStore, o_delete, o_len, o_append, o_min, o_max, o_tgt, bindS, many1, jnE, boolS, gdB, fst', snd', b_neq]
    by_cases he : r2.2 = 0
    · rw [if_neg (fun h => h he)] at i6
      obtain ⟨v', s3, e3, w1, w2, w3⟩ := gapp67 (m2 := 1) (ys := [a]) hG (by have := hT.1; omega) (by rw [i5]; simp only [List.length_singleton]; omega)
      simp only [he, decide_true, Bool.not_true, condF, o_bool, o_alloc, o_box, o_build, o_buildSlice, o_load, o_store, o_nilCheck, o_bop, o_uop, o_conv, o_slc, o_fieldAddr, o_field, o_indexAddr, o_index, o_extract, o_lookup, o_mapUpdate, o_makeMap, o_mapEntry, o_entryStore, o_delete, o_len, o_append, o_min, o_max, o_tgt, bindS, many1, jnE, boolS, gdB, fst', snd', bs67, e3, bop_add, hwi]
      refine hnx (_, _, _, _) _ ⟨rfl, rfl, xs ++ [a], st2, r2, hT.sm hq h2 w2, hle, w1, by simp [i5], ?_⟩
      rw [i6]
    · rw [if_pos he] at i6
      simp only [he, decide_false, Bool.not_false, condT]
      refine One.ret ⟨⟨2, [], rfl, (congrArg Prod.fst i6).symm⟩, hT.1, hT.2.1, by rw [i6]; exact hT.2.2.1, by rw [i6]; exact hle⟩
  · rintro ⟨x1, x2, x3, x4⟩ s' ⟨i1, i0, xs, st, r', i2, i3, i4, i5, i6⟩ nx
    simp only at i1 i0 i4
    subst i1 i0 
    rw [List.length_replicate] at i5 i6 ⊢
    have hnlt : ¬ ((c : Int) < (c : Int)) := by omega
    rw [Nat.sub_self] at i6
    obtain ⟨mm, rfl⟩ := Grow.form i4
    simp only [f193_l0, o_bool, o_alloc, o_box, o_build, o_buildSlice, o_load, o_store, o_nilCheck, o_bop, o_uop, o_conv, o_slc, o_fieldAddr, o_field, o_indexAddr, o_index, o_extract, o_lookup, o_mapUpdate, o_makeMap, o_mapEntry, o_entryStore, o_delete, o_len, o_append, o_min, o_max, o_tgt, bindS, many1, jnE, boolS, gdB, fst', snd', bop_lss, hnlt, decide_false, condF, beq_yes, condT]
    refine One.ret ⟨⟨mm, xs, rfl, by rw [i6]; rfl⟩, i2.1, i2.2.1, by rw [i6]; exact i2.2.2.1, by rw [i6]; exact i3⟩
theorem c180 {n m q p1 p2 : Nat} {s : SH} {bs : List UInt8} {r : Rs} (last : Nat) (hq : q < s.n) (h1 : p1 < s.n) (h2 : p2 < s.n) (n1 : p1 ≠ q) (n2 : p2 ≠ q) (n3 : p1 ≠ p2) (g1 : HP.get s.h p1 = some (.row [pr q])) (g2 : HP.get s.h p2 = some (.row [.int .u64 (last : Int)])) (hg : HP.get s.h q = some (.row (rdr m bs r))) (hr : r.1 ≤ bs.length) (hb : bs.length < 2 ^ 46) :
    ∃ v s', callD Try.prog AB (n + 8) (.fn 180) [pr q, .func (.func 181) #[] #[pr p1, pr p2]] s = some [(v, s')] ∧ (∃ mm xs, v = sl nm mm xs ∧ xs.map nk = (eachM bs (oneN bs) last r).1) ∧ s.n ≤ s'.n ∧ (∀ j, j < s.n → j ≠ q → j ≠ p2 → HP.get s'.h j = HP.get s.h j) ∧ HP.get s'.h q = some (.row (rdr m bs (eachM bs (oneN bs) last r).2.2)) ∧ (eachM bs (oneN bs) last r).2.2.1 ≤ bs.length := by
  rw [call_fn (fn := Try.f180) rfl rfl (by kernel_rfl)]
  suffices h : One (bodyD Try.prog false (callD Try.prog AB (n + 7)) AB.N 180 Try.f180 [pr q, .func (.func 181) #[] #[pr p1, pr p2]] s) fun v s' => (∃ mm xs, v = sl nm mm xs ∧ xs.map nk = (eachM bs (oneN bs) last r).1) ∧ s.n ≤ s'.n ∧ (∀ j, j < s.n → j ≠ q → j ≠ p2 → HP.get s'.h j = HP.get s.h j) ∧ HP.get s'.h q = some (.row (rdr m bs (eachM bs (oneN bs) last r).2.2)) ∧ (eachM bs (oneN bs) last r).2.2.1 ≤ bs.length by
    obtain ⟨v, s', e, h⟩ := h
    exact ⟨v, s', e, h⟩
  rw [f180_r]
  obtain ⟨s1, e, k⟩ := c152 (n := n + 4) (m := m) (q := q) (s := s) (r := r) 4096 hq hg hr hb
  have e : callD Try.prog AB (n + 7) (.fn 152) [pr q, .int .u64 4096] s = some [(.int .u64 ((numM bs 4096 r).1 : Int), s1)] := e
  have hr1 := num_le hr 4096
  have hc := num_bd bs 4096 r
  unfold eachM
  generalize numM bs 4096 r = x at e k hr1 hc
  obtain ⟨c, r1⟩ := x
  simp only at e k hr1 hc
  simp only [f180, o_bool, o_alloc, o_box, o_build, o_buildSlice, o_load, o_store, o_nilCheck, o_bop, o_uop, o_conv, o_slc, o_fieldAddr, o_field, o_indexAddr, o_index, o_extract, o_lookup, o_mapUpdate, o_makeMap, o_mapEntry, o_entryStore, o_delete, o_len, o_append, o_min, o_max, o_tgt, bindS, many1, jnE, boolS, gdB, fst', snd', e, sl_nil nm]
  refine list_one (List.replicate c ()) (fun k (x : Value × Value × Value) (s' : SH) => x.2.2 = .int .u64 ((k : Nat) : Int) ∧ x.1 = fzV 2 #[] ∧ ∃ (xs : List Nm) (st : Nat) (r' : Rs), Tq q p2 m bs s s' r' (.int .u64 (st : Int)) ∧ r'.1 ≤ bs.length ∧ Grow s.n 2 nm s' x.2.1 xs ∧ xs.length = k ∧ goM (oneN bs) c last r1 [] = goM (oneN bs) (c - k) st r' (xs.map nk)) ?_ ?_ ?h0 (by show (List.replicate c ()).length < 2 ^ 64; rw [List.length_replicate]; omega)
  case h0 => exact ⟨rfl, rfl, [], last, r1, k.tq h2 n2 g2, hr1, .inl ⟨rfl, .inl rfl⟩, rfl, rfl⟩
  · rintro i hi ⟨x1, x2, x3⟩ s' ⟨i1, i0, xs, st, r', i2, i3, i4, i5, i6⟩ nx hnx
    simp only at i1 i0 i4
    subst i1 i0 
    rw [List.length_replicate] at hi
    have hlt : (i : Int) < (c : Int) := by omega
    have hwi := wrap_succ (show i ≤ 5000 by omega)
    have hn' := i2.1
    have a1 : HP.get s'.h p1 = some (.row [pr q]) := by rw [i2.2.1 _ h1 n1 n3, g1]
    obtain ⟨mz, s9, e9, k9⟩ := c181 (n := n) (m := m) (q := q) (p1 := p1) (p2 := p2) (s := s') (r := r') st (by omega) (by omega) (by omega) n1 n2 n3 a1 i2.2.2.2 i2.2.2.1 i3 hb
    have hck : c - i = (c - (i + 1)) + 1 := by omega
    rw [hck, goM_succ] at i6
    have hle : (oneN bs st r').2.2.1 ≤ bs.length := lab_le (aft_le i3 st)
    have hG := i4.mono k9.1 fun j hj hj2 _ => k9.2.1 j hj2 (by omega) (by omega)
    have hT := i2.trans k9
    simp only [f180_l0, o_bool, o_alloc, o_box, o_build, o_buildSlice, o_load, o_store, o_nilCheck, o_bop, o_uop, o_conv, o_slc, o_fieldAddr, o_field, o_indexAddr, o_index, o_extract, o_lookup, o_mapUpdate, o_makeMap, o_mapEntry, o_entryStore, o_delete, o_len, o_append, o_min, o_max, o_tgt, bindS, many1, jnE, boolS, gdB, fst', snd', bop_lss, hlt, decide_true, condT, tgt2, List.nil_append, e9, al135]
    have hst : storeD Try.prog (newD s9 (.row (nm nz))) 135 (.pointer (some ⟨s9.n, 0, none⟩)) (.agg (nm ((oneN bs st r').1.1, mz, (oneN bs st r').1.2)).toArray) = some (putD (newD s9 (.row (nm nz))) s9.n (.row (nm ((oneN bs st r').1.1, mz, (oneN bs st r').1.2)))) := st135 (get_new rfl)
    have ha : HP.get (putD (newD s9 (.row (nm nz))) s9.n (.row (nm ((oneN bs st r').1.1, mz, (oneN bs st r').1.2)))).h s9.n = some (.row (nm ((oneN bs st r').1.1, mz, (oneN bs st r').1.2))) := get_put_same _
    have hT : Tq q p2 m bs s (putD (newD s9 (.row (nm nz))) s9.n (.row (nm ((oneN bs st r').1.1, mz, (oneN bs st r').1.2)))) (oneN bs st r').2.2 (.int .u64 ((oneN bs st r').2.1 : Int)) := hT.sm hq h2 (((Sm.refl s.n s9).new (by have := hT.1; omega) _).put (by have := hT.1; omega) _)
    have hG : Grow s.n 2 nm (putD (newD s9 (.row (nm nz))) s9.n (.row (nm ((oneN bs st r').1.1, mz, (oneN bs st r').1.2)))) x2 xs := (hG.new _).put _ (by rw [get_new rfl]; intro h; cases h)
    simp only [hst, bindS]
    generalize hs10 : putD (newD s9 (.row (nm nz))) s9.n (.row (nm ((oneN bs st r').1.1, mz, (oneN bs st r').1.2))) = s10 at ha hT hG
    clear hs10 hst e9 k9
    generalize oneN bs st r' = o at i6 hle ha hT hG
    obtain ⟨a, st2, r2⟩ := o
    simp only at i6 hle ha hT hG
    simp only [nc, fld153_2, lrd2 hT.2.2.1, o_bool, o_alloc, o_box, o_build, o_buildSlice, o_load, o_store, o_nilCheck, o_bop, o_uop, o_conv, o_slc, o_fieldAddr, o_field, o_indexAddr, o_index, o_extract, o_lookup, o_mapUpdate, o_makeMap, o_mapEntry, o_entryStore, o_delete, o_len, o_append, o_min, o_max, o_tgt, bindS, many1, jnE, boolS, gdB, fst', snd', b_neq]
    by_cases he : r2.2 = 0
    · rw [if_neg (fun h => h he)] at i6
      obtain ⟨v', s3, e3, w1, w2, w3⟩ := gapp65 (m2 := 1) (ys := [(a.1, mz, a.2)]) hG (by have := hT.1; omega) (by rw [i5]; simp only [List.length_singleton]; omega)
      simp only [he, decide_true, Bool.not_true, condF, ldn ha, o_bool, o_alloc, o_box, o_build, o_buildSlice, o_load, o_store, o_nilCheck, o_bop, o_uop, o_conv, o_slc, o_fieldAddr, o_field, o_indexAddr, o_index, o_extract, o_lookup, o_mapUpdate, o_makeMap, o_mapEntry, o_entryStore, o_delete, o_len, o_append, o_min, o_max, o_tgt, bindS, many1, jnE, boolS, gdB, fst', snd', bs65, e3, bop_add, hwi]
      refine hnx (_, _, _) _ ⟨rfl, rfl, xs ++ [(a.1, mz, a.2)], st2, r2, hT.sm hq h2 w2, hle, w1, by simp [i5], ?_⟩
      rw [i6]; rw [List.map_append]; rfl
    · rw [if_pos he] at i6
      simp only [he, decide_false, Bool.not_false, condT]
      refine One.ret ⟨⟨2, [], rfl, (congrArg Prod.fst i6).symm⟩, hT.1, hT.2.1, by rw [i6]; exact hT.2.2.1, by rw [i6]; exact hle⟩
  · rintro ⟨x1, x2, x3⟩ s' ⟨i1, i0, xs, st, r', i2, i3, i4, i5, i6⟩ nx
    simp only at i1 i0 i4
    subst i1 i0 
    rw [List.length_replicate] at i5 i6 ⊢
    have hnlt : ¬ ((c : Int) < (c : Int)) := by omega
    rw [Nat.sub_self] at i6
    obtain ⟨mm, rfl⟩ := Grow.form i4
    simp only [f180_l0, o_bool, o_alloc, o_box, o_build, o_buildSlice, o_load, o_store, o_nilCheck, o_bop, o_uop, o_conv, o_slc, o_fieldAddr, o_field, o_indexAddr, o_index, o_extract, o_lookup, o_mapUpdate, o_makeMap, o_mapEntry, o_entryStore, o_delete, o_len, o_append, o_min, o_max, o_tgt, bindS, many1, jnE, boolS, gdB, fst', snd', bop_lss, hnlt, decide_false, condF, beq_yes, condT]
    refine One.ret ⟨⟨mm, xs, rfl, by rw [i6]; rfl⟩, i2.1, i2.2.1, by rw [i6]; exact i2.2.2.1, by rw [i6]; exact i3⟩
theorem c185 {n m q p1 p2 : Nat} {s : SH} {bs : List UInt8} {r : Rs} (last : Int) (t0 : 0 ≤ last) (t1 : last ≤ 35184372088832) (hq : q < s.n) (h1 : p1 < s.n) (h2 : p2 < s.n) (n1 : p1 ≠ q) (n2 : p2 ≠ q) (n3 : p1 ≠ p2) (g1 : HP.get s.h p1 = some (.row [pr q])) (g2 : HP.get s.h p2 = some (.row [.int .i64 last])) (hg : HP.get s.h q = some (.row (rdr m bs r))) (hr : r.1 ≤ bs.length) (hb : bs.length < 2 ^ 46) :
    ∃ v s', callD Try.prog AB (n + 8) (.fn 185) [pr q, .func (.func 186) #[] #[pr p1, pr p2]] s = some [(v, s')] ∧ (∃ mm xs, v = sl pt mm xs ∧ xs = (eachM bs (oneP bs) last r).1) ∧ s.n ≤ s'.n ∧ (∀ j, j < s.n → j ≠ q → j ≠ p2 → HP.get s'.h j = HP.get s.h j) ∧ HP.get s'.h q = some (.row (rdr m bs (eachM bs (oneP bs) last r).2.2)) ∧ (eachM bs (oneP bs) last r).2.2.1 ≤ bs.length := by
  rw [call_fn (fn := Try.f185) rfl rfl (by kernel_rfl)]
  suffices h : One (bodyD Try.prog false (callD Try.prog AB (n + 7)) AB.N 185 Try.f185 [pr q, .func (.func 186) #[] #[pr p1, pr p2]] s) fun v s' => (∃ mm xs, v = sl pt mm xs ∧ xs = (eachM bs (oneP bs) last r).1) ∧ s.n ≤ s'.n ∧ (∀ j, j < s.n → j ≠ q → j ≠ p2 → HP.get s'.h j = HP.get s.h j) ∧ HP.get s'.h q = some (.row (rdr m bs (eachM bs (oneP bs) last r).2.2)) ∧ (eachM bs (oneP bs) last r).2.2.1 ≤ bs.length by
    obtain ⟨v, s', e, h⟩ := h
    exact ⟨v, s', e, h⟩
  rw [f185_r]
  obtain ⟨s1, e, k⟩ := c152 (n := n + 4) (m := m) (q := q) (s := s) (r := r) 4096 hq hg hr hb
  have e : callD Try.prog AB (n + 7) (.fn 152) [pr q, .int .u64 4096] s = some [(.int .u64 ((numM bs 4096 r).1 : Int), s1)] := e
  have hr1 := num_le hr 4096
  have hc := num_bd bs 4096 r
  unfold eachM
  generalize numM bs 4096 r = x at e k hr1 hc
  obtain ⟨c, r1⟩ := x
  simp only at e k hr1 hc
  simp only [f185, o_bool, o_alloc, o_box, o_build, o_buildSlice, o_load, o_store, o_nilCheck, o_bop, o_uop, o_conv, o_slc, o_fieldAddr, o_field, o_indexAddr, o_index, o_extract, o_lookup, o_mapUpdate, o_makeMap, o_mapEntry, o_entryStore, o_delete, o_len, o_append, o_min, o_max, o_tgt, bindS, many1, jnE, boolS, gdB, fst', snd', e, sl_nil pt]
  refine list_one (List.replicate c ()) (fun k (x : Value × Value × Value) (s' : SH) => x.2.2 = .int .u64 ((k : Nat) : Int) ∧ x.1 = fzV 2 #[] ∧ ∃ (xs : List Pt) (st : Int) (r' : Rs), 0 ≤ st ∧ st ≤ 35184372088832 ∧ Tq q p2 m bs s s' r' (.int .i64 st) ∧ r'.1 ≤ bs.length ∧ Grow s.n 3 pt s' x.2.1 xs ∧ xs.length = k ∧ goM (oneP bs) c last r1 [] = goM (oneP bs) (c - k) st r' xs) ?_ ?_ ?h0 (by show (List.replicate c ()).length < 2 ^ 64; rw [List.length_replicate]; omega)
  case h0 => exact ⟨rfl, rfl, [], last, r1, t0, t1, k.tq h2 n2 g2, hr1, .inl ⟨rfl, .inl rfl⟩, rfl, rfl⟩
  · rintro i hi ⟨x1, x2, x3⟩ s' ⟨i1, i0, xs, st, r', j0, j1, i2, i3, i4, i5, i6⟩ nx hnx
    simp only at i1 i0 i4
    subst i1 i0 
    rw [List.length_replicate] at hi
    have hlt : (i : Int) < (c : Int) := by omega
    have hwi := wrap_succ (show i ≤ 5000 by omega)
    have hn' := i2.1
    have a1 : HP.get s'.h p1 = some (.row [pr q]) := by rw [i2.2.1 _ h1 n1 n3, g1]
    obtain ⟨s9, e9, k9⟩ := c186 (n := n) (m := m) (q := q) (p1 := p1) (p2 := p2) (s := s') (r := r') st j0 j1 (by omega) (by omega) (by omega) n1 n2 n3 a1 i2.2.2.2 i2.2.2.1 i3 hb
    have hck : c - i = (c - (i + 1)) + 1 := by omega
    rw [hck, goM_succ] at i6
    have hle : (oneP bs st r').2.2.1 ≤ bs.length := val_le' (int_le (num_le i3 18446744073709551615) st)
    have hrng : 0 ≤ (oneP bs st r').2.1 ∧ (oneP bs st r').2.1 ≤ 35184372088832 := int_rng j0 j1
    have hG := i4.mono k9.1 fun j hj hj2 _ => k9.2.1 j hj2 (by omega) (by omega)
    have hT := i2.trans k9
    simp only [f185_l0, o_bool, o_alloc, o_box, o_build, o_buildSlice, o_load, o_store, o_nilCheck, o_bop, o_uop, o_conv, o_slc, o_fieldAddr, o_field, o_indexAddr, o_index, o_extract, o_lookup, o_mapUpdate, o_makeMap, o_mapEntry, o_entryStore, o_delete, o_len, o_append, o_min, o_max, o_tgt, bindS, many1, jnE, boolS, gdB, fst', snd', bop_lss, hlt, decide_true, condT, tgt2, List.nil_append, e9, al142]
    have hst : storeD Try.prog (newD s9 (.row (pt ptz))) 142 (.pointer (some ⟨s9.n, 0, none⟩)) (.agg (pt (oneP bs st r').1).toArray) = some (putD (newD s9 (.row (pt ptz))) s9.n (.row (pt (oneP bs st r').1))) := st142 (get_new rfl) _
    have ha : HP.get (putD (newD s9 (.row (pt ptz))) s9.n (.row (pt (oneP bs st r').1))).h s9.n = some (.row (pt (oneP bs st r').1)) := get_put_same _
    have hT : Tq q p2 m bs s (putD (newD s9 (.row (pt ptz))) s9.n (.row (pt (oneP bs st r').1))) (oneP bs st r').2.2 (.int .i64 (oneP bs st r').2.1) := hT.sm hq h2 (((Sm.refl s.n s9).new (by have := hT.1; omega) _).put (by have := hT.1; omega) _)
    have hG : Grow s.n 3 pt (putD (newD s9 (.row (pt ptz))) s9.n (.row (pt (oneP bs st r').1))) x2 xs := (hG.new _).put _ (by rw [get_new rfl]; intro h; cases h)
    simp only [hst, bindS]
    generalize hs10 : putD (newD s9 (.row (pt ptz))) s9.n (.row (pt (oneP bs st r').1)) = s10 at ha hT hG
    clear hs10 hst e9 k9
    generalize oneP bs st r' = o at i6 hle ha hT hG hrng
    obtain ⟨a, st2, r2⟩ := o
    simp only at i6 hle ha hT hG hrng
    simp only [nc, fld153_2, lrd2 hT.2.2.1, o_bool, o_alloc, o_box, o_build, o_buildSlice, o_load, o_store, o_nilCheck, o_bop, o_uop, o_conv, o_slc, o_fieldAddr, o_field, o_indexAddr, o_index, o_extract, o_lookup, o_mapUpdate, o_makeMap, o_mapEntry, o_entryStore, o_delete, o_len, o_append, o_min, o_max, o_tgt, bindS, many1, jnE, boolS, gdB, fst', snd', b_neq]
    by_cases he : r2.2 = 0
    · rw [if_neg (fun h => h he)] at i6
      obtain ⟨v', s3, e3, w1, w2, w3⟩ := gapp66 (m2 := 1) (ys := [a]) hG (by have := hT.1; omega) (by rw [i5]; simp only [List.length_singleton]; omega)
      simp only [he, decide_true, Bool.not_true, condF, ldp ha, o_bool, o_alloc, o_box, o_build, o_buildSlice, o_load, o_store, o_nilCheck, o_bop, o_uop, o_conv, o_slc, o_fieldAddr, o_field, o_indexAddr, o_index, o_extract, o_lookup, o_mapUpdate, o_makeMap, o_mapEntry, o_entryStore, o_delete, o_len, o_append, o_min, o_max, o_tgt, bindS, many1, jnE, boolS, gdB, fst', snd', bs66, e3, bop_add, hwi]
      refine hnx (_, _, _) _ ⟨rfl, rfl, xs ++ [a], st2, r2, hrng.1, hrng.2, hT.sm hq h2 w2, hle, w1, by simp [i5], ?_⟩
      rw [i6]
    · rw [if_pos he] at i6
      simp only [he, decide_false, Bool.not_false, condT]
      refine One.ret ⟨⟨2, [], rfl, (congrArg Prod.fst i6).symm⟩, hT.1, hT.2.1, by rw [i6]; exact hT.2.2.1, by rw [i6]; exact hle⟩
  · rintro ⟨x1, x2, x3⟩ s' ⟨i1, i0, xs, st, r', j0, j1, i2, i3, i4, i5, i6⟩ nx
    simp only at i1 i0 i4
    subst i1 i0 
    rw [List.length_replicate] at i5 i6 ⊢
    have hnlt : ¬ ((c : Int) < (c : Int)) := by omega
    rw [Nat.sub_self] at i6
    obtain ⟨mm, rfl⟩ := Grow.form i4
    simp only [f185_l0, o_bool, o_alloc, o_box, o_build, o_buildSlice, o_load, o_store, o_nilCheck, o_bop, o_uop, o_conv, o_slc, o_fieldAddr, o_field, o_indexAddr, o_index, o_extract, o_lookup, o_mapUpdate, o_makeMap, o_mapEntry, o_entryStore, o_delete, o_len, o_append, o_min, o_max, o_tgt, bindS, many1, jnE, boolS, gdB, fst', snd', bop_lss, hnlt, decide_false, condF, beq_yes, condT]
    refine One.ret ⟨⟨mm, xs, rfl, by rw [i6]; rfl⟩, i2.1, i2.2.1, by rw [i6]; exact i2.2.2.1, by rw [i6]; exact i3⟩
end Go.Proofs.Ytmhmbmogodofeaa.S
