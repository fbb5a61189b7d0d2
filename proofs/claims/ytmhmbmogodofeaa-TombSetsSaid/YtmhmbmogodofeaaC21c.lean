import Derived.Test.YtmhmbmogodofeaaC21b
set_option autoImplicit false
set_option linter.unusedVariables false
set_option linter.unusedSimpArgs false
set_option maxRecDepth 100000
namespace Go.Proofs.Ytmhmbmogodofeaa.S
open Go.FS Go.RowKit
attribute [local congr] bind_cg cond_cg gd_cg
theorem c105 {n p : Nat} {k : Int} {s : SH} : callD Try.prog AT (n + 1) (.fn 105) [.pointer (some ⟨p, 0, none⟩), .int .u64 k] s = some [(.func (.func 153) #[] #[.pointer (some ⟨s.n, 0, none⟩), .pointer (some ⟨s.n + 1, 0, none⟩)], newD (newD s (.row [.pointer (some ⟨p, 0, none⟩)])) (.row [.int .u64 k]))] := by
  rw [call_fn (fn := Try.f105) rfl rfl (by kernel_rfl)]
  show bodyD Try.prog false _ _ 105 Try.f105 _ s = _
  rw [f105_r]
  have h1 : ∀ s : SH, boxD s (.pointer (some ⟨p, 0, none⟩)) = some (.pointer (some ⟨s.n, 0, none⟩), newD s (.row [.pointer (some ⟨p, 0, none⟩)])) := fun s => box_at rfl rfl
  have h2 : ∀ s : SH, boxD s (.int .u64 k) = some (.pointer (some ⟨s.n, 0, none⟩), newD s (.row [.int .u64 k])) := fun s => box_at rfl rfl
  simp only [f105, o_bool, o_alloc, o_box, o_build, o_buildSlice, o_load, o_store, o_nilCheck, o_bop, o_uop, o_conv, o_slc, o_fieldAddr, o_field, o_indexAddr, o_index, o_extract, o_lookup, o_mapUpdate, o_makeMap, o_mapEntry, o_entryStore, o_delete, o_len, o_append, o_min, o_max, o_tgt, bindS, many1, jnE, boolS, gdB, fst', snd', h1, h2, newD_n]
/-- Each range, one after another, as long as more are wanted. -/
theorem c153 {n l a1 a2 p m c : Nat} {k : Int} {s : SH} {es : List En} (h1 : HP.get s.h a1 = some (.row [.pointer (some ⟨p, 0, none⟩)])) (h2 : HP.get s.h a2 = some (.row [.int .u64 k])) (ht : TombAt s p m) (hm : HP.get s.h m = some (.map (es.map ent) c)) (hlen : (lk es k).length < 2 ^ 62) (J : Nat → SH → Prop) (K : SH → Prop) (h0 : J 0 s)
    (hstep : ∀ i (hi : i < (lk es k).length) s', J i s' → ∃ b s3, callD Try.prog AT (n + 1) (.yld l) [.agg (rg (lk es k)[i]).toArray] (putD (newD s' (.row (rg (0, 0)))) s'.n (.row (rg (lk es k)[i]))) = some [(.bool b, s3)] ∧ (b = true → J (i + 1) s3) ∧ (b = false → K s3)) :
    One (callD Try.prog AT (n + 2) (.fn 153) [.func (.yield l) #[] #[], .pointer (some ⟨a1, 0, none⟩), .pointer (some ⟨a2, 0, none⟩)] s) fun _ s' => K s' ∨ J (lk es k).length s' := by
  rw [call_fn (fn := Try.f153) rfl rfl (by kernel_rfl)]
  show One (bodyD Try.prog false _ _ 153 Try.f153 _ s) _
  rw [f153_r]
  have e1 : loadD Try.prog s 81 (.pointer (some ⟨a1, 0, none⟩)) = some (.pointer (some ⟨p, 0, none⟩)) := by rw [load_row h1, part_one a81]; rfl
  have e2 : loadD Try.prog s 70 (.pointer (some ⟨a2, 0, none⟩)) = some (.int .u64 k) := by rw [load_row h2, part_one a70]; rfl
  have hn : nilCheckD (.pointer (some ⟨p, 0, none⟩)) = some (.pointer (some ⟨p, 0, none⟩)) := rfl
  have e3 : loadD Try.prog s 156 (.pointer (some ⟨p, 0, none⟩)) = some (.map (some m)) := by rw [load_row ht, part_one a156]; rfl
  obtain ⟨q, _, hlk⟩ := lookup_lk hm k
  simp only [f153, o_bool, o_alloc, o_box, o_build, o_buildSlice, o_load, o_store, o_nilCheck, o_bop, o_uop, o_conv, o_slc, o_fieldAddr, o_field, o_indexAddr, o_index, o_extract, o_lookup, o_mapUpdate, o_makeMap, o_mapEntry, o_entryStore, o_delete, o_len, o_append, o_min, o_max, o_tgt, bindS, many1, jnE, boolS, gdB, fst', snd', e1, e2, c101 ht, uop_not, Bool.not_true, condF, hn, fld158_0, e3, hlk, len_sl u160]
  generalize lk es k = xs at hstep hlen
  refine list_one xs (fun i (x : Value) (s' : SH) => x = .int .i64 i ∧ J i s') ?_ ?_ ⟨rfl, h0⟩ (by show xs.length < 2 ^ 64; omega)
  · rintro i hi x s' ⟨rfl, hJ⟩ nx hnx
    have hlt : (i : Int) < xs.length := by omega
    have hw : IntKind.i64.wrap ((i : Int) + 1) = ((i + 1 : Nat) : Int) := by rw [wrap_i64 (by omega) (by omega)]; rfl
    have hld : loadD Try.prog s' 163 (fpV (rg xs[i]).toArray 0) = some (.agg (rg xs[i]).toArray) := by rw [load_fp, part_agg a163 z163 (l := rg xs[i]) rfl rfl]
    have hal : allocD Try.prog s' 163 = some (.pointer (some ⟨s'.n, 0, none⟩), newD s' (.row (rg (0, 0)))) := alloc_at zr163
    have hst : storeD Try.prog (newD s' (.row (rg (0, 0)))) 163 (.pointer (some ⟨s'.n, 0, none⟩)) (.agg (rg xs[i]).toArray) = some (putD (newD s' (.row (rg (0, 0)))) s'.n (.row (rg xs[i]))) := st163 (get_new rfl)
    have ha : HP.get (putD (newD s' (.row (rg (0, 0)))) s'.n (.row (rg xs[i]))).h s'.n = some (.row (rg xs[i])) := get_put_same _
    obtain ⟨b, s3, hy, hy1, hy2⟩ := hstep i hi s' hJ
    simp only [f153_l0, o_bool, o_alloc, o_box, o_build, o_buildSlice, o_load, o_store, o_nilCheck, o_bop, o_uop, o_conv, o_slc, o_fieldAddr, o_field, o_indexAddr, o_index, o_extract, o_lookup, o_mapUpdate, o_makeMap, o_mapEntry, o_entryStore, o_delete, o_len, o_append, o_min, o_max, o_tgt, bindS, many1, jnE, boolS, gdB, fst', snd', bop_lss, hlt, decide_true, condT, ixs160 rg_len hi, hld, hal, hst, fld163_0, fld163_1, ld3_0 ha, ld3_1 ha, bld69, tgt_yld, hy, uop_not]
    cases b with
    | true =>
      simp only [Bool.not_true, condF, bop_add, hw]
      exact hnx _ _ ⟨rfl, hy1 rfl⟩
    | false =>
      simp only [Bool.not_false, condT]
      exact One.ret (.inl (hy2 rfl))
  · rintro x s' ⟨rfl, hJ⟩ nx
    have hnlt : ¬ ((xs.length : Int) < xs.length) := by omega
    simp only [f153_l0, o_bool, o_alloc, o_box, o_build, o_buildSlice, o_load, o_store, o_nilCheck, o_bop, o_uop, o_conv, o_slc, o_fieldAddr, o_field, o_indexAddr, o_index, o_extract, o_lookup, o_mapUpdate, o_makeMap, o_mapEntry, o_entryStore, o_delete, o_len, o_append, o_min, o_max, o_tgt, bindS, many1, jnE, boolS, gdB, fst', snd', bop_lss, hnlt, decide_false, condF, beq_yes, condT]
    exact One.ret (.inr hJ)
/-- Is a time covered? -/
def cov (xs : List Rg) (t : Int) : Bool := xs.any fun r => decide (t ≥ r.1) && decide (t ≤ r.2)
theorem bodied153 : bodied Try.prog 153 = true := by kernel_rfl
theorem c48 {n p m c : Nat} {k t : Int} {s : SH} {es : List En} (ht : TombAt s p m) (hm : HP.get s.h m = some (.map (es.map ent) c)) (hp : p < s.n) (hmn : m < s.n) (hlen : (lk es k).length < 2 ^ 62) :
    callD Try.prog AT (n + 3) (.fn 48) [.pointer (some ⟨p, 0, none⟩), .int .u64 k, .int .i64 t] s = some [(.bool (cov (lk es k) t), s)] := by
  refine cut_call (fn := Try.f48) rfl rfl (by kernel_rfl) (v := .bool (cov (lk es k) t)) (fun _ h => by cases h) (.bool _) ?_
  show One (bodyD Try.prog false _ _ 48 Try.f48 _ s) _
  rw [f48_r]
  have hb : boxD s (.int .i64 t) = some (.pointer (some ⟨s.n, 0, none⟩), newD s (.row [.int .i64 t])) := box_at rfl rfl
  have hal : allocD Try.prog (newD s (.row [.int .i64 t])) 4 = some (.pointer (some ⟨s.n + 1, 0, none⟩), newD (newD s (.row [.int .i64 t])) (.row [.bool false])) := alloc_at zr4
  simp only [f48, o_bool, o_alloc, o_box, o_build, o_buildSlice, o_load, o_store, o_nilCheck, o_bop, o_uop, o_conv, o_slc, o_fieldAddr, o_field, o_indexAddr, o_index, o_extract, o_lookup, o_mapUpdate, o_makeMap, o_mapEntry, o_entryStore, o_delete, o_len, o_append, o_min, o_max, o_tgt, bindS, many1, jnE, boolS, gdB, fst', snd', hb, hal, c105, newD_n]
  have g0 : ∀ o1 o2, HP.get (newD (newD (newD (newD s (.row [.int .i64 t])) (.row [.bool false])) o1) o2).h s.n = some (.row [.int .i64 t]) := fun o1 o2 => by
    rw [get_old (by simp only [newD_n]; omega), get_old (by simp only [newD_n]; omega), get_old (by simp only [newD_n]; omega), get_new rfl]
  have g1 : ∀ o1 o2, HP.get (newD (newD (newD (newD s (.row [.int .i64 t])) (.row [.bool false])) o1) o2).h (s.n + 1) = some (.row [.bool false]) := fun o1 o2 => by
    rw [get_old (by simp only [newD_n]; omega), get_old (by simp only [newD_n]; omega), get_new (by simp only [newD_n])]
  have g2 : ∀ o1 o2, HP.get (newD (newD (newD (newD s (.row [.int .i64 t])) (.row [.bool false])) o1) o2).h (s.n + 1 + 1) = some o1 := fun o1 o2 => by
    rw [get_old (by simp only [newD_n]; omega), get_new (by simp only [newD_n])]
  have g3 : ∀ o1 o2, HP.get (newD (newD (newD (newD s (.row [.int .i64 t])) (.row [.bool false])) o1) o2).h (s.n + 1 + 1 + 1) = some o2 := fun o1 o2 => get_new (by simp only [newD_n])
  have gs : ∀ o1 o2, Sm s.n s (newD (newD (newD (newD s (.row [.int .i64 t])) (.row [.bool false])) o1) o2) := fun o1 o2 => (((((Sm.refl s.n s).new (Nat.le_refl _) _).new (by simp only [newD_n]; omega) _).new (by simp only [newD_n]; omega) _).new (by simp only [newD_n]; omega) _)
  have gn : ∀ o1 o2, (newD (newD (newD (newD s (.row [.int .i64 t])) (.row [.bool false])) o1) o2).n = s.n + 4 := fun o1 o2 => by simp only [newD_n]
  have g0 := g0 (.row [.pointer (some ⟨p, 0, none⟩)]) (.row [.int .u64 k])
  have g1 := g1 (.row [.pointer (some ⟨p, 0, none⟩)]) (.row [.int .u64 k])
  have g2 := g2 (.row [.pointer (some ⟨p, 0, none⟩)]) (.row [.int .u64 k])
  have g3 := g3 (.row [.pointer (some ⟨p, 0, none⟩)]) (.row [.int .u64 k])
  have gs := gs (.row [.pointer (some ⟨p, 0, none⟩)]) (.row [.int .u64 k])
  have gn := gn (.row [.pointer (some ⟨p, 0, none⟩)]) (.row [.int .u64 k])
  generalize newD (newD (newD (newD s (.row [.int .i64 t])) (.row [.bool false])) (.row [.pointer (some ⟨p, 0, none⟩)])) (.row [.int .u64 k]) = s5 at g0 g1 g2 g3 gs gn
  -- what the iteration leaves
  generalize htl : [Value.pointer (some ⟨p, 0, none⟩), _, _, _, _, _, _, _, _, _, _, _, _, _, _, _, _, _, _, _, _, _] = tl
  have hrun := c153 (n := n) (l := s5.n) (a1 := s.n + 1 + 1) (a2 := s.n + 1 + 1 + 1) (p := p) (m := m) (c := c) (k := k) (es := es) (s := newD s5 (.loop 0 none 48 tl [11] (cdp Try.f48 [1, 0, 1, 0, 0]) (cdp Try.f48 [1, 0, 1, 0, 1])))
    (by rw [get_old (by omega)]; exact g2) (by rw [get_old (by omega)]; exact g3) (by unfold TombAt; rw [get_old (by omega), gs.2 p hp]; exact ht) (by rw [get_old (by omega), gs.2 m hmn]; exact hm) hlen
    (fun i s' => Sm (s5.n + 1) (newD s5 (.loop 0 none 48 tl [11] (cdp Try.f48 [1, 0, 1, 0, 0]) (cdp Try.f48 [1, 0, 1, 0, 1]))) s' ∧ cov ((lk es k).take i) t = false)
    (fun s' => Sm s.n s s' ∧ HP.get s'.h (s.n + 1) = some (.row [.bool true]) ∧ HP.get s'.h s5.n = some (.loop 2 (some .ret) 48 tl [11] (cdp Try.f48 [1, 0, 1, 0, 0]) (cdp Try.f48 [1, 0, 1, 0, 1])) ∧ cov (lk es k) t = true)
    ⟨.refl _ _, rfl⟩ ?_
  · obtain ⟨v, s2, hC, hq⟩ := hrun
    have htg : tgtD (.func (.func 153) #[] #[.pointer (some ⟨s.n + 1 + 1, 0, none⟩), .pointer (some ⟨s.n + 1 + 1 + 1, 0, none⟩)]) [.func (.yield s5.n) #[] #[]] = some (.fn 153, [.func (.yield s5.n) #[] #[], .pointer (some ⟨s.n + 1 + 1, 0, none⟩), .pointer (some ⟨s.n + 1 + 1 + 1, 0, none⟩)]) := rfl
    rcases hq with ⟨q1, q2, q3, q4⟩ | ⟨q1, q2⟩
    · rw [rng_ret htg bodied153 hC q3 (by decide)]
      have hr : HP.get (delD s2 s5.n).h (s.n + 1) = some (.row [.bool true]) := by rw [get_del (by omega), q2]
      have hl : loadD Try.prog (delD s2 s5.n) 4 (.pointer (some ⟨s.n + 1, 0, none⟩)) = some (.bool true) := by rw [load_row hr, part_one a4]; rfl
      simp only [o_bool, o_alloc, o_box, o_build, o_buildSlice, o_load, o_store, o_nilCheck, o_bop, o_uop, o_conv, o_slc, o_fieldAddr, o_field, o_indexAddr, o_index, o_extract, o_lookup, o_mapUpdate, o_makeMap, o_mapEntry, o_entryStore, o_delete, o_len, o_append, o_min, o_max, o_tgt, bindS, many1, jnE, boolS, gdB, fst', snd', hl]
      refine One.ret ⟨by rw [q4], ?_⟩
      exact ⟨q1.1, fun j hj => by rw [get_del (by omega), q1.2 j hj]⟩
    · have q5 : HP.get s2.h s5.n = some (.loop 0 none 48 tl [11] (cdp Try.f48 [1, 0, 1, 0, 0]) (cdp Try.f48 [1, 0, 1, 0, 1])) := by rw [q1.2 _ (by omega), get_new rfl]
      rw [rng_none htg bodied153 hC q5 (by decide)]
      have hr : HP.get (delD s2 s5.n).h (s.n + 1) = some (.row [.bool false]) := by rw [get_del (by omega), q1.2 _ (by omega), get_old (by omega), g1]
      have hst : storeD Try.prog (delD s2 s5.n) 4 (.pointer (some ⟨s.n + 1, 0, none⟩)) (.bool false) = some (putD (delD s2 s5.n) (s.n + 1) (.row [.bool false])) := store_row z4 hr rfl rfl rfl (by decide)
      have hl : loadD Try.prog (putD (delD s2 s5.n) (s.n + 1) (.row [.bool false])) 4 (.pointer (some ⟨s.n + 1, 0, none⟩)) = some (.bool false) := by rw [load_row (get_put_same _), part_one a4]; rfl
      simp only [o_bool, o_alloc, o_box, o_build, o_buildSlice, o_load, o_store, o_nilCheck, o_bop, o_uop, o_conv, o_slc, o_fieldAddr, o_field, o_indexAddr, o_index, o_extract, o_lookup, o_mapUpdate, o_makeMap, o_mapEntry, o_entryStore, o_delete, o_len, o_append, o_min, o_max, o_tgt, bindS, many1, jnE, boolS, gdB, fst', snd', hst, hl]
      rw [List.take_length] at q2
      refine One.ret ⟨by rw [q2], ?_⟩
      exact ⟨by have := q1.1; rw [putD_n, delD_n]; simp only [newD_n] at this; omega, fun j hj => by rw [get_put_other (by omega), get_del (by omega), q1.2 j (by omega), get_old (by omega), gs.2 j hj]⟩
  · rintro i hi s' ⟨hsm, hc⟩
    have hcs : cov ((lk es k).take (i + 1)) t = (decide (t ≥ (lk es k)[i].1) && decide (t ≤ (lk es k)[i].2)) := by
      rw [List.take_succ_eq_append_getElem hi]
      unfold cov at hc ⊢
      rw [List.any_append, hc]; simp
    have hin : (lk es k)[i] ∈ lk es k := List.getElem_mem hi
    generalize (lk es k)[i] = y at hcs hin
    have hn5 : s5.n + 1 ≤ s'.n := by have := hsm.1; rw [newD_n] at this; exact this
    have hL : HP.get s'.h s5.n = some (.loop 0 none 48 tl [11] (cdp Try.f48 [1, 0, 1, 0, 0]) (cdp Try.f48 [1, 0, 1, 0, 1])) := by rw [hsm.2 _ (by omega), get_new rfl]
    have h0 : HP.get s'.h s.n = some (.row [.int .i64 t]) := by rw [hsm.2 _ (by omega), get_old (by omega), g0]
    have h1 : HP.get s'.h (s.n + 1) = some (.row [.bool false]) := by rw [hsm.2 _ (by omega), get_old (by omega), g1]
    have hsm1 : Sm (s5.n + 1) (newD s5 (.loop 0 none 48 tl [11] (cdp Try.f48 [1, 0, 1, 0, 0]) (cdp Try.f48 [1, 0, 1, 0, 1]))) (putD (newD s' (.row (rg (0, 0)))) s'.n (.row (rg y))) := (hsm.new hn5 _).put (by omega) _
    have hL1 : HP.get (putD (newD s' (.row (rg (0, 0)))) s'.n (.row (rg y))).h s5.n = some (.loop 0 none 48 tl [11] (cdp Try.f48 [1, 0, 1, 0, 0]) (cdp Try.f48 [1, 0, 1, 0, 1])) := by rw [hsm1.2 _ (by omega), get_new rfl]
    have hn1 : s5.n + 1 ≤ (putD (newD s' (.row (rg (0, 0)))) s'.n (.row (rg y))).n := by rw [putD_n, newD_n]; omega
    generalize putD (newD s' (.row (rg (0, 0)))) s'.n (.row (rg y)) = s7 at hsm1 hL1 hn1
    have hr : roundD Try.prog AT.row (callD Try.prog AT n) AT.N s5.n [.agg (rg y).toArray] s7 = f48_r0 (dOps Try.prog) (callD Try.prog AT n) AT.N s5.n (.pointer (some ⟨s.n, 0, none⟩)) (.pointer (some ⟨s.n + 1, 0, none⟩)) (.agg (rg y).toArray) s7 := by
      subst htl
      exact f48_r0_e rfl (loop_of hL1) _
    rw [call_yld, hr]
    have hal7 : allocD Try.prog s7 69 = some (.pointer (some ⟨s7.n, 0, none⟩), newD s7 (.row (rg (0, 0)))) := alloc_at zr69
    have hst7 : storeD Try.prog (newD s7 (.row (rg (0, 0)))) 69 (.pointer (some ⟨s7.n, 0, none⟩)) (.agg (rg y).toArray) = some (putD (newD s7 (.row (rg (0, 0)))) s7.n (.row (rg y))) := store_row z69 (get_new rfl) rfl rfl rfl (by simp [rg])
    have hL8 : HP.get (putD (newD s7 (.row (rg (0, 0)))) s7.n (.row (rg y))).h s5.n = some (.loop 0 none 48 tl [11] (cdp Try.f48 [1, 0, 1, 0, 0]) (cdp Try.f48 [1, 0, 1, 0, 1])) := by rw [get_put_other (by omega), get_old (by omega)]; exact hL1
    have hy8 : HP.get (putD (newD s7 (.row (rg (0, 0)))) s7.n (.row (rg y))).h s7.n = some (.row (rg y)) := get_put_same _
    have hsm8 := (hsm1.new hn1 (.row (rg (0, 0)))).put (j := s7.n) hn1 (.row (rg y))
    have hn8 : s7.n < (putD (newD s7 (.row (rg (0, 0)))) s7.n (.row (rg y))).n := by rw [putD_n, newD_n]; omega
    simp only [f48_r0, o_bool, o_alloc, o_box, o_build, o_buildSlice, o_load, o_store, o_nilCheck, o_bop, o_uop, o_conv, o_slc, o_fieldAddr, o_field, o_indexAddr, o_index, o_extract, o_lookup, o_mapUpdate, o_makeMap, o_mapEntry, o_entryStore, o_delete, o_len, o_append, o_min, o_max, o_tgt, bindS, many1, jnE, boolS, gdB, fst', snd', hal7, hst7, begin_of hL8]
    have hne : s7.n ≠ s5.n := by omega
    generalize putD (newD s7 (.row (rg (0, 0)))) s7.n (.row (rg y)) = s8 at hL8 hy8 hsm8 hn8
    have q0 : HP.get (putD s8 s5.n (.loop 1 none 48 tl [11] (cdp Try.f48 [1, 0, 1, 0, 0]) (cdp Try.f48 [1, 0, 1, 0, 1]))).h s5.n = some (.loop 1 none 48 tl [11] (cdp Try.f48 [1, 0, 1, 0, 0]) (cdp Try.f48 [1, 0, 1, 0, 1])) := get_put_same _
    have q1 : HP.get (putD s8 s5.n (.loop 1 none 48 tl [11] (cdp Try.f48 [1, 0, 1, 0, 0]) (cdp Try.f48 [1, 0, 1, 0, 1]))).h s.n = some (.row [.int .i64 t]) := by rw [get_put_other (by omega), hsm8.2 _ (by omega), get_old (by omega), g0]
    have q2 : HP.get (putD s8 s5.n (.loop 1 none 48 tl [11] (cdp Try.f48 [1, 0, 1, 0, 0]) (cdp Try.f48 [1, 0, 1, 0, 1]))).h (s.n + 1) = some (.row [.bool false]) := by rw [get_put_other (by omega), hsm8.2 _ (by omega), get_old (by omega), g1]
    have q3 : HP.get (putD s8 s5.n (.loop 1 none 48 tl [11] (cdp Try.f48 [1, 0, 1, 0, 0]) (cdp Try.f48 [1, 0, 1, 0, 1]))).h s7.n = some (.row (rg y)) := by rw [get_put_other hne, hy8]
    have q4 : Sm s5.n (newD s5 (.loop 0 none 48 tl [11] (cdp Try.f48 [1, 0, 1, 0, 0]) (cdp Try.f48 [1, 0, 1, 0, 1]))) (putD s8 s5.n (.loop 1 none 48 tl [11] (cdp Try.f48 [1, 0, 1, 0, 0]) (cdp Try.f48 [1, 0, 1, 0, 1]))) := Sm.put (lo := s5.n) ⟨hsm8.1, fun j hj => hsm8.2 j (by omega)⟩ (Nat.le_refl _) _
    generalize putD s8 s5.n (.loop 1 none 48 tl [11] (cdp Try.f48 [1, 0, 1, 0, 0]) (cdp Try.f48 [1, 0, 1, 0, 1])) = s9 at q0 q1 q2 q3 q4
    have lt : loadD Try.prog s9 3 (.pointer (some ⟨s.n, 0, none⟩)) = some (.int .i64 t) := by rw [load_row q1, part_one a3]; rfl
    have stt : storeD Try.prog s9 4 (.pointer (some ⟨s.n + 1, 0, none⟩)) (.bool true) = some (putD s9 (s.n + 1) (.row [.bool true])) := store_row z4 q2 rfl rfl rfl (by decide)
    have qL : HP.get (putD s9 (s.n + 1) (.row [.bool true])).h s5.n = some (.loop 1 none 48 tl [11] (cdp Try.f48 [1, 0, 1, 0, 0]) (cdp Try.f48 [1, 0, 1, 0, 1])) := by rw [get_put_other (by omega), q0]
    have no : cov ((lk es k).take (i + 1)) t = false → ∃ b s3, some [(Value.bool true, putD s9 s5.n (.loop 0 none 48 tl [11] (cdp Try.f48 [1, 0, 1, 0, 0]) (cdp Try.f48 [1, 0, 1, 0, 1])))] = some [(.bool b, s3)] ∧ (b = true → Sm (s5.n + 1) (newD s5 (.loop 0 none 48 tl [11] (cdp Try.f48 [1, 0, 1, 0, 0]) (cdp Try.f48 [1, 0, 1, 0, 1]))) s3 ∧ cov ((lk es k).take (i + 1)) t = false) ∧ (b = false → Sm s.n s s3 ∧ HP.get s3.h (s.n + 1) = some (.row [.bool true]) ∧ HP.get s3.h s5.n = some (.loop 2 (some .ret) 48 tl [11] (cdp Try.f48 [1, 0, 1, 0, 0]) (cdp Try.f48 [1, 0, 1, 0, 1])) ∧ cov (lk es k) t = true) := by
      intro hf
      refine ⟨true, _, rfl, fun _ => ⟨⟨by rw [putD_n]; exact q4.1, fun j hj => ?_⟩, hf⟩, fun h => by cases h⟩
      by_cases e : j = s5.n
      · subst e; rw [get_put_same, get_new rfl]
      · rw [get_put_other e, q4.2 j (by omega)]
    by_cases c1 : t ≥ y.1
    · by_cases c2 : t ≤ y.2
      · simp only [lt, fld69_0, fld69_1, ld3_0 q3, ld3_1 q3, o_bool, o_alloc, o_box, o_build, o_buildSlice, o_load, o_store, o_nilCheck, o_bop, o_uop, o_conv, o_slc, o_fieldAddr, o_field, o_indexAddr, o_index, o_extract, o_lookup, o_mapUpdate, o_makeMap, o_mapEntry, o_entryStore, o_delete, o_len, o_append, o_min, o_max, o_tgt, bindS, many1, jnE, boolS, gdB, fst', snd', bop_geq, bop_leq, c1, c2, decide_true, condT, stt, setLoop_of qL, Option.map_some]
        refine ⟨false, _, rfl, (fun h => by cases h), fun _ => ⟨⟨?_, fun j hj => ?_⟩, ?_, get_put_same _, ?_⟩⟩
        · have := q4.1; rw [putD_n, putD_n]; rw [newD_n] at this; omega
        · rw [get_put_other (by omega), get_put_other (by omega), q4.2 j (by omega), get_old (by omega), gs.2 j hj]
        · rw [get_put_other (by omega), get_put_same]
        · unfold cov; rw [List.any_eq_true]; exact ⟨y, hin, by rw [decide_eq_true c1, decide_eq_true c2]; rfl⟩
      · simp only [lt, fld69_0, fld69_1, ld3_0 q3, ld3_1 q3, o_bool, o_alloc, o_box, o_build, o_buildSlice, o_load, o_store, o_nilCheck, o_bop, o_uop, o_conv, o_slc, o_fieldAddr, o_field, o_indexAddr, o_index, o_extract, o_lookup, o_mapUpdate, o_makeMap, o_mapEntry, o_entryStore, o_delete, o_len, o_append, o_min, o_max, o_tgt, bindS, many1, jnE, boolS, gdB, fst', snd', bop_geq, bop_leq, c1, c2, decide_true, decide_false, condT, condF, setLoop_of q0, Option.map_some]
        exact no (by rw [hcs, decide_eq_false c2, Bool.and_false])
    · simp only [lt, fld69_0, fld69_1, ld3_0 q3, ld3_1 q3, o_bool, o_alloc, o_box, o_build, o_buildSlice, o_load, o_store, o_nilCheck, o_bop, o_uop, o_conv, o_slc, o_fieldAddr, o_field, o_indexAddr, o_index, o_extract, o_lookup, o_mapUpdate, o_makeMap, o_mapEntry, o_entryStore, o_delete, o_len, o_append, o_min, o_max, o_tgt, bindS, many1, jnE, boolS, gdB, fst', snd', bop_geq, bop_leq, c1, decide_false, condF, setLoop_of q0, Option.map_some]
      exact no (by rw [hcs, decide_eq_false c1, Bool.false_and])
end Go.Proofs.Ytmhmbmogodofeaa.S
