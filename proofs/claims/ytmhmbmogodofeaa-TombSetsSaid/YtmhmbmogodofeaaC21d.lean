import Derived.Test.YtmhmbmogodofeaaC21c
set_option autoImplicit false
set_option linter.unusedVariables false
set_option linter.unusedSimpArgs false
set_option maxRecDepth 100000
namespace Go.Proofs.Ytmhmbmogodofeaa.S
open Go.FS Go.RowKit
attribute [local congr] bind_cg cond_cg gd_cg
theorem gapp80 {lo : Nat} {s : SH} {v : Value} {m2 : Nat} {xs ys : List Rg} (h : Grow lo 2 rg s v xs) (hlo : lo ≤ s.n) (hb : (xs.length + ys.length) * 16 ≤ 140737488355328) :
    ∃ v' s', appD Try.prog false s 80 80 v (sl rg m2 ys) = some (v', s') ∧ Grow lo 2 rg s' v' (xs ++ ys) ∧ Sm lo s s' ∧ (∀ j, j < s.n → HP.get s.h j ≠ some (.tok xs.length 2) → HP.get s'.h j = HP.get s.h j) :=
  h.app (i := Try.t69) hlo u80 u80 (by kernel_rfl) zr69 rfl (by kernel_rfl) (by kernel_rfl) (by decide) rg_len hb (by omega)
theorem bs80 (s : SH) (y : Rg) : buildSliceD Try.prog false s 80 1 [(0, .agg (rg y).toArray)] = some (sl rg 1 [y], s) := by kernel_rfl
theorem Grow.ntup {α : Type} {lo z : Nat} {enc : α → List Value} {s : SH} {v : Value} {xs : List α} (h : Grow lo z enc s v xs) : ∀ a, v ≠ .tuple a := by
  rcases h with ⟨_, rfl | rfl⟩ | ⟨id, _, _, rfl, _⟩ <;> intro a h <;> cases h
theorem Grow.one {α : Type} {lo z : Nat} {enc : α → List Value} {s : SH} {v : Value} {xs : List α} (h : Grow lo z enc s v xs) : oneC v = true ∧ v.cells.toList = [v] := by
  rcases h with ⟨_, rfl | rfl⟩ | ⟨id, _, _, rfl, _⟩ <;> exact ⟨rfl, rfl⟩
theorem c154 {n a1 a2 p m c : Nat} {k : Int} {s : SH} {es : List En} (h1 : HP.get s.h a1 = some (.row [.pointer (some ⟨p, 0, none⟩)])) (h2 : HP.get s.h a2 = some (.row [.int .u64 k])) (h1n : a1 < s.n) (h2n : a2 < s.n) (ht : TombAt s p m) (hm : HP.get s.h m = some (.map (es.map ent) c)) (hp : p < s.n) (hmn : m < s.n) (hlen : (lk es k).length * 16 ≤ 140737488355328) :
    ∃ q, q ≤ 2 ∧ callD Try.prog AT (n + 3) (.fn 154) [fzV 2 #[], .func (.func 153) #[] #[.pointer (some ⟨a1, 0, none⟩), .pointer (some ⟨a2, 0, none⟩)]] s = some [(sl rg q (lk es k), s)] := by
  suffices h : One (bodyD Try.prog false (callD Try.prog AT (n + 2)) AT.N 154 Try.f154 [fzV 2 #[], .func (.func 153) #[] #[.pointer (some ⟨a1, 0, none⟩), .pointer (some ⟨a2, 0, none⟩)]] s) fun v s' => Ext s s' ∧ Grow s.n 2 rg s' v (lk es k) by
    obtain ⟨v, s', e, he, hg⟩ := h
    obtain ⟨q, hq, hq2, _⟩ := grow_cut hg (n := s.n) (Nat.le_refl _) (rg_strip s.n)
    refine ⟨q, by omega, ?_⟩
    rw [← hq]
    exact cut_call (fn := Try.f154) rfl rfl (by kernel_rfl) (Grow.ntup hg) (by rw [hq]; exact bel_sl (by omega) (rg_bel s.n)) ⟨v, s', e, rfl, he⟩
  rw [f154_r]
  have hb : boxD s (fzV 2 #[]) = some (.pointer (some ⟨s.n, 0, none⟩), newD s (.row [fzV 2 #[]])) := box_at rfl rfl
  simp only [f154, o_bool, o_alloc, o_box, o_build, o_buildSlice, o_load, o_store, o_nilCheck, o_bop, o_uop, o_conv, o_slc, o_fieldAddr, o_field, o_indexAddr, o_index, o_extract, o_lookup, o_mapUpdate, o_makeMap, o_mapEntry, o_entryStore, o_delete, o_len, o_append, o_min, o_max, o_tgt, bindS, many1, jnE, boolS, gdB, fst', snd', hb]
  have g0 : HP.get (newD s (.row [fzV 2 #[]])).h s.n = some (.row [fzV 2 #[]]) := get_new rfl
  have gs : Sm s.n s (newD s (.row [fzV 2 #[]])) := (Sm.refl s.n s).new (Nat.le_refl _) _
  have gn : (newD s (.row [fzV 2 #[]])).n = s.n + 1 := newD_n _ _
  generalize newD s (.row [fzV 2 #[]]) = s5 at g0 gs gn
  generalize htl : [fzV 2 #[], Value.func (.func 153) #[] #[.pointer (some ⟨a1, 0, none⟩), .pointer (some ⟨a2, 0, none⟩)], _, _, _, _, _, _, _, _, _, _, _] = tl
  have hrun := c153 (n := n) (l := s5.n) (a1 := a1) (a2 := a2) (p := p) (m := m) (c := c) (k := k) (es := es) (s := newD s5 (.loop 0 none 154 tl [7] (cdp Try.f154 [1, 0, 1, 0, 0]) (cdp Try.f154 [1, 0, 1, 0, 1])))
    (by rw [get_old (by omega), gs.2 _ h1n]; exact h1) (by rw [get_old (by omega), gs.2 _ h2n]; exact h2) (by unfold TombAt; rw [get_old (by omega), gs.2 p hp]; exact ht) (by rw [get_old (by omega), gs.2 m hmn]; exact hm) (by omega)
    (fun i s' => Sm s.n s s' ∧ s5.n + 1 ≤ s'.n ∧ HP.get s'.h s5.n = some (.loop 0 none 154 tl [7] (cdp Try.f154 [1, 0, 1, 0, 0]) (cdp Try.f154 [1, 0, 1, 0, 1])) ∧ ∃ v, HP.get s'.h s.n = some (.row [v]) ∧ Grow (s5.n + 1) 2 rg s' v ((lk es k).take i))
    (fun s' => False) ⟨gs.new (by omega) _, by rw [newD_n]; omega, get_new rfl, fzV 2 #[], by rw [get_old (by omega), g0], .inl ⟨rfl, .inl rfl⟩⟩ ?_
  · obtain ⟨v, s2, hC, hq⟩ := hrun
    have htg : tgtD (.func (.func 153) #[] #[.pointer (some ⟨a1, 0, none⟩), .pointer (some ⟨a2, 0, none⟩)]) [.func (.yield s5.n) #[] #[]] = some (.fn 153, [.func (.yield s5.n) #[] #[], .pointer (some ⟨a1, 0, none⟩), .pointer (some ⟨a2, 0, none⟩)]) := rfl
    rcases hq with hq | ⟨q1, q2, q3, w, q4, q5⟩
    · exact hq.elim
    · rw [rng_none htg bodied153 hC q3 (by decide)]
      have hr : HP.get (delD s2 s5.n).h s.n = some (.row [w]) := by rw [get_del (by omega), q4]
      have hl : loadD Try.prog (delD s2 s5.n) 80 (.pointer (some ⟨s.n, 0, none⟩)) = some w := by rw [load_row hr, part_one a80]; rfl
      simp only [o_bool, o_alloc, o_box, o_build, o_buildSlice, o_load, o_store, o_nilCheck, o_bop, o_uop, o_conv, o_slc, o_fieldAddr, o_field, o_indexAddr, o_index, o_extract, o_lookup, o_mapUpdate, o_makeMap, o_mapEntry, o_entryStore, o_delete, o_len, o_append, o_min, o_max, o_tgt, bindS, many1, jnE, boolS, gdB, fst', snd', hl]
      rw [List.take_length] at q5
      refine One.ret ⟨⟨q1.1, fun j hj => by rw [get_del (by omega), q1.2 j hj]⟩, ?_⟩
      have q6 : Grow (s5.n + 1) 2 rg (delD s2 s5.n) w (lk es k) := q5.mono (Nat.le_refl _) fun i hi _ _ => get_del (by omega)
      rcases q6 with q6 | ⟨id, w1, w2, w3, w4⟩
      · exact .inl q6
      · exact .inr ⟨id, by omega, w2, w3, w4⟩
  · rintro i hi s' ⟨hsm, hn', hL, v, hv, hgr⟩
    have hts : (lk es k).take (i + 1) = (lk es k).take i ++ [(lk es k)[i]] := List.take_succ_eq_append_getElem hi
    have hln : ((lk es k).take i).length = i := by rw [List.length_take]; omega
    generalize (lk es k)[i] = y at hts
    have hL1 : HP.get (putD (newD s' (.row (rg (0, 0)))) s'.n (.row (rg y))).h s5.n = some (.loop 0 none 154 tl [7] (cdp Try.f154 [1, 0, 1, 0, 0]) (cdp Try.f154 [1, 0, 1, 0, 1])) := by rw [get_put_other (by omega), get_old (by omega), hL]
    have hv1 : HP.get (putD (newD s' (.row (rg (0, 0)))) s'.n (.row (rg y))).h s.n = some (.row [v]) := by rw [get_put_other (by omega), get_old (by omega), hv]
    have hsm1 : Sm s.n s (putD (newD s' (.row (rg (0, 0)))) s'.n (.row (rg y))) := (hsm.new (by omega) _).put (by omega) _
    have hgr1 : Grow (s5.n + 1) 2 rg (putD (newD s' (.row (rg (0, 0)))) s'.n (.row (rg y))) v ((lk es k).take i) := (hgr.new _).put _ (by rw [get_new rfl]; intro h; cases h)
    have hn1 : s5.n + 1 ≤ (putD (newD s' (.row (rg (0, 0)))) s'.n (.row (rg y))).n := by rw [putD_n, newD_n]; omega
    generalize putD (newD s' (.row (rg (0, 0)))) s'.n (.row (rg y)) = s7 at hL1 hv1 hsm1 hgr1 hn1
    have hr : roundD Try.prog AT.row (callD Try.prog AT n) AT.N s5.n [.agg (rg y).toArray] s7 = f154_r0 (dOps Try.prog) (callD Try.prog AT n) AT.N s5.n (.pointer (some ⟨s.n, 0, none⟩)) (.agg (rg y).toArray) s7 := by
      subst htl
      exact f154_r0_e rfl (loop_of hL1) _
    rw [call_yld, hr]
    have hal7 : allocD Try.prog s7 69 = some (.pointer (some ⟨s7.n, 0, none⟩), newD s7 (.row (rg (0, 0)))) := alloc_at zr69
    have hst7 : storeD Try.prog (newD s7 (.row (rg (0, 0)))) 69 (.pointer (some ⟨s7.n, 0, none⟩)) (.agg (rg y).toArray) = some (putD (newD s7 (.row (rg (0, 0)))) s7.n (.row (rg y))) := store_row z69 (get_new rfl) rfl rfl rfl (by simp [rg])
    have hL8 : HP.get (putD (newD s7 (.row (rg (0, 0)))) s7.n (.row (rg y))).h s5.n = some (.loop 0 none 154 tl [7] (cdp Try.f154 [1, 0, 1, 0, 0]) (cdp Try.f154 [1, 0, 1, 0, 1])) := by rw [get_put_other (by omega), get_old (by omega)]; exact hL1
    have hy8 : HP.get (putD (newD s7 (.row (rg (0, 0)))) s7.n (.row (rg y))).h s7.n = some (.row (rg y)) := get_put_same _
    have hv8 : HP.get (putD (newD s7 (.row (rg (0, 0)))) s7.n (.row (rg y))).h s.n = some (.row [v]) := by rw [get_put_other (by omega), get_old (by omega), hv1]
    have hsm8 : Sm s.n s (putD (newD s7 (.row (rg (0, 0)))) s7.n (.row (rg y))) := (hsm1.new (by omega) _).put (by omega) _
    have hgr8 : Grow (s5.n + 1) 2 rg (putD (newD s7 (.row (rg (0, 0)))) s7.n (.row (rg y))) v ((lk es k).take i) := (hgr1.new _).put _ (by rw [get_new rfl]; intro h; cases h)
    have hn8 : s7.n < (putD (newD s7 (.row (rg (0, 0)))) s7.n (.row (rg y))).n := by rw [putD_n, newD_n]; omega
    simp only [f154_r0, o_bool, o_alloc, o_box, o_build, o_buildSlice, o_load, o_store, o_nilCheck, o_bop, o_uop, o_conv, o_slc, o_fieldAddr, o_field, o_indexAddr, o_index, o_extract, o_lookup, o_mapUpdate, o_makeMap, o_mapEntry, o_entryStore, o_delete, o_len, o_append, o_min, o_max, o_tgt, bindS, many1, jnE, boolS, gdB, fst', snd', hal7, hst7, begin_of hL8]
    generalize putD (newD s7 (.row (rg (0, 0)))) s7.n (.row (rg y)) = s8 at hL8 hy8 hsm8 hn8 hv8 hgr8
    have q0 : HP.get (putD s8 s5.n (.loop 1 none 154 tl [7] (cdp Try.f154 [1, 0, 1, 0, 0]) (cdp Try.f154 [1, 0, 1, 0, 1]))).h s5.n = some (.loop 1 none 154 tl [7] (cdp Try.f154 [1, 0, 1, 0, 0]) (cdp Try.f154 [1, 0, 1, 0, 1])) := get_put_same _
    have q1 : HP.get (putD s8 s5.n (.loop 1 none 154 tl [7] (cdp Try.f154 [1, 0, 1, 0, 0]) (cdp Try.f154 [1, 0, 1, 0, 1]))).h s.n = some (.row [v]) := by rw [get_put_other (by omega), hv8]
    have q3 : HP.get (putD s8 s5.n (.loop 1 none 154 tl [7] (cdp Try.f154 [1, 0, 1, 0, 0]) (cdp Try.f154 [1, 0, 1, 0, 1]))).h s7.n = some (.row (rg y)) := by rw [get_put_other (by omega), hy8]
    have q4 : Sm s.n s (putD s8 s5.n (.loop 1 none 154 tl [7] (cdp Try.f154 [1, 0, 1, 0, 0]) (cdp Try.f154 [1, 0, 1, 0, 1]))) := hsm8.put (by omega) _
    have q5 : Grow (s5.n + 1) 2 rg (putD s8 s5.n (.loop 1 none 154 tl [7] (cdp Try.f154 [1, 0, 1, 0, 0]) (cdp Try.f154 [1, 0, 1, 0, 1]))) v ((lk es k).take i) := hgr8.put _ (by rw [hL8]; intro h; cases h)
    have q6 : s5.n + 1 ≤ (putD s8 s5.n (.loop 1 none 154 tl [7] (cdp Try.f154 [1, 0, 1, 0, 0]) (cdp Try.f154 [1, 0, 1, 0, 1]))).n := by rw [putD_n]; omega
    generalize putD s8 s5.n (.loop 1 none 154 tl [7] (cdp Try.f154 [1, 0, 1, 0, 0]) (cdp Try.f154 [1, 0, 1, 0, 1])) = s9 at q0 q1 q3 q4 q5 q6
    have lv : loadD Try.prog s9 80 (.pointer (some ⟨s.n, 0, none⟩)) = some v := by rw [load_row q1, part_one a80]; rfl
    have ly : loadD Try.prog s9 69 (.pointer (some ⟨s7.n, 0, none⟩)) = some (.agg (rg y).toArray) := by rw [load_row q3, part_agg a69 z69 (l := rg y) rfl rfl]
    obtain ⟨v', s10, e1, w1, w2, w3⟩ := gapp80 (m2 := 1) (ys := [y]) q5 q6 (by rw [hln]; simp only [List.length_singleton]; omega)
    have r1 : HP.get s10.h s.n = some (.row [v]) := by rw [w2.2 _ (by omega), q1]
    have r0 : HP.get s10.h s5.n = some (.loop 1 none 154 tl [7] (cdp Try.f154 [1, 0, 1, 0, 0]) (cdp Try.f154 [1, 0, 1, 0, 1])) := by rw [w2.2 _ (by omega), q0]
    have stv : storeD Try.prog s10 80 (.pointer (some ⟨s.n, 0, none⟩)) v' = some (putD s10 s.n (.row [v'])) := store_row z80 r1 (Grow.one w1).2 rfl (by simp [(Grow.one w1).1]) (by simp)
    have r2 : HP.get (putD s10 s.n (.row [v'])).h s5.n = some (.loop 1 none 154 tl [7] (cdp Try.f154 [1, 0, 1, 0, 0]) (cdp Try.f154 [1, 0, 1, 0, 1])) := by rw [get_put_other (by omega), r0]
    simp only [lv, ly, bs80, o_bool, o_alloc, o_box, o_build, o_buildSlice, o_load, o_store, o_nilCheck, o_bop, o_uop, o_conv, o_slc, o_fieldAddr, o_field, o_indexAddr, o_index, o_extract, o_lookup, o_mapUpdate, o_makeMap, o_mapEntry, o_entryStore, o_delete, o_len, o_append, o_min, o_max, o_tgt, bindS, many1, jnE, boolS, gdB, fst', snd', e1, stv, setLoop_of r2, Option.map_some]
    refine ⟨true, _, rfl, fun _ => ⟨⟨?_, fun j hj => ?_⟩, ?_, get_put_same _, v', ?_, ?_⟩, fun h => by cases h⟩
    · have := q4.1; have := w2.1; rw [putD_n, putD_n]; omega
    · rw [get_put_other (by omega), get_put_other (by omega), w2.2 j (by omega), q4.2 j hj]
    · have := w2.1; rw [putD_n, putD_n]; omega
    · rw [get_put_other (by omega), get_put_same]
    · rw [hts]
      exact (w1.put _ (by rw [r1]; intro h; cases h)).put _ (by rw [r2]; intro h; cases h)
theorem strip_sl {n q : Nat} (hq : q ≤ 2) (xs : List Rg) : stripN 8 n (sl rg q xs) = sl rg q xs := by
  rw [strip_sl' (rg_strip n)]
  have : Nat.blt q (n + 3) = true := by rw [blt_dec, decide_eq_true]; omega
  rw [this]; rfl
theorem c50 {n p m c : Nat} {k : Int} {s : SH} {es : List En} (ht : TombAt s p m) (hm : HP.get s.h m = some (.map (es.map ent) c)) (hp : p < s.n) (hmn : m < s.n) (hlen : (lk es k).length * 16 ≤ 140737488355328) :
    ∃ q, q ≤ 2 ∧ callD Try.prog AT (n + 5) (.fn 50) [.pointer (some ⟨p, 0, none⟩), .int .u64 k] s = some [(sl rg q (lk es k), s)] := by
  have e1 : TombAt (newD (newD s (.row [.pointer (some ⟨p, 0, none⟩)])) (.row [.int .u64 k])) p m := by unfold TombAt; rw [get_old (by rw [newD_n]; omega), get_old (by omega)]; exact ht
  have e2 : HP.get (newD (newD s (.row [.pointer (some ⟨p, 0, none⟩)])) (.row [.int .u64 k])).h m = some (.map (es.map ent) c) := by rw [get_old (by rw [newD_n]; omega), get_old (by omega)]; exact hm
  obtain ⟨q, hq, h154⟩ := c154 (n := n) (a1 := s.n) (a2 := s.n + 1) (k := k) (s := newD (newD s (.row [.pointer (some ⟨p, 0, none⟩)])) (.row [.int .u64 k])) (by rw [get_old (by rw [newD_n]; omega), get_new rfl]) (get_new (by rw [newD_n])) (by simp only [newD_n]; omega) (by simp only [newD_n]; omega) e1 e2 (by simp only [newD_n]; omega) (by simp only [newD_n]; omega) hlen
  have h106 : callD Try.prog AT (n + 4) (.fn 106) [.func (.func 153) #[] #[.pointer (some ⟨s.n, 0, none⟩), .pointer (some ⟨s.n + 1, 0, none⟩)]] (newD (newD s (.row [.pointer (some ⟨p, 0, none⟩)])) (.row [.int .u64 k])) = some [(sl rg q (lk es k), newD (newD s (.row [.pointer (some ⟨p, 0, none⟩)])) (.row [.int .u64 k]))] := by
    rw [call_fn (fn := Try.f106) rfl rfl (by kernel_rfl)]
    show bodyD Try.prog false _ _ 106 Try.f106 _ _ = _
    rw [f106_r]
    simp only [f106, h154, bindS, many1]
  refine ⟨q, hq, ?_⟩
  have := cut_call (P := Try.prog) (A := AT) (n := n + 4) (f := 50) (fn := Try.f50) (args := [.pointer (some ⟨p, 0, none⟩), .int .u64 k]) (s := s) (v := sl rg q (lk es k)) rfl rfl (by kernel_rfl) (fun _ h => by cases h) (by rw [strip_sl hq]; exact bel_sl (by omega) (rg_bel s.n)) ?_
  · rw [strip_sl hq] at this; exact this
  · show One (bodyD Try.prog false _ _ 50 Try.f50 _ s) _
    rw [f50_r]
    simp only [f50, c105, h106, bindS, many1]
    exact One.ret ⟨rfl, ((Ext.refl s).new _).new _⟩
theorem c46 {n : Nat} {s : SH} : callD Try.prog AT (n + 1) (.fn 46) [] s = some [(.pointer (some ⟨s.n + 1, 0, none⟩), newD (newD s (.map [] 0)) (.row [.map (some s.n)]))] := by
  rw [call_fn (fn := Try.f46) rfl rfl (by kernel_rfl)]
  show bodyD Try.prog false _ _ 46 Try.f46 _ s = _
  rw [f46_r]
  have h1 : makeMapO Try.prog s 156 none = some (.map (some s.n), newD s (.map [] 0)) := by
    show makeMapD Try.prog s 156 = _
    unfold makeMapD; rw [u156]
  have h2 : buildD Try.prog 158 [(0, .map (some s.n))] = some (.agg #[.map (some s.n)]) := by kernel_rfl
  have h3 : ∀ s' : SH, boxD s' (.agg #[.map (some s.n)]) = some (.pointer (some ⟨s'.n, 0, none⟩), newD s' (.row [.map (some s.n)])) := fun s' => box_at rfl rfl
  simp only [f46, o_bool, o_alloc, o_box, o_build, o_buildSlice, o_load, o_store, o_nilCheck, o_bop, o_uop, o_conv, o_slc, o_fieldAddr, o_field, o_indexAddr, o_index, o_extract, o_lookup, o_mapUpdate, o_makeMap, o_mapEntry, o_entryStore, o_delete, o_len, o_append, o_min, o_max, o_tgt, bindS, many1, jnE, boolS, gdB, fst', snd', o_makeMap, h1, h2, h3, newD_n]
end Go.Proofs.Ytmhmbmogodofeaa.S
