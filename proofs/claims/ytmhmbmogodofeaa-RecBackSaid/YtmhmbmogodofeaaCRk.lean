import Derived.Test.YtmhmbmogodofeaaCRi
set_option autoImplicit false
set_option linter.unusedVariables false
set_option linter.unusedSimpArgs false
set_option maxRecDepth 100000
namespace Go.Proofs.Ytmhmbmogodofeaa.S
open Go.FS Go.RowKit
attribute [local congr] bind_cg cond_cg gd_cg
theorem pow8 (k : Nat) : (2 : Nat) ^ (8 * k) = 256 ^ k := by rw [Nat.pow_mul]
/-- The eight bytes of a value. -/
theorem c97_in {C : OracleJ HP} {q b lo : Nat} {p : Pt} {V : Nat} {cur : List UInt8} {s : SH} {x0 : Value} (hV : p.2.2 = (V : Int)) (hV2 : V < 2 ^ 64) (hq : q < lo) (hbl : b < lo) (hbq : b ≠ q) (hlo : lo ≤ s.n) (hp : HP.get s.h b = some (.row (pt p))) {v0 : Value} (hg : HP.get s.h q = some (.row [v0])) (hv : Grow lo 1 by' s v0 cur) (hb : cur.length + 100 ≤ 140737488355328)
    {kx : Nat → Value × Value → SH → Option (List (Value × SH))} {kr : Value × Value → SH → Option (List (Value × SH))} {Q : Value → SH → Prop} {N : Nat} (hN : 20 < N)
    (h : ∀ y k s' m, s.n ≤ s'.n → (∀ j, j < lo → j ≠ q → HP.get s'.h j = HP.get s.h j) → HP.get s'.h q = some (.row [sl by' m (cur ++ le8 8 V)]) → One (kx 2 (y, k) s') Q) :
    One (iterS (f97_l1 (dOps Try.prog) C N (pr q) (pr b)) kx kr N (x0, .int .i64 0) s) Q := by
  refine list_one (List.replicate 8 ()) (fun k (x : Value × Value) (s' : SH) => x.2 = .int .i64 k ∧ s.n ≤ s'.n ∧ (∀ j, j < lo → j ≠ q → HP.get s'.h j = HP.get s.h j) ∧ ∃ v, HP.get s'.h q = some (.row [v]) ∧ Grow lo 1 by' s' v (cur ++ le8 k V)) ?_ ?_ ?h0 (by rw [List.length_replicate]; omega)
  case h0 => exact ⟨rfl, Nat.le_refl _, fun j _ _ => rfl, v0, hg, by unfold le8; rw [List.append_nil]; exact hv⟩
  · rintro k hk ⟨x1, x2⟩ s' ⟨h1, h2, h3, v, h4, h5⟩ nx hnx
    simp only at h1
    subst h1
    rw [List.length_replicate] at hk
    have hlt : (k : Int) < 8 := by omega
    have hwi : IntKind.i64.wrap ((k : Int) + 1) = ((k + 1 : Nat) : Int) := by rw [wrap_i64 (by omega) (by omega)]; rfl
    have hw8 : IntKind.i64.wrap (8 * (k : Int)) = ((8 * k : Nat) : Int) := by rw [wrap_i64 (by omega) (by omega)]; omega
    have hp' : HP.get s'.h b = some (.row (pt p)) := by rw [h3 _ hbl hbq, hp]
    have hl : loadD Try.prog s' 70 (.pointer (some ⟨b, 2, none⟩)) = some (.int .u64 (V : Int)) := by rw [ldp2 hp', hV]
    obtain ⟨v2, s2, e2, w1, w2, w3⟩ := gapp35 (m2 := 1) (ys := [UInt8.ofNat (V / 2 ^ (8 * k))]) h5 (by omega) (by rw [List.length_append, le_len]; simp only [List.length_singleton]; omega)
    obtain ⟨m2, rfl⟩ := Grow.form w1
    have w2' : Sm lo s' s2 := w2
    have hq2 : HP.get s2.h q = some (.row [v]) := by rw [w2'.2 _ hq, h4]
    simp only [f97_l1, o_bool, o_alloc, o_box, o_build, o_buildSlice, o_load, o_store, o_nilCheck, o_bop, o_uop, o_conv, o_slc, o_fieldAddr, o_field, o_indexAddr, o_index, o_extract, o_lookup, o_mapUpdate, o_makeMap, o_mapEntry, o_entryStore, o_delete, o_len, o_append, o_min, o_max, o_tgt, bindS, many1, jnE, boolS, gdB, fst', snd', bop_lss, hlt, decide_true, condT, nc, fld147_0, ld35 h4, fld142_1, flo140_1, hl, bop_mul, hw8, shrV V (8 * k) (by omega), conv_int u70 u5, wrap_u8, bs35, e2, st35 hq2 (sl_cells _ _ _) (sl_one _ _ _), bop_add, hwi]
    refine hnx (_, _) _ ⟨rfl, Nat.le_trans h2 w2'.1, fun j hj hjq => by rw [get_put_other hjq, w2'.2 _ hj, h3 _ hj hjq], _, get_put_same _, ?_⟩
    rw [le_snoc, ← List.append_assoc, ← pow8]
    exact w1.put _ (by rw [hq2]; intro h; cases h)
  · rintro ⟨x1, x2⟩ s' ⟨h1, h2, h3, v, h4, h5⟩ nx
    simp only at h1
    subst h1
    rw [List.length_replicate] at h5 ⊢
    obtain ⟨m2, rfl⟩ := Grow.form h5
    have hnlt : ¬ (((8 : Nat) : Int) < 8) := by decide
    simp only [f97_l1, o_bool, o_alloc, o_box, o_build, o_buildSlice, o_load, o_store, o_nilCheck, o_bop, o_uop, o_conv, o_slc, o_fieldAddr, o_field, o_indexAddr, o_index, o_extract, o_lookup, o_mapUpdate, o_makeMap, o_mapEntry, o_entryStore, o_delete, o_len, o_append, o_min, o_max, o_tgt, bindS, many1, jnE, boolS, gdB, fst', snd', bop_lss, hnlt, decide_false, condF]
    exact h x1 _ s' m2 h2 h3 h4
theorem c97 {n m m' q : Nat} {s : SH} {bs : List UInt8} (l : List Pt) (hq : q < s.n) (hg : HP.get s.h q = some (.row [sl by' m bs])) (hl : l.length ≤ 4096) (hu : ∀ p ∈ l, U64 p.1 ∧ U64 p.2.2) (hok : l.all ptOk = true) (hb : bs.length + 1000000 ≤ 140737488355328) :
    ∃ s', callD Try.prog AB (n + 5) (.fn 97) [pr q, sl pt m' l] s = some [(.tuple #[], s')] ∧ Wq q s s' (bs ++ ptB l) := by
  have hok' : ∀ p ∈ l, 0 ≤ p.2.1 ∧ p.2.1 ≤ 35184372088832 := fun p hp => by
    have := List.all_eq_true.1 hok p hp
    unfold ptOk at this
    rw [Bool.and_eq_true] at this
    exact (tmOk_iff _).1 this.2
  rw [call_fn (fn := Try.f97) rfl rfl (by kernel_rfl)]
  suffices h : One (bodyD Try.prog false (callD Try.prog AB (n + 4)) AB.N 97 Try.f97 [pr q, sl pt m' l] s) fun w s' => w = .tuple #[] ∧ Wq q s s' (bs ++ ptB l) by
    obtain ⟨w, s', e, rfl, h⟩ := h
    exact ⟨s', e, h⟩
  rw [f97_r]
  have hw : IntKind.u64.wrap (l.length : Int) = (l.length : Int) := wrap_u64 (by omega) (by omega)
  obtain ⟨s1, e, k1⟩ := c99 (n := n) (m := m) (s := s) hq hg (l.length : Int) (by omega) (by omega) (by omega)
  rw [Int.toNat_natCast] at k1
  simp only [f97, o_bool, o_alloc, o_box, o_build, o_buildSlice, o_load, o_store, o_nilCheck, o_bop, o_uop, o_conv, o_slc, o_fieldAddr, o_field, o_indexAddr, o_index, o_extract, o_lookup, o_mapUpdate, o_makeMap, o_mapEntry, o_entryStore, o_delete, o_len, o_append, o_min, o_max, o_tgt, bindS, many1, jnE, boolS, gdB, fst', snd', len_sl u66, conv_int u3 u70, hw, e]
  refine list_one l (fun i (x : Value × Value × Value) (s' : SH) => x.2.2 = .int .i64 i ∧ ∃ (last : Int) (cur : List UInt8), x.1 = .int .i64 last ∧ 0 ≤ last ∧ last ≤ 35184372088832 ∧ Wq q s s' cur ∧ cur ++ ptGo last (l.drop i) = bs ++ ptB l ∧ cur.length ≤ bs.length + 10 + 28 * i) ?_ ?_ ?h0 (by show l.length < 2 ^ 64; omega)
  case h0 =>
    have h10 := vput_len10 (x := l.length) (by omega)
    exact ⟨rfl, 0, bs ++ vput l.length, rfl, by omega, by omega, k1, by unfold ptB; rw [List.append_assoc, List.drop_zero], by rw [List.length_append]; omega⟩
  · rintro i hi ⟨x1, x2, x3⟩ s' ⟨h1, last, cur, h2, h3, h4, h5, h6, h7⟩ nx hnx
    simp only at h1 h2
    subst h1 h2
    have hlt : (i : Int) < l.length := by omega
    have hwi : IntKind.i64.wrap ((i : Int) + 1) = ((i + 1 : Nat) : Int) := by rw [wrap_i64 (by omega) (by omega)]; rfl
    have hup := hu _ (List.getElem_mem hi)
    have hkp := hok' _ (List.getElem_mem hi)
    rw [List.drop_eq_getElem_cons hi, pt_cons] at h6
    generalize hxe : l[i] = p at h6 hup hkp
    obtain ⟨⟨hx0, hx1⟩, ⟨hv0, hv1⟩⟩ := hup
    have hws : IntKind.i64.wrap (p.2.1 - last) = p.2.1 - last := wrap_i64 (by omega) (by omega)
    obtain ⟨mm, hgc⟩ := h5.2.2
    have hq' : q < s'.n := Nat.lt_of_lt_of_le hq h5.1
    have hst : storeD Try.prog (newD s' (.row (pt ptz))) 142 (.pointer (some ⟨s'.n, 0, none⟩)) (.agg (pt p).toArray) = some (putD (newD s' (.row (pt ptz))) s'.n (.row (pt p))) := st142 (get_new rfl) _
    have ha : HP.get (putD (newD s' (.row (pt ptz))) s'.n (.row (pt p))).h s'.n = some (.row (pt p)) := get_put_same _
    have hold2 : ∀ j, j < s'.n → HP.get (putD (newD s' (.row (pt ptz))) s'.n (.row (pt p))).h j = HP.get s'.h j := fun j hj => by rw [get_put_other (by omega), get_old (by omega)]
    have hn2 : s'.n < (putD (newD s' (.row (pt ptz))) s'.n (.row (pt p))).n := by rw [putD_n, newD_n]; omega
    simp only [f97_l0, o_bool, o_alloc, o_box, o_build, o_buildSlice, o_load, o_store, o_nilCheck, o_bop, o_uop, o_conv, o_slc, o_fieldAddr, o_field, o_indexAddr, o_index, o_extract, o_lookup, o_mapUpdate, o_makeMap, o_mapEntry, o_entryStore, o_delete, o_len, o_append, o_min, o_max, o_tgt, bindS, many1, jnE, boolS, gdB, fst', snd', bop_lss, hlt, decide_true, condT, ixs66 pt_len hi, ld_pt, hxe, al142, hst, fld142_0, fld142_1, ldp0 ha]
    generalize putD (newD s' (.row (pt ptz))) s'.n (.row (pt p)) = s2 at ha hold2 hn2
    have hgc2 : HP.get s2.h q = some (.row [sl by' mm cur]) := by rw [hold2 _ hq', hgc]
    obtain ⟨s3, e3, k3⟩ := c99 (n := n) (m := mm) (s := s2) (bs := cur) (by omega) hgc2 p.1 (by omega) (by omega) (by omega)
    have ha3 : HP.get s3.h s'.n = some (.row (pt p)) := by rw [k3.2.1 _ hn2 (by omega), ha]
    obtain ⟨m3, hg3⟩ := k3.2.2
    have h10 := vput_len10 (x := p.1.toNat) (by omega)
    have hz : zg (p.2.1 - last) < 2 ^ 64 := by unfold zg; split <;> omega
    have h11 := vput_len10 hz
    obtain ⟨v4, s4, e4, k4, k5⟩ := c146 (n := n + 1) (m := m3) (s := s3) (cur ++ vput p.1.toNat) (p.2.1 - last) (by omega) (by omega) (by rw [List.length_append]; omega)
    have hq3 : q < s3.n := by have := k3.1; omega
    have hb3 : s'.n < s3.n := by have := k3.1; omega
    have hg4 : HP.get s4.h q = some (.row [sl by' m3 (cur ++ vput p.1.toNat)]) := by rw [k5.2 _ hq3, hg3]
    obtain ⟨m4, rfl⟩ := Grow.form k4
    have hg5 : HP.get (putD s4 q (.row [sl by' m4 (cur ++ vput p.1.toNat ++ vput (zg (p.2.1 - last)))])).h q = some (.row [sl by' m4 (cur ++ vput p.1.toNat ++ vput (zg (p.2.1 - last)))]) := get_put_same _
    have ha5 : HP.get (putD s4 q (.row [sl by' m4 (cur ++ vput p.1.toNat ++ vput (zg (p.2.1 - last)))])).h s'.n = some (.row (pt p)) := by rw [get_put_other (by omega), k5.2 _ hb3, ha3]
    have hv5 : Grow s3.n 1 by' (putD s4 q (.row [sl by' m4 (cur ++ vput p.1.toNat ++ vput (zg (p.2.1 - last)))])) (sl by' m4 (cur ++ vput p.1.toNat ++ vput (zg (p.2.1 - last)))) (cur ++ vput p.1.toNat ++ vput (zg (p.2.1 - last))) := k4.put _ (by rw [hg4]; intro h; cases h)
    have hold5 : ∀ j, j < s3.n → j ≠ q → HP.get (putD s4 q (.row [sl by' m4 (cur ++ vput p.1.toNat ++ vput (zg (p.2.1 - last)))])).h j = HP.get s3.h j := fun j hj hjq => by rw [get_put_other hjq, k5.2 _ hj]
    have hn5 : s3.n ≤ (putD s4 q (.row [sl by' m4 (cur ++ vput p.1.toNat ++ vput (zg (p.2.1 - last)))])).n := k5.1
    have e4' := oneS e4
    simp only [e3, o_bool, o_alloc, o_box, o_build, o_buildSlice, o_load, o_store, o_nilCheck, o_bop, o_uop, o_conv, o_slc, o_fieldAddr, o_field, o_indexAddr, o_index, o_extract, o_lookup, o_mapUpdate, o_makeMap, o_mapEntry, o_entryStore, o_delete, o_len, o_append, o_min, o_max, o_tgt, bindS, many1, jnE, boolS, gdB, fst', snd', nc, fld147_0, ld35 hg3, fld142_1, flo140_0, ldp1 ha3, b_sub, hws, e4', st35 hg4 (sl_cells _ _ _) (sl_one _ _ _)]
    generalize putD s4 q (.row [sl by' m4 (cur ++ vput p.1.toNat ++ vput (zg (p.2.1 - last)))]) = s5 at hg5 ha5 hv5 hold5 hn5
    refine c97_in (p := p) (V := p.2.2.toNat) (lo := s3.n) (Int.toNat_of_nonneg hv0).symm (by omega) hq3 hb3 (by omega) hn5 ha5 hg5 hv5 (by simp only [List.length_append]; omega) (by show 20 < 2 ^ 64; decide) ?_
    intro y k s6 m6 j1 j2 j3
    have ha6 : HP.get s6.h s'.n = some (.row (pt p)) := by rw [j2 _ hb3 (by omega), ha5]
    simp only [beq_yes, condT, fld142_1, flo140_0, ldp1 ha6, o_bool, o_alloc, o_box, o_build, o_buildSlice, o_load, o_store, o_nilCheck, o_bop, o_uop, o_conv, o_slc, o_fieldAddr, o_field, o_indexAddr, o_index, o_extract, o_lookup, o_mapUpdate, o_makeMap, o_mapEntry, o_entryStore, o_delete, o_len, o_append, o_min, o_max, o_tgt, bindS, many1, jnE, boolS, gdB, fst', snd', bop_add, hwi]
    refine hnx (_, _, _) _ ⟨rfl, p.2.1, cur ++ vput p.1.toNat ++ vput (zg (p.2.1 - last)) ++ le8 8 p.2.2.toNat, rfl, hkp.1, hkp.2, ?_, by rw [← h6]; simp only [List.append_assoc], by simp only [List.length_append, le_len]; omega⟩
    refine h5.trans ⟨by omega, fun j hj hjq => ?_, m6, j3⟩
    rw [j2 _ (by omega) hjq, hold5 _ (by omega) hjq, k3.2.1 _ (by omega) hjq, hold2 _ hj]
  · rintro ⟨x1, x2, x3⟩ s' ⟨h1, last, cur, h2, h3, h4, h5, h6, h7⟩ nx
    simp only at h1 h2
    subst h1 h2
    have hnlt : ¬ ((l.length : Int) < l.length) := by omega
    simp only [f97_l0, o_bool, o_alloc, o_box, o_build, o_buildSlice, o_load, o_store, o_nilCheck, o_bop, o_uop, o_conv, o_slc, o_fieldAddr, o_field, o_indexAddr, o_index, o_extract, o_lookup, o_mapUpdate, o_makeMap, o_mapEntry, o_entryStore, o_delete, o_len, o_append, o_min, o_max, o_tgt, bindS, many1, jnE, boolS, gdB, fst', snd', bop_lss, hnlt, decide_false, condF, beq_yes, condT]
    rw [List.drop_length] at h6
    have : cur = bs ++ ptB l := by rw [← h6]; simp [ptGo]
    subst this
    exact One.ret ⟨rfl, h5⟩

attribute [local congr] bind_cg cond_cg gd_cg
/-- Numbers of a record are numbers of the machine. -/
structure WfR (r : RecD) : Prop where
  small : Small r
  labs : ∀ a ∈ r.new, SmallL a.2.2
  uN : ∀ a ∈ r.new, U64 a.1
  uI : ∀ x ∈ r.ids, U64 x
  uP : ∀ p ∈ r.pts, U64 p.1 ∧ U64 p.2.2
  un : U64 r.n
/-- What stands behind the kind. -/
def tailB (r : RecD) : List UInt8 :=
  if r.kind = 1 then nmB r.new ++ ptB r.pts
  else if r.kind = 2 then idsB r.ids ++ (vput r.rng.1.toNat ++ vput (r.rng.2 - r.rng.1).toNat)
  else if r.kind = 3 then nmB r.new
  else if r.kind = 4 then idsB r.ids ++ (vput r.n.toNat ++ nmB r.new)
  else vput r.n.toNat
/-- A record's bytes. -/
def recB (r : RecD) : List UInt8 := UInt8.ofNat r.kind.toNat :: tailB r
def putV (r : RecD) : List UInt8 × Int := if checkR r then if 65536 < (recB r).length then ([], 3) else (recB r, 0) else ([], 190)
theorem check_parts {r : RecD} (h : checkR r = true) : shapedR r = true ∧ rise (r.new.map nid) = true ∧ rise r.ids = true ∧ r.pts.length ≤ 4096 ∧ r.new.all nmOk = true ∧ r.pts.all ptOk = true := by
  simp only [checkR, Bool.and_eq_true, decide_eq_true_eq] at h
  obtain ⟨⟨⟨h1, h2, h3, h4⟩, h5⟩, h6⟩ := h
  exact ⟨h1, h2, h3, by omega, h5, h6⟩
theorem shaped_kind {r : RecD} (h : shapedR r = true) : 1 ≤ r.kind ∧ r.kind ≤ 6 := by
  unfold shapedR at h
  by_cases k1 : r.kind = 1
  · omega
  by_cases k2 : r.kind = 2
  · omega
  by_cases k3 : r.kind = 3
  · omega
  by_cases k4 : r.kind = 4
  · omega
  by_cases k6 : r.kind = 6
  · omega
  by_cases k5 : r.kind = 5
  · omega
  simp only [k1, k2, k3, k4, k5, k6, if_false] at h
  exact absurd h (by simp)
theorem shaped_2 {r : RecD} (h : shapedR r = true) (k : r.kind = 2) : 0 ≤ r.rng.1 ∧ r.rng.1 ≤ r.rng.2 ∧ r.rng.2 ≤ 35184372088832 := by
  unfold shapedR at h
  have : ¬ ((2 : Int) = 1) := by decide
  simp only [k, this, if_false, if_true, Bool.and_eq_true, tmOk_iff, decide_eq_true_eq] at h
  obtain ⟨_, _, _, ⟨⟨h1, h2⟩, h3, h4⟩, h5⟩ := h
  exact ⟨h1, h5, h4⟩
theorem bld147 (m : Nat) (xs : List UInt8) : buildD Try.prog 147 [(0, sl by' m xs)] = some (.agg #[sl by' m xs]) := by kernel_rfl
theorem bx_w (s : SH) (m : Nat) (xs : List UInt8) : boxD s (.agg #[sl by' m xs]) = some (pr s.n, newD s (.row [sl by' m xs])) := box_at rfl rfl
theorem c43 {n : Nat} {s : SH} (r : RecD) (w : WfR r) : ∃ m s', callD Try.prog AB (n + 10) (.fn 43) [.agg (enR r).toArray] s = some [(.tuple #[sl by' m (putV r).1, .int .i64 (putV r).2], s')] ∧ Sm s.n s s' := by
  rw [call_fn (fn := Try.f43) rfl rfl (by kernel_rfl)]
  suffices h : One (bodyD Try.prog false (callD Try.prog AB (n + 9)) AB.N 43 Try.f43 [.agg (enR r).toArray] s) fun v s' => (∃ m, v = .tuple #[sl by' m (putV r).1, .int .i64 (putV r).2]) ∧ Sm s.n s s' by
    obtain ⟨v, s', e, ⟨m, rfl⟩, h⟩ := h
    exact ⟨m, s', e, h⟩
  rw [f43_r]
  have g0 : HP.get (newD s (.row (enR r))).h s.n = some (.row (enR r)) := get_new rfl
  have m0 : Sm s.n s (newD s (.row (enR r))) := (Sm.refl s.n s).new (Nat.le_refl _) _
  have h95 := c95 (n := n + 3) (s := newD s (.row (enR r))) r w.small w.labs
  simp only [f43, o_bool, o_alloc, o_box, o_build, o_buildSlice, o_load, o_store, o_nilCheck, o_bop, o_uop, o_conv, o_slc, o_fieldAddr, o_field, o_indexAddr, o_index, o_extract, o_lookup, o_mapUpdate, o_makeMap, o_mapEntry, o_entryStore, o_delete, o_len, o_append, o_min, o_max, o_tgt, bindS, many1, jnE, boolS, gdB, fst', snd', bx_r, lr g0, h95, b_neq]
  unfold putV
  cases hc : checkR r with
  | false =>
    have : ¬ ((190 : Int) = 0) := by decide
    simp only [Bool.false_eq_true, if_false, this, decide_false, Bool.not_false, condT]
    exact One.ret ⟨⟨2, rfl⟩, m0⟩
  | true =>
  obtain ⟨hs, hr1, hr2, hp4, ho1, ho2⟩ := check_parts hc
  have hk := shaped_kind hs
  have hwk : IntKind.u8.wrap r.kind = (((UInt8.ofNat r.kind.toNat).toNat : Nat) : Int) := by
    rw [← wrap_u8, Int.toNat_of_nonneg (by omega)]
  have q1 : HP.get (newD (newD s (.row (enR r))) (.row [sl by' 1 [UInt8.ofNat r.kind.toNat]])).h (s.n + 1) = some (.row [sl by' 1 [UInt8.ofNat r.kind.toNat]]) := get_new (by rw [newD_n])
  have q0 : HP.get (newD (newD s (.row (enR r))) (.row [sl by' 1 [UInt8.ofNat r.kind.toNat]])).h s.n = some (.row (enR r)) := by rw [get_old (by rw [newD_n]; omega), g0]
  have m1 : Sm s.n s (newD (newD s (.row (enR r))) (.row [sl by' 1 [UInt8.ofNat r.kind.toNat]])) := m0.new (by rw [newD_n]; omega) _
  have hn : s.n + 2 ≤ (newD (newD s (.row (enR r))) (.row [sl by' 1 [UInt8.ofNat r.kind.toNat]])).n := by rw [newD_n, newD_n]; omega
  simp only [if_true, decide_true, Bool.not_true, condF, fld72_0, lr0 g0, o_bool, o_alloc, o_box, o_build, o_buildSlice, o_load, o_store, o_nilCheck, o_bop, o_uop, o_conv, o_slc, o_fieldAddr, o_field, o_indexAddr, o_index, o_extract, o_lookup, o_mapUpdate, o_makeMap, o_mapEntry, o_entryStore, o_delete, o_len, o_append, o_min, o_max, o_tgt, bindS, many1, jnE, boolS, gdB, fst', snd', conv_int u3 u5, hwk, bs35, bld147, bx_w, newD_n]
  simp only [lr0 q0, o_bool, o_alloc, o_box, o_build, o_buildSlice, o_load, o_store, o_nilCheck, o_bop, o_uop, o_conv, o_slc, o_fieldAddr, o_field, o_indexAddr, o_index, o_extract, o_lookup, o_mapUpdate, o_makeMap, o_mapEntry, o_entryStore, o_delete, o_len, o_append, o_min, o_max, o_tgt, bindS, many1, jnE, boolS, gdB, fst', snd', bop_eql]
  generalize newD (newD s (.row (enR r))) (.row [sl by' 1 [UInt8.ofNat r.kind.toNat]]) = s1 at q0 q1 m1 hn
  have hq : s.n + 1 < s1.n := by omega
  have fin : ∀ (s' : SH) (bs : List UInt8), Wq (s.n + 1) s1 s' bs → bs = recB r → One ((nilCheckD (pr (s.n + 1))).bind fun v82 =>
      (fieldAddrD Try.prog 147 v82 0).bind fun v83 =>
      (loadD Try.prog s' 35 v83).bind fun v84 =>
      (lenOfD Try.prog s' 35 v84).bind fun v85 =>
      (bopD Try.prog .gtr 3 v85 (.int .i64 65536)).bind fun v86 =>
      (boolD v86).bind fun b87 => cond b87 (
      some [(.tuple #[(fzV 2 #[]), (.int .i64 3)], s')]) (
      (nilCheckD (pr (s.n + 1))).bind fun v88 =>
      (fieldAddrD Try.prog 147 v88 0).bind fun v89 =>
      (loadD Try.prog s' 35 v89).bind fun v90 =>
      some [(.tuple #[v90, (.int .i64 0)], s')])) fun v s' => (∃ m, v = .tuple #[sl by' m (if 65536 < (recB r).length then ([], (3 : Int)) else (recB r, 0)).1, .int .i64 (if 65536 < (recB r).length then (([] : List UInt8), (3 : Int)) else (recB r, 0)).2]) ∧ Sm s.n s s' := by
    intro s' bs hw hbs
    subst hbs
    obtain ⟨m, hg⟩ := hw.2.2
    have hsm : Sm s.n s s' := ⟨Nat.le_trans m1.1 hw.1, fun j hj => by rw [hw.2.1 j (by have := m1.1; omega) (by omega), m1.2 j hj]⟩
    simp only [nc, bindS, fld147_0, ld35 hg, len_sl u35, bop_gtr, boolS]
    by_cases h : 65536 < (recB r).length
    · have h' : ((recB r).length : Int) > 65536 := by omega
      simp only [h', decide_true, condT, h, if_true]
      exact One.ret ⟨⟨2, rfl⟩, hsm⟩
    · have h' : ¬ ((recB r).length : Int) > 65536 := by omega
      simp only [h', decide_false, condF, h, if_false]
      exact One.ret ⟨⟨m, rfl⟩, hsm⟩
  have keep : ∀ (s' : SH) (bs : List UInt8), Wq (s.n + 1) s1 s' bs → HP.get s'.h s.n = some (.row (enR r)) := fun s' bs hw => by rw [hw.2.1 _ (by omega) (by omega), q0]
  have hl1 : r.new.length ≤ 4096 := by
    simp only [rise, Bool.and_eq_true, decide_eq_true_eq, List.length_map] at hr1; exact hr1.2
  have hl2 : r.ids.length ≤ 4096 := by
    simp only [rise, Bool.and_eq_true, decide_eq_true_eq] at hr2; exact hr2.2
  have ln1 : (nmB r.new).length ≤ 30000000 := by
    have : ∀ (l : List Nm) (last : Int), (∀ a ∈ l, U64 a.1) → (∀ a ∈ l, okL a.2.2 = true) → 0 ≤ last → (nmGo last l).length ≤ 6010 * l.length := by
      intro l
      induction l with
      | nil => intro last _ _ _; simp [nmGo]
      | cons a l ih =>
        intro last h1 h2 h3
        rw [nm_cons]
        have u := h1 a (List.mem_cons_self ..)
        have k1 := vput_len10 (x := (a.1 - last).toNat) (by have := u.2; have := u.1; omega)
        have k2 := lput_len (h2 a (List.mem_cons_self ..))
        have k3 := ih a.1 (fun b hb => h1 b (List.mem_cons_of_mem _ hb)) (fun b hb => h2 b (List.mem_cons_of_mem _ hb)) u.1
        simp only [List.length_append, List.length_cons]; omega
    have k := this r.new 0 w.uN (fun a ha => List.all_eq_true.1 ho1 a ha) (by omega)
    have k1 := vput_len10 (x := r.new.length) (by omega)
    unfold nmB
    rw [List.length_append]; omega
  have li1 : (idsB r.ids).length ≤ 100000 := by
    have : ∀ (l : List Int) (last : Int), (∀ a ∈ l, U64 a) → 0 ≤ last → (idsGo last l).length ≤ 10 * l.length := by
      intro l
      induction l with
      | nil => intro last _ _; simp [idsGo]
      | cons a l ih =>
        intro last h1 h3
        rw [ids_cons]
        have u := h1 a (List.mem_cons_self ..)
        have k1 := vput_len10 (x := (a - last).toNat) (by have := u.2; have := u.1; omega)
        have k3 := ih a (fun b hb => h1 b (List.mem_cons_of_mem _ hb)) u.1
        simp only [List.length_append, List.length_cons]; omega
    have k := this r.ids 0 w.uI (by omega)
    have k1 := vput_len10 (x := r.ids.length) (by omega)
    unfold idsB
    rw [List.length_append]; omega
  by_cases k1 : r.kind = 1
  · simp only [k1, decide_true, condT, fld72_1, lr1 q0, o_bool, o_alloc, o_box, o_build, o_buildSlice, o_load, o_store, o_nilCheck, o_bop, o_uop, o_conv, o_slc, o_fieldAddr, o_field, o_indexAddr, o_index, o_extract, o_lookup, o_mapUpdate, o_makeMap, o_mapEntry, o_entryStore, o_delete, o_len, o_append, o_min, o_max, o_tgt, bindS, many1, jnE, boolS, gdB, fst', snd']
    obtain ⟨s2, e2, w2⟩ := c96 (n := n + 1) (m := 1) (m' := r.mN) (q := s.n + 1) (s := s1) (bs := [UInt8.ofNat r.kind.toNat]) r.new hq q1 hr1 w.uN ho1 (by simp only [List.length_singleton]; omega)
    obtain ⟨m2, hg2⟩ := w2.2.2
    obtain ⟨s3, e3, w3⟩ := c97 (n := n + 4) (m := m2) (m' := r.mP) (q := s.n + 1) (s := s2) (bs := [UInt8.ofNat r.kind.toNat] ++ nmB r.new) r.pts (by have := w2.1; omega) hg2 hp4 w.uP ho2 (by rw [List.length_append]; simp only [List.length_singleton]; omega)
    simp only [e2, o_bool, o_alloc, o_box, o_build, o_buildSlice, o_load, o_store, o_nilCheck, o_bop, o_uop, o_conv, o_slc, o_fieldAddr, o_field, o_indexAddr, o_index, o_extract, o_lookup, o_mapUpdate, o_makeMap, o_mapEntry, o_entryStore, o_delete, o_len, o_append, o_min, o_max, o_tgt, bindS, many1, jnE, boolS, gdB, fst', snd', fld72_2, lr2 (keep _ _ w2), e3]
    exact fin s3 _ (w2.trans w3) (by unfold recB tailB; rw [if_pos k1]; simp)
  by_cases k2 : r.kind = 2
  · obtain ⟨t0, t1, t2⟩ := shaped_2 hs k2
    have ww1 : IntKind.u64.wrap r.rng.1 = r.rng.1 := wrap_u64 (by omega) (by omega)
    have ww2 : IntKind.i64.wrap (r.rng.2 - r.rng.1) = r.rng.2 - r.rng.1 := wrap_i64 (by omega) (by omega)
    have ww3 : IntKind.u64.wrap (r.rng.2 - r.rng.1) = r.rng.2 - r.rng.1 := wrap_u64 (by omega) (by omega)
    have n1 : ¬ ((2 : Int) = 1) := by decide
    obtain ⟨s2, e2, w2⟩ := c98 (n := n + 3) (m := 1) (m' := r.mI) (q := s.n + 1) (s := s1) (bs := [UInt8.ofNat r.kind.toNat]) r.ids hq q1 hr2 w.uI (by simp only [List.length_singleton]; omega)
    obtain ⟨m2, hg2⟩ := w2.2.2
    obtain ⟨s3, e3, w3⟩ := c99 (n := n + 5) (m := m2) (q := s.n + 1) (s := s2) (bs := [UInt8.ofNat r.kind.toNat] ++ idsB r.ids) (by have := w2.1; omega) hg2 r.rng.1 (by omega) (by omega) (by rw [List.length_append]; simp only [List.length_singleton]; omega)
    obtain ⟨m3, hg3⟩ := w3.2.2
    have kk := vput_len10 (x := r.rng.1.toNat) (by omega)
    obtain ⟨s4, e4, w4⟩ := c99 (n := n + 5) (m := m3) (q := s.n + 1) (s := s3) (bs := [UInt8.ofNat r.kind.toNat] ++ idsB r.ids ++ vput r.rng.1.toNat) (by have := w2.1; have := w3.1; omega) hg3 (r.rng.2 - r.rng.1) (by omega) (by omega) (by simp only [List.length_append, List.length_singleton]; omega)
    simp only [k2, n1, decide_true, decide_false, condT, condF, fld72_3, lr3 q0, o_bool, o_alloc, o_box, o_build, o_buildSlice, o_load, o_store, o_nilCheck, o_bop, o_uop, o_conv, o_slc, o_fieldAddr, o_field, o_indexAddr, o_index, o_extract, o_lookup, o_mapUpdate, o_makeMap, o_mapEntry, o_entryStore, o_delete, o_len, o_append, o_min, o_max, o_tgt, bindS, many1, jnE, boolS, gdB, fst', snd', e2, fld72_4, flo69_0, flo69_1, lr4a (keep _ _ w2), conv_int u3 u70, ww1, e3, lr4a (keep _ _ (w2.trans w3)), lr4b (keep _ _ (w2.trans w3)), b_sub, ww2, ww3, e4]
    exact fin s4 _ ((w2.trans w3).trans w4) (by unfold recB tailB; rw [if_neg k1, if_pos k2]; simp [List.append_assoc])
  by_cases k3 : r.kind = 3
  · have n1 : ¬ ((3 : Int) = 1) := by decide
    have n2 : ¬ ((3 : Int) = 2) := by decide
    obtain ⟨s2, e2, w2⟩ := c96 (n := n + 1) (m := 1) (m' := r.mN) (q := s.n + 1) (s := s1) (bs := [UInt8.ofNat r.kind.toNat]) r.new hq q1 hr1 w.uN ho1 (by simp only [List.length_singleton]; omega)
    simp only [k3, n1, n2, decide_true, decide_false, condT, condF, fld72_1, lr1 q0, o_bool, o_alloc, o_box, o_build, o_buildSlice, o_load, o_store, o_nilCheck, o_bop, o_uop, o_conv, o_slc, o_fieldAddr, o_field, o_indexAddr, o_index, o_extract, o_lookup, o_mapUpdate, o_makeMap, o_mapEntry, o_entryStore, o_delete, o_len, o_append, o_min, o_max, o_tgt, bindS, many1, jnE, boolS, gdB, fst', snd', e2]
    exact fin s2 _ w2 (by unfold recB tailB; rw [if_neg k1, if_neg k2, if_pos k3]; simp)
  by_cases k4 : r.kind = 4
  · have n1 : ¬ ((4 : Int) = 1) := by decide
    have n2 : ¬ ((4 : Int) = 2) := by decide
    have n3 : ¬ ((4 : Int) = 3) := by decide
    obtain ⟨s2, e2, w2⟩ := c98 (n := n + 3) (m := 1) (m' := r.mI) (q := s.n + 1) (s := s1) (bs := [UInt8.ofNat r.kind.toNat]) r.ids hq q1 hr2 w.uI (by simp only [List.length_singleton]; omega)
    obtain ⟨m2, hg2⟩ := w2.2.2
    obtain ⟨u0, u1⟩ := w.un
    obtain ⟨s3, e3, w3⟩ := c99 (n := n + 5) (m := m2) (q := s.n + 1) (s := s2) (bs := [UInt8.ofNat r.kind.toNat] ++ idsB r.ids) (by have := w2.1; omega) hg2 r.n u0 u1 (by rw [List.length_append]; simp only [List.length_singleton]; omega)
    obtain ⟨m3, hg3⟩ := w3.2.2
    have kk := vput_len10 (x := r.n.toNat) (by omega)
    obtain ⟨s4, e4, w4⟩ := c96 (n := n + 1) (m := m3) (m' := r.mN) (q := s.n + 1) (s := s3) (bs := [UInt8.ofNat r.kind.toNat] ++ idsB r.ids ++ vput r.n.toNat) r.new (by have := w2.1; have := w3.1; omega) hg3 hr1 w.uN ho1 (by simp only [List.length_append, List.length_singleton]; omega)
    simp only [k4, n1, n2, n3, decide_true, decide_false, condT, condF, fld72_3, lr3 q0, o_bool, o_alloc, o_box, o_build, o_buildSlice, o_load, o_store, o_nilCheck, o_bop, o_uop, o_conv, o_slc, o_fieldAddr, o_field, o_indexAddr, o_index, o_extract, o_lookup, o_mapUpdate, o_makeMap, o_mapEntry, o_entryStore, o_delete, o_len, o_append, o_min, o_max, o_tgt, bindS, many1, jnE, boolS, gdB, fst', snd', e2, fld72_5, lr5 (keep _ _ w2), e3, fld72_1, lr1 (keep _ _ (w2.trans w3)), e4]
    exact fin s4 _ ((w2.trans w3).trans w4) (by unfold recB tailB; rw [if_neg k1, if_neg k2, if_neg k3, if_pos k4]; simp [List.append_assoc])
  · obtain ⟨u0, u1⟩ := w.un
    obtain ⟨s2, e2, w2⟩ := c99 (n := n + 5) (m := 1) (q := s.n + 1) (s := s1) (bs := [UInt8.ofNat r.kind.toNat]) hq q1 r.n u0 u1 (by simp only [List.length_singleton]; omega)
    simp only [k1, k2, k3, k4, decide_false, condF, fld72_5, lr5 q0, o_bool, o_alloc, o_box, o_build, o_buildSlice, o_load, o_store, o_nilCheck, o_bop, o_uop, o_conv, o_slc, o_fieldAddr, o_field, o_indexAddr, o_index, o_extract, o_lookup, o_mapUpdate, o_makeMap, o_mapEntry, o_entryStore, o_delete, o_len, o_append, o_min, o_max, o_tgt, bindS, many1, jnE, boolS, gdB, fst', snd', e2]
    exact fin s2 _ w2 (by unfold recB tailB; rw [if_neg k1, if_neg k2, if_neg k3, if_neg k4]; simp)
end Go.Proofs.Ytmhmbmogodofeaa.S
