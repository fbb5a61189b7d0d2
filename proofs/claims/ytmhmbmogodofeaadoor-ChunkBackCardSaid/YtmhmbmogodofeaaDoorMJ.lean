import Derived.Test.YtmhmbmogodofeaaDoorMI
set_option autoImplicit false
set_option linter.unusedVariables false
set_option linter.unusedSimpArgs false
set_option maxRecDepth 100000
namespace Go.Proofs.YtmhmbmogodofeaaDoor.S
open Go.FS Go.RowKit
attribute [local congr] bind_cg cond_cg gd_cg

/-! Rising samples. -/
def iz (a : Int) : List Value := [I a]
theorem iz_len (a : Int) : (iz a).length = 1 := rfl
theorem ld_iz {s : SH} (a : Int) : loadD Tryd.prog s 3 (fpV (iz a).toArray 0) = some (I a) := by rw [load_fp, part_one a3]; rfl
theorem bs24_0n (s : SH) : buildSliceD Tryd.prog false s 24 0 [] = some (sl sn 1 [], s) := by kernel_rfl
theorem ld_sn {s : SH} (a : Nat × Nat) : loadD Tryd.prog s 40 (fpV (sn a).toArray 0) = some (sv a.1 a.2) := by rw [load_fp, part_agg a40 z40 (l := sn a) rfl rfl]; rfl
theorem ldf_sn {s : SH} (a : Nat × Nat) : loadD Tryd.prog s 3 (fpV (sn a).toArray 0) = some (I a.1) := by rw [load_fp, part_one a3]; rfl
theorem sn_neq (a : Nat × Nat) : bopD Tryd.prog .neq 40 (sv a.1 a.2) (sv a.1 a.2) = some (.bool false) := by
  refine (bop_agg (P := Tryd.prog) (d := 4) (t := 40) (a := #[I (a.1 : Int), U (a.2 : Int)]) (b := #[I (a.1 : Int), U (a.2 : Int)]) (r := true) (by decide) (by kernel_rfl) rfl rfl ?_).2
  have : eqS Tryd.prog 4 40 (.agg #[I (a.1 : Int), U (a.2 : Int)]) (.agg #[I (a.1 : Int), U (a.2 : Int)]) = cond ((a.1 : Int) == a.1) (cond ((a.2 : Int) == a.2) (some true) (some false)) (some false) := by kernel_rfl
  rw [this]; simp
theorem c11 {n m m' : Nat} {s : SH} (xs : List (Nat × Nat)) (hl : xs.length < 2 ^ 62) : callD Tryd.prog AB (n + 1) (.fn 11) [sl sn m xs, sl sn m' xs] s = some [(.bool true, s)] := by
  rw [call_fn (fn := Tryd.f11) rfl rfl (by kernel_rfl)]
  suffices h : One (bodyD Tryd.prog false (callD Tryd.prog AB n) AB.N 11 Tryd.f11 [sl sn m xs, sl sn m' xs] s) fun v s' => v = .bool true ∧ s' = s by
    obtain ⟨v, s', e, rfl, rfl⟩ := h
    exact e
  rw [f11_r]
  simp only [f11, oa, ob, oc, od, oe, of, og, oh, oi, oj, ok, ol, om, on, oo, op, oq, or, os, ot, ou, ov, ow, ox, oy, oz, oA, oB, oC, bindS, many1, jnE, boolS, gdB, fst', snd', len_sl u24, b_neq, decide_true, Bool.not_true, condF]
  refine list_one xs (fun i (x : Value × Value) (s' : SH) => s' = s ∧ x.2 = I i) ?_ ?_ ⟨rfl, rfl⟩ (by show xs.length < 2 ^ 64; omega)
  · rintro i hi ⟨x1, x2⟩ s' ⟨rfl, h2⟩ nx hnx
    simp only at h2
    subst h2
    have hlt : (i : Int) < xs.length := by omega
    have hw : IntKind.i64.wrap ((i : Int) + 1) = ((i + 1 : Nat) : Int) := by rw [wrap_i64 (by omega) (by omega)]; rfl
    simp only [f11_l0, oa, ob, oc, od, oe, of, og, oh, oi, oj, ok, ol, om, on, oo, op, oq, or, os, ot, ou, ov, ow, ox, oy, oz, oA, oB, oC, bindS, many1, jnE, boolS, gdB, fst', snd', len_sl u24, bop_lss, hlt, decide_true, condT, ixs24 sn_len hi, ld_sn, sn_neq, condF, bop_add, hw]
    exact hnx (_, _) _ ⟨rfl, rfl⟩
  · rintro ⟨x1, x2⟩ s' ⟨rfl, h2⟩ nx
    simp only at h2
    subst h2
    have hnlt : ¬ ((xs.length : Int) < xs.length) := by omega
    simp only [f11_l0, oa, ob, oc, od, oe, of, og, oh, oi, oj, ok, ol, om, on, oo, op, oq, or, os, ot, ou, ov, ow, ox, oy, oz, oA, oB, oC, bindS, many1, jnE, boolS, gdB, fst', snd', len_sl u24, bop_lss, hnlt, decide_false, condF, beq_yes, condT]
    exact One.ret ⟨rfl, rfl⟩
theorem c25 {n : Nat} {s : SH} (a : Int) (L : Nat) (h0 : 1 ≤ L) (h1 : L < 2 ^ 46) : ∃ j : Nat, j < L ∧ callD Tryd.prog AB (n + 1) (.fn 25) [.int .i64 a, .int .i64 (L : Int)] s = some [(.int .i64 (j : Int), s)] := by
  have ha : IntKind.u64.wrap a = a % 18446744073709551616 := by rw [wrap_us rfl]; rfl
  have hl : IntKind.u64.wrap (L : Int) = (L : Int) := wrap_u64 (by omega) (by omega)
  have hm0 : 0 ≤ a % 18446744073709551616 := by omega
  have ht : (a % 18446744073709551616).tmod (L : Int) = (a % 18446744073709551616) % (L : Int) := Int.tmod_eq_emod_of_nonneg hm0
  have b1 : 0 ≤ (a % 18446744073709551616) % (L : Int) := Int.emod_nonneg _ (by omega)
  have b2 : (a % 18446744073709551616) % (L : Int) < (L : Int) := Int.emod_lt_of_pos _ (by omega)
  refine ⟨((a % 18446744073709551616) % (L : Int)).toNat, by omega, ?_⟩
  have hj : ((((a % 18446744073709551616) % (L : Int)).toNat : Nat) : Int) = (a % 18446744073709551616) % (L : Int) := Int.toNat_of_nonneg b1
  rw [call_fn (fn := Tryd.f25) rfl rfl (by kernel_rfl)]
  show bodyD Tryd.prog false _ _ 25 Tryd.f25 _ s = _
  rw [f25_r]
  have hng : ¬ ((L : Int) < 1) := by omega
  have hw : IntKind.i64.wrap ((a % 18446744073709551616) % (L : Int)) = (a % 18446744073709551616) % (L : Int) := wrap_i64 (by omega) (by omega)
  simp only [f25, oa, ob, oc, od, oe, of, og, oh, oi, oj, ok, ol, om, on, oo, op, oq, or, os, ot, ou, ov, ow, ox, oy, oz, oA, oB, oC, bindS, many1, jnE, boolS, gdB, fst', snd', bop_lss, hng, decide_false, condF, conv_int u3 u38, conv_int u38 u3, ha, hl, b_rem 38 .u64 _ (L : Int) (show (L : Int) ≠ 0 by omega), ht, hw, hj]
/-- Samples that rise below a time. -/
def Good (T : Nat) (r : List (Nat × Nat)) : Prop := r.Pairwise (fun a b => a.1 < b.1) ∧ ∀ x ∈ r, x.1 < T ∧ x.2 < 2 ^ 64
theorem Good.snoc {T T' : Nat} {r : List (Nat × Nat)} (h : Good T r) (hT : T < T') (w : Nat) (hw : w < 2 ^ 64) : Good T' (r ++ [(T, w)]) := by
  obtain ⟨h1, h2⟩ := h
  refine ⟨List.pairwise_append.2 ⟨h1, List.pairwise_singleton .., fun a ha b hb => ?_⟩, fun x hx => ?_⟩
  · simp only [List.mem_singleton] at hb
    subst hb
    exact (h2 a ha).1
  · rcases List.mem_append.1 hx with hx | hx
    · exact ⟨Nat.lt_trans (h2 x hx).1 hT, (h2 x hx).2⟩
    · simp only [List.mem_singleton] at hx
      subst hx
      exact ⟨hT, hw⟩
theorem Good.mono {T T' : Nat} {r : List (Nat × Nat)} (h : Good T r) (hT : T ≤ T') : Good T' r := ⟨h.1, fun x hx => ⟨Nat.lt_of_lt_of_le (h.2 x hx).1 hT, (h.2 x hx).2⟩⟩
theorem c21 {n m1 m2 : Nat} {s : SH} (a : Int) (l : List Int) (v : List Nat) (hvv : ∀ x ∈ v, x < 2 ^ 64) : ∃ m' s' r, callD Tryd.prog AB (n + 2) (.fn 21) [.int .i64 a, sl iz m1 l, sl u6 m2 v] s = some [(sl sn m' r, s')] ∧ Sm s.n s s' ∧ Good 1000000000 r ∧ r.length ≤ 300 := by
  rw [call_fn (fn := Tryd.f21) rfl rfl (by kernel_rfl)]
  suffices h : One (bodyD Tryd.prog false (callD Tryd.prog AB (n + 1)) AB.N 21 Tryd.f21 [.int .i64 a, sl iz m1 l, sl u6 m2 v] s) fun w s' => Sm s.n s s' ∧ ∃ r, Grow s.n 2 sn s' w r ∧ Good 1000000000 r ∧ r.length ≤ 300 by
    obtain ⟨w, s', e, h1, r, h2, h3, h4⟩ := h
    obtain ⟨mm, rfl⟩ := Grow.form h2
    exact ⟨mm, s', r, e, h1, h3, h4⟩
  rw [f21_r]
  obtain ⟨j0, hj0, e0⟩ := c25 (n := n) (s := s) a 1000000 (by decide) (by decide)
  have e0 : callD Tryd.prog AB (n + 1) (.fn 25) [.int .i64 a, .int .i64 1000000] s = some [(.int .i64 (j0 : Int), s)] := e0
  simp only [f21, oa, ob, oc, od, oe, of, og, oh, oi, oj, ok, ol, om, on, oo, op, oq, or, os, ot, ou, ov, ow, ox, oy, oz, oA, oB, oC, bindS, many1, jnE, boolS, gdB, fst', snd', e0, bs24_0n]
  refine list_one (l.take 300) (fun i (x : Value × Value × Value × Value) (s' : SH) => Sm s.n s s' ∧ x.2.2.1 = I i ∧ ∃ (T : Nat) (r : List (Nat × Nat)), x.1 = I (T : Int) ∧ T ≤ 1000000 + i * 100000 ∧ Grow s.n 2 sn s' x.2.1 r ∧ Good T r ∧ r.length = i) ?_ ?_ ⟨.refl _ _, rfl, j0, [], rfl, by omega, .inl ⟨rfl, .inr rfl⟩, ⟨List.Pairwise.nil, fun _ h => (List.not_mem_nil h).elim⟩, rfl⟩ (by rw [List.length_take]; show min 300 l.length < 2 ^ 64; omega)
  · rintro i hi ⟨x1, x2, x3, x4⟩ s' ⟨hsm, h2, T, r, h1, hT, hg, hG, hr⟩ nx hnx
    simp only at h1 h2 hg
    subst h1 h2
    rw [List.length_take] at hi
    have hi1 : i < l.length := by omega
    have hlt : (i : Int) < l.length := by omega
    have hlt2 : (i : Int) < 300 := by omega
    have hw : IntKind.i64.wrap ((i : Int) + 1) = ((i + 1 : Nat) : Int) := by rw [wrap_i64 (by omega) (by omega)]; rfl
    -- what is the same whatever the value
    have rest : ∀ (w : Nat) (y : Value), y = U (w : Int) → w < 2 ^ 64 → One ((buildD Tryd.prog 40 [(0, I (T : Int)), (1, y)]).bind fun v53 =>
        (buildSliceD Tryd.prog false s' 24 1 [(0, v53)]).bind fun p54 =>
        (appD Tryd.prog false p54.2 24 24 x2 p54.1).bind fun p55 =>
        (loadD Tryd.prog p55.2 3 (fpV (iz l[i]).toArray 0)).bind fun v57 =>
        (callD Tryd.prog AB (n + 1) (.fn 25) [v57, .int .i64 100000] p55.2).bind fun L58 => manyK L58 fun v59 s60 =>
        (bopD Tryd.prog .add 3 (.int .i64 1) v59).bind fun v61 =>
        (bopD Tryd.prog .add 3 (.int .i64 (T : Int)) v61).bind fun v62 =>
        nx (v62, p55.1, .int .i64 ((i + 1 : Nat) : Int), y) s60) fun w s' => Sm s.n s s' ∧ ∃ r, Grow s.n 2 sn s' w r ∧ Good 1000000000 r ∧ r.length ≤ 300 := by
      rintro w y rfl hwl
      obtain ⟨v', s3, e1, w1, w2, w3⟩ := gapp24n (m2 := 1) (ys := [(T, w)]) hg hsm.1 (by simp only [List.length_singleton]; omega)
      obtain ⟨j, hj, e2⟩ := c25 (n := n) (s := s3) l[i] 100000 (by decide) (by decide)
      have e2 : callD Tryd.prog AB (n + 1) (.fn 25) [.int .i64 l[i], .int .i64 100000] s3 = some [(.int .i64 (j : Int), s3)] := e2
      have k1 : IntKind.i64.wrap ((1 : Int) + (j : Int)) = (1 + j : Int) := wrap_i64 (by omega) (by omega)
      have k2 : IntKind.i64.wrap ((T : Int) + (1 + j : Int)) = ((T + (1 + j) : Nat) : Int) := by rw [wrap_i64 (by omega) (by omega)]; omega
      have bs : buildSliceD Tryd.prog false s' 24 1 [(0, sv (T : Int) w)] = some (sl sn 1 [(T, w)], s') := bs24n s' (T, w)
      simp only [bl40, bs, bindS, e1, ld_iz, e2, many1, bop_add, k1, k2]
      exact hnx (_, _, _, _) _ ⟨hsm.trans w2, rfl, T + (1 + j), r ++ [(T, w)], rfl, by omega, w1, hG.snoc (by omega) w hwl, by rw [List.length_append, hr]; rfl⟩
    have hcv : convertD Tryd.prog false s' 3 38 (.int .i64 (i : Int)) = some (U (i : Int), s') := by rw [conv_int u3 u38, wrap_u64 (by omega) (by omega)]
    simp only [f21_l0, oa, ob, oc, od, oe, of, og, oh, oi, oj, ok, ol, om, on, oo, op, oq, or, os, ot, ou, ov, ow, ox, oy, oz, oA, oB, oC, bindS, many1, jnE, boolS, gdB, fst', snd', len_sl u45, len_sl u46, bop_lss, hlt, hlt2, decide_true, condT, hcv, ixs45 iz_len hi1, bop_add, hw]
    by_cases hv : i < v.length
    · have hv' : (i : Int) < v.length := by omega
      simp only [hv', decide_true, condT, ixs46 u6_len hv, ld_u6, bindS]
      exact rest _ _ rfl (hvv _ (List.getElem_mem hv))
    · have hv' : ¬ ((i : Int) < v.length) := by omega
      simp only [hv', decide_false, condF]
      exact rest _ _ rfl (by omega)
  · rintro ⟨x1, x2, x3, x4⟩ s' ⟨hsm, h2, T, r, h1, hT, hg, hG, hr⟩ nx
    simp only at h1 h2 hg
    subst h1 h2
    have hle : (l.take 300).length ≤ 300 := by rw [List.length_take]; omega
    have fin : Sm s.n s s' ∧ ∃ r, Grow s.n 2 sn s' x2 r ∧ Good 1000000000 r ∧ r.length ≤ 300 := ⟨hsm, r, hg, hG.mono (by omega), by omega⟩
    rw [List.length_take] at *
    by_cases h : l.length ≤ 300
    · have hnlt : ¬ (((min 300 l.length : Nat) : Int) < l.length) := by omega
      simp only [f21_l0, oa, ob, oc, od, oe, of, og, oh, oi, oj, ok, ol, om, on, oo, op, oq, or, os, ot, ou, ov, ow, ox, oy, oz, oA, oB, oC, bindS, many1, jnE, boolS, gdB, fst', snd', len_sl u45, bop_lss, hnlt, decide_false, condF, beq_yes, condT]
      exact One.ret fin
    · have hlt : ((min 300 l.length : Nat) : Int) < l.length := by omega
      have hnlt2 : ¬ (((min 300 l.length : Nat) : Int) < 300) := by omega
      simp only [f21_l0, oa, ob, oc, od, oe, of, og, oh, oi, oj, ok, ol, om, on, oo, op, oq, or, os, ot, ou, ov, ow, ox, oy, oz, oA, oB, oC, bindS, many1, jnE, boolS, gdB, fst', snd', len_sl u45, bop_lss, hlt, hnlt2, decide_true, decide_false, condF, beq_yes, condT]
      exact One.ret fin
theorem rise_right : ∀ (l : List (Nat × Nat)) (t : TS), l.Pairwise (fun a b => a.1 < b.1) → (∀ x ∈ l, x.1 < 1000000000 ∧ x.2 < 2 ^ 64 ∧ (t.n = 0 ∨ t.last < x.1)) → Right t l
  | [], _, _, _ => trivial
  | a :: l, t, h, k => by
    obtain ⟨h1, h2⟩ := List.pairwise_cons.1 h
    obtain ⟨k1, k2, k3⟩ := k a (List.mem_cons_self ..)
    refine ⟨⟨by omega, by unfold mxT; omega, by omega⟩, k2, rise_right l _ h2 fun x hx => ?_⟩
    obtain ⟨q1, q2, q3⟩ := k x (List.mem_cons_of_mem _ hx)
    refine ⟨q1, q2, .inr ?_⟩
    have : (tnext t a.1).last = a.1 := by unfold tnext; split <;> rfl
    rw [this]
    exact h1 x hx
theorem Good.right {T : Nat} {r : List (Nat × Nat)} (h : Good T r) (hT : T ≤ 1000000000) : Right t0 r := rise_right r t0 h.1 fun x hx => ⟨Nat.lt_of_lt_of_le (h.2 x hx).1 hT, (h.2 x hx).2, .inl rfl⟩
/-! What was put is read back. -/
theorem vread_put (pre more : List UInt8) (x : Nat) (hx : x < 2 ^ 64) : vread (pre ++ (vput x ++ more)) pre.length = (x, pre.length + (vput x).length, 0) := by
  unfold vread
  rw [List.drop_left' rfl]
  have := vgo_put more x x 0 0 (Nat.le_refl _) (by rw [Nat.mul_zero, Nat.pow_zero, Nat.mul_one]; exact hx) (by omega) (fun h => absurd h (Nat.lt_irrefl _))
  rw [this]
  simp
theorem readB_put (pre post : List UInt8) (l : List (Nat × Nat)) (h1 : 1 ≤ l.length) (h2 : l.length ≤ 120) (hR : Right t0 l) (hlen : (encB t0 x0 l).length ≤ 500000) : readB (pre ++ (putC l ++ post)) (pre.length : Int) = (l, pre.length + (putC l).length, 0) := by
  have hpk := padded_pack (encB t0 x0 l)
  have hBl : (packB (encB t0 x0 l)).length ≤ 100000 := by have := hpk.2.2; omega
  have hpc : putC l = vput l.length ++ (vput (packB (encB t0 x0 l)).length ++ (packB (encB t0 x0 l) ++ leB 4 (crSum (vput l.length ++ (vput (packB (encB t0 x0 l)).length ++ packB (encB t0 x0 l)))))) := by
    unfold putC sealB; simp only [List.append_assoc]
  generalize hB : packB (encB t0 x0 l) = B at *
  generalize hcs : leB 4 (crSum (vput l.length ++ (vput B.length ++ B))) = c4 at *
  have hc4 : c4.length = 4 := by rw [← hcs]; exact leB_len _ _
  have hpl : (putC l).length = (vput l.length).length + (vput B.length).length + B.length + 4 := by
    rw [hpc]; simp only [List.length_append]; omega
  have v1 : vread (pre ++ (putC l ++ post)) pre.length = (l.length, pre.length + (vput l.length).length, 0) := by
    rw [hpc]; simp only [List.append_assoc]
    exact vread_put pre _ _ (by omega)
  have v2 : vread (pre ++ (putC l ++ post)) (pre.length + (vput l.length).length) = (B.length, pre.length + (vput l.length).length + (vput B.length).length, 0) := by
    have := vread_put (pre ++ vput l.length) (B ++ (c4 ++ post)) B.length (by omega)
    rw [List.length_append] at this
    rw [hpc]
    simp only [List.append_assoc] at this ⊢
    exact this
  have hbl : (pre ++ (putC l ++ post)).length = pre.length + (putC l).length + post.length := by simp only [List.length_append]; omega
  have ho : ((pre ++ (putC l ++ post)).take (pre.length + (vput l.length).length + (vput B.length).length + B.length + 4)).drop pre.length = putC l := by
    rw [show pre.length + (vput l.length).length + (vput B.length).length + B.length + 4 = pre.length + (putC l).length from by omega, List.take_length_add_append, List.drop_left' rfl, List.take_left' rfl]
  have hop : openB (putC l) = true := open_seal _
  have hm : ((pre ++ (putC l ++ post)).take (pre.length + (vput l.length).length + (vput B.length).length + B.length)).drop (pre.length + (vput l.length).length + (vput B.length).length) = B := by
    have e : pre ++ (putC l ++ post) = (pre ++ (vput l.length ++ vput B.length)) ++ (B ++ (c4 ++ post)) := by rw [hpc]; simp only [List.append_assoc]
    have el : (pre ++ (vput l.length ++ vput B.length)).length = pre.length + (vput l.length).length + (vput B.length).length := by simp only [List.length_append]; omega
    rw [e, ← el, List.take_length_add_append, List.drop_left' rfl, List.take_left' rfl]
  have hlk : lookB (pre ++ (putC l ++ post)) (pre.length : Int) = (l.length, pre.length + (vput l.length).length + (vput B.length).length, pre.length + (vput l.length).length + (vput B.length).length + B.length, 0) := by
    unfold lookB
    rw [if_neg (by omega), Int.toNat_natCast, v1]
    simp only
    rw [if_neg (fun h => h rfl), v2]
    simp only
    rw [if_neg (fun h => h rfl), if_neg (by omega), if_neg (by omega), ho, if_pos hop]
  unfold readB
  rw [hlk]
  simp only
  rw [if_neg (fun h => h rfl), hm, hpk.1, dec_enc l t0 x0 _ t0_ok x0_ok hR]
  simp only
  have hz : (List.replicate (B.length * 8 - (encB t0 x0 l).length) false).length < 8 ∧ valB (List.replicate (B.length * 8 - (encB t0 x0 l).length) false) = 0 := by
    rw [List.length_replicate]
    exact ⟨by have := hpk.2.2; omega, valB_zero _⟩
  rw [if_pos hz]
  congr 2
  omega
end Go.Proofs.YtmhmbmogodofeaaDoor.S

set_option autoImplicit false
set_option linter.unusedVariables false
set_option linter.unusedSimpArgs false
set_option maxRecDepth 100000
namespace Go.Proofs.YtmhmbmogodofeaaDoor.S
open Go.FS Go.RowKit
attribute [local congr] bind_cg cond_cg gd_cg

/-! slices.Chunk, chunk.Cut -/
def cuts (l : List (Nat × Nat)) : List (List (Nat × Nat)) := if h : l = [] then [] else l.take 120 :: cuts (l.drop 120)
termination_by l.length
decreasing_by
  have := List.length_pos_iff.2 h
  rw [List.length_drop]
  omega
theorem cuts_nil : cuts [] = [] := by rw [cuts]; simp
theorem cuts_cons {l : List (Nat × Nat)} (h : l ≠ []) : cuts l = l.take 120 :: cuts (l.drop 120) := by rw [cuts]; simp [h]
theorem cuts_len : ∀ (k : Nat) (l : List (Nat × Nat)), l.length ≤ k → (cuts l).length = (l.length + 119) / 120
  | 0, l, h => by
    have : l = [] := List.length_eq_zero_iff.1 (by omega)
    subst this
    rw [cuts_nil]; rfl
  | k + 1, l, h => by
    by_cases h0 : l = []
    · subst h0; rw [cuts_nil]; rfl
    · have hp := List.length_pos_iff.2 h0
      rw [cuts_cons h0, List.length_cons, cuts_len k (l.drop 120) (by rw [List.length_drop]; omega), List.length_drop]
      omega
theorem slc_max {α : Type} {enc : α → List Value} {s : SH} {m i j : Nat} {xs : List α} (hl : ∀ x, (enc x).length = 2) (hij : i ≤ j) (hj : j ≤ xs.length) :
    slcD Tryd.prog s 24 (sl enc m xs) (some (I (i : Int))) (some (I (j : Int))) (some (I (j : Int))) = some (sl enc (bif Nat.beq m 2 then 2 else 1) ((xs.take j).drop i)) := by
  have hf : fzOk 2 ((xs.map enc).map fun e => Value.agg e.toArray).toArray = true := fzOk_fz fun e he => by obtain ⟨x, _, rfl⟩ := List.mem_map.1 he; exact hl x
  have h0 : ∀ j : Nat, decide ((0 : Int) ≤ (j : Int)) = true := by simp
  have e1 : sliceD Tryd.prog 24 (sl enc m xs) (some (I (i : Int))) (some (I (j : Int))) (some (I (j : Int))) = some (sl enc (bif Nat.beq m 2 then 2 else 1) ((xs.take j).drop i)) := by
    unfold sliceD
    simp only [optInt, h0, condT, bindS, Int.toNat_natCast, u24]
    unfold sl
    simp only [fz_list, z40, bindS, hf, fz_size, List.length_map, Option.getD_some, Nat.ble_eq_true_of_le hij, Nat.ble_eq_true_of_le hj, Nat.ble_eq_true_of_le (Nat.le_refl j), Option.isSome_some, Bool.true_or, Bool.and_self, condT, beq_yes]
    cases Nat.beq m 2 <;> simp [fzV]
  unfold slcD
  rw [e1]; rfl
theorem bodied90 : bodied Tryd.prog 90 = true := by kernel_rfl
theorem c90 {n l pa pn m : Nat} {s : SH} (xs : List (Nat × Nat)) (hxs : xs.length < 2 ^ 40) (K : Nat → SH → Prop) (hK0 : K 0 s)
    (hJ : ∀ i s', K i s' → HP.get s'.h pa = some (.row [sl sn m xs]) ∧ HP.get s'.h pn = some (.row [I 120]))
    (hy : ∀ i s', i < xs.length → K i s' → ∃ s3, callD Tryd.prog AB (n + 1) (.yld l) [sl sn (bif Nat.beq m 2 then 2 else 1) ((xs.drop i).take 120)] s' = some [(.bool true, s3)] ∧ K (i + 120) s3) :
    One (callD Tryd.prog AB (n + 2) (.fn 90) [.func (.yield l) #[] #[], pt pa 0, pt pn 0] s) fun _ s' => ∃ i, xs.length ≤ i ∧ K i s' := by
  rw [call_fn (fn := Tryd.f90) rfl rfl (by kernel_rfl)]
  show One (bodyD Tryd.prog false _ _ 90 Tryd.f90 _ s) _
  rw [f90_r]
  simp only [f90, oa, ob, oc, od, oe, of, og, oh, oi, oj, ok, ol, om, on, oo, op, oq, or, os, ot, ou, ov, ow, ox, oy, oz, oA, oB, oC, bindS, many1, jnE, boolS, gdB, fst', snd']
  refine loop_rule (fun d (x : Value × Value) (s' : SH) => ∃ i : Nat, x.1 = I (i : Int) ∧ d = xs.length - i ∧ i ≤ xs.length + 120 ∧ K i s') (fun r => One r fun _ s' => ∃ i, xs.length ≤ i ∧ K i s') ?_ _ xs.length _ _ ⟨0, rfl, by omega, by omega, hK0⟩ (by show xs.length < 2 ^ 64; omega)
  rintro d ⟨x1, x2⟩ s' ⟨i, h1, hd, hi2, hK⟩ nx hnx
  simp only at h1
  subst h1
  obtain ⟨g1, g2⟩ := hJ i s' hK
  by_cases hi : i < xs.length
  · have hlt : (i : Int) < (xs.length : Int) := by omega
    obtain ⟨m1, e1⟩ := slc_from (P := Tryd.prog) (s := s') (t := 24) (m := m) (k := .i64) (xs := xs) u24 z40 sn_len (Nat.le_of_lt hi)
    have hmin : minD Tryd.prog (I 120) [I ((xs.drop i).length : Int)] = some (I ((min 120 (xs.drop i).length : Nat) : Int)) := min_nat _ _ _
    have hld : (xs.drop i).length = xs.length - i := List.length_drop
    generalize hk : min 120 (xs.drop i).length = k at hmin
    have hkl : i + k ≤ xs.length := by omega
    have hw : IntKind.i64.wrap ((i : Int) + (k : Int)) = ((i + k : Nat) : Int) := by rw [wrap_i64 (by omega) (by omega)]; omega
    have hw2 : IntKind.i64.wrap ((i : Int) + 120) = ((i + 120 : Nat) : Int) := by rw [wrap_i64 (by omega) (by omega)]; omega
    have e2 := slc_max (s := s') (m := m) (i := i) (j := i + k) (xs := xs) sn_len (by omega) hkl
    have et : (xs.take (i + k)).drop i = (xs.drop i).take 120 := by
      rw [List.drop_take, show i + k - i = k from by omega, ← hk, Nat.min_comm]
      rcases Nat.le_total (xs.drop i).length 120 with h | h
      · rw [Nat.min_eq_left h, List.take_length, List.take_of_length_le h]
      · rw [Nat.min_eq_right h]
    rw [et] at e2
    obtain ⟨s3, e3, hK3⟩ := hy i s' hi hK
    obtain ⟨_, g4⟩ := hJ _ _ hK3
    simp only [f90_l0, oa, ob, oc, od, oe, of, og, oh, oi, oj, ok, ol, om, on, oo, op, oq, or, os, ot, ou, ov, ow, ox, oy, oz, oA, oB, oC, bindS, many1, jnE, boolS, gdB, fst', snd', ld24 g1, len_sl u24, bop_lss, hlt, decide_true, condT, ld3v g2, e1, hmin, bop_add, hw, e2, tgt_yld, e3, uop_not, Bool.not_true, condF, ld3v g4, hw2]
    exact hnx (xs.length - (i + 120)) (_, _) _ (by omega) ⟨i + 120, rfl, rfl, by omega, hK3⟩
  · have hnlt : ¬ (i : Int) < (xs.length : Int) := by omega
    simp only [f90_l0, oa, ob, oc, od, oe, of, og, oh, oi, oj, ok, ol, om, on, oo, op, oq, or, os, ot, ou, ov, ow, ox, oy, oz, oA, oB, oC, bindS, many1, jnE, boolS, gdB, fst', snd', ld24 g1, len_sl u24, bop_lss, hnlt, decide_false, condF, beq_yes, condT]
    exact One.ret ⟨i, by omega, hK⟩
/-- Bytes in a slice of slices. -/
def nb (p : Nat × List UInt8) : List Value := [sl by' p.1 p.2]
theorem nb_len (p : Nat × List UInt8) : (nb p).length = 1 := rfl
theorem bs48 (s : SH) (k : Nat) (B : List UInt8) : buildSliceD Tryd.prog false s 48 1 [(0, sl by' k B)] = some (sl nb 1 [(k, B)], s) := by
  have : ∀ (k : Nat) (a : Array Value), buildSliceD Tryd.prog false s 48 1 [(0, .iface k (.tuple a))] = some (.iface 1 (.tuple #[.agg #[.iface k (.tuple a)]]), s) := fun k a => by kernel_rfl
  exact this _ _
theorem gapp48 {lo : Nat} {s : SH} {v : Value} {m2 : Nat} {xs ys : List (Nat × List UInt8)} (h : Grow lo 1 nb s v xs) (hlo : lo ≤ s.n) (hb : (xs.length + ys.length) * 24 ≤ 140737488355328) :
    ∃ v' s', appD Tryd.prog false s 48 48 v (sl nb m2 ys) = some (v', s') ∧ Grow lo 1 nb s' v' (xs ++ ys) ∧ Sm lo s s' ∧ (∀ j, j < s.n → HP.get s.h j ≠ some (.tok xs.length 1) → HP.get s'.h j = HP.get s.h j) :=
  h.app (i := Tryd.t22) hlo u48 u48 (by kernel_rfl) zr22 rfl (by kernel_rfl) (by kernel_rfl) (by decide) nb_len hb (by omega)
theorem ld48 {s : SH} {id : Nat} {v : Value} (h : HP.get s.h id = some (.row [v])) : loadD Tryd.prog s 48 (pt id 0) = some v := by rw [load_row h, part_one a48]; rfl
theorem st48 {s : SH} {id : Nat} {v w : Value} (h : HP.get s.h id = some (.row [v])) (hw : w.cells.toList = [w] ∧ oneC w = true) : storeD Tryd.prog s 48 (pt id 0) w = some (putD s id (.row [w])) := by
  rw [store_row (l := [w]) z48 h hw.1 rfl (by simp [hw.2]) (by simp)]; rfl
theorem ld25 {s : SH} {id : Nat} {v : Value} (h : HP.get s.h id = some (.row [v])) : loadD Tryd.prog s 25 (pt id 0) = some v := by rw [load_row h, part_one a25]; rfl
theorem st25 {s : SH} {id : Nat} {v : Value} {a : Int} (h : HP.get s.h id = some (.row [v])) : storeD Tryd.prog s 25 (pt id 0) (I a) = some (putD s id (.row [I a])) := by
  rw [store_row (l := [I a]) z25 h rfl rfl rfl (by simp)]; rfl
theorem st3 {s : SH} {id : Nat} {v : Value} {a : Int} (h : HP.get s.h id = some (.row [v])) : storeD Tryd.prog s 3 (pt id 0) (I a) = some (putD s id (.row [I a])) := by
  rw [store_row (l := [I a]) z3 h rfl rfl rfl (by simp)]; rfl
/-- Chunks of samples. -/
def cks (ls : List (List (Nat × Nat))) : List (Nat × List UInt8) := ls.map fun p => (0, putC p)
set_option maxHeartbeats 1600000 in
theorem c22 {n m : Nat} {s : SH} (xs : List (Nat × Nat)) (hg : Good 1000000000 xs) (hl : xs.length ≤ 300) : ∃ m' s', callD Tryd.prog AB (n + 12) (.fn 22) [sl sn m xs] s = some [(.tuple #[sl nb m' (cks (cuts xs)), I 0], s')] ∧ Sm s.n s s' := by
  rw [call_fn (fn := Tryd.f22) rfl rfl (by kernel_rfl)]
  suffices h : One (bodyD Tryd.prog false (callD Tryd.prog AB (n + 11)) AB.N 22 Tryd.f22 [sl sn m xs] s) fun w s' => ∃ m', w = .tuple #[sl nb m' (cks (cuts xs)), I 0] ∧ Sm s.n s s' by
    obtain ⟨w, s', e, m', rfl, h⟩ := h
    exact ⟨m', s', e, h⟩
  rw [f22_r]
  let s1 : SH := newD s (.row [fzV 2 #[]])
  let s2 : SH := newD s1 (.row [I 0])
  let s3 : SH := newD s2 (.row [fzV 2 #[]])
  let s4 : SH := newD s3 (.row [I (-1)])
  let s5 : SH := newD s4 (.row [sl sn m xs])
  let s6 : SH := newD s5 (.row [I 120])
  have n1 : s1.n = s.n + 1 := rfl
  have n2 : s2.n = s.n + 2 := rfl
  have n3 : s3.n = s.n + 3 := rfl
  have n4 : s4.n = s.n + 4 := rfl
  have n5 : s5.n = s.n + 5 := rfl
  have n6 : s6.n = s.n + 6 := rfl
  have b1 : allocD Tryd.prog s 48 = some (pt s.n 0, s1) := alloc_at zr48
  have b2 : allocD Tryd.prog s1 25 = some (pt s1.n 0, s2) := alloc_at zr25
  have b3 : allocD Tryd.prog s2 48 = some (pt s2.n 0, s3) := alloc_at zr48
  have b4 : allocD Tryd.prog s3 3 = some (pt s3.n 0, newD s3 (.row [I 0])) := alloc_at zr3
  have b4' : storeD Tryd.prog (newD s3 (.row [I 0])) 3 (pt s3.n 0) (I (-1)) = some s4 := by rw [st3 (get_n0 s3 _), put_new]
  have e54 : callD Tryd.prog AB (n + 11) (.fn 54) [sl sn m xs, I 120] s4 = some [(.func (.func 90) #[] #[pt s4.n 0, pt s5.n 0], s6)] := by
    rw [call_fn (fn := Tryd.f54) rfl rfl (by kernel_rfl)]
    show bodyD Tryd.prog false _ _ 54 Tryd.f54 _ s4 = _
    rw [f54_r]
    have k1 : boxD s4 (sl sn m xs) = some (pt s4.n 0, s5) := box_at rfl rfl
    have k2 : boxD s5 (I 120) = some (pt s5.n 0, s6) := box_at rfl rfl
    have k3 : loadD Tryd.prog s6 3 (pt s5.n 0) = some (I 120) := ld3v (get_n0 s5 _)
    simp only [f54, oa, ob, oc, od, oe, of, og, oh, oi, oj, ok, ol, om, on, oo, op, oq, or, os, ot, ou, ov, ow, ox, oy, oz, oA, oB, oC, bindS, many1, jnE, boolS, gdB, fst', snd', k1, k2, k3, bop_lss, show ¬ (120 : Int) < 1 from by decide, decide_false, condF]
  simp only [f22, oa, ob, oc, od, oe, of, og, oh, oi, oj, ok, ol, om, on, oo, op, oq, or, os, ot, ou, ov, ow, ox, oy, oz, oA, oB, oC, bindS, many1, jnE, boolS, gdB, fst', snd', b1, b2, b3, b4, b4', e54]
  generalize htl : [sl sn m xs, _, _, _, _, _, _, _, _, _, _, _, _, _, _, _, _, _, _, _, _, _, _, _, _, _, _, _, _, _, _, _, _, _, _, _, _, _] = tl
  have hE6 : Ext s s6 := (((ext3' s _ _ _).new _).new _).new _
  have hrun := c90 (n := n + 9) (l := s6.n) (pa := s4.n) (pn := s5.n) (m := m) (s := newD s6 (.loop 0 none 22 tl [11] (cdp Tryd.f22 [1, 1, 1, 0, 1, 0, 0]) (cdp Tryd.f22 [1, 1, 1, 0, 1, 0, 1]))) xs (by omega)
    (fun i s' => s6.n + 1 ≤ s'.n ∧ Ext s s' ∧ HP.get s'.h s6.n = some (.loop 0 none 22 tl [11] (cdp Tryd.f22 [1, 1, 1, 0, 1, 0, 0]) (cdp Tryd.f22 [1, 1, 1, 0, 1, 0, 1])) ∧ HP.get s'.h s4.n = some (.row [sl sn m xs]) ∧ HP.get s'.h s5.n = some (.row [I 120]) ∧ HP.get s'.h s.n = some (.row [fzV 2 #[]]) ∧ HP.get s'.h s1.n = some (.row [I 0]) ∧ (∃ last : Int, HP.get s'.h s3.n = some (.row [I last]) ∧ ∀ x ∈ xs.drop i, last < (x.1 : Int)) ∧ ∃ v out, HP.get s'.h s2.n = some (.row [v]) ∧ Grow s6.n 1 nb s' v (cks out) ∧ out ++ cuts (xs.drop i) = cuts xs)
    ⟨Nat.le_refl _, hE6.new _, get_n0 s6 _, get_n2 s4 _ _ _, get_n1 s5 _ _, by rw [get_old (by omega), get_old (by omega), get_old (by omega), get_old (by omega), get_old (by omega), get_old (by omega)]; exact get_n0 s _, by rw [get_old (by omega), get_old (by omega), get_old (by omega), get_old (by omega), get_old (by omega)]; exact get_n0 s1 _, ⟨-1, get_n3 s3 _ _ _ _, fun x _ => by omega⟩, _, [], by rw [get_old (by omega), get_old (by omega), get_old (by omega), get_old (by omega)]; exact get_n0 s2 _, .inl ⟨rfl, .inl rfl⟩, rfl⟩
    (fun i s' h => ⟨h.2.2.2.1, h.2.2.2.2.1⟩) ?_
  · obtain ⟨w, s7, hC, i, hi, k1, k2, k3, k4, k5, k6, k7, _, v, out, k8, k9, k10⟩ := hrun
    have htg : tgtD (.func (.func 90) #[] #[pt s4.n 0, pt s5.n 0]) [.func (.yield s6.n) #[] #[]] = some (.fn 90, [.func (.yield s6.n) #[] #[], pt s4.n 0, pt s5.n 0]) := rfl
    rw [rng_none htg bodied90 hC k3 (by decide)]
    rw [List.drop_eq_nil_of_le hi, cuts_nil, List.append_nil] at k10
    subst k10
    have l1 : loadD Tryd.prog (delD s7 s6.n) 48 (pt s2.n 0) = some v := ld48 (by rw [get_del (by omega)]; exact k8)
    have l2 : storeD Tryd.prog (delD s7 s6.n) 48 (pt s.n 0) v = some (putD (delD s7 s6.n) s.n (.row [v])) := st48 (v := fzV 2 #[]) (by rw [get_del (by omega)]; exact k6) (grow_one k9)
    have l3 : storeD Tryd.prog (putD (delD s7 s6.n) s.n (.row [v])) 25 (pt s1.n 0) (I 0) = some (putD (putD (delD s7 s6.n) s.n (.row [v])) s1.n (.row [I 0])) := st25 (v := I 0) (by rw [get_put_other (by omega), get_del (by omega)]; exact k7)
    have l4 : loadD Tryd.prog (putD (putD (delD s7 s6.n) s.n (.row [v])) s1.n (.row [I 0])) 48 (pt s.n 0) = some v := ld48 (by rw [get_put_other (by omega)]; exact get_put_same _)
    have l5 : loadD Tryd.prog (putD (putD (delD s7 s6.n) s.n (.row [v])) s1.n (.row [I 0])) 25 (pt s1.n 0) = some (I 0) := ld25 (get_put_same _)
    obtain ⟨mv, rfl⟩ := Grow.form k9
    simp only [oa, ob, oc, od, oe, of, og, oh, oi, oj, ok, ol, om, on, oo, op, oq, or, os, ot, ou, ov, ow, ox, oy, oz, oA, oB, oC, bindS, many1, jnE, boolS, gdB, fst', snd', l1, l2, l3, l4, l5]
    refine One.ret ⟨mv, rfl, ⟨by rw [putD_n, putD_n, delD_n]; exact k2.1, fun j hj => ?_⟩⟩
    rw [get_put_other (by omega), get_put_other (by omega), get_del (by omega)]
    exact k2.2 j hj
  · rintro i s' hi ⟨k1, k2, k3, k4, k5, k6, k7, ⟨last, k8, k9⟩, v, out, k10, k11, k12⟩
    have hrd : ∀ (a : Value) (s7 : SH), HP.get s7.h s6.n = some (.loop 0 none 22 tl [11] (cdp Tryd.f22 [1, 1, 1, 0, 1, 0, 0]) (cdp Tryd.f22 [1, 1, 1, 0, 1, 0, 1])) → roundD Tryd.prog AB.row (callD Tryd.prog AB (n + 9)) AB.N s6.n [a] s7 = f22_r0 (dOps Tryd.prog) (callD Tryd.prog AB (n + 9)) AB.N s6.n (pt s.n 0) (pt s1.n 0) (pt s2.n 0) (pt s3.n 0) a s7 := by
      intro a s7 h7
      subst htl
      exact f22_r0_e rfl (loop_of h7) _
    rw [call_yld, hrd _ _ k3]
    have hne : xs.drop i ≠ [] := fun e => by
      have := congrArg List.length e
      rw [List.length_drop, List.length_nil] at this
      omega
    rw [cuts_cons hne] at k12
    have hd2 : (xs.drop i).drop 120 = xs.drop (i + 120) := by rw [List.drop_drop]
    rw [hd2] at k12
    generalize hp : (xs.drop i).take 120 = p at *
    have hsub : ∀ x ∈ p, x ∈ xs := fun x hx => by rw [← hp] at hx; exact List.mem_of_mem_drop (List.mem_of_mem_take hx)
    have hpp : 0 < p.length := by rw [← hp, List.length_take, List.length_drop]; omega
    have hpl : p.length ≤ 120 := by rw [← hp, List.length_take]; omega
    have hgp : Good 1000000000 p := ⟨by rw [← hp]; exact (hg.1.sublist (List.drop_sublist _ _)).sublist (List.take_sublist _ _), fun x hx => hg.2 x (hsub x hx)⟩
    have hR := hgp.right (Nat.le_refl _)
    obtain ⟨c14y, _⟩ := c14 (n := n) (m := bif Nat.beq m 2 then 2 else 1) (s := putD s' s6.n (.loop 1 none 22 tl [11] (cdp Tryd.f22 [1, 1, 1, 0, 1, 0, 0]) (cdp Tryd.f22 [1, 1, 1, 0, 1, 0, 1]))) (ofN p) (fun e => by
      have := congrArg List.length e
      unfold ofN at this
      rw [List.length_map, List.length_nil] at this
      omega) (by unfold ofN; rw [List.length_map]; exact hpl) (fun a ha => by
      unfold ofN at ha
      obtain ⟨y, hy, rfl⟩ := List.mem_map.1 ha
      exact (hgp.2 y hy).2)
    have c14y := c14y (right_may p _ hR)
    rw [toN_ofN, se_sn] at c14y
    have hb : beginD s' s6.n = some (putD s' s6.n (.loop 1 none 22 tl [11] (cdp Tryd.f22 [1, 1, 1, 0, 1, 0, 0]) (cdp Tryd.f22 [1, 1, 1, 0, 1, 0, 1]))) := begin_of k3
    let s8 : SH := putD s' s6.n (.loop 1 none 22 tl [11] (cdp Tryd.f22 [1, 1, 1, 0, 1, 0, 0]) (cdp Tryd.f22 [1, 1, 1, 0, 1, 0, 1]))
    have n8 : s8.n = s'.n := rfl
    have hb : beginD s' s6.n = some s8 := hb
    have c14y : callD Tryd.prog AB (n + 9) (.fn 14) [sl sn (bif Nat.beq m 2 then 2 else 1) p] s8 = some [(.tuple #[sl by' 0 (putC p), I 0], s8)] := c14y
    generalize (bif Nat.beq m 2 then 2 else 1) = mm at *
    have i0 : indexAddrD Tryd.prog 24 (sl sn mm p) (I 0) = some (fpV (sn p[0]).toArray 0) := ixs24 (k := .i64) (i := 0) sn_len hpp
    have g3 : HP.get s8.h s3.n = some (.row [I last]) := by rw [get_put_other (by omega)]; exact k8
    have g2 : HP.get s8.h s2.n = some (.row [v]) := by rw [get_put_other (by omega)]; exact k10
    have gL : HP.get s8.h s6.n = some (.loop 1 none 22 tl [11] (cdp Tryd.f22 [1, 1, 1, 0, 1, 0, 0]) (cdp Tryd.f22 [1, 1, 1, 0, 1, 0, 1])) := get_put_same _
    have hpsub : ∀ x ∈ p, x ∈ xs.drop i := fun x hx => by rw [← hp] at hx; exact List.mem_of_mem_take hx
    have hp0 : p[0] ∈ xs.drop i := hpsub _ (List.getElem_mem hpp)
    have hnle : ¬ ((p[0].1 : Int) ≤ last) := by have := k9 _ hp0; omega
    have hG8 : Grow s6.n 1 nb s8 v (cks out) := k11.put _ (by rw [k3]; intro e; cases e)
    have hol : (cks out).length ≤ 1000 := by
      have h1 := congrArg List.length k12
      rw [List.length_append, List.length_cons, cuts_len _ xs (Nat.le_refl _)] at h1
      unfold cks
      rw [List.length_map]
      omega
    obtain ⟨v9, s9, e9, z1, z2, z3⟩ := gapp48 (m2 := 1) (ys := [(0, putC p)]) hG8 (by omega) (by simp only [List.length_singleton]; omega)
    have hwl : IntKind.i64.wrap ((p.length : Int) - 1) = ((p.length - 1 : Nat) : Int) := by rw [wrap_i64 (by omega) (by omega)]; omega
    have il : indexAddrD Tryd.prog 24 (sl sn mm p) (I ((p.length - 1 : Nat) : Int)) = some (fpV (sn (p[p.length - 1]'(by omega))).toArray 0) := ixs24 (k := .i64) (i := p.length - 1) sn_len (by omega)
    have g2' : HP.get s9.h s2.n = some (.row [v]) := by rw [z2.2 _ (by omega)]; exact g2
    have st9 := st48 g2' (grow_one z1)
    have g3' : HP.get (putD s9 s2.n (.row [v9])).h s3.n = some (.row [I last]) := by rw [get_put_other (by omega), z2.2 _ (by omega)]; exact g3
    have st10 := st3 (a := ((p[p.length - 1]'(by omega)).1 : Int)) g3'
    have gL3 : HP.get s9.h s6.n = some (.loop 1 none 22 tl [11] (cdp Tryd.f22 [1, 1, 1, 0, 1, 0, 0]) (cdp Tryd.f22 [1, 1, 1, 0, 1, 0, 1])) := by rw [z3 s6.n (by omega) (by rw [gL]; intro e; cases e)]; exact gL
    have gL2 : HP.get (putD (putD s9 s2.n (.row [v9])) s3.n (.row [I ((p[p.length - 1]'(by omega)).1 : Int)])).h s6.n = some (.loop 1 none 22 tl [11] (cdp Tryd.f22 [1, 1, 1, 0, 1, 0, 0]) (cdp Tryd.f22 [1, 1, 1, 0, 1, 0, 1])) := by rw [get_put_other (by omega), get_put_other (by omega)]; exact gL3
    simp only [f22_r0, oa, ob, oc, od, oe, of, og, oh, oi, oj, ok, ol, om, on, oo, op, oq, or, os, ot, ou, ov, ow, ox, oy, oz, oA, oB, oC, bindS, many1, jnE, boolS, gdB, fst', snd', hb, i0, flf40_0, ldf_sn, ld3v g3, bop_leq, hnle, decide_false, condF, c14y, ext2, b_neq, decide_true, Bool.not_true, ld48 g2, bs48, e9, len_sl u24, b_sub, hwl, il, st9, st10, eqO_s, Bool.and_true, condT, setLoop_of gL2, Option.map_some]
    have hn9 := z2.1
    refine ⟨_, rfl, by rw [putD_n, putD_n, putD_n]; omega, ?_, get_put_same _, ?_, ?_, ?_, ?_, ⟨_, by rw [get_put_other (by omega)]; exact get_put_same _, ?_⟩, v9, out ++ [p], by rw [get_put_other (by omega), get_put_other (by omega)]; exact get_put_same _, ?_, by rw [List.append_assoc]; exact k12⟩
    · refine ((Ext.put ?_ (by omega) _).put (by omega) _).put (by omega) _
      exact ⟨by have := k2.1; omega, fun j hj => by rw [z2.2 j (by omega), get_put_other (by omega)]; exact k2.2 j hj⟩
    · rw [get_put_other (by omega), get_put_other (by omega), get_put_other (by omega), z2.2 _ (by omega), get_put_other (by omega)]; exact k4
    · rw [get_put_other (by omega), get_put_other (by omega), get_put_other (by omega), z2.2 _ (by omega), get_put_other (by omega)]; exact k5
    · rw [get_put_other (by omega), get_put_other (by omega), get_put_other (by omega), z2.2 _ (by omega), get_put_other (by omega)]; exact k6
    · rw [get_put_other (by omega), get_put_other (by omega), get_put_other (by omega), z2.2 _ (by omega), get_put_other (by omega)]; exact k7
    · intro x hx
      have hlast : p[p.length - 1]'(by omega) ∈ (xs.drop i).take 120 := by rw [hp]; exact List.getElem_mem _
      have hpw := List.pairwise_append.1 (by rw [List.take_append_drop]; exact hg.1.sublist (List.drop_sublist i xs) : ((xs.drop i).take 120 ++ (xs.drop i).drop 120).Pairwise (fun a b => a.1 < b.1))
      have := hpw.2.2 _ hlast x (by rw [hd2]; exact hx)
      omega
    · have e : cks (out ++ [p]) = cks out ++ [(0, putC p)] := by unfold cks; rw [List.map_append]; rfl
      rw [e]
      exact ((z1.put _ (by rw [g2']; intro e; cases e)).put _ (by rw [g3']; intro e; cases e)).put _ (by rw [gL2]; intro e; cases e)
end Go.Proofs.YtmhmbmogodofeaaDoor.S

set_option autoImplicit false
set_option linter.unusedVariables false
set_option linter.unusedSimpArgs false
set_option maxRecDepth 100000
namespace Go.Proofs.YtmhmbmogodofeaaDoor.S
open Go.FS Go.RowKit
attribute [local congr] bind_cg cond_cg gd_cg

/-! chunk.Join; ChunkBack. -/
theorem ld_nb {s : SH} (p : Nat × List UInt8) : loadD Tryd.prog s 22 (fpV (nb p).toArray 0) = some (sl by' p.1 p.2) := by rw [load_fp, part_one a22]; rfl
theorem cks_len (ls : List (List (Nat × Nat))) : (cks ls).length = ls.length := by unfold cks; rw [List.length_map]
theorem cks_get {ls : List (List (Nat × Nat))} {i : Nat} (h : i < ls.length) : (cks ls)[i]'(by rw [cks_len]; exact h) = (0, putC ls[i]) := by
  unfold cks
  rw [List.getElem_map]
theorem enc_bound (l : List (Nat × Nat)) (h : l.length ≤ 120) : (encB t0 x0 l).length ≤ 500000 := by
  have := encB_len l t0 x0 (fun t a => tput_len) (fun x v => xput_len)
  omega
theorem putC_len {l : List (Nat × Nat)} (h : l.length ≤ 120) : (putC l).length ≤ 100000 := by
  have h1 := encB_len l t0 x0 (fun t a => tput_len) (fun x v => xput_len)
  have h2 := (padded_pack (encB t0 x0 l)).2.2
  have h3 := vput_len10 (x := l.length) (by omega)
  have h4 := vput_len10 (x := (packB (encB t0 x0 l)).length) (by omega)
  unfold putC sealB
  simp only [List.length_append, leB_len]
  omega
theorem c23 {n m : Nat} {s : SH} (ls : List (List (Nat × Nat))) (hls : ls.length ≤ 1000) (hp : ∀ p ∈ ls, p ≠ [] ∧ p.length ≤ 120 ∧ Right t0 p) (hr : ls.flatten.Pairwise (fun a b => a.1 < b.1)) :
    ∃ m' s', callD Tryd.prog AB (n + 13) (.fn 23) [sl nb m (cks ls)] s = some [(.tuple #[sl sn m' ls.flatten, I 0], s')] ∧ Sm s.n s s' := by
  rw [call_fn (fn := Tryd.f23) rfl rfl (by kernel_rfl)]
  suffices h : One (bodyD Tryd.prog false (callD Tryd.prog AB (n + 12)) AB.N 23 Tryd.f23 [sl nb m (cks ls)] s) fun w s' => ∃ m', w = .tuple #[sl sn m' ls.flatten, I 0] ∧ Sm s.n s s' by
    obtain ⟨w, s', e, m', rfl, h⟩ := h
    exact ⟨m', s', e, h⟩
  rw [f23_r]
  simp only [f23, oa, ob, oc, od, oe, of, og, oh, oi, oj, ok, ol, om, on, oo, op, oq, or, os, ot, ou, ov, ow, ox, oy, oz, oA, oB, oC, bindS, many1, jnE, boolS, gdB, fst', snd', len_sl u48, cks_len]
  refine list_one ls (fun i (x : Value × Value × Value × Value × Value × Value × Value × Value × Value × Value × Value) (s' : SH) => x.2.2.2.2.2.2.2.2.1 = I (i : Int) ∧ Sm s.n s s' ∧ (∃ last : Int, x.2.2.2.1 = I last ∧ ∀ y ∈ (ls.drop i).flatten, last < (y.1 : Int)) ∧ ∃ out, Grow s.n 2 sn s' x.2.2.1 out ∧ out.length ≤ i * 120 ∧ out ++ (ls.drop i).flatten = ls.flatten) ?_ ?_ ⟨rfl, .refl _ _, ⟨-1, rfl, fun y _ => by omega⟩, [], .inl ⟨rfl, .inl rfl⟩, Nat.zero_le _, rfl⟩ (by show ls.length < 2 ^ 64; omega)
  · rintro i hi ⟨x1, x2, x3, x4, x5, x6, x7, x8, x9, x10, x11⟩ s' ⟨h1, hsm, ⟨last, h2, h3⟩, out, hG, hol, ho⟩ nx hnx
    simp only at h1 h2 hG
    subst h1 h2
    have hlt : (i : Int) < ls.length := by omega
    have hw : IntKind.i64.wrap ((i : Int) + 1) = ((i + 1 : Nat) : Int) := by rw [wrap_i64 (by omega) (by omega)]; rfl
    have hix := ixs48 (m := m) (k := .i64) (xs := cks ls) nb_len (i := i) (by rw [cks_len]; exact hi)
    rw [cks_get hi] at hix
    have hd : ls.drop i = ls[i] :: ls.drop (i + 1) := List.drop_eq_getElem_cons hi
    rw [hd, List.flatten_cons] at h3 ho
    obtain ⟨p1, p2, p3⟩ := hp _ (List.getElem_mem hi)
    generalize ls[i] = p at *
    have hpp : 0 < p.length := List.length_pos_iff.2 p1
    have hcl := putC_len p2
    obtain ⟨m9, e9⟩ := c9 (n := n) (m := 0) (s := s') (putC p) 0 (by omega)
    have hrb := readB_put [] [] p hpp p2 p3 (enc_bound p p2)
    rw [List.nil_append, List.append_nil, List.length_nil, Nat.zero_add] at hrb
    have hrb : readB (putC p) 0 = (p, (putC p).length, 0) := hrb
    rw [hrb] at e9
    have i0 : indexAddrD Tryd.prog 24 (sl sn m9 p) (I 0) = some (fpV (sn p[0]).toArray 0) := ixs24 (k := .i64) (i := 0) sn_len hpp
    have hnle : ¬ ((p[0].1 : Int) ≤ last) := by have := h3 p[0] (List.mem_append_left _ (List.getElem_mem hpp)); omega
    obtain ⟨v', s2, e2, z1, z2, z3⟩ := gapp24n (m2 := m9) (ys := p) hG hsm.1 (by have : out.length ≤ 1000 * 120 := Nat.le_trans hol (Nat.mul_le_mul_right _ (by omega)); omega)
    have hwl : IntKind.i64.wrap ((p.length : Int) - 1) = ((p.length - 1 : Nat) : Int) := by rw [wrap_i64 (by omega) (by omega)]; omega
    have il : indexAddrD Tryd.prog 24 (sl sn m9 p) (I ((p.length - 1 : Nat) : Int)) = some (fpV (sn (p[p.length - 1]'(by omega))).toArray 0) := ixs24 (k := .i64) (i := p.length - 1) sn_len (by omega)
    simp only [f23_l0, oa, ob, oc, od, oe, of, og, oh, oi, oj, ok, ol, om, on, oo, op, oq, or, os, ot, ou, ov, ow, ox, oy, oz, oA, oB, oC, bindS, many1, jnE, boolS, gdB, fst', snd', bop_lss, hlt, decide_true, condT, hix, ld_nb, e9, ext3, b_neq, Bool.not_true, condF, len_sl u22, i0, flf40_0, ldf_sn, bop_leq, hnle, decide_false, e2, len_sl u24, b_sub, hwl, il, eqO_s, Bool.and_true, bop_add, hw]
    refine hnx (_, _, _, _, _, _, _, _, _, _, _) _ ⟨rfl, hsm.trans z2, ⟨_, rfl, fun y hy => ?_⟩, out ++ p, z1, ?_, by rw [List.append_assoc]; exact ho⟩
    · rw [← ho] at hr
      have h4 := (List.pairwise_append.1 hr).2.1
      have := (List.pairwise_append.1 h4).2.2 _ (List.getElem_mem (show p.length - 1 < p.length by omega)) y hy
      omega
    · rw [List.length_append, Nat.add_mul]; omega
  · rintro ⟨x1, x2, x3, x4, x5, x6, x7, x8, x9, x10, x11⟩ s' ⟨h1, hsm, _, out, hG, hol, ho⟩ nx
    simp only at h1 hG
    subst h1
    have hnlt : ¬ ((ls.length : Int) < ls.length) := by omega
    rw [List.drop_length] at ho
    have ho : out = ls.flatten := by rw [← ho]; show out = out ++ []; rw [List.append_nil]
    subst ho
    obtain ⟨mv, rfl⟩ := Grow.form hG
    simp only [f23_l0, oa, ob, oc, od, oe, of, og, oh, oi, oj, ok, ol, om, on, oo, op, oq, or, os, ot, ou, ov, ow, ox, oy, oz, oA, oB, oC, bindS, many1, jnE, boolS, gdB, fst', snd', bop_lss, hnlt, decide_false, condF, beq_yes, condT]
    exact One.ret ⟨mv, rfl, hsm⟩
theorem c8 {n m : Nat} {s : SH} (B : List UInt8) (hB : B.length < 2 ^ 40) : ∃ m' s', callD Tryd.prog AB (n + 1) (.fn 8) [sl by' m B] s = some [(sl by' m' B, s')] ∧ Grow s.n 1 by' s' (sl by' m' B) B ∧ Sm s.n s s' := by
  obtain ⟨v, s1, e1, w1, w2, w3⟩ := gapp22 (lo := s.n) (v := sl by' 1 []) (xs := []) (s := s) (m2 := m) (ys := B) (.inl ⟨rfl, .inr rfl⟩) (Nat.le_refl _) (by simp only [List.length_nil]; omega)
  rw [List.nil_append] at w1
  obtain ⟨m', rfl⟩ := Grow.form w1
  refine ⟨m', s1, ?_, w1, w2⟩
  rw [call_fn (fn := Tryd.f8) rfl rfl (by kernel_rfl)]
  show bodyD Tryd.prog false _ _ 8 Tryd.f8 _ s = _
  rw [f8_r]
  simp only [f8, oa, ob, oc, od, oe, of, og, oh, oi, oj, ok, ol, om, on, oo, op, oq, or, os, ot, ou, ov, ow, ox, oy, oz, oA, oB, oC, bindS, many1, jnE, boolS, gdB, fst', snd', bs22_0, e1]
theorem cuts_flat : ∀ (k : Nat) (l : List (Nat × Nat)), l.length ≤ k → (cuts l).flatten = l
  | 0, l, h => by
    have : l = [] := List.length_eq_zero_iff.1 (by omega)
    subst this
    rw [cuts_nil]; rfl
  | k + 1, l, h => by
    by_cases h0 : l = []
    · subst h0; rw [cuts_nil]; rfl
    · have hp := List.length_pos_iff.2 h0
      rw [cuts_cons h0, List.flatten_cons, cuts_flat k (l.drop 120) (by rw [List.length_drop]; omega), List.take_append_drop]
theorem cuts_mem : ∀ (k : Nat) (l : List (Nat × Nat)), l.length ≤ k → ∀ p ∈ cuts l, p ≠ [] ∧ p.length ≤ 120 ∧ p.Sublist l
  | 0, l, h, p, hp => by
    have : l = [] := List.length_eq_zero_iff.1 (by omega)
    subst this
    rw [cuts_nil] at hp; exact absurd hp List.not_mem_nil
  | k + 1, l, h, p, hp => by
    by_cases h0 : l = []
    · subst h0; rw [cuts_nil] at hp; exact absurd hp List.not_mem_nil
    · have hpl := List.length_pos_iff.2 h0
      rw [cuts_cons h0] at hp
      rcases List.mem_cons.1 hp with rfl | hp
      · refine ⟨fun e => ?_, by rw [List.length_take]; omega, List.take_sublist _ _⟩
        have := congrArg List.length e
        rw [List.length_take, List.length_nil] at this
        omega
      · obtain ⟨q1, q2, q3⟩ := cuts_mem k (l.drop 120) (by rw [List.length_drop]; omega) p hp
        exact ⟨q1, q2, q3.trans (List.drop_sublist _ _)⟩
set_option maxHeartbeats 1600000 in
theorem run6 {n m1 m2 m3 : Nat} (s : SH) (a : Int) (l : List Int) (v : List Nat) (ah : List UInt8) (hv : ∀ x ∈ v, x < 2 ^ 64) : ∃ s', callD Tryd.prog AB (n + 14) (.fn 6) [I a, sl iz m1 l, sl u6 m2 v, sl by' m3 ah] s = some [(.bool true, s')] := by
  rw [call_fn (fn := Tryd.f6) rfl rfl (by kernel_rfl)]
  show ∃ s', bodyD Tryd.prog false _ _ 6 Tryd.f6 _ s = _
  rw [f6_r]
  have h13 := c13 (n := n + 12) (s := s)
  obtain ⟨k1, s1, r, e1, _, hg, hl⟩ := c21 (n := n + 11) (m1 := m1) (m2 := m2) (s := s) a l v hv
  obtain ⟨k2, s2, e2, _⟩ := c22 (n := n + 1) (m := k1) (s := s1) r hg hl
  have hcl := cuts_len _ r (Nat.le_refl _)
  have hcf := cuts_flat _ r (Nat.le_refl _)
  have hcm := cuts_mem _ r (Nat.le_refl _)
  obtain ⟨k3, s3, e3, _⟩ := c23 (n := n) (m := k2) (s := s2) (cuts r) (by omega) (fun p hp => by
    obtain ⟨q1, q2, q3⟩ := hcm p hp
    exact ⟨q1, q2, Good.right (T := 1000000000) ⟨hg.1.sublist q3, fun x hx => hg.2 x (q3.subset hx)⟩ (Nat.le_refl _)⟩) (by rw [hcf]; exact hg.1)
  rw [hcf] at e3
  have e4 := c11 (n := n + 12) (m := k3) (m' := k1) (s := s3) r (by omega)
  have w1 : IntKind.i64.wrap ((r.length : Int) + 120) = ((r.length + 120 : Nat) : Int) := by rw [wrap_i64 (by omega) (by omega)]; rfl
  have w2 : IntKind.i64.wrap (((r.length + 120 : Nat) : Int) - 1) = ((r.length + 119 : Nat) : Int) := by rw [wrap_i64 (by omega) (by omega)]; omega
  have w3 : IntKind.i64.wrap (Int.tdiv ((r.length + 119 : Nat) : Int) 120) = (((r.length + 119) / 120 : Nat) : Int) := by
    have : Int.tdiv ((r.length + 119 : Nat) : Int) 120 = (((r.length + 119) / 120 : Nat) : Int) := rfl
    rw [this, wrap_i64 (by omega) (by omega)]
  by_cases h0 : r = []
  · subst h0
    rw [cuts_nil] at *
    simp only [f6, oa, ob, oc, od, oe, of, og, oh, oi, oj, ok, ol, om, on, oo, op, oq, or, os, ot, ou, ov, ow, ox, oy, oz, oA, oB, oC, bindS, many1, jnE, boolS, gdB, fst', snd', h13, uop_not, Bool.not_true, condF, e1, e2, ext2, e3, b_neq, decide_true, e4, len_sl u48, cks_len, len_sl u24, bop_add, w1, b_sub, w2, b_quo _ _ _ _ (show (120 : Int) ≠ 0 by decide), w3, List.length_nil, show (((0 + 119) / 120 : Nat) : Int) = ((0 : Nat) : Int) from rfl, bop_eql, show ((0 : Nat) : Int) = 0 from rfl, condT]
    exact ⟨_, rfl⟩
  · have hrp := List.length_pos_iff.2 h0
    have hcc := cuts_cons h0
    have hne : ¬ (((r.length + 119) / 120 : Nat) : Int) = 0 := by omega
    have hmin : minD Tryd.prog (I (ah.length : Int)) [I 50] = some (I ((min ah.length 50 : Nat) : Int)) := min_nat _ _ _
    have hsl := slc_sl (P := Tryd.prog) (s := s3) (t := 22) (m := m3) (k := .i64) (xs := ah) u22 z5 by_len (Nat.min_le_left ah.length 50)
    generalize hA : ah.take (min ah.length 50) = A at hsl
    have hAl : A.length ≤ 50 := by rw [← hA, List.length_take]; omega
    generalize (bif Nat.beq m3 2 then 2 else 0) = ma at hsl
    obtain ⟨m8, s4, e8, g8, sm8⟩ := c8 (n := n + 12) (m := ma) (s := s3) A (by omega)
    have e8 := oneS e8
    have hi0 : 0 < (cuts r).length := by omega
    have hix := ixs48 (m := k2) (k := .i64) (xs := cks (cuts r)) nb_len (i := 0) (by rw [cks_len]; exact hi0)
    rw [cks_get hi0] at hix
    have hhd : (cuts r)[0] = r.take 120 := by simp only [hcc, List.getElem_cons_zero]
    rw [hhd] at hix
    have hix : indexAddrD Tryd.prog 48 (sl nb k2 (cks (cuts r))) (I 0) = some (fpV (nb (0, putC (r.take 120))).toArray 0) := hix
    have htl : (r.take 120).length ≤ 120 := by rw [List.length_take]; omega
    have htp : 1 ≤ (r.take 120).length := by rw [List.length_take]; omega
    have hpc := putC_len htl
    have hRt : Right t0 (r.take 120) := Good.right (T := 1000000000) ⟨hg.1.sublist (List.take_sublist _ _), fun x hx => hg.2 x (List.mem_of_mem_take hx)⟩ (Nat.le_refl _)
    obtain ⟨v9, s5, e9, z1, z2, _⟩ := gapp22 (m2 := 0) (ys := putC (r.take 120)) g8 sm8.1 (by omega)
    have e9 : appD Tryd.prog false s4 22 22 (sl by' m8 A) (sl by' 0 (putC (r.take 120))) = some (v9, s5) := e9
    obtain ⟨v10, s6, e10, z3, z4, _⟩ := gapp22 (m2 := ma) (ys := A) z1 (Nat.le_trans sm8.1 z2.1) (by rw [List.length_append]; omega)
    obtain ⟨m10, rfl⟩ := Grow.form z3
    obtain ⟨m11, e11⟩ := c9 (n := n + 1) (m := m10) (s := s6) (A ++ putC (r.take 120) ++ A) (A.length : Int) (by simp only [List.length_append]; omega)
    rw [List.append_assoc] at e11
    rw [readB_put A A (r.take 120) htp htl hRt (enc_bound _ htl)] at e11
    rw [← List.append_assoc] at e11
    have e11 := oneS e11
    have w4 : IntKind.i64.wrap ((A.length : Int) + ((putC (r.take 120)).length : Int)) = ((A.length + (putC (r.take 120)).length : Nat) : Int) := by rw [wrap_i64 (by omega) (by omega)]; rfl
    have hmin2 : minD Tryd.prog (I (r.length : Int)) [I 120] = some (I ((min r.length 120 : Nat) : Int)) := min_nat _ _ _
    have hsl2 := slc_sl (P := Tryd.prog) (s := s6) (t := 24) (m := k1) (k := .i64) (xs := r) u24 z40 sn_len (Nat.min_le_left r.length 120)
    have htk : r.take (min r.length 120) = r.take 120 := by
      rcases Nat.le_total r.length 120 with h | h
      · rw [Nat.min_eq_left h, List.take_length, List.take_of_length_le h]
      · rw [Nat.min_eq_right h]
    rw [htk] at hsl2
    have e12 := c11 (n := n + 12) (m := m11) (m' := bif Nat.beq k1 2 then 2 else 0) (s := s6) (r.take 120) (by omega)
    simp only [f6, oa, ob, oc, od, oe, of, og, oh, oi, oj, ok, ol, om, on, oo, op, oq, or, os, ot, ou, ov, ow, ox, oy, oz, oA, oB, oC, bindS, many1, jnE, boolS, gdB, fst', snd', h13, uop_not, Bool.not_true, condF, e1, e2, ext2, e3, b_neq, decide_true, e4, len_sl u48, cks_len, hcl, len_sl u24, bop_add, w1, b_sub, w2, b_quo _ _ _ _ (show (120 : Int) ≠ 0 by decide), w3, bop_eql, hne, decide_false, len_sl u22, hmin, hsl, e8, hix, ld_nb, e9, e10, e11, ext3, eqO_s, Bool.and_true, condT, w4, hmin2, hsl2, e12]
    exact ⟨_, rfl⟩
end Go.Proofs.YtmhmbmogodofeaaDoor.S
