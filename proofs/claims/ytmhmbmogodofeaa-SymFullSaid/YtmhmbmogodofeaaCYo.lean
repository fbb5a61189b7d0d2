import Derived.Test.YtmhmbmogodofeaaCYn
set_option autoImplicit false
set_option linter.unusedVariables false
set_option linter.unusedSimpArgs false
set_option maxRecDepth 100000
namespace Go.Proofs.Ytmhmbmogodofeaa.S
open Go.FS Go.RowKit
attribute [local congr] bind_cg cond_cg gd_cg
/-! The statement SymFull. -/
def tw (i : Nat) : Str := [UInt8.ofNat (i / 256), UInt8.ofNat (i % 256)]
theorem tw_inj {i j : Nat} (hi : i < 65536) (hj : j < 65536) (h : tw i = tw j) : i = j := by
  unfold tw at h
  injection h with h1 h2
  injection h2 with h2 _
  have h1 := congrArg UInt8.toNat h1
  have h2 := congrArg UInt8.toNat h2
  rw [ofNat_toNat (by omega), ofNat_toNat (by omega)] at h1
  rw [ofNat_toNat (by omega), ofNat_toNat (by omega)] at h2
  omega
def twL (n : Nat) : List Str := (List.range n).map tw
theorem twL_succ (n : Nat) : twL (n + 1) = twL n ++ [tw n] := by
  unfold twL
  rw [List.range_succ, List.map_append]; rfl
theorem twL_len (n : Nat) : (twL n).length = n := by unfold twL; simp
theorem twL_nodup {n : Nat} (h : n ≤ 65536) : (twL n).Nodup := by
  unfold twL
  unfold List.Nodup
  rw [List.pairwise_map]
  refine List.Pairwise.imp_of_mem (fun {a b} ha hb hne e => hne (tw_inj ?_ ?_ e)) (List.nodup_range (n := n))
  · have := List.mem_range.1 ha; omega
  · have := List.mem_range.1 hb; omega
theorem cpt_id : ∀ {l : List Str}, Ris l → cpt l = l
  | [], _ => rfl
  | [x], _ => rfl
  | x :: y :: l, h => by
    have h2 := List.pairwise_cons.1 h
    rw [cpt_two, if_neg (lt_ne (h2.1 y (List.mem_cons_self ..))), cpt_id h2.2]
theorem mkT_nodup {l : List Str} (h : l.Nodup) : (mkT l).length = l.length := by
  have h1 : (isrt l).Nodup := (isrt_perm l).nodup_iff.2 h
  have h2 : Ris (isrt l) := by
    have := isrt_sorted l
    refine List.Pairwise.imp₂ (fun a b h k => lt_of_le_ne h k) this h1
  unfold mkT
  rw [cpt_id h2, (isrt_perm l).length_eq]
theorem twL_mem {n : Nat} {x : Str} (h : x ∈ twL n) : x.length = 2 := by
  obtain ⟨i, _, rfl⟩ := List.mem_map.1 h
  rfl
theorem bs35_2 (s : SH) (a b : UInt8) : buildSliceD Try.prog false s 35 2 [(0, .int .u8 (a.toNat : Int)), (1, .int .u8 (b.toNat : Int))] = some (sl by' 1 [a, b], s) := by kernel_rfl
theorem run10 {n : Nat} (s : SH) (more : Int) : ∃ s', callD Try.prog AB (n + 9) (.fn 10) [.int .i64 more] s = some [(.bool true, s')] := by
  rw [call_fn (fn := Try.f10) rfl rfl (by kernel_rfl)]
  suffices h : One (bodyD Try.prog (AB.row 10) (callD Try.prog AB (n + 8)) AB.N 10 Try.f10 [.int .i64 more] s) fun v s' => v = .bool true by
    obtain ⟨v, s', e, rfl⟩ := h
    exact ⟨s', e⟩
  show One (bodyD Try.prog false _ _ 10 Try.f10 _ s) _
  rw [f10_r]
  have h20 : ∀ s : SH, callD Try.prog AB (n + 8) (.fn 20) [.int .i64 more, .int .i64 3] s = some [(.int .i64 (amongI more 3 : Int), s)] := fun s => c20 (n := n + 7) more 3 (by omega) (by omega)
  have hk := among_lt more (m := 3) (by omega)
  generalize amongI more 3 = k at h20 hk
  have hwN : IntKind.i64.wrap (4096 + (k : Int)) = ((4096 + k : Nat) : Int) := by rw [wrap_i64 (by omega) (by omega)]; omega
  simp only [f10, o_bool, o_alloc, o_box, o_build, o_buildSlice, o_load, o_store, o_nilCheck, o_bop, o_uop, o_conv, o_slc, o_fieldAddr, o_field, o_indexAddr, o_index, o_extract, o_lookup, o_mapUpdate, o_makeSlice, o_clear, o_makeMap, o_mapEntry, o_entryStore, o_delete, o_len, o_append, o_min, o_max, o_tgt, bindS, many1, jnE, boolS, gdB, fst', snd', c30, uop_not, Bool.not_true, condF, bs45t0]
  refine list_one (List.replicate (4096 + k) ()) (fun i (x : Value × Value) (s' : SH) => Sm s.n s s' ∧ x.2 = .int .i64 (i : Int) ∧ Grow s.n 1 tx s' x.1 (twL i)) ?_ ?_ ⟨.refl _ _, rfl, .inl ⟨rfl, .inr rfl⟩⟩ (by rw [List.length_replicate]; show 4096 + k < 2 ^ 64; omega)
  · rintro i hi ⟨x1, x2⟩ s' ⟨hsm, h2, hg⟩ nx hnx
    simp only at h2 hg
    subst h2
    rw [List.length_replicate] at hi
    have hlt : (i : Int) < ((4096 + k : Nat) : Int) := by omega
    have hw : IntKind.i64.wrap ((i : Int) + 1) = ((i + 1 : Nat) : Int) := by rw [wrap_i64 (by omega) (by omega)]; rfl
    have hq : IntKind.i64.wrap (Int.tdiv (i : Int) 256) = ((i / 256 : Nat) : Int) := by
      have : Int.tdiv (i : Int) 256 = ((i / 256 : Nat) : Int) := rfl
      rw [this, wrap_i64 (by omega) (by omega)]
    have hr : Int.tmod (i : Int) 256 = ((i % 256 : Nat) : Int) := rfl
    obtain ⟨v', s3, e3, w1, w2, w3⟩ := gapp45 (m2 := 1) (ys := [tw i]) hg hsm.1 (by rw [twL_len]; simp only [List.length_singleton]; omega)
    have e3 : appD Try.prog false s' 45 45 x1 (sl tx 1 [[UInt8.ofNat (i / 256), UInt8.ofNat (i % 256)]]) = some (v', s3) := e3
    simp only [f10_l0, o_bool, o_alloc, o_box, o_build, o_buildSlice, o_load, o_store, o_nilCheck, o_bop, o_uop, o_conv, o_slc, o_fieldAddr, o_field, o_indexAddr, o_index, o_extract, o_lookup, o_mapUpdate, o_makeSlice, o_clear, o_makeMap, o_mapEntry, o_entryStore, o_delete, o_len, o_append, o_min, o_max, o_tgt, bindS, many1, jnE, boolS, gdB, fst', snd', h20, bop_add, hwN, bop_lss, hlt, decide_true, condT, b_quo _ _ _ _ (show (256 : Int) ≠ 0 by decide), hq, conv_int u3 u5, wrap_u8, b_rem _ _ _ _ (show (256 : Int) ≠ 0 by decide), hr, bs35_2, conv_bt, bs45t, e3, hw]
    refine hnx (_, _) _ ⟨hsm.trans w2, rfl, ?_⟩
    rw [twL_succ]; exact w1
  · rintro ⟨x1, x2⟩ s' ⟨hsm, h2, hg⟩ nx
    simp only at h2 hg
    subst h2
    rw [List.length_replicate] at hg ⊢
    have hnlt : ¬ (((4096 + k : Nat) : Int) < ((4096 + k : Nat) : Int)) := by omega
    obtain ⟨mx, rfl⟩ := Grow.form hg
    have hTn : twL (4096 + k) ≠ [] := fun e => by have := twL_len (4096 + k); rw [e] at this; simp at this; omega
    have hml : (mkT (twL (4096 + k))).length = 4096 + k := by rw [mkT_nodup (twL_nodup (by omega)), twL_len]
    have hmx : ∀ x ∈ mkT (twL (4096 + k)), x.length ≤ 256 := fun x hx => by
      have := twL_mem ((mkT_mem _ _).1 hx); omega
    have hany : (mkT (twL (4096 + k))).any (fun x => decide (256 < x.length)) = false := by
      rw [List.any_eq_false]
      intro x hx
      have := hmx x hx
      simp only [decide_eq_true_eq]; omega
    have h32 := c32 (n := n + 3) (s := s') (.inr ⟨mx, rfl, hTn⟩ : TxIn s' (sl tx mx (twL (4096 + k))) (twL (4096 + k))) (by rw [twL_len]; omega)
    have hlenI : ∀ s : SH, lenOfD Try.prog s 45 (sl tx mx (twL (4096 + k))) = some (.int .i64 ((4096 + k : Nat) : Int)) := fun s => by rw [len_sl u45, twL_len]
    have hris := mkT_ris (twL (4096 + k))
    by_cases hk0 : k = 0
    · have hbad : bad (twL (4096 + k)) = false := by
        unfold bad
        rw [hml, hany, decide_eq_false (by omega)]; rfl
      rw [hbad, if_neg (by simp)] at h32
      generalize mkT (twL (4096 + k)) = T at h32 hml hmx hris
      have hngt : ¬ (((4096 + k : Nat) : Int) > 4096) := by omega
      have st0 : storeD Try.prog (newD s' (.row [fzV 2 #[]])) 50 (.pointer (some ⟨s'.n, 0, none⟩)) (tab T) = some (putD (newD s' (.row [fzV 2 #[]])) s'.n (.row [sl tx 0 T])) := st50 (get_new rfl) rfl rfl
      have y3 : HP.get (putD (newD s' (.row [fzV 2 #[]])) s'.n (.row [sl tx 0 T])).h s'.n = some (.row [sl tx 0 T]) := get_put_same _
      have y4 : (putD (newD s' (.row [fzV 2 #[]])) s'.n (.row [sl tx 0 T])).n = s'.n + 1 := rfl
      generalize putD (newD s' (.row [fzV 2 #[]])) s'.n (.row [sl tx 0 T]) = s2 at st0 y3 y4
      have hX := putS_len (show T.length ≤ 4096 by omega) hmx
      obtain ⟨w3, s3, e3, g3, f3⟩ := c36 (n := n + 1) (m := 0) (s := s2) T (by omega) hmx
      obtain ⟨m3, rfl⟩ := Grow.form g3
      obtain ⟨m6, s6, e6, f6⟩ := c37 (n := n + 4) (m := m3) (s := s3) (putS T) 0 (Nat.zero_le _) (by omega)
      rw [readS_put (At.all _) hris (by omega) hmx] at e6
      have t : tupS m6 (T, (putS T).length, 0) = .tuple #[.agg #[sl tx m6 T], .int .i64 ((putS T).length : Int), .int .i64 0] := rfl
      rw [t] at e6
      have e6 : callD Try.prog AB (n + 8) (.fn 37) [sl by' m3 (putS T), .int .i64 0] s3 = some [(.tuple #[.agg #[sl tx m6 T], .int .i64 ((putS T).length : Int), .int .i64 0], s6)] := e6
      have f3n := f3.1
      have f6n := f6.1
      have st1 : storeD Try.prog (newD s6 (.row [fzV 2 #[]])) 50 (.pointer (some ⟨s6.n, 0, none⟩)) (.agg #[sl tx m6 T]) = some (putD (newD s6 (.row [fzV 2 #[]])) s6.n (.row [sl tx m6 T])) := st50 (get_new rfl) rfl rfl
      have z3 : HP.get (putD (newD s6 (.row [fzV 2 #[]])) s6.n (.row [sl tx m6 T])).h s6.n = some (.row [sl tx m6 T]) := get_put_same _
      have z4 : HP.get (putD (newD s6 (.row [fzV 2 #[]])) s6.n (.row [sl tx m6 T])).h s'.n = some (.row [sl tx 0 T]) := by
        rw [get_put_other (by omega), get_old (by omega), f6.2 _ (by omega), f3.2 _ (by omega), y3]
      generalize putD (newD s6 (.row [fzV 2 #[]])) s6.n (.row [sl tx m6 T]) = s7 at st1 z3 z4
      have h33 : ∀ (m : Nat) (s : SH), callD Try.prog AB (n + 8) (.fn 33) [.agg #[sl tx m T]] s = some [(.int .i64 ((4096 + k : Nat) : Int), s)] := fun m s => by rw [← hml]; exact c33 (n := n + 7) T
      simp only [f10_l0, o_bool, o_alloc, o_box, o_build, o_buildSlice, o_load, o_store, o_nilCheck, o_bop, o_uop, o_conv, o_slc, o_fieldAddr, o_field, o_indexAddr, o_index, o_extract, o_lookup, o_mapUpdate, o_makeSlice, o_clear, o_makeMap, o_mapEntry, o_entryStore, o_delete, o_len, o_append, o_min, o_max, o_tgt, bindS, many1, jnE, boolS, gdB, fst', snd', h20, bop_add, hwN, bop_lss, hnlt, decide_false, condF, beq_yes, condT, h32, (ext2 _ _).1, (ext2 _ _).2, al50, st0, hlenI, bop_gtr, hngt, ld50 y3, e3, e6, (ext3 _ _ _).1, (ext3 _ _ _).2.1, (ext3 _ _ _).2.2, st1, bop_eql, decide_true, fld50_0, ld48 z4, h33, ld48 z3]
      exact One.ret rfl
    · have hbad : bad (twL (4096 + k)) = true := by
        unfold bad
        rw [hml, decide_eq_true (by omega)]; rfl
      rw [hbad, if_pos rfl] at h32
      have hgt : (((4096 + k : Nat) : Int) > 4096) := by omega
      have st0 : storeD Try.prog (newD s' (.row [fzV 2 #[]])) 50 (.pointer (some ⟨s'.n, 0, none⟩)) tab0 = some (putD (newD s' (.row [fzV 2 #[]])) s'.n (.row [sl tx 2 []])) := st50 (get_new rfl) rfl rfl
      have ld0 : loadD Try.prog (putD (newD s' (.row [fzV 2 #[]])) s'.n (.row [sl tx 2 []])) 48 (.pointer (some ⟨s'.n, 0, none⟩)) = some (.agg #[sl tx 2 []]) := ld48 (get_put_same _)
      simp only [f10_l0, o_bool, o_alloc, o_box, o_build, o_buildSlice, o_load, o_store, o_nilCheck, o_bop, o_uop, o_conv, o_slc, o_fieldAddr, o_field, o_indexAddr, o_index, o_extract, o_lookup, o_mapUpdate, o_makeSlice, o_clear, o_makeMap, o_mapEntry, o_entryStore, o_delete, o_len, o_append, o_min, o_max, o_tgt, bindS, many1, jnE, boolS, gdB, fst', snd', h20, bop_add, hwN, bop_lss, hnlt, decide_false, condF, beq_yes, condT, h32, (ext2 _ _).1, (ext2 _ _).2, al50, st0, hlenI, bop_gtr, hgt, decide_true, bop_eql, fld50_0, ld0, c33, List.length_nil]
      exact One.ret rfl
end Go.Proofs.Ytmhmbmogodofeaa.S
