import Derived.Test.YtmhmbmogodofeaaDoorMH
set_option autoImplicit false
set_option linter.unusedVariables false
set_option linter.unusedSimpArgs false
set_option maxRecDepth 100000
namespace Go.Proofs.YtmhmbmogodofeaaDoor.S
open Go.FS Go.RowKit
attribute [local congr] bind_cg cond_cg gd_cg

/-! chunk.look, chunk.Read -/
theorem al61 (s : SH) : allocD Tryd.prog s 61 = some (pt s.n 0, newD s (.row (tr 0 0 0))) := alloc_at zr61
theorem bl61_0 : buildD Tryd.prog 61 [] = some (ts 0 0 0) := by kernel_rfl
theorem bl61 (a b c : Int) : buildD Tryd.prog 61 [(0, I a), (1, I b), (2, I c)] = some (ts a b c) := by kernel_rfl
theorem p61 (a b c : Int) : partD Tryd.prog 61 (tr a b c) 0 = some (ts a b c) := part_agg a61 z61 rfl rfl
theorem kst {s : SH} {id : Nat} {x y z a b c : Int} (h : HP.get s.h id = some (.row (tr x y z))) : storeD Tryd.prog s 61 (pt id 0) (ts a b c) = some (putD s id (.row (tr a b c))) := st_all (l := tr a b c) z61 h rfl rfl rfl
theorem kld {s : SH} {id : Nat} {a b c : Int} (h : HP.get s.h id = some (.row (tr a b c))) : loadD Tryd.prog s 61 (pt id 0) = some (ts a b c) := by rw [load_row h]; exact p61 a b c
theorem c57_arg {n m : Nat} {s : SH} (bs : List UInt8) (i : Int) (hi : i < 0 ∨ (bs.length : Int) < i) : callD Tryd.prog AB (n + 1) (.fn 57) [sl by' m bs, I i] s = some [(tup3 (0, 0, 2), s)] := by
  rw [call_fn (fn := Tryd.f57) rfl rfl (by kernel_rfl)]
  show bodyD Tryd.prog false _ _ 57 Tryd.f57 _ s = _
  rw [f57_r]
  by_cases h0 : i < 0
  · simp only [f57, oO, bindS, many1, jnE, boolS, gdB, fst', snd', bop_lss, h0, decide_true, condT]
    rfl
  · have h1 : i > (bs.length : Int) := by omega
    simp only [f57, oO, bindS, many1, jnE, boolS, gdB, fst', snd', bop_lss, h0, decide_false, condF, len_sl u22, bop_gtr, h1, decide_true, condT]
    rfl
theorem vread_nx {bs : List UInt8} {i : Nat} (hi : i ≤ bs.length) : (vread bs i).2.1 ≤ bs.length ∧ (vread bs i).1 < 2 ^ 64 := by
  unfold vread
  cases hg : vgo (bs.drop i) 0 0 with
  | error e => exact ⟨Nat.zero_le _, show 0 < 2 ^ 64 by decide⟩
  | ok r =>
    obtain ⟨x, j⟩ := r
    obtain ⟨y, h1, h2, h3, h4, h5, _⟩ := vgo_ok _ _ _ _ _ (by omega) hg
    rw [List.length_drop] at h2
    simp only
    refine ⟨by omega, ?_⟩
    simp at h4 h5
    omega
theorem vgo_err : ∀ (l : List UInt8) (i acc : Nat) (e : Int), vgo l i acc = .error e → e ≠ 0
  | [], i, acc, e, h => by
    have h : (Except.error 7 : Except Int (Nat × Nat)) = .error e := h
    injection h with h
    omega
  | x :: l, i, acc, e, h => by
    rw [vgo_cons] at h
    split at h
    · injection h with h; omega
    · split at h
      · cases h
      · exact vgo_err l _ _ _ h
def lookB (bs : List UInt8) (at' : Int) : Nat × Nat × Nat × Int :=
  if at' < 0 ∨ (bs.length : Int) < at' then (0, 0, 0, 2)
  else if (vread bs at'.toNat).2.2 ≠ 0 then (0, 0, 0, (vread bs at'.toNat).2.2)
  else if (vread bs (vread bs at'.toNat).2.1).2.2 ≠ 0 then (0, 0, 0, (vread bs (vread bs at'.toNat).2.1).2.2)
  else if (vread bs at'.toNat).1 < 1 ∨ 120 < (vread bs at'.toNat).1 then (0, 0, 0, 80)
  else if bs.length - (vread bs (vread bs at'.toNat).2.1).2.1 < (vread bs (vread bs at'.toNat).2.1).1 ∨ bs.length - (vread bs (vread bs at'.toNat).2.1).2.1 - (vread bs (vread bs at'.toNat).2.1).1 < 4 then (0, 0, 0, 7)
  else if openB ((bs.take ((vread bs (vread bs at'.toNat).2.1).2.1 + (vread bs (vread bs at'.toNat).2.1).1 + 4)).drop at'.toNat) = true then ((vread bs at'.toNat).1, (vread bs (vread bs at'.toNat).2.1).2.1, (vread bs (vread bs at'.toNat).2.1).2.1 + (vread bs (vread bs at'.toNat).2.1).1, 0)
  else (0, 0, 0, 80)
theorem vread_ge {bs : List UInt8} {i : Nat} (hi : i ≤ bs.length) (h : (vread bs i).2.2 = 0) : i < (vread bs i).2.1 := by
  unfold vread at *
  cases hg : vgo (bs.drop i) 0 0 with
  | error e =>
    rw [hg] at h
    simp only at h
    exact absurd h (vgo_err _ _ _ _ hg)
  | ok r =>
    obtain ⟨x, j⟩ := r
    obtain ⟨y, h1, _⟩ := vgo_ok _ _ _ _ _ (by omega) hg
    simp only
    omega
theorem c27 {n m : Nat} {s : SH} (bs : List UInt8) (at' : Int) (hb : bs.length < 2 ^ 40) : callD Tryd.prog AB (n + 8) (.fn 27) [sl by' m bs, I at'] s = some [(.tuple #[ts (lookB bs at').1 (lookB bs at').2.1 (lookB bs at').2.2.1, I (lookB bs at').2.2.2], s)] := by
  refine cutT_plain (fn := Tryd.f27) rfl rfl (by kernel_rfl) (l := [ts (lookB bs at').1 (lookB bs at').2.1 (lookB bs at').2.2.1, I (lookB bs at').2.2.2]) (pl2 (ts_plain _ _ _) (.int _ _)) ?_
  show One (bodyD Tryd.prog false _ _ 27 Tryd.f27 _ _) _
  rw [f27_r]
  let s1 : SH := newD s (.row (tr 0 0 0))
  have n1 : s1.n = s.n + 1 := rfl
  have b1 : allocD Tryd.prog s 61 = some (pt s.n 0, s1) := al61 s
  have g1 : HP.get s1.h s.n = some (.row (tr 0 0 0)) := get_n0 s _
  have stz : storeD Tryd.prog s1 61 (pt s.n 0) (ts 0 0 0) = some (putD s1 s.n (.row (tr 0 0 0))) := kst g1
  have ldz : loadD Tryd.prog (putD s1 s.n (.row (tr 0 0 0))) 61 (pt s.n 0) = some (ts 0 0 0) := kld (get_put_same _)
  have hEz : Ext s (putD s1 s.n (.row (tr 0 0 0))) := (ext1 s _).put (Nat.le_refl _) _
  unfold lookB
  by_cases hat : at' < 0 ∨ (bs.length : Int) < at'
  · rw [if_pos hat]
    simp only [f27, oO, bindS, many1, jnE, boolS, gdB, fst', snd', b1, c57_arg (n := n + 6) bs at' hat, tup3, ext3, b_neq, show ¬ (2 : Int) = 0 from by decide, decide_false, Bool.not_false, condT, bl61_0, stz, ldz]
    exact One.ret ⟨rfl, hEz⟩
  · rw [if_neg hat]
    obtain ⟨i, rfl⟩ : ∃ i : Nat, at' = i := ⟨at'.toNat, by omega⟩
    rw [Int.toNat_natCast]
    have hi : i ≤ bs.length := by omega
    have e57 := c57 (n := n + 6) (m := m) (s := s1) bs i hi (by omega)
    obtain ⟨v1, v2⟩ := vread_nx hi
    have vg := vread_ge hi
    generalize vread bs i = r at *
    obtain ⟨x, j, e⟩ := r
    simp only [tup3] at e57 v1 v2 vg ⊢
    by_cases he : e = 0
    · rw [if_neg (fun h => h he)]
      subst he
      have vg1 := vg rfl
      have e57b := c57 (n := n + 6) (m := m) (s := s1) bs j v1 (by omega)
      obtain ⟨w1, w2⟩ := vread_nx v1
      have wg := vread_ge v1
      generalize vread bs j = r at *
      obtain ⟨y, k, e2⟩ := r
      simp only [tup3] at e57b w1 w2 wg ⊢
      have hwl : IntKind.i64.wrap ((bs.length : Int) - (k : Int)) = ((bs.length - k : Nat) : Int) := by rw [wrap_i64 (by omega) (by omega)]; omega
      have hul : IntKind.u64.wrap ((bs.length - k : Nat) : Int) = ((bs.length - k : Nat) : Int) := wrap_u64 (by omega) (by omega)
      by_cases he2 : e2 = 0
      · rw [if_neg (fun h => h he2)]
        subst he2
        have wg1 := wg rfl
        by_cases hx : x < 1 ∨ 120 < x
        · rw [if_pos hx]
          by_cases hx1 : x < 1
          · have hx1' : (x : Int) < 1 := by omega
            simp only [f27, oO, bindS, many1, jnE, boolS, gdB, fst', snd', b1, e57, ext3, b_neq, decide_true, Bool.not_true, condF, e57b, len_sl u22, b_sub, hwl, conv_int u3 u38, hul, bop_lss, hx1', condT, bl61_0, stz, ldz]
            exact One.ret ⟨rfl, hEz⟩
          · have hx1' : ¬ (x : Int) < 1 := by omega
            have hx2 : (x : Int) > 120 := by omega
            simp only [f27, oO, bindS, many1, jnE, boolS, gdB, fst', snd', b1, e57, ext3, b_neq, decide_true, Bool.not_true, condF, e57b, len_sl u22, b_sub, hwl, conv_int u3 u38, hul, bop_lss, hx1', decide_false, bop_gtr, hx2, condT, bl61_0, stz, ldz]
            exact One.ret ⟨rfl, hEz⟩
        · rw [if_neg hx]
          have hx1' : ¬ (x : Int) < 1 := by omega
          have hx2' : ¬ (x : Int) > 120 := by omega
          by_cases hy : bs.length - k < y ∨ bs.length - k - y < 4
          · rw [if_pos hy]
            by_cases hy1 : bs.length - k < y
            · have hy1' : (y : Int) > ((bs.length - k : Nat) : Int) := by omega
              simp only [f27, oO, bindS, many1, jnE, boolS, gdB, fst', snd', b1, e57, ext3, b_neq, decide_true, Bool.not_true, condF, e57b, len_sl u22, b_sub, hwl, conv_int u3 u38, hul, bop_lss, hx1', decide_false, bop_gtr, hx2', hy1', condT, bl61_0, stz, ldz]
              exact One.ret ⟨rfl, hEz⟩
            · have hy1' : ¬ (y : Int) > ((bs.length - k : Nat) : Int) := by omega
              have hws : IntKind.u64.wrap (((bs.length - k : Nat) : Int) - (y : Int)) = ((bs.length - k - y : Nat) : Int) := by rw [wrap_u64 (by omega) (by omega)]; omega
              have hy2' : ((bs.length - k - y : Nat) : Int) < 4 := by omega
              simp only [f27, oO, bindS, many1, jnE, boolS, gdB, fst', snd', b1, e57, ext3, b_neq, decide_true, Bool.not_true, condF, e57b, len_sl u22, b_sub, hwl, conv_int u3 u38, hul, bop_lss, hx1', decide_false, bop_gtr, hx2', hy1', hws, hy2', condT, bl61_0, stz, ldz]
              exact One.ret ⟨rfl, hEz⟩
          · rw [if_neg hy]
            have hy1' : ¬ (y : Int) > ((bs.length - k : Nat) : Int) := by omega
            have hws : IntKind.u64.wrap (((bs.length - k : Nat) : Int) - (y : Int)) = ((bs.length - k - y : Nat) : Int) := by rw [wrap_u64 (by omega) (by omega)]; omega
            have hy2' : ¬ ((bs.length - k - y : Nat) : Int) < 4 := by omega
            have cx : IntKind.i64.wrap (x : Int) = (x : Int) := wrap_i64 (by omega) (by omega)
            have cy : IntKind.i64.wrap (y : Int) = (y : Int) := wrap_i64 (by omega) (by omega)
            have ck : IntKind.i64.wrap ((k : Int) + (y : Int)) = ((k + y : Nat) : Int) := by rw [wrap_i64 (by omega) (by omega)]; omega
            have c4 : IntKind.i64.wrap (((k + y : Nat) : Int) + 4) = ((k + y + 4 : Nat) : Int) := by rw [wrap_i64 (by omega) (by omega)]; omega
            let s2 : SH := newD s1 (.row (tr x k (k + y : Nat)))
            have alA : allocD Tryd.prog s1 61 = some (pt s1.n 0, newD s1 (.row (tr 0 0 0))) := al61 s1
            have stA : storeD Tryd.prog (newD s1 (.row (tr 0 0 0))) 61 (pt s1.n 0) (ts x k (k + y : Nat)) = some s2 := by rw [kst (get_n0 s1 _), put_new]
            have g2 : HP.get s2.h s1.n = some (.row (tr x k (k + y : Nat))) := get_n0 s1 _
            obtain ⟨m', hs⟩ := slc_both (P := Tryd.prog) (s := s2) (t := 22) (m := m) (k := .i64) (k' := .i64) (xs := bs) u22 z5 by_len (show i ≤ k + y + 4 by omega) (show k + y + 4 ≤ bs.length by omega)
            obtain ⟨v, s3, e58, h58⟩ := c58 (n := n) (m := m') (s := s2) ((bs.take (k + y + 4)).drop i) (by rw [List.length_drop, List.length_take]; omega)
            have n2 : s2.n = s.n + 2 := rfl
            have g3 : HP.get s3.h s1.n = some (.row (tr x k (k + y : Nat))) := by rw [h58.2 _ (by omega)]; exact g2
            have g4 : HP.get s3.h s.n = some (.row (tr 0 0 0)) := by rw [h58.2 _ (by omega)]; exact get_n1 s _ _
            have hE3 : Ext s s3 := (ext2' s _ _).trans h58
            have n3 := h58.1
            have st3 : ∀ a b c : Int, storeD Tryd.prog s3 61 (pt s.n 0) (ts a b c) = some (putD s3 s.n (.row (tr a b c))) := fun a b c => kst g4
            have ld3 : ∀ a b c : Int, loadD Tryd.prog (putD s3 s.n (.row (tr a b c))) 61 (pt s.n 0) = some (ts a b c) := fun a b c => kld (get_put_same _)
            by_cases ho : openB ((bs.take (k + y + 4)).drop i) = true
            · rw [if_pos ho]
              simp only [f27, oO, bindS, many1, jnE, boolS, gdB, fst', snd', b1, e57, ext2, ext3, b_neq, decide_true, Bool.not_true, condF, e57b, len_sl u22, b_sub, hwl, conv_int u3 u38, conv_int u38 u3, hul, bop_lss, hx1', decide_false, bop_gtr, hx2', hy1', hws, hy2', cx, cy, bop_add, ck, bl61, alA, stA, fld61_2, tld_2 g2, c4, hs, e58, ho, uop_not, kld g3, st3, ld3]
              exact One.ret ⟨rfl, hE3.put (Nat.le_refl _) _⟩
            · rw [if_neg ho]
              have ho' : openB ((bs.take (k + y + 4)).drop i) = false := by simpa using ho
              simp only [f27, oO, bindS, many1, jnE, boolS, gdB, fst', snd', b1, e57, ext2, ext3, b_neq, decide_true, Bool.not_true, Bool.not_false, condF, condT, e57b, len_sl u22, b_sub, hwl, conv_int u3 u38, conv_int u38 u3, hul, bop_lss, hx1', decide_false, bop_gtr, hx2', hy1', hws, hy2', cx, cy, bop_add, ck, bl61, alA, stA, fld61_2, tld_2 g2, c4, hs, e58, ho', uop_not, bl61_0, st3, ld3]
              exact One.ret ⟨rfl, hE3.put (Nat.le_refl _) _⟩
      · rw [if_pos he2]
        simp only [f27, oO, bindS, many1, jnE, boolS, gdB, fst', snd', b1, e57, ext3, b_neq, decide_true, Bool.not_true, condF, e57b, len_sl u22, b_sub, hwl, conv_int u3 u38, hul, he2, decide_false, Bool.not_false, condT, bl61_0, stz, ldz]
        exact One.ret ⟨rfl, hEz⟩
    · rw [if_pos he]
      simp only [f27, oO, bindS, many1, jnE, boolS, gdB, fst', snd', b1, e57, ext3, b_neq, he, decide_false, Bool.not_false, condT, bl61_0, stz, ldz]
      exact One.ret ⟨rfl, hEz⟩
end Go.Proofs.YtmhmbmogodofeaaDoor.S

set_option autoImplicit false
set_option linter.unusedVariables false
set_option linter.unusedSimpArgs false
set_option maxRecDepth 100000
namespace Go.Proofs.YtmhmbmogodofeaaDoor.S
open Go.FS Go.RowKit
attribute [local congr] bind_cg cond_cg gd_cg

/-! chunk.Read -/
def readB (bs : List UInt8) (at' : Int) : List (Nat × Nat) × Nat × Int :=
  if (lookB bs at').2.2.2 ≠ 0 then ([], 0, (lookB bs at').2.2.2)
  else match decB (lookB bs at').1 t0 x0 (unpack ((bs.take (lookB bs at').2.2.1).drop (lookB bs at').2.1)) with
    | none => ([], 0, 80)
    | some (l, r) => if r.length < 8 ∧ valB r = 0 then (l, (lookB bs at').2.2.1 + 4, 0) else ([], 0, 80)
/-- What a look that is right says. -/
theorem look_ok {bs : List UInt8} {at' : Int} (h : (lookB bs at').2.2.2 = 0) : ∃ (i x j y k : Nat), at' = i ∧ i ≤ bs.length ∧ vread bs i = (x, j, 0) ∧ vread bs j = (y, k, 0) ∧ 1 ≤ x ∧ x ≤ 120 ∧ i < j ∧ j < k ∧ k + y + 4 ≤ bs.length ∧ openB ((bs.take (k + y + 4)).drop i) = true ∧ lookB bs at' = (x, k, k + y, 0) := by
  unfold lookB at h ⊢
  by_cases hat : at' < 0 ∨ (bs.length : Int) < at'
  · rw [if_pos hat] at h; cases h
  · rw [if_neg hat] at h ⊢
    obtain ⟨i, rfl⟩ : ∃ i : Nat, at' = i := ⟨at'.toNat, by omega⟩
    rw [Int.toNat_natCast] at h ⊢
    have hi : i ≤ bs.length := by omega
    by_cases h1 : (vread bs i).2.2 = 0
    · rw [if_neg (fun h => h h1)] at h ⊢
      have v1 := (vread_nx hi).1
      have vg := vread_ge hi h1
      by_cases h2 : (vread bs (vread bs i).2.1).2.2 = 0
      · rw [if_neg (fun h => h h2)] at h ⊢
        have w1 := (vread_nx v1).1
        have wg := vread_ge v1 h2
        by_cases h3 : (vread bs i).1 < 1 ∨ 120 < (vread bs i).1
        · rw [if_pos h3] at h; cases h
        · rw [if_neg h3] at h ⊢
          by_cases h4 : bs.length - (vread bs (vread bs i).2.1).2.1 < (vread bs (vread bs i).2.1).1 ∨ bs.length - (vread bs (vread bs i).2.1).2.1 - (vread bs (vread bs i).2.1).1 < 4
          · rw [if_pos h4] at h; cases h
          · rw [if_neg h4] at h ⊢
            by_cases h5 : openB ((bs.take ((vread bs (vread bs i).2.1).2.1 + (vread bs (vread bs i).2.1).1 + 4)).drop i) = true
            · rw [if_pos h5]
              refine ⟨i, (vread bs i).1, (vread bs i).2.1, (vread bs (vread bs i).2.1).1, (vread bs (vread bs i).2.1).2.1, rfl, hi, ?_, ?_, by omega, by omega, vg, wg, by omega, h5, rfl⟩
              · rw [← h1]
              · rw [← h2]
            · rw [if_neg h5] at h; cases h
      · rw [if_pos h2] at h; exact absurd h h2
    · rw [if_pos h1] at h; exact absurd h h1
theorem three_str {v : Value} {n : Nat} {xs : List (Nat × Nat)} (h : stripN 8 n v = sl sn 0 xs ∧ Bel n (stripN 8 n v)) (a e : Int) : (∀ c ∈ [v, I a, I e], Bel n (stripN 8 n c)) ∧ [v, I a, I e].map (stripN 8 n) = [sl sn 0 xs, I a, I e] := by
  refine ⟨fun c hc => ?_, by rw [List.map_cons, h.1]; rfl⟩
  simp only [List.mem_cons, List.not_mem_nil, or_false] at hc
  rcases hc with rfl | rfl | rfl
  · exact h.2
  · exact .int _ _
  · exact .int _ _
theorem nil_str3 (n : Nat) (a e : Int) : (∀ c ∈ [fzV 2 #[], I a, I e], Bel n (stripN 8 n c)) ∧ [fzV 2 #[], I a, I e].map (stripN 8 n) = [fzV 2 #[], I a, I e] := by
  have h := (nil_str n e).2
  rw [List.map_cons, List.map_cons] at h
  have h1 : stripN 8 n (fzV 2 #[]) = fzV 2 #[] := (List.cons.inj h).1
  have h2 := (nil_str n e).1 (fzV 2 #[]) (List.mem_cons_self ..)
  refine ⟨fun c hc => ?_, by rw [List.map_cons, h1]; rfl⟩
  simp only [List.mem_cons, List.not_mem_nil, or_false] at hc
  rcases hc with rfl | rfl | rfl
  · exact h2
  · exact .int _ _
  · exact .int _ _
theorem c30 {n id many : Nat} {s : SH} : callD Tryd.prog AB (n + 1) (.fn 30) [pt id 0, I (many : Int)] s = some [(.func (.func 60) #[] #[pt (s.n + 1) 0, pt s.n 0], newD (newD s (.row [pt id 0])) (.row [I (many : Int)]))] := by
  rw [call_fn (fn := Tryd.f30) rfl rfl (by kernel_rfl)]
  show bodyD Tryd.prog false _ _ 30 Tryd.f30 _ s = _
  rw [f30_r]
  have b1 : boxD s (pt id 0) = some (pt s.n 0, newD s (.row [pt id 0])) := box_at rfl rfl
  have b2 : ∀ s : SH, boxD s (I (many : Int)) = some (pt s.n 0, newD s (.row [I (many : Int)])) := fun s => box_at rfl rfl
  simp only [f30, oO, bindS, many1, jnE, boolS, gdB, fst', snd', b1, b2]
  rfl
theorem c9 {n m : Nat} {s : SH} (bs : List UInt8) (at' : Int) (hb : bs.length < 2 ^ 40) : ∃ m', callD Tryd.prog AB (n + 12) (.fn 9) [sl by' m bs, I at'] s = some [(.tuple #[sl sn m' (readB bs at').1, I (readB bs at').2.1, I (readB bs at').2.2], s)] := by
  have e27 := fun s => c27 (n := n + 3) (m := m) (s := s) bs at' hb
  have al : allocD Tryd.prog s 61 = some (pt s.n 0, newD s (.row (tr 0 0 0))) := al61 s
  have st : ∀ a b c : Int, storeD Tryd.prog (newD s (.row (tr 0 0 0))) 61 (pt s.n 0) (ts a b c) = some (newD s (.row (tr a b c))) := fun a b c => by rw [kst (get_n0 s _), put_new]
  by_cases h0 : (lookB bs at').2.2.2 = 0
  · obtain ⟨i, x, j, y, k, rfl, hi, hv1, hv2, hx1, hx2, hij, hjk, hk, ho, hlk⟩ := look_ok h0
    have hrb : readB bs (i : Int) = match decB x t0 x0 (unpack ((bs.take (k + y)).drop k)) with
      | none => ([], 0, 80)
      | some (l, r) => if r.length < 8 ∧ valB r = 0 then (l, k + y + 4, 0) else ([], 0, 80) := by
      unfold readB
      rw [hlk]
      rfl
    rw [hlk] at e27
    dsimp only at e27
    let s1 : SH := newD s (.row (tr x k (k + y : Nat)))
    have n1 : s1.n = s.n + 1 := rfl
    have st1 : storeD Tryd.prog (newD s (.row (tr 0 0 0))) 61 (pt s.n 0) (ts x k (k + y : Nat)) = some s1 := st x k (k + y : Nat)
    have g1 : HP.get s1.h s.n = some (.row (tr x k (k + y : Nat))) := get_n0 s _
    obtain ⟨m1, hs⟩ := slc_both (P := Tryd.prog) (s := s1) (t := 22) (m := m) (k := .i64) (k' := .i64) (xs := bs) u22 z5 by_len (show k ≤ k + y by omega) (show k + y ≤ bs.length by omega)
    generalize hB : (bs.take (k + y)).drop k = B at *
    have hBl : B.length < 2 ^ 40 := by rw [← hB, List.length_drop, List.length_take]; omega
    obtain ⟨s2, m2, e28, hR, hE2, hn2⟩ := c28 (n := n + 10) (m := m1) (s := s1) B hBl
    generalize hrid : s2.n - 1 = rid at *
    have hrid1 : s1.n ≤ rid := by omega
    have hridn := hR.2.1
    have g2 : HP.get s2.h s.n = some (.row (tr x k (k + y : Nat))) := by rw [hE2.2 _ (by omega)]; exact g1
    let s3 : SH := newD (newD s2 (.row [pt rid 0])) (.row [I (x : Int)])
    have n3 : s3.n = s2.n + 2 := rfl
    have e30 : callD Tryd.prog AB (n + 11) (.fn 30) [pt rid 0, I (x : Int)] s2 = some [(.func (.func 60) #[] #[pt (s2.n + 1) 0, pt s2.n 0], s3)] := c30
    have hE3 : Ext s2 s3 := ext2' s2 _ _
    have hR3 := hR.ext hE3
    obtain ⟨v, s4, e29, pre, hBt, hG, hd⟩ := c29 (n := n) (pm := s2.n + 1) (pr := s2.n) (many := x) (s := s3) hR3 (get_n0 _ _) (get_n1 _ _ _) hx2 (by omega) (by omega) (by omega) (by omega)
    have g4 : HP.get s4.h s.n = some (.row (tr x k (k + y : Nat))) := by rw [hBt.2 _ (by omega) (by omega), hE3.2 _ (by omega)]; exact g2
    obtain ⟨mv, rfl⟩ := Grow.form hG
    have hE4 : Ext s s4 := ⟨by have := hBt.1; omega, fun j hj => by rw [hBt.2 j (by omega) (by omega), hE3.2 j (by omega), hE2.2 j (by omega)]; exact (ext1 s _).2 j hj⟩
    have c4 : IntKind.i64.wrap (((k + y : Nat) : Int) + 4) = ((k + y + 4 : Nat) : Int) := by rw [wrap_i64 (by omega) (by omega)]; omega
    have hB0 : lft B 0 = unpack B := rfl
    rw [hB0] at hd
    have nilA : ∀ (hr : readB bs (i : Int) = ([], 0, 80)) (s' : SH) (hE : Ext s s'), ∃ l : List Value, Value.tuple #[fzV 2 #[], I 0, I 80] = .tuple l.toArray ∧ (∀ c ∈ l, Bel s.n (stripN 8 s.n c)) ∧ l.map (stripN 8 s.n) = [sl sn 2 (readB bs (i : Int)).1, I (readB bs (i : Int)).2.1, I (readB bs (i : Int)).2.2] ∧ Ext s s' := fun hr s' hE => by
      rw [hr]
      exact ⟨[fzV 2 #[], I 0, I 80], rfl, (nil_str3 _ _ _).1, (nil_str3 _ _ _).2, hE⟩
    rcases hd with ⟨hpl, q, hdec, hR4⟩ | ⟨hpl, hdec⟩
    · obtain ⟨s5, e31, hBt5⟩ := c31 (n := n + 7) hR4
      have g5 : HP.get s5.h s.n = some (.row (tr x k (k + y : Nat))) := by rw [hBt5.2 _ (by have := hBt.1; omega) (by omega)]; exact g4
      have hE5 : Ext s s5 := ⟨Nat.le_trans hE4.1 hBt5.1, fun j hj => by rw [hBt5.2 j (by have := hE4.1; omega) (by omega)]; exact hE4.2 j hj⟩
      have hl24 : (pre.length : Int) = (x : Int) := by omega
      rw [hdec] at hrb
      simp only at hrb
      by_cases hc : (lft B q).length < 8 ∧ valB (lft B q) = 0
      · rw [if_pos hc] at hrb
        have hcd := decide_eq_true hc
        rw [hcd] at e31
        refine ⟨0, ?_⟩
        refine cutT_ext (fn := Tryd.f9) rfl rfl (by kernel_rfl) (l' := [sl sn 0 (readB bs (i : Int)).1, I (readB bs (i : Int)).2.1, I (readB bs (i : Int)).2.2]) ?_
        show One (bodyD Tryd.prog false _ _ 9 Tryd.f9 _ _) _
        rw [f9_r]
        simp only [f9, oO, bindS, many1, jnE, boolS, gdB, fst', snd', e27, ext2, al, st1, b_neq, decide_true, Bool.not_true, condF, fld61_0, fld61_1, fld61_2, tld_0 g2, tld_0 g4, tld_1 g1, tld_2 g1, tld_2 g5, hs, e28, e30, e29, len_sl u24, hl24, e31, uop_not, bop_add, c4]
        have hpre : pre ≠ [] := fun e => by rw [e] at hpl; simp at hpl; omega
        have hst := grow_str (n := s.n) hG (by omega) (sn_str s.n) (fun a => sn_bel s.n a) hpre
        obtain ⟨y1, y2⟩ := three_str hst ((k + y + 4 : Nat) : Int) 0
        rw [hrb]
        exact One.ret ⟨_, rfl, y1, y2, hE5⟩
      · rw [if_neg hc] at hrb
        have hcd := decide_eq_false hc
        rw [hcd] at e31
        refine ⟨2, ?_⟩
        refine cutT_ext (fn := Tryd.f9) rfl rfl (by kernel_rfl) (l' := [sl sn 2 (readB bs (i : Int)).1, I (readB bs (i : Int)).2.1, I (readB bs (i : Int)).2.2]) ?_
        show One (bodyD Tryd.prog false _ _ 9 Tryd.f9 _ _) _
        rw [f9_r]
        simp only [f9, oO, bindS, many1, jnE, boolS, gdB, fst', snd', e27, ext2, al, st1, b_neq, decide_true, Bool.not_true, Bool.not_false, condF, condT, fld61_0, fld61_1, fld61_2, tld_0 g2, tld_0 g4, tld_1 g1, tld_2 g1, hs, e28, e30, e29, len_sl u24, hl24, e31, uop_not]
        exact One.ret (nilA hrb s5 hE5)
    · rw [hdec] at hrb
      simp only at hrb
      have hl24 : ¬ (pre.length : Int) = (x : Int) := by omega
      refine ⟨2, ?_⟩
      refine cutT_ext (fn := Tryd.f9) rfl rfl (by kernel_rfl) (l' := [sl sn 2 (readB bs (i : Int)).1, I (readB bs (i : Int)).2.1, I (readB bs (i : Int)).2.2]) ?_
      show One (bodyD Tryd.prog false _ _ 9 Tryd.f9 _ _) _
      rw [f9_r]
      simp only [f9, oO, bindS, many1, jnE, boolS, gdB, fst', snd', e27, ext2, al, st1, b_neq, decide_true, Bool.not_true, Bool.not_false, condF, condT, fld61_0, fld61_1, fld61_2, tld_0 g2, tld_0 g4, tld_1 g1, tld_2 g1, hs, e28, e30, e29, len_sl u24, hl24, decide_false]
      exact One.ret (nilA hrb s4 hE4)
  · refine ⟨2, ?_⟩
    have hr : readB bs at' = ([], 0, (lookB bs at').2.2.2) := by unfold readB; rw [if_pos h0]
    refine cutT_ext (fn := Tryd.f9) rfl rfl (by kernel_rfl) (l' := [sl sn 2 (readB bs at').1, I (readB bs at').2.1, I (readB bs at').2.2]) ?_
    show One (bodyD Tryd.prog false _ _ 9 Tryd.f9 _ _) _
    rw [f9_r]
    simp only [f9, oO, bindS, many1, jnE, boolS, gdB, fst', snd', e27, ext2, al, st, b_neq, h0, decide_false, Bool.not_false, condT]
    rw [hr]
    exact One.ret ⟨[fzV 2 #[], I 0, I (lookB bs at').2.2.2], rfl, (nil_str3 _ _ _).1, (nil_str3 _ _ _).2, ext1 s _⟩
/-! The plain law. -/
end Go.Proofs.YtmhmbmogodofeaaDoor.S

set_option autoImplicit false
set_option linter.unusedVariables false
set_option linter.unusedSimpArgs false
set_option maxRecDepth 100000
namespace Go.Proofs.YtmhmbmogodofeaaDoor.S
open Go.FS Go.RowKit
attribute [local congr] bind_cg cond_cg gd_cg

/-! SameBytes; ChunkOnce. -/
theorem bytesOf_by (bs : List UInt8) : bytesOf (bs.map by').flatten = some bs := by
  induction bs with
  | nil => rfl
  | cons b bs ih =>
    show (bytesOf (bs.map by').flatten).map (fun r => UInt8.ofNat (Int.toNat (b.toNat : Int)) :: r) = _
    rw [ih, Int.toNat_natCast, UInt8.ofNat_toNat]; rfl
theorem aggL_fz {α : Type} (enc : α → List Value) (xs : List α) : aggL ((xs.map enc).map fun e => Value.agg e.toArray) = some (xs.map enc).flatten := by
  induction xs with
  | nil => rfl
  | cons x xs ih =>
    show (aggL ((xs.map enc).map fun e => Value.agg e.toArray)).map ((enc x).toArray.toList ++ ·) = _
    rw [ih]; simp
theorem conv_bs (s : SH) (m : Nat) (bs : List UInt8) : convertD Tryd.prog false s 22 9 (sl by' m bs) = some (.string ⟨bs.toArray⟩, s) := by
  have hf : fzOk 1 ((bs.map by').map fun e => Value.agg e.toArray).toArray = true := fzOk_fz fun e he => by obtain ⟨x, _, rfl⟩ := List.mem_map.1 he; rfl
  have hc : cellsD s 1 ((bs.map by').map fun e => Value.agg e.toArray).toArray.size (.iface m (.tuple ((bs.map by').map fun e => Value.agg e.toArray).toArray)) = some (bs.map by').flatten := by
    simp only [cellsD, hf, Nat.ble_eq_true_of_le (Nat.le_refl _), Bool.and_self, condT]
    have : ((bs.map by').map fun e => Value.agg e.toArray).toArray.toList.take ((bs.map by').map fun e => Value.agg e.toArray).toArray.size = (bs.map by').map fun e => Value.agg e.toArray := by
      rw [List.take_of_length_le (by simp)]
    rw [this, aggL_fz]
  unfold sl fz fzV
  simp only [convertD, u9, u22, u5]
  rw [hc, bindS, bytesOf_by]; rfl
theorem c12 {n m m' : Nat} {s : SH} (xs ys : List UInt8) : callD Tryd.prog AB (n + 1) (.fn 12) [sl by' m xs, sl by' m' ys] s = some [(.bool (xs == ys), s)] := by
  refine cut_plain (fn := Tryd.f12) rfl rfl (by kernel_rfl) (fun _ h => by cases h) (.bool _) ?_
  show One (bodyD Tryd.prog false _ _ 12 Tryd.f12 _ _) _
  rw [f12_r]
  have e : ∀ l : List UInt8, (ByteArray.mk l.toArray).toList = l := fun l => by rw [ba_toList]
  simp only [f12, oO, bindS, many1, jnE, boolS, gdB, fst', snd', conv_bs, bop_seq, e]
  exact One.ret ⟨rfl, .refl s⟩
end Go.Proofs.YtmhmbmogodofeaaDoor.S

set_option autoImplicit false
set_option linter.unusedVariables false
set_option linter.unusedSimpArgs false
set_option maxRecDepth 100000
namespace Go.Proofs.YtmhmbmogodofeaaDoor.S
open Go.FS Go.RowKit
attribute [local congr] bind_cg cond_cg gd_cg

/-! Rising samples. -/
theorem ld_sn {s : SH} (a : Nat × Nat) : loadD Tryd.prog s 40 (fpV (sn a).toArray 0) = some (sv a.1 a.2) := by rw [load_fp, part_agg a40 z40 (l := sn a) rfl rfl]; rfl
theorem sn_neq (a : Nat × Nat) : bopD Tryd.prog .neq 40 (sv a.1 a.2) (sv a.1 a.2) = some (.bool false) := by
  refine (bop_agg (P := Tryd.prog) (d := 4) (t := 40) (a := #[I (a.1 : Int), U (a.2 : Int)]) (b := #[I (a.1 : Int), U (a.2 : Int)]) (r := true) (by decide) (by kernel_rfl) rfl rfl ?_).2
  have : eqS Tryd.prog 4 40 (.agg #[I (a.1 : Int), U (a.2 : Int)]) (.agg #[I (a.1 : Int), U (a.2 : Int)]) = cond ((a.1 : Int) == a.1) (cond ((a.2 : Int) == a.2) (some true) (some false)) (some false) := by kernel_rfl
  rw [this]; simp
theorem c11 {n m m' : Nat} {s : SH} (xs : List (Nat × Nat)) (hl : xs.length < 2 ^ 62) : callD Tryd.prog AB (n + 1) (.fn 11) [sl sn m xs, sl sn m' xs] s = some [(.bool true, s)] := by
  rw [call_fn (fn := Tryd.f11) rfl rfl (by kernel_rfl)]
  suffices h : One (bodyD Tryd.prog false (callD Tryd.prog AB n) AB.N 11 Tryd.f11 [sl sn m xs, sl sn m' xs] s) fun v s' => v = .bool true ∧ s' = s by
    obtain ⟨v, s', e, rfl, rfl⟩ := h
    exact e
  rw [f11_r]
  simp only [f11, oO, bindS, many1, jnE, boolS, gdB, fst', snd', len_sl u24, b_neq, decide_true, Bool.not_true, condF]
  refine list_one xs (fun i (x : Value × Value) (s' : SH) => s' = s ∧ x.2 = I i) ?_ ?_ ⟨rfl, rfl⟩ (by show xs.length < 2 ^ 64; omega)
  · rintro i hi ⟨x1, x2⟩ s' ⟨rfl, h2⟩ nx hnx
    simp only at h2
    subst h2
    have hlt : (i : Int) < xs.length := by omega
    have hw : IntKind.i64.wrap ((i : Int) + 1) = ((i + 1 : Nat) : Int) := by rw [wrap_i64 (by omega) (by omega)]; rfl
    simp only [f11_l0, oO, bindS, many1, jnE, boolS, gdB, fst', snd', len_sl u24, bop_lss, hlt, decide_true, condT, ixs24 sn_len hi, ld_sn, sn_neq, condF, bop_add, hw]
    exact hnx (_, _) _ ⟨rfl, rfl⟩
  · rintro ⟨x1, x2⟩ s' ⟨rfl, h2⟩ nx
    simp only at h2
    subst h2
    have hnlt : ¬ ((xs.length : Int) < xs.length) := by omega
    simp only [f11_l0, oO, bindS, many1, jnE, boolS, gdB, fst', snd', len_sl u24, bop_lss, hnlt, decide_false, condF, beq_yes, condT]
    exact One.ret ⟨rfl, rfl⟩
/-- Samples that rise below a time. -/
def Good (T : Nat) (r : List (Nat × Nat)) : Prop := r.Pairwise (fun a b => a.1 < b.1) ∧ ∀ x ∈ r, x.1 < T ∧ x.2 < 2 ^ 64
theorem Good.mono {T T' : Nat} {r : List (Nat × Nat)} (h : Good T r) (hT : T ≤ T') : Good T' r := ⟨h.1, fun x hx => ⟨Nat.lt_of_lt_of_le (h.2 x hx).1 hT, (h.2 x hx).2⟩⟩
theorem rise_right : ∀ (l : List (Nat × Nat)) (t : TS), l.Pairwise (fun a b => a.1 < b.1) → (∀ x ∈ l, x.1 < 1000000000 ∧ x.2 < 2 ^ 64 ∧ (t.n = 0 ∨ t.last < x.1)) → Right t l
  | [], _, _, _ => trivial
  | a :: l, t, h, k => by
    obtain ⟨h1, h2⟩ := List.pairwise_cons.1 h
    obtain ⟨k1, k2, k3⟩ := k a (List.mem_cons_self ..)
    refine ⟨⟨by omega, by unfold mxT; omega, by omega⟩, k2, rise_right l _ h2 fun x hx => ?_⟩
    obtain ⟨q1, q2, q3⟩ := k x (List.mem_cons_of_mem _ hx)
    refine ⟨q1, q2, .inr ?_⟩
    have : (tnext t a.1).last = a.1 := by unfold tnext; split <;> rfl
    rw [this]
    exact h1 x hx
theorem Good.right {T : Nat} {r : List (Nat × Nat)} (h : Good T r) (hT : T ≤ 1000000000) : Right t0 r := rise_right r t0 h.1 fun x hx => ⟨Nat.lt_of_lt_of_le (h.2 x hx).1 hT, (h.2 x hx).2, .inl rfl⟩
/-! What was put is read back. -/
end Go.Proofs.YtmhmbmogodofeaaDoor.S
