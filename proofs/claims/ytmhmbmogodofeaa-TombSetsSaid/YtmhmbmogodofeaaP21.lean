import Derived.Test.YtmhmbmogodofeaaC21b
set_option autoImplicit false
set_option linter.unusedVariables false
set_option linter.unusedSimpArgs false
namespace Go.Proofs.Ytmhmbmogodofeaa.S
open Go.FS Go.RowKit
/-! The plain law: joining ranges. -/
def cov' (l : List Rg) (t : Int) : Prop := ∃ r ∈ l, r.1 ≤ t ∧ t ≤ r.2
/-- Ranges that rise and do not touch, above b. -/
def Cn (M : Int) : Int → List Rg → Prop
  | _, [] => True
  | b, y :: l => b + 1 < y.1 ∧ y.1 ≤ y.2 ∧ y.2 ≤ M ∧ Cn M y.2 l
theorem Cn.weak {M b b' : Int} {l : List Rg} (h : Cn M b l) (hb : b' ≤ b) : Cn M b' l := by
  cases l with
  | nil => trivial
  | cons y l => exact ⟨by have := h.1; omega, h.2⟩
def joinR : List Rg → Rg → List Rg
  | [], x => [x]
  | y :: l, x => if y.2 + 1 < x.1 then y :: joinR l x else if x.2 + 1 < y.1 then x :: y :: l else joinR l (if y.1 < x.1 then y.1 else x.1, if x.2 < y.2 then y.2 else x.2)
theorem tou_eq {a b : Int} (h0 : 0 ≤ a) (h1 : a ≤ 35184372088832) : tou a b = decide (b ≤ a + 1) := by
  unfold tou; rw [wrap_i64 (by omega) (by omega)]
/-- What is far above stays as it is. -/
theorem fold_done {M : Int} (hM : M ≤ 35184372088832) : ∀ (l : List Rg) (b : Int) (out : List Rg) (x : Rg), Cn M b l → x.2 ≤ b → 0 ≤ x.2 → x.2 ≤ M → l.foldl jstep (out, true, x) = (out ++ l, true, x)
  | [], b, out, x, _, _, _, _ => by simp
  | y :: l, b, out, x, h, hx, h0, h1 => by
    obtain ⟨a1, a2, a3, a4⟩ := h
    have k2 : tou x.2 y.1 = false := by rw [tou_eq h0 (by omega)]; exact decide_eq_false (by omega)
    have e : jstep (out, true, x) y = (out ++ [y], true, x) := by
      unfold jstep
      cases tou y.2 x.1 <;> simp [k2]
    rw [List.foldl_cons, e, fold_done hM l y.2 _ x a4 (by omega) h0 h1]; simp
theorem fold_join {M : Int} (hM : M ≤ 35184372088832) : ∀ (l : List Rg) (b : Int) (out : List Rg) (x : Rg), Cn M b l → -2 ≤ b → 0 ≤ x.1 → x.1 ≤ x.2 → x.2 ≤ M →
    (match l.foldl jstep (out, false, x) with | (out, done, x) => bif !done then out ++ [x] else out) = out ++ joinR l x
  | [], b, out, x, _, _, _, _, _ => rfl
  | y :: l, b, out, x, h, hb, h0, h1, h2 => by
    obtain ⟨a1, a2, a3, a4⟩ := h
    have k1 : tou y.2 x.1 = decide (x.1 ≤ y.2 + 1) := tou_eq (by omega) (by omega)
    have k2 : tou x.2 y.1 = decide (y.1 ≤ x.2 + 1) := tou_eq (by omega) (by omega)
    rw [List.foldl_cons]
    by_cases q1 : y.2 + 1 < x.1
    · have e : jstep (out, false, x) y = (out ++ [y], false, x) := by
        simp only [jstep]; rw [k1, decide_eq_false (by omega)]; rfl
      rw [e, fold_join hM l y.2 _ x a4 (by omega) h0 h1 h2]
      simp only [joinR, q1, if_true, List.append_assoc, List.singleton_append]
    · by_cases q2 : x.2 + 1 < y.1
      · have e : jstep (out, false, x) y = (out ++ [x] ++ [y], true, x) := by
          simp only [jstep]; rw [k1, k2, decide_eq_true (by omega), decide_eq_false (by omega)]; rfl
        rw [e, fold_done hM l y.2 _ x a4 (by omega) (by omega) h2]
        simp only [joinR, q1, q2, if_true, if_false, Bool.not_true, cond_false, List.append_assoc, List.singleton_append, List.cons_append, List.nil_append]
      · have e : jstep (out, false, x) y = (out, false, (if y.1 < x.1 then y.1 else x.1, if x.2 < y.2 then y.2 else x.2)) := by
          simp only [jstep]; rw [k1, k2, decide_eq_true (by omega), decide_eq_true (by omega)]; rfl
        have g0 : (0 : Int) ≤ (if y.1 < x.1 then y.1 else x.1) := by split <;> omega
        have g1 : (if y.1 < x.1 then y.1 else x.1) ≤ (if x.2 < y.2 then y.2 else x.2) := by split <;> split <;> omega
        have g2 : (if x.2 < y.2 then y.2 else x.2) ≤ M := by split <;> omega
        rw [e, fold_join hM l b _ _ (a4.weak (by omega)) hb g0 g1 g2]
        simp only [joinR, q1, q2, if_false]
theorem joinR_cn {M : Int} : ∀ (l : List Rg) (b : Int) (x : Rg), Cn M b l → b + 1 < x.1 → x.1 ≤ x.2 → x.2 ≤ M → Cn M b (joinR l x)
  | [], b, x, _, h0, h1, h2 => ⟨h0, h1, h2, trivial⟩
  | y :: l, b, x, h, h0, h1, h2 => by
    obtain ⟨a1, a2, a3, a4⟩ := h
    unfold joinR
    split
    · next q => exact ⟨a1, a2, a3, joinR_cn l y.2 x a4 q h1 h2⟩
    · split
      · next q => exact ⟨h0, h1, h2, q, a2, a3, a4⟩
      · exact joinR_cn l b _ (a4.weak (by omega)) (by simp only; split <;> omega) (by simp only; split <;> split <;> omega) (by simp only; split <;> omega)
theorem cov_cons (y : Rg) (l : List Rg) (t : Int) : cov' (y :: l) t ↔ (y.1 ≤ t ∧ t ≤ y.2) ∨ cov' l t := by
  unfold cov'; simp
theorem joinR_cov {M : Int} : ∀ (l : List Rg) (b : Int) (x : Rg) (t : Int), Cn M b l → x.1 ≤ x.2 → (cov' (joinR l x) t ↔ cov' l t ∨ (x.1 ≤ t ∧ t ≤ x.2))
  | [], b, x, t, _, _ => by unfold joinR; rw [cov_cons]; exact Or.comm
  | y :: l, b, x, t, h, h1 => by
    obtain ⟨a1, a2, a3, a4⟩ := h
    unfold joinR
    split
    · rw [cov_cons, cov_cons, joinR_cov l y.2 x t a4 h1]; exact or_assoc.symm
    · split
      · rw [cov_cons]; exact Or.comm
      · next q1 q2 =>
        rw [joinR_cov l b _ t (a4.weak (by omega)) (by simp only; split <;> split <;> omega), cov_cons]
        have : ((if y.1 < x.1 then y.1 else x.1) ≤ t ∧ t ≤ (if x.2 < y.2 then y.2 else x.2)) ↔ ((y.1 ≤ t ∧ t ≤ y.2) ∨ (x.1 ≤ t ∧ t ≤ x.2)) := by
          constructor
          · rintro ⟨u1, u2⟩
            split at u1 <;> split at u2 <;> omega
          · rintro (⟨u1, u2⟩ | ⟨u1, u2⟩) <;> constructor <;> split <;> omega
        simp only [this]
        constructor
        · rintro (u | u | u)
          · exact .inl (.inr u)
          · exact .inl (.inl u)
          · exact .inr u
        · rintro ((u | u) | u)
          · exact .inr (.inl u)
          · exact .inl u
          · exact .inr (.inr u)
theorem cn_above {M : Int} : ∀ (l : List Rg) (b t : Int), Cn M b l → t ≤ b + 1 → ¬ cov' l t
  | [], b, t, _, _ => by unfold cov'; simp
  | y :: l, b, t, h, ht => by
    obtain ⟨a1, a2, a3, a4⟩ := h
    rw [cov_cons]
    rintro (u | u)
    · omega
    · exact cn_above l y.2 t a4 (by omega) u
theorem cn_unique {M : Int} : ∀ (l l' : List Rg) (b b' : Int), Cn M b l → Cn M b' l' → (∀ t, cov' l t ↔ cov' l' t) → l = l'
  | [], [], _, _, _, _, _ => rfl
  | [], y :: l, b, b', _, h, e => by
    have := (e y.1).2 (by rw [cov_cons]; exact .inl ⟨Int.le_refl _, h.2.1⟩)
    unfold cov' at this; simp at this
  | y :: l, [], b, b', h, _, e => by
    have := (e y.1).1 (by rw [cov_cons]; exact .inl ⟨Int.le_refl _, h.2.1⟩)
    unfold cov' at this; simp at this
  | y :: l, z :: m, b, b', h, h', e => by
    obtain ⟨a1, a2, a3, a4⟩ := h
    obtain ⟨c1, c2, c3, c4⟩ := h'
    have n1 : ∀ t, t ≤ y.2 + 1 → ¬ cov' l t := fun t ht => cn_above l y.2 t a4 ht
    have n2 : ∀ t, t ≤ z.2 + 1 → ¬ cov' m t := fun t ht => cn_above m z.2 t c4 ht
    have e' : ∀ t, ((y.1 ≤ t ∧ t ≤ y.2) ∨ cov' l t) ↔ ((z.1 ≤ t ∧ t ≤ z.2) ∨ cov' m t) := fun t => by rw [← cov_cons, ← cov_cons]; exact e t
    have f1 : y.1 = z.1 := by
      rcases Int.lt_trichotomy y.1 z.1 with u | u | u
      · rcases (e' y.1).1 (.inl ⟨Int.le_refl _, a2⟩) with w | w
        · omega
        · exact absurd w (n2 _ (by omega))
      · exact u
      · rcases (e' z.1).2 (.inl ⟨Int.le_refl _, c2⟩) with w | w
        · omega
        · exact absurd w (n1 _ (by omega))
    have f2 : y.2 = z.2 := by
      rcases Int.lt_trichotomy y.2 z.2 with u | u | u
      · rcases (e' (y.2 + 1)).2 (.inl ⟨by omega, by omega⟩) with w | w
        · omega
        · exact absurd w (n1 _ (by omega))
      · exact u
      · rcases (e' (z.2 + 1)).1 (.inl ⟨by omega, by omega⟩) with w | w
        · omega
        · exact absurd w (n2 _ (by omega))
    have ht : l = m := cn_unique l m y.2 z.2 a4 c4 fun t => by
      by_cases w : t ≤ y.2
      · exact ⟨fun u => absurd u (n1 t (by omega)), fun u => absurd u (n2 t (by omega))⟩
      · have := e' t
        rw [← f1, ← f2] at this
        constructor
        · intro u
          rcases this.1 (.inr u) with v | v
          · omega
          · exact v
        · intro u
          rcases this.2 (.inr u) with v | v
          · omega
          · exact v
    rw [ht, Prod.ext f1 f2]
/-- All ranges that may be, one after another. -/
def joinAll (l : List Rg) (L : List Rg) : List Rg := L.foldl (fun l r => if rightR r [5] then joinF l r else l) l
theorem right5 (r : Rg) : rightR r [5] = true ↔ 0 ≤ r.1 ∧ r.1 ≤ r.2 ∧ r.2 ≤ 35184372088832 := by
  unfold rightR
  have : rises 0 [5] = true := by decide
  rw [this]; simp
theorem joinF_R {l : List Rg} {x : Rg} (h : Cn 35184372088832 (-2) l) (hx : rightR x [5] = true) : joinF l x = joinR l x := by
  obtain ⟨h0, h1, h2⟩ := (right5 x).1 hx
  have := fold_join (Int.le_refl _) l (-2) [] x h (Int.le_refl _) h0 h1 h2
  exact this
theorem joinAll_ok : ∀ (L l : List Rg), Cn 35184372088832 (-2) l → Cn 35184372088832 (-2) (joinAll l L) ∧ ∀ t, cov' (joinAll l L) t ↔ cov' l t ∨ ∃ r ∈ L, rightR r [5] = true ∧ r.1 ≤ t ∧ t ≤ r.2
  | [], l, h => ⟨h, fun t => by unfold joinAll; simp⟩
  | r :: L, l, h => by
    have e : joinAll l (r :: L) = joinAll (if rightR r [5] then joinF l r else l) L := rfl
    rw [e]
    by_cases hr : rightR r [5] = true
    · obtain ⟨h0, h1, h2⟩ := (right5 r).1 hr
      have hc : Cn 35184372088832 (-2) (joinF l r) := by rw [joinF_R h hr]; exact joinR_cn l (-2) r h (by omega) h1 h2
      have hv := fun t => joinR_cov l (-2) r t h h1
      obtain ⟨i1, i2⟩ := joinAll_ok L (joinF l r) hc
      rw [if_pos hr]
      refine ⟨i1, fun t => ?_⟩
      rw [i2 t, joinF_R h hr, hv t]
      simp only [List.mem_cons, exists_eq_or_imp, hr, true_and]
      constructor
      · rintro ((u | u) | u)
        · exact .inl u
        · exact .inr (.inl u)
        · exact .inr (.inr u)
      · rintro (u | u | u)
        · exact .inl (.inl u)
        · exact .inl (.inr u)
        · exact .inr u
    · obtain ⟨i1, i2⟩ := joinAll_ok L l h
      rw [if_neg hr]
      refine ⟨i1, fun t => ?_⟩
      rw [i2 t]
      have hr' : rightR r [5] = false := by simpa using hr
      simp [exists_eq_or_imp, hr']
/-- In whatever order, however often. -/
theorem joinAll_perm {L L' : List Rg} (h : ∀ r, r ∈ L ↔ r ∈ L') : joinAll [] L = joinAll [] L' := by
  obtain ⟨a1, a2⟩ := joinAll_ok L [] trivial
  obtain ⟨b1, b2⟩ := joinAll_ok L' [] trivial
  refine cn_unique _ _ _ _ a1 b1 fun t => ?_
  rw [a2, b2]
  constructor
  · rintro (u | ⟨r, hr, u⟩)
    · exact .inl u
    · exact .inr ⟨r, (h r).1 hr, u⟩
  · rintro (u | ⟨r, hr, u⟩)
    · exact .inl u
    · exact .inr ⟨r, (h r).2 hr, u⟩
end Go.Proofs.Ytmhmbmogodofeaa.S
