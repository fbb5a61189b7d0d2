/- Orders: of bytes, of texts, of labels, of lists of labels: each is one order. -/
import GoSem.Step
set_option autoImplicit false
namespace Go.Proofs.Ytmhmbmogodofeaa.S
/-- One order, told by -1, 0 and 1. -/
structure GoodC {α : Type} (c : α → α → Int) : Prop where
  rng : ∀ a b, c a b = -1 ∨ c a b = 0 ∨ c a b = 1
  anti : ∀ a b, c b a = - c a b
  eq : ∀ a b, c a b = 0 ↔ a = b
  tr : ∀ a b d, c a b ≤ 0 → c b d ≤ 0 → c a d ≤ 0
theorem GoodC.tr0 {α : Type} {c : α → α → Int} (h : GoodC c) {x y z : α} (h1 : c x y ≤ 0) (h2 : c y z ≤ 0) (h3 : c x z = 0) : c x y = 0 ∧ c y z = 0 := by
  have e := (h.eq x z).1 h3
  subst e
  have := h.anti x y
  omega
def lexP {α β : Type} (c : α → α → Int) (d : β → β → Int) (p q : α × β) : Int := if c p.1 q.1 = 0 then d p.2 q.2 else c p.1 q.1
theorem lexP_good {α β : Type} {c : α → α → Int} {d : β → β → Int} (hc : GoodC c) (hd : GoodC d) : GoodC (lexP c d) where
  rng p q := by
    unfold lexP
    split
    · exact hd.rng _ _
    · exact hc.rng _ _
  anti p q := by
    have h1 := hc.anti p.1 q.1
    unfold lexP
    by_cases h : c p.1 q.1 = 0
    · rw [if_pos h, if_pos (by omega)]; exact hd.anti _ _
    · rw [if_neg h, if_neg (by omega)]; exact h1
  eq p q := by
    unfold lexP
    by_cases h : c p.1 q.1 = 0
    · rw [if_pos h, hd.eq]
      have := (hc.eq _ _).1 h
      exact ⟨fun h2 => Prod.ext this h2, fun h2 => by rw [h2]⟩
    · rw [if_neg h]
      exact ⟨fun h2 => absurd h2 h, fun h2 => absurd ((hc.eq _ _).2 (by rw [h2])) h⟩
  tr p q r h1 h2 := by
    unfold lexP at h1 h2 ⊢
    by_cases a : c p.1 q.1 = 0
    · rw [if_pos a] at h1
      have e := (hc.eq _ _).1 a
      rw [e]
      by_cases b : c q.1 r.1 = 0
      · rw [if_pos b] at h2 ⊢
        exact hd.tr _ _ _ h1 h2
      · rw [if_neg b] at h2 ⊢; exact h2
    · rw [if_neg a] at h1
      have h3 : c q.1 r.1 ≤ 0 := by
        split at h2
        · omega
        · exact h2
      have h4 := hc.tr _ _ _ h1 h3
      by_cases b : c p.1 r.1 = 0
      · exact absurd (hc.tr0 h1 h3 b).1 a
      · rw [if_neg b]; exact h4
def lexL {α : Type} (c : α → α → Int) : List α → List α → Int
  | [], [] => 0
  | [], _ :: _ => -1
  | _ :: _, [] => 1
  | a :: l, b :: m => if c a b = 0 then lexL c l m else c a b
theorem lexL_cons {α : Type} (c : α → α → Int) (a b : α) (l m : List α) : lexL c (a :: l) (b :: m) = if c a b = 0 then lexL c l m else c a b := rfl
theorem lexL_good {α : Type} {c : α → α → Int} (hc : GoodC c) : GoodC (lexL c) where
  rng := by
    intro l
    induction l with
    | nil => intro m; cases m <;> simp [lexL]
    | cons a l ih =>
      intro m
      cases m with
      | nil => simp [lexL]
      | cons b m =>
        rw [lexL_cons]
        split
        · exact ih m
        · exact hc.rng _ _
  anti := by
    intro l
    induction l with
    | nil => intro m; cases m <;> simp [lexL]
    | cons a l ih =>
      intro m
      cases m with
      | nil => simp [lexL]
      | cons b m =>
        have := hc.anti a b
        rw [lexL_cons, lexL_cons]
        by_cases h : c a b = 0
        · rw [if_pos h, if_pos (by omega)]; exact ih m
        · rw [if_neg h, if_neg (by omega)]; exact this
  eq := by
    intro l
    induction l with
    | nil => intro m; cases m <;> simp [lexL]
    | cons a l ih =>
      intro m
      cases m with
      | nil => simp [lexL]
      | cons b m =>
        rw [lexL_cons]
        by_cases h : c a b = 0
        · rw [if_pos h, ih m, (hc.eq a b).1 h]; simp
        · rw [if_neg h]
          exact ⟨fun h2 => absurd h2 h, fun h2 => absurd ((hc.eq _ _).2 (List.cons.inj h2).1) h⟩
  tr := by
    intro l
    induction l with
    | nil =>
      intro m r _ h2
      cases m with
      | nil => exact h2
      | cons b m =>
        cases r with
        | nil => simp [lexL]
        | cons d r => simp [lexL]
    | cons a l ih =>
      intro m r h1 h2
      cases m with
      | nil => simp [lexL] at h1
      | cons b m =>
        cases r with
        | nil => simp [lexL] at h2
        | cons d r =>
          rw [lexL_cons] at h1 h2 ⊢
          by_cases x : c a b = 0
          · rw [if_pos x] at h1
            have e := (hc.eq _ _).1 x
            subst e
            by_cases y : c a d = 0
            · rw [if_pos y] at h2 ⊢; exact ih _ _ h1 h2
            · rw [if_neg y] at h2 ⊢; exact h2
          · rw [if_neg x] at h1
            have h3 : c b d ≤ 0 := by
              split at h2
              · omega
              · exact h2
            have h4 := hc.tr _ _ _ h1 h3
            by_cases y : c a d = 0
            · exact absurd (hc.tr0 h1 h3 y).1 x
            · rw [if_neg y]; exact h4
def cmpU (a b : UInt8) : Int := if a < b then -1 else if b < a then 1 else 0
theorem cmpU_good : GoodC cmpU where
  rng a b := by
    unfold cmpU
    split
    · exact .inl rfl
    · split
      · exact .inr (.inr rfl)
      · exact .inr (.inl rfl)
  anti a b := by
    unfold cmpU
    simp only [UInt8.lt_iff_toNat_lt]
    split <;> split <;> first | omega | (split <;> omega) | rfl
  eq a b := by
    unfold cmpU
    simp only [UInt8.lt_iff_toNat_lt, ← UInt8.toNat_inj]
    split
    · simp; omega
    · split
      · simp; omega
      · simp; omega
  tr a b d := by
    unfold cmpU
    simp only [UInt8.lt_iff_toNat_lt]
    intro h1 h2
    split at h1 <;> split at h2 <;> split <;> first | omega | (split <;> first | omega | (split at h1 <;> first | omega | (split at h2 <;> omega)) | (split at h2 <;> omega))
/-- Texts. -/
def cmpB (x y : List UInt8) : Int := if Op.bytesLess x y then -1 else if Op.bytesLess y x then 1 else 0
theorem less_iff : ∀ (x y : List UInt8), Op.bytesLess x y = true ↔ lexL cmpU x y = -1
  | [], [] => by simp [Op.bytesLess, lexL]
  | [], _ :: _ => by simp [Op.bytesLess, lexL]
  | _ :: _, [] => by simp [Op.bytesLess, lexL]
  | a :: x, b :: y => by
    have ih := less_iff x y
    rw [lexL_cons]
    simp only [Op.bytesLess, Bool.or_eq_true, decide_eq_true_eq, Bool.and_eq_true, beq_iff_eq, ih]
    have h0 := cmpU_good.eq a b
    by_cases h : cmpU a b = 0
    · rw [if_pos h]
      have e := h0.1 h
      subst e
      simp
    · rw [if_neg h]
      have h2 : a ≠ b := fun e => h (h0.2 e)
      simp only [h2, false_and, or_false]
      unfold cmpU
      by_cases h3 : a < b
      · simp [h3]
      · by_cases h4 : b < a <;> simp [h3, h4]
theorem cmpB_lex (x y : List UInt8) : cmpB x y = lexL cmpU x y := by
  have g := lexL_good cmpU_good
  unfold cmpB
  by_cases h : Op.bytesLess x y = true
  · rw [if_pos h, (less_iff x y).1 h]
  · rw [if_neg h]
    have h1 : ¬ lexL cmpU x y = -1 := fun e => h ((less_iff x y).2 e)
    have h2 := g.anti x y
    by_cases k : Op.bytesLess y x = true
    · rw [if_pos k]
      have := (less_iff y x).1 k
      omega
    · rw [if_neg k]
      have h3 : ¬ lexL cmpU y x = -1 := fun e => k ((less_iff y x).2 e)
      have := g.rng x y
      omega
theorem cmpB_good : GoodC cmpB := by
  have : cmpB = lexL cmpU := funext fun x => funext fun y => cmpB_lex x y
  rw [this]; exact lexL_good cmpU_good
end Go.Proofs.Ytmhmbmogodofeaa.S
