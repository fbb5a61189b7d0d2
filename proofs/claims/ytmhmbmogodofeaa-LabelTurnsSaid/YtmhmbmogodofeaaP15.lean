/- Texts in their order: sorted, each once. -/
import Derived.Test.YtmhmbmogodofeaaP04
set_option autoImplicit false
namespace Go.Proofs.Ytmhmbmogodofeaa.S
abbrev Str := List UInt8
theorem less_lt : ∀ (x y : Str), Op.bytesLess x y = true ↔ x < y
  | [], [] => by simp [Op.bytesLess]
  | [], b :: y => by simp [Op.bytesLess]
  | a :: x, [] => by simp [Op.bytesLess]
  | a :: x, b :: y => by
    rw [List.cons_lt_cons_iff, ← less_lt x y]
    simp [Op.bytesLess]
theorem le_less (x y : Str) : decide (x ≤ y) = !Op.bytesLess y x := by
  have h1 : x ≤ y ↔ ¬ y < x := List.not_lt.symm
  cases h : Op.bytesLess y x with
  | true => rw [decide_eq_false]; · rfl
            rw [h1]; exact fun k => k ((less_lt _ _).1 h)
  | false => rw [decide_eq_true]; · rfl
             rw [h1]; intro k; rw [(less_lt _ _).2 k] at h; cases h
abbrev lt' (x y : Str) : Prop := Op.bytesLess x y = true
abbrev le' (x y : Str) : Prop := Op.bytesLess y x = false
theorem lt_cmp {x y : Str} : lt' x y ↔ cmpB x y = -1 := by
  have := less_iff x y
  rw [← cmpB_lex] at this; exact this
theorem le_cmp {x y : Str} : le' x y ↔ cmpB x y ≤ 0 := by
  have h1 := lt_cmp (x := y) (y := x)
  have h2 := cmpB_good.anti x y
  have h3 := cmpB_good.rng x y
  constructor
  · intro h
    have : ¬ cmpB y x = -1 := fun e => by have := h1.2 e; unfold lt' at this; unfold le' at h; rw [this] at h; cases h
    omega
  · intro h
    unfold le'
    cases e : Op.bytesLess y x with
    | false => rfl
    | true => have := h1.1 e; omega
theorem le_trans' {x y z : Str} (h : le' x y) (k : le' y z) : le' x z := le_cmp.2 (cmpB_good.tr _ _ _ (le_cmp.1 h) (le_cmp.1 k))
theorem le_total' (x y : Str) : le' x y ∨ le' y x := by
  rw [le_cmp, le_cmp, cmpB_good.anti x y]; omega
theorem le_anti' {x y : Str} (h : le' x y) (k : le' y x) : x = y := by
  rw [le_cmp] at h k
  rw [cmpB_good.anti x y] at k
  exact (cmpB_good.eq x y).1 (by omega)
theorem lt_of_le_ne {x y : Str} (h : le' x y) (k : x ≠ y) : lt' x y := by
  rw [lt_cmp]
  have h1 := le_cmp.1 h
  have h2 : ¬ cmpB x y = 0 := fun e => k ((cmpB_good.eq x y).1 e)
  have := cmpB_good.rng x y
  omega
theorem le_of_lt' {x y : Str} (h : lt' x y) : le' x y := by
  rw [le_cmp]; rw [lt_cmp] at h; omega
theorem lt_ne {x y : Str} (h : lt' x y) : x ≠ y := fun e => by
  rw [lt_cmp, (cmpB_good.eq x y).2 e] at h; omega
theorem lt_le_trans {x y z : Str} (h : lt' x y) (k : le' y z) : lt' x z := by
  refine lt_of_le_ne (le_trans' (le_of_lt' h) k) fun e => ?_
  subst e
  exact lt_ne h (le_anti' (le_of_lt' h) k)
theorem le_lt_trans {x y z : Str} (h : le' x y) (k : lt' y z) : lt' x z := by
  refine lt_of_le_ne (le_trans' h (le_of_lt' k)) fun e => ?_
  subst e
  exact lt_ne k (le_anti' (le_of_lt' k) h)
def insB (x : Str) : List Str → List Str
  | [] => [x]
  | y :: l => if Op.bytesLess y x then y :: insB x l else x :: y :: l
def isrt : List Str → List Str
  | [] => []
  | x :: l => insB x (isrt l)
theorem insB_perm (x : Str) : ∀ l, (insB x l).Perm (x :: l)
  | [] => .refl _
  | y :: l => by
    unfold insB
    split
    · exact ((insB_perm x l).cons y).trans (.swap x y l)
    · exact .refl _
theorem isrt_perm : ∀ l, (isrt l).Perm l
  | [] => .refl _
  | x :: l => (insB_perm x _).trans ((isrt_perm l).cons x)
theorem insB_sorted (x : Str) : ∀ {l}, l.Pairwise le' → (insB x l).Pairwise le'
  | [], _ => by unfold insB; exact List.pairwise_cons.2 ⟨fun _ h => (List.not_mem_nil h).elim, .nil⟩
  | y :: l, h => by
    have h2 := List.pairwise_cons.1 h
    unfold insB
    split
    · rename_i c
      refine List.pairwise_cons.2 ⟨fun z hz => ?_, insB_sorted x h2.2⟩
      rcases List.mem_cons.1 ((insB_perm x l).mem_iff.1 hz) with rfl | hz
      · exact le_of_lt' c
      · exact h2.1 z hz
    · rename_i c
      have hxy : le' x y := by simpa using c
      refine List.pairwise_cons.2 ⟨fun z hz => ?_, h⟩
      rcases List.mem_cons.1 hz with rfl | hz
      · exact hxy
      · exact le_trans' hxy (h2.1 z hz)
theorem isrt_sorted : ∀ l, (isrt l).Pairwise le'
  | [] => .nil
  | x :: l => insB_sorted x (isrt_sorted l)
theorem sort_isrt (l : List Str) : (l.mergeSort fun x y => decide (x ≤ y)) = isrt l := by
  have e : (fun x y : Str => decide (x ≤ y)) = fun x y => !Op.bytesLess y x := funext fun x => funext fun y => le_less x y
  rw [e]
  have hs := List.pairwise_mergeSort (le := fun x y : Str => !Op.bytesLess y x) (fun a b c h k => by
    simp only [Bool.not_eq_true'] at *
    exact le_trans' (x := a) (y := b) (z := c) h k) (fun a b => by
    rcases le_total' a b with h | h
    · unfold le' at h; simp [h]
    · unfold le' at h; simp [h]) l
  refine List.Perm.eq_of_pairwise (le := le') (fun a b _ _ h k => le_anti' h k) ?_ (isrt_sorted l) ((List.mergeSort_perm l _).trans (isrt_perm l).symm)
  exact hs.imp fun {a b} h => by simpa using h
/-- Of those that are the same one behind the other, one. -/
def cpt : List Str → List Str
  | [] => []
  | x :: l => match l with
    | [] => [x]
    | y :: _ => if x = y then cpt l else x :: cpt l
theorem cpt_one (x : Str) : cpt [x] = [x] := rfl
theorem cpt_two (x y : Str) (l : List Str) : cpt (x :: y :: l) = if x = y then cpt (y :: l) else x :: cpt (y :: l) := rfl
theorem cpt_mem : ∀ (l : List Str) (z : Str), z ∈ cpt l ↔ z ∈ l
  | [], z => Iff.rfl
  | [x], z => Iff.rfl
  | x :: y :: l, z => by
    have ih := cpt_mem (y :: l) z
    rw [cpt_two]
    split
    · rename_i e
      subst e
      rw [ih]; simp
    · rw [List.mem_cons, ih, List.mem_cons (a := z) (b := x)]
abbrev Ris (l : List Str) : Prop := l.Pairwise lt'
theorem cpt_ris : ∀ {l : List Str}, l.Pairwise le' → Ris (cpt l)
  | [], _ => .nil
  | [x], _ => List.pairwise_cons.2 ⟨fun _ h => (List.not_mem_nil h).elim, .nil⟩
  | x :: y :: l, h => by
    have h2 := List.pairwise_cons.1 h
    have ih := cpt_ris h2.2
    rw [cpt_two]
    split
    · exact ih
    · rename_i hne
      refine List.pairwise_cons.2 ⟨fun z hz => ?_, ih⟩
      have hz := (cpt_mem _ z).1 hz
      have hxy := lt_of_le_ne (h2.1 y (List.mem_cons_self ..)) hne
      rcases List.mem_cons.1 hz with rfl | hz
      · exact hxy
      · exact lt_le_trans hxy ((List.pairwise_cons.1 h2.2).1 z hz)
/-- Rising lists of the same ones are the same. -/
theorem ris_eq : ∀ {l m : List Str}, Ris l → Ris m → (∀ z, z ∈ l ↔ z ∈ m) → l = m
  | [], [], _, _, _ => rfl
  | [], y :: m, _, _, h => absurd ((h y).2 (List.mem_cons_self ..)) List.not_mem_nil
  | x :: l, [], _, _, h => absurd ((h x).1 (List.mem_cons_self ..)) List.not_mem_nil
  | x :: l, y :: m, hl, hm, h => by
    have hl2 := List.pairwise_cons.1 hl
    have hm2 := List.pairwise_cons.1 hm
    have e : x = y := by
      rcases List.mem_cons.1 ((h x).1 (List.mem_cons_self ..)) with e | hx
      · exact e
      · rcases List.mem_cons.1 ((h y).2 (List.mem_cons_self ..)) with e | hy
        · exact e.symm
        · exact absurd (le_anti' (le_of_lt' (hl2.1 y hy)) (le_of_lt' (hm2.1 x hx))) (lt_ne (hl2.1 y hy))
    subst e
    rw [ris_eq hl2.2 hm2.2 fun z => ?_]
    constructor
    · intro hz
      rcases List.mem_cons.1 ((h z).1 (List.mem_cons_of_mem _ hz)) with rfl | k
      · exact absurd rfl (lt_ne (hl2.1 z hz))
      · exact k
    · intro hz
      rcases List.mem_cons.1 ((h z).2 (List.mem_cons_of_mem _ hz)) with rfl | k
      · exact absurd rfl (lt_ne (hm2.1 z hz))
      · exact k
/-- The texts of a table. -/
def mkT (l : List Str) : List Str := cpt (isrt l)
theorem mkT_ris (l : List Str) : Ris (mkT l) := cpt_ris (isrt_sorted l)
theorem mkT_mem (l : List Str) (z : Str) : z ∈ mkT l ↔ z ∈ l := (cpt_mem _ z).trans (isrt_perm l).mem_iff
theorem mkT_eq {l m : List Str} (h : ∀ z, z ∈ l ↔ z ∈ m) : mkT l = mkT m := ris_eq (mkT_ris l) (mkT_ris m) fun z => by rw [mkT_mem, mkT_mem, h]
theorem mkT_of_ris {l : List Str} (h : Ris l) : mkT l = l := ris_eq (mkT_ris l) h fun z => mkT_mem l z
theorem cpt_len : ∀ (l : List Str), (cpt l).length ≤ l.length
  | [] => Nat.le_refl _
  | [x] => Nat.le_refl _
  | x :: y :: l => by
    have := cpt_len (y :: l)
    rw [cpt_two]
    split
    · simp only [List.length_cons] at *; omega
    · simp only [List.length_cons] at *; omega
theorem mkT_len (l : List Str) : (mkT l).length ≤ l.length := Nat.le_trans (cpt_len _) (Nat.le_of_eq (isrt_perm l).length_eq)
end Go.Proofs.Ytmhmbmogodofeaa.S
