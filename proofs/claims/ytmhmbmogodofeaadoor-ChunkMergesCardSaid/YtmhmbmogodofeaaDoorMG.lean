/- Merging rising lists. -/
set_option autoImplicit false
namespace Go.Proofs.YtmhmbmogodofeaaDoor.S
abbrev Spl := Int × Int
def mrgS : List Spl → List Spl → List Spl
  | [], b => b
  | x :: a, [] => x :: a
  | x :: a, y :: b => if x.1 < y.1 then x :: mrgS a (y :: b) else if x.1 = y.1 then mrgS a (y :: b) else y :: mrgS (x :: a) b
termination_by a b => a.length + b.length
theorem mrgS_nil (b : List Spl) : mrgS [] b = b := by rw [mrgS]
theorem mrgS_nil2 (a : List Spl) : mrgS a [] = a := by cases a <;> rw [mrgS]
theorem mrgS_cons (x y : Spl) (a b : List Spl) : mrgS (x :: a) (y :: b) = if x.1 < y.1 then x :: mrgS a (y :: b) else if x.1 = y.1 then mrgS a (y :: b) else y :: mrgS (x :: a) b := by rw [mrgS]
def Rising (l : List Spl) : Prop := l.Pairwise fun x y => x.1 < y.1
theorem mrgS_mem : ∀ (a b : List Spl) (z : Spl), z ∈ mrgS a b → z ∈ a ∨ z ∈ b
  | [], b, z, h => by rw [mrgS_nil] at h; exact .inr h
  | x :: a, [], z, h => by rw [mrgS_nil2] at h; exact .inl h
  | x :: a, y :: b, z, h => by
    rw [mrgS_cons] at h
    split at h
    · rcases List.mem_cons.1 h with rfl | h
      · exact .inl (List.mem_cons_self ..)
      · exact (mrgS_mem a (y :: b) z h).imp (List.mem_cons_of_mem _) id
    · split at h
      · exact (mrgS_mem a (y :: b) z h).imp (List.mem_cons_of_mem _) id
      · rcases List.mem_cons.1 h with rfl | h
        · exact .inr (List.mem_cons_self ..)
        · exact (mrgS_mem (x :: a) b z h).imp id (List.mem_cons_of_mem _)
termination_by a b => a.length + b.length
theorem mrgS_has : ∀ (a b : List Spl) (z : Spl), z ∈ b → z ∈ mrgS a b
  | [], b, z, h => by rw [mrgS_nil]; exact h
  | x :: a, [], z, h => by cases h
  | x :: a, y :: b, z, h => by
    rw [mrgS_cons]
    split
    · exact List.mem_cons_of_mem _ (mrgS_has a (y :: b) z h)
    · split
      · exact mrgS_has a (y :: b) z h
      · rcases List.mem_cons.1 h with rfl | h
        · exact List.mem_cons_self ..
        · exact List.mem_cons_of_mem _ (mrgS_has (x :: a) b z h)
termination_by a b => a.length + b.length
theorem mrgS_rising : ∀ (a b : List Spl), Rising a → Rising b → Rising (mrgS a b)
  | [], b, ha, hb => by rw [mrgS_nil]; exact hb
  | x :: a, [], ha, hb => by rw [mrgS_nil2]; exact ha
  | x :: a, y :: b, ha, hb => by
    have ha2 := List.pairwise_cons.1 ha
    have hb2 := List.pairwise_cons.1 hb
    rw [mrgS_cons]
    split
    · rename_i h
      refine List.pairwise_cons.2 ⟨fun z hz => ?_, mrgS_rising a (y :: b) ha2.2 hb⟩
      rcases mrgS_mem _ _ _ hz with hz | hz
      · exact ha2.1 z hz
      · rcases List.mem_cons.1 hz with rfl | hz
        · exact h
        · have := hb2.1 z hz; omega
    · split
      · exact mrgS_rising a (y :: b) ha2.2 hb
      · refine List.pairwise_cons.2 ⟨fun z hz => ?_, mrgS_rising (x :: a) b ha hb2.2⟩
        rcases mrgS_mem _ _ _ hz with hz | hz
        · rcases List.mem_cons.1 hz with rfl | hz
          · omega
          · have := ha2.1 z hz; omega
        · exact hb2.1 z hz
termination_by a b => a.length + b.length
theorem mrgS_low (y : Spl) (b : List Spl) : ∀ (m : List Spl), (∀ z ∈ m, y.1 < z.1) → mrgS m (y :: b) = y :: mrgS m b
  | [], _ => by rw [mrgS_nil, mrgS_nil]
  | z :: m, h => by
    have := h z (List.mem_cons_self ..)
    rw [mrgS_cons, if_neg (by omega), if_neg (by omega)]
theorem mrgS_stays : ∀ (m b : List Spl), Rising m → Rising b → (∀ y ∈ b, y ∈ m) → mrgS m b = m
  | [], [], _, _, _ => by rw [mrgS_nil]
  | [], y :: b, _, _, h => absurd (h y (List.mem_cons_self ..)) List.not_mem_nil
  | x :: m, [], _, _, _ => by rw [mrgS_nil2]
  | x :: m, y :: b, hm, hb, h => by
    have hm2 := List.pairwise_cons.1 hm
    have hb2 := List.pairwise_cons.1 hb
    rcases List.mem_cons.1 (h y (List.mem_cons_self ..)) with rfl | hy
    · rw [mrgS_cons, if_neg (by omega), if_pos rfl, mrgS_low y b m hm2.1]
      rw [mrgS_stays m b hm2.2 hb2.2 fun z hz => ?_]
      rcases List.mem_cons.1 (h z (List.mem_cons_of_mem _ hz)) with rfl | h3
      · have := hb2.1 _ hz; omega
      · exact h3
    · have h1 := hm2.1 y hy
      rw [mrgS_cons, if_pos h1, mrgS_stays m (y :: b) hm2.2 hb fun z hz => ?_]
      rcases List.mem_cons.1 (h z hz) with rfl | h3
      · rcases List.mem_cons.1 hz with rfl | hz
        · omega
        · have := hb2.1 _ hz; omega
      · exact h3
termination_by m b => m.length + b.length
/-- What is within. -/
def wthn (f t : Int) (l : List Spl) : List Spl := l.filter fun x => decide (x.1 ≥ f) && decide (x.1 ≤ t)
theorem wthn_split (at' mx : Int) : ∀ (l : List Spl), Rising l → (∀ x ∈ l, 0 ≤ x.1 ∧ x.1 ≤ mx) → wthn 0 at' l ++ wthn (at' + 1) mx l = l
  | [], _, _ => rfl
  | x :: l, hl, hb => by
    have hl2 := List.pairwise_cons.1 hl
    have hx := hb x (List.mem_cons_self ..)
    have ih := wthn_split at' mx l hl2.2 fun y hy => hb y (List.mem_cons_of_mem _ hy)
    by_cases h : x.1 ≤ at'
    · have e1 : wthn 0 at' (x :: l) = x :: wthn 0 at' l := by
        unfold wthn
        rw [List.filter_cons_of_pos (by simp; omega)]
      have e2 : wthn (at' + 1) mx (x :: l) = wthn (at' + 1) mx l := by
        unfold wthn
        rw [List.filter_cons_of_neg (by simp; omega)]
      rw [e1, e2, List.cons_append, ih]
    · have e1 : wthn 0 at' (x :: l) = [] := by
        unfold wthn
        rw [List.filter_eq_nil_iff]
        intro y hy
        have : at' < y.1 := by
          rcases List.mem_cons.1 hy with rfl | hy
          · omega
          · have := hl2.1 y hy; omega
        simp; omega
      have e2 : wthn (at' + 1) mx (x :: l) = x :: l := by
        unfold wthn
        rw [List.filter_eq_self]
        intro y hy
        have h1 := hb y hy
        have : at' < y.1 := by
          rcases List.mem_cons.1 hy with rfl | hy
          · omega
          · have := hl2.1 y hy; omega
        simp; omega
      rw [e1, e2, List.nil_append]
end Go.Proofs.YtmhmbmogodofeaaDoor.S
