import Derived.Test.YtmhmbmogodofeaaCVf
set_option autoImplicit false
set_option linter.unusedVariables false
set_option linter.unusedSimpArgs false
namespace Go.Proofs.Ytmhmbmogodofeaa.S
open Go.FS Go.RowKit
/-- Bytes that stand at a place. -/
def At (bs : List UInt8) (i : Nat) (l : List UInt8) (j : Nat) : Prop := j = i + l.length ∧ i ≤ bs.length ∧ ∃ r, bs.drop i = l ++ r
section at_
variable {bs a b l : List UInt8} {i j k : Nat}
theorem At.le (h : At bs i l j) : i ≤ j ∧ j ≤ bs.length := by
  obtain ⟨rfl, h1, r, h2⟩ := h
  have := congrArg List.length h2
  rw [List.length_drop, List.length_append] at this; omega
theorem At.nil (h : i ≤ bs.length) : At bs i [] i := ⟨rfl, h, _, rfl⟩
theorem At.app (h : At bs i a j) (g : At bs j b k) : At bs i (a ++ b) k := by
  obtain ⟨rfl, h1, r, h2⟩ := h
  obtain ⟨rfl, g1, r', g2⟩ := g
  refine ⟨by rw [List.length_append]; omega, h1, r', ?_⟩
  rw [← List.drop_drop, h2, List.drop_left] at g2
  rw [h2, g2, List.append_assoc]
theorem At.split (h : At bs i (a ++ b) k) : ∃ j, At bs i a j ∧ At bs j b k := by
  obtain ⟨rfl, h1, r, h2⟩ := h
  have := congrArg List.length h2
  rw [List.length_drop, List.length_append, List.length_append] at this
  refine ⟨i + a.length, ⟨rfl, h1, b ++ r, by rw [h2, List.append_assoc]⟩, by rw [List.length_append]; omega, by omega, r, ?_⟩
  rw [← List.drop_drop, h2, List.append_assoc, List.drop_left]
theorem At.of_take (hi : i ≤ j) (hj : j ≤ bs.length) (h : (bs.take j).drop i = l) : At bs i l j := by
  subst h
  refine ⟨by rw [List.length_drop, List.length_take]; omega, by omega, bs.drop j, ?_⟩
  have e : bs.drop j = (bs.drop i).drop (j - i) := by rw [List.drop_drop]; congr 1; omega
  rw [List.drop_take, e, List.take_append_drop]
theorem At.take (h : At bs i l j) : (bs.take j).drop i = l := by
  obtain ⟨rfl, h1, r, h2⟩ := h
  rw [List.drop_take, h2, Nat.add_sub_cancel_left, List.take_left]
theorem At.all (l : List UInt8) : At l 0 l l.length := ⟨by simp, by omega, [], by simp⟩
theorem vread_at {x : Nat} (h : At bs i (vput x) j) (hx : x < 2 ^ 64) : vread bs i = (x, j, 0) := by
  obtain ⟨rfl, h1, r, h2⟩ := h
  unfold vread
  rw [h2, vgo_put r x x 0 0 (Nat.le_refl _) (by simpa using hx) (by omega) (fun h => by omega)]
  simp
theorem vread_at' (hi : i ≤ bs.length) (h : (vread bs i).2.2 = 0) : At bs i (vput (vread bs i).1) (vread bs i).2.1 ∧ (vread bs i).1 < 2 ^ 64 := by
  obtain ⟨y, h1, h2, h3, h4, h5⟩ := vread_ok hi h
  rw [h1]
  exact ⟨At.of_take (by omega) h4 h5, h2⟩
theorem bread_at (h : At bs i (vput l.length ++ l) j) (hl : l.length ≤ 65536) : bread bs i = (l, j, 0) := by
  obtain ⟨k, h1, h2⟩ := h.split
  unfold bread
  rw [vread_at h1 (by omega)]
  have e := h2.take
  have hle := h2.le
  obtain ⟨rfl, _, _⟩ := h2
  show (if (0 : Int) ≠ 0 then _ else _) = _
  rw [if_neg (by simp), if_neg (by omega), if_neg (by omega), e]
theorem strB_data (a : ByteArray) : strB a.data.toList = a := by
  unfold strB; cases a; simp
theorem oread_at {a : Lab} (h : At bs i (labB a) j) (h1 : a.1.size ≤ 65536) (h2 : a.2.size ≤ 65536) : oread bs i = (a, j, 0) := by
  obtain ⟨k, g1, g2⟩ := At.split h
  have e1 : bread bs i = (a.1.data.toList, k, 0) := bread_at (l := a.1.data.toList) g1 h1
  have e2 : bread bs k = (a.2.data.toList, j, 0) := bread_at (l := a.2.data.toList) g2 h2
  unfold oread
  rw [e1]
  show (if (0 : Int) ≠ 0 then _ else _) = _
  rw [if_neg (by simp), e2]
  show ((strB a.1.data.toList, strB a.2.data.toList), j, (0 : Int)) = _
  rw [strB_data, strB_data]
theorem lgo_at : ∀ {l : List Lab} {i : Nat} {acc : List Lab} {j : Nat}, At bs i (l.map labB).flatten j → (∀ a ∈ l, a.1.size ≤ 65536 ∧ a.2.size ≤ 65536) → lgo bs l.length i acc = .ok (acc ++ l, j)
  | [], i, acc, j, h, _ => by
    obtain ⟨rfl, _, _⟩ := h
    rw [List.append_nil]; rfl
  | a :: l, i, acc, j, h, hs => by
    rw [List.map_cons, List.flatten_cons] at h
    obtain ⟨k, g1, g2⟩ := At.split h
    have ha := hs a (List.mem_cons_self ..)
    rw [List.length_cons, lgo_succ, oread_at g1 ha.1 ha.2]
    show (if (0 : Int) ≠ 0 then _ else _) = _
    rw [if_neg (by simp)]
    show lgo bs l.length k (acc ++ [a]) = _
    rw [lgo_at g2 fun b hb => hs b (List.mem_cons_of_mem _ hb), List.append_assoc]; rfl
theorem lread_at {l : List Lab} (h : At bs i (lput l) j) (hok : okL l = true) : lread bs i = (l, j, 0) := by
  obtain ⟨k, g1, g2⟩ := At.split h
  obtain ⟨h0, h16, hsz⟩ := okL_size hok
  unfold lread
  rw [vread_at g1 (by omega)]
  show (if (0 : Int) ≠ 0 then _ else _) = _
  rw [if_neg (by simp), if_neg (by show ¬ 16 < l.length; omega), lgo_at g2 fun a ha => by have := hsz a ha; omega]
  show (if okL ([] ++ l) = true then _ else _) = _
  rw [List.nil_append, if_pos hok]
theorem lgo_ok : ∀ {k i : Nat} {acc l : List Lab} {j : Nat}, i ≤ bs.length → lgo bs k i acc = .ok (l, j) → ∃ l', l = acc ++ l' ∧ l'.length = k ∧ At bs i (l'.map labB).flatten j
  | 0, i, acc, l, j, hi, h => by
    unfold lgo at h
    injection h with h
    injection h with h1 h2
    subst h1 h2
    exact ⟨[], by rw [List.append_nil], rfl, .nil hi⟩
  | k + 1, i, acc, l, j, hi, h => by
    rw [lgo_succ] at h
    by_cases he : (oread bs i).2.2 = 0
    · rw [if_neg (fun h => h he)] at h
      obtain ⟨o1, o2, o3, o4, o5⟩ := oread_ok hi he
      obtain ⟨l', rfl, h2, h3⟩ := lgo_ok o2 h
      refine ⟨(oread bs i).1 :: l', by rw [List.append_assoc]; rfl, by rw [List.length_cons, h2], ?_⟩
      rw [List.map_cons, List.flatten_cons]
      exact (At.of_take (by omega) o2 o5).app h3
    · rw [if_pos he] at h; cases h
theorem lgo_err : ∀ {k i : Nat} {acc : List Lab} {e : Int}, lgo bs k i acc = .error e → e ≠ 0
  | 0, i, acc, e, h => by unfold lgo at h; cases h
  | k + 1, i, acc, e, h => by
    rw [lgo_succ] at h
    by_cases he : (oread bs i).2.2 = 0
    · rw [if_neg (fun h => h he)] at h
      exact lgo_err h
    · rw [if_pos he] at h
      injection h with h
      rw [← h]; exact he
theorem lread_ok (hi : i ≤ bs.length) (h : (lread bs i).2.2 = 0) : okL (lread bs i).1 = true ∧ At bs i (lput (lread bs i).1) (lread bs i).2.1 := by
  have hv := vread_at' (bs := bs) (i := i) hi
  unfold lread at h ⊢
  by_cases he : (vread bs i).2.2 = 0
  · rw [if_neg (fun h => h he)] at h ⊢
    obtain ⟨v1, v2⟩ := hv he
    by_cases h16 : 16 < (vread bs i).1
    · rw [if_pos h16] at h; exact absurd h (by simp)
    · rw [if_neg h16] at h ⊢
      cases hg : lgo bs (vread bs i).1 (vread bs i).2.1 [] with
      | error e => rw [hg] at h; exact absurd h (lgo_err hg)
      | ok p =>
        obtain ⟨l, k⟩ := p
        rw [hg] at h
        obtain ⟨l', hl', h2, h3⟩ := lgo_ok v1.le.2 hg
        rw [List.nil_append] at hl'
        rw [← hl'] at h2 h3
        simp only at h ⊢
        by_cases ho : okL l = true
        · simp only [ho, if_true]
          refine ⟨trivial, ?_⟩
          rw [← h2] at v1
          exact v1.app h3
        · rw [if_neg ho] at h; exact absurd h (by simp)
  · rw [if_pos he] at h; exact absurd h he
end at_
/-- Turned numbers. -/
def zg (d : Int) : Nat := if 0 ≤ d then 2 * d.toNat else 2 * (-d).toNat - 1
def zag (n : Nat) : Int := if n % 2 = 0 then ((n / 2 : Nat) : Int) else -((n / 2 : Nat) : Int) - 1
theorem zag_zg (d : Int) : zag (zg d) = d := by unfold zag zg; split <;> split <;> omega
theorem zg_zag (n : Nat) : zg (zag n) = n := by unfold zag zg; split <;> split <;> omega
/-- Eight bytes. -/
def le8 : Nat → Nat → List UInt8
  | 0, _ => []
  | k + 1, v => UInt8.ofNat v :: le8 k (v / 256)
def val8 : List UInt8 → Nat
  | [] => 0
  | b :: l => b.toNat + 256 * val8 l
theorem le_len : ∀ k v, (le8 k v).length = k
  | 0, _ => rfl
  | k + 1, v => by unfold le8; rw [List.length_cons, le_len]
theorem val_le : ∀ k v, v < 256 ^ k → val8 (le8 k v) = v
  | 0, v, h => by have : v = 0 := by simpa using h
                  subst this; rfl
  | k + 1, v, h => by
    unfold le8 val8
    rw [Nat.pow_succ] at h
    rw [val_le k (v / 256) (by omega), UInt8.toNat_ofNat']
    omega
theorem le_val : ∀ l : List UInt8, le8 l.length (val8 l) = l
  | [] => rfl
  | b :: l => by
    have hb : b.toNat < 256 := b.toNat_lt
    rw [List.length_cons]
    unfold le8 val8
    have e1 : (b.toNat + 256 * val8 l) / 256 = val8 l := by omega
    have e2 : UInt8.ofNat (b.toNat + 256 * val8 l) = b := by
      apply UInt8.toNat_inj.1
      rw [UInt8.toNat_ofNat']
      omega
    rw [e1, e2, le_val l]
theorem val_lt : ∀ l : List UInt8, val8 l < 256 ^ l.length
  | [] => by simp [val8]
  | b :: l => by
    have hb : b.toNat < 256 := b.toNat_lt
    have := val_lt l
    unfold val8
    rw [List.length_cons, Nat.pow_succ]; omega
theorem val_snoc : ∀ (l : List UInt8) (b : UInt8), val8 (l ++ [b]) = val8 l + b.toNat * 256 ^ l.length
  | [], b => by simp [val8]
  | a :: l, b => by
    rw [List.cons_append]
    unfold val8
    rw [val_snoc l b, List.length_cons, Nat.pow_succ, Nat.mul_add, ← Nat.add_assoc, Nat.mul_comm 256 (b.toNat * _), Nat.mul_assoc]
theorem le_snoc : ∀ k v, le8 (k + 1) v = le8 k v ++ [UInt8.ofNat (v / 256 ^ k)]
  | 0, v => by simp [le8]
  | k + 1, v => by
    rw [le8, le_snoc k (v / 256), le8, List.cons_append, Nat.div_div_eq_div_mul, Nat.pow_succ, Nat.mul_comm 256]
def v8 (bs : List UInt8) (i : Nat) : Nat × Nat × Int := if bs.length - i < 8 then (0, 0, 7) else (val8 ((bs.take (i + 8)).drop i), i + 8, 0)
theorem v8_at {bs : List UInt8} {i j v : Nat} (h : At bs i (le8 8 v) j) (hv : v < 2 ^ 64) : v8 bs i = (v, j, 0) := by
  have e := h.take
  have hle := h.le
  obtain ⟨rfl, h1, _⟩ := h
  rw [le_len] at e hle ⊢
  unfold v8
  rw [if_neg (by omega), e, val_le 8 v (by have : (256 : Nat) ^ 8 = 2 ^ 64 := by decide
                                           omega)]
theorem v8_ok {bs : List UInt8} {i : Nat} (h : (v8 bs i).2.2 = 0) (hi : i ≤ bs.length) : At bs i (le8 8 (v8 bs i).1) (v8 bs i).2.1 ∧ (v8 bs i).1 < 2 ^ 64 := by
  unfold v8 at h ⊢
  by_cases hc : bs.length - i < 8
  · rw [if_pos hc] at h; exact absurd h (by simp)
  · rw [if_neg hc]
    have hl : ((bs.take (i + 8)).drop i).length = 8 := by rw [List.length_drop, List.length_take]; omega
    refine ⟨?_, ?_⟩
    · show At bs i (le8 8 (val8 _)) (i + 8)
      have := le_val ((bs.take (i + 8)).drop i)
      rw [hl] at this
      rw [this]
      exact At.of_take (by omega) (by omega) rfl
    · show val8 _ < _
      have := val_lt ((bs.take (i + 8)).drop i)
      rw [hl] at this
      have e : (256 : Nat) ^ 8 = 2 ^ 64 := by decide
      omega
end Go.Proofs.Ytmhmbmogodofeaa.S
