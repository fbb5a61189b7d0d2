
/- Bits: the plain law. -/
set_option autoImplicit false
namespace Go.FS
/-- A number's lowest bits, the highest one ahead. -/
def bitsN : Nat → Nat → List Bool
  | 0, _ => []
  | n + 1, x => decide (x / 2 ^ n % 2 = 1) :: bitsN n x
def valB : List Bool → Nat
  | [] => 0
  | b :: l => (if b then 2 ^ l.length else 0) + valB l
theorem bitsN_len : ∀ (n x : Nat), (bitsN n x).length = n
  | 0, _ => rfl
  | n + 1, x => by rw [bitsN, List.length_cons, bitsN_len n x]
theorem valB_lt : ∀ (l : List Bool), valB l < 2 ^ l.length
  | [] => by decide
  | b :: l => by
    have := valB_lt l
    rw [valB, List.length_cons, Nat.pow_succ]
    split <;> omega
theorem mod_step (x n : Nat) : x % 2 ^ (n + 1) = x / 2 ^ n % 2 * 2 ^ n + x % 2 ^ n := by
  rw [Nat.pow_succ, Nat.mod_mul, Nat.mul_comm, Nat.add_comm]
theorem valB_bits : ∀ (n x : Nat), valB (bitsN n x) = x % 2 ^ n
  | 0, x => by rw [bitsN, valB, Nat.pow_zero, Nat.mod_one]
  | n + 1, x => by
    rw [bitsN, valB, bitsN_len, valB_bits n x, mod_step]
    have h2 : x / 2 ^ n % 2 < 2 := Nat.mod_lt _ (by decide)
    by_cases h : x / 2 ^ n % 2 = 1
    · rw [if_pos (by simpa using h), h, Nat.one_mul]
    · have h0 : x / 2 ^ n % 2 = 0 := by omega
      rw [if_neg (by simpa using h), h0, Nat.zero_mul]
theorem bitsN_mod : ∀ (n m x : Nat), n ≤ m → bitsN n (x % 2 ^ m) = bitsN n x
  | 0, _, _, _ => rfl
  | n + 1, m, x, h => by
    rw [bitsN, bitsN, bitsN_mod n m x (by omega)]
    congr 1
    have : x % 2 ^ m / 2 ^ n % 2 = x / 2 ^ n % 2 := by
      obtain ⟨k, rfl⟩ : ∃ k, m = n + (k + 1) := ⟨m - n - 1, by omega⟩
      rw [Nat.pow_add, Nat.mod_mul_right_div_self, Nat.pow_succ, Nat.mul_comm, Nat.mod_mul_right_mod]
    rw [this]
theorem bits_valB : ∀ (l : List Bool), bitsN l.length (valB l) = l
  | [] => rfl
  | b :: l => by
    have hl := valB_lt l
    have ih := bits_valB l
    have hp := Nat.two_pow_pos l.length
    have e1 : valB (b :: l) % 2 ^ l.length = valB l := by
      rw [valB]
      cases b
      · rw [if_neg (by simp), Nat.zero_add, Nat.mod_eq_of_lt hl]
      · rw [if_pos rfl, Nat.add_mod_left, Nat.mod_eq_of_lt hl]
    rw [List.length_cons, bitsN, ← bitsN_mod l.length l.length _ (Nat.le_refl _), e1, ih]
    congr 1
    rw [valB]
    cases b
    · rw [if_neg (by simp), Nat.zero_add, Nat.div_eq_of_lt hl]; rfl
    · rw [if_pos rfl, Nat.add_div_left _ hp, Nat.div_eq_of_lt hl]; rfl
theorem bitsN_add : ∀ (a b x : Nat), bitsN (a + b) x = bitsN a (x / 2 ^ b) ++ bitsN b x
  | 0, b, x => by rw [Nat.zero_add]; rfl
  | a + 1, b, x => by
    rw [show a + 1 + b = a + b + 1 from by omega, bitsN, bitsN, bitsN_add a b x, List.cons_append]
    congr 1
    rw [Nat.div_div_eq_div_mul, ← Nat.pow_add, Nat.add_comm b a]
theorem valB_app : ∀ (l m : List Bool), valB (l ++ m) = valB l * 2 ^ m.length + valB m
  | [], m => by rw [List.nil_append, valB, Nat.zero_mul, Nat.zero_add]
  | b :: l, m => by
    rw [List.cons_append, valB, valB, valB_app l m, List.length_append, Nat.add_mul, Nat.add_assoc]
    congr 1
    cases b
    · simp
    · simp [Nat.pow_add]
/-- The bits of bytes. -/
def unpack : List UInt8 → List Bool
  | [] => []
  | b :: l => bitsN 8 b.toNat ++ unpack l
theorem unpack_len : ∀ (B : List UInt8), (unpack B).length = B.length * 8
  | [] => rfl
  | b :: l => by rw [unpack, List.length_append, bitsN_len, unpack_len l, List.length_cons]; omega
theorem unpack_app : ∀ (B C : List UInt8), unpack (B ++ C) = unpack B ++ unpack C
  | [], C => rfl
  | b :: l, C => by rw [List.cons_append, unpack, unpack, unpack_app l C, List.append_assoc]
theorem toNat_ofNat {x : Nat} (h : x < 256) : (UInt8.ofNat x).toNat = x := by
  rw [UInt8.toNat_ofNat']; exact Nat.mod_eq_of_lt h
/-- Bits with noughts up to a byte's end. -/
def padded (bs : List Bool) (B : List UInt8) : Prop := unpack B = bs ++ List.replicate (B.length * 8 - bs.length) false ∧ bs.length ≤ B.length * 8 ∧ B.length * 8 < bs.length + 8
theorem padded_nil : padded [] [] := ⟨rfl, Nat.le_refl _, by decide⟩
end Go.FS

/- Times and values as bits: the plain law. -/
set_option autoImplicit false
set_option linter.unusedVariables false
namespace Go.FS
/-- So many bits off the front. -/
def getB (n : Nat) (rs : List Bool) : Option (Nat × List Bool) := if n ≤ rs.length then some (valB (rs.take n), rs.drop n) else none
theorem getB_ok {n x : Nat} {rs r : List Bool} (h : getB n rs = some (x, r)) : rs = bitsN n x ++ r ∧ x < 2 ^ n := by
  unfold getB at h
  split at h
  · rename_i hn
    simp only [Option.some.injEq, Prod.mk.injEq] at h
    obtain ⟨rfl, rfl⟩ := h
    have hl : (rs.take n).length = n := by rw [List.length_take]; omega
    refine ⟨?_, by have := valB_lt (rs.take n); rwa [hl] at this⟩
    have := bits_valB (rs.take n)
    rw [hl] at this
    rw [this, List.take_append_drop]
  · cases h
/-! Times. -/
structure TS where
  n : Nat
  last : Nat
  delta : Nat
def mxT : Nat := 35184372088832
def tcls (z : Nat) : Nat := if z = 0 then 0 else if z < 128 then 1 else if z < 4096 then 2 else if z < 1048576 then 3 else 4
def tw : Nat → Nat
  | 0 => 0 | 1 => 7 | 2 => 12 | 3 => 20 | _ => 48
theorem tcls_le (z : Nat) : tcls z ≤ 4 := by unfold tcls; (repeat' split) <;> omega
theorem tcls_lt {z : Nat} (h : z < 2 ^ 48) : z < 2 ^ tw (tcls z) := by
  unfold tcls
  (repeat' split) <;> simp [tw] <;> omega
theorem tw_le (k : Nat) : tw k ≤ 48 := by unfold tw; split <;> omega
def leadB (k : Nat) : List Bool := List.replicate k true ++ (if k < 4 then [false] else [])
def foldZ (d : Int) : Nat := if d < 0 then (-2 * d - 1).toNat else (2 * d).toNat
def unfoldZ (z : Nat) : Int := if z % 2 = 1 then -((z / 2 : Nat) : Int) - 1 else ((z / 2 : Nat) : Int)
theorem fold_unfold (z : Nat) : foldZ (unfoldZ z) = z := by unfold unfoldZ foldZ; (repeat' split) <;> omega
def tz (s : TS) (t : Nat) : Nat := foldZ ((t : Int) - s.last - s.delta)
def tput (s : TS) (t : Nat) : List Bool := if s.n = 0 then bitsN 46 t else leadB (tcls (tz s t)) ++ bitsN (tw (tcls (tz s t))) (tz s t)
def tnext (s : TS) (t : Nat) : TS := if s.n = 0 then ⟨1, t, 0⟩ else ⟨s.n + 1, t, t - s.last⟩
/-- What may be the next time. -/
def tmay (s : TS) (t : Int) : Prop := 0 ≤ t ∧ t ≤ mxT ∧ (s.n = 0 ∨ (s.last : Int) < t)
instance (s : TS) (t : Int) : Decidable (tmay s t) := by unfold tmay; exact inferInstance
def TSok (s : TS) : Prop := s.last ≤ mxT ∧ s.delta ≤ mxT
def tlead : Nat → Nat → List Bool → Option (Nat × List Bool)
  | 0, k, rs => some (k, rs)
  | f + 1, k, rs => (getB 1 rs).bind fun p => if p.1 = 0 then some (k, p.2) else tlead f (k + 1) p.2
def tdiff (rs : List Bool) : Option (Int × List Bool) :=
  (tlead 4 0 rs).bind fun p => (getB (tw p.1) p.2).bind fun q => if tcls q.1 = p.1 then some (unfoldZ q.1, q.2) else none
def tget (s : TS) (rs : List Bool) : Option (Nat × List Bool) :=
  if s.n = 0 then (getB 46 rs).bind fun p => if p.1 ≤ mxT then some p else none
  else (tdiff rs).bind fun p => if tmay s ((s.last : Int) + s.delta + p.1) then some (((s.last : Int) + s.delta + p.1).toNat, p.2) else none
theorem tlead_ok : ∀ (f k : Nat) (rs : List Bool) (j : Nat) (r : List Bool), tlead f k rs = some (j, r) → ∃ i, j = k + i ∧ i ≤ f ∧ rs = List.replicate i true ++ (if i < f then [false] else []) ++ r
  | 0, k, rs, j, r, h => by
    simp only [tlead, Option.some.injEq, Prod.mk.injEq] at h
    obtain ⟨rfl, rfl⟩ := h
    exact ⟨0, by omega, by omega, rfl⟩
  | f + 1, k, rs, j, r, h => by
    rw [tlead] at h
    cases hg : getB 1 rs with
    | none => rw [hg] at h; cases h
    | some p =>
      obtain ⟨x, q⟩ := p
      rw [hg] at h
      obtain ⟨e, hx⟩ := getB_ok hg
      have h : (if x = 0 then some (k, q) else tlead f (k + 1) q) = some (j, r) := h
      by_cases h0 : x = 0
      · rw [if_pos h0] at h
        simp only [Option.some.injEq, Prod.mk.injEq] at h
        obtain ⟨rfl, rfl⟩ := h
        subst h0
        exact ⟨0, by omega, by omega, by rw [if_pos (by omega)]; exact e⟩
      · rw [if_neg h0] at h
        obtain ⟨i, e1, e2, e3⟩ := tlead_ok f (k + 1) q j r h
        have hx1 : x = 1 := by omega
        subst hx1
        refine ⟨i + 1, by omega, by omega, ?_⟩
        rw [e, e3]
        have e4 : (if i + 1 < f + 1 then [false] else []) = (if i < f then [false] else []) := by
          by_cases hj : i < f
          · rw [if_pos hj, if_pos (by omega)]
          · rw [if_neg hj, if_neg (by omega)]
        rw [e4]
        rfl
theorem tdiff_ok {rs r : List Bool} {d : Int} (h : tdiff rs = some (d, r)) : ∃ z, z < 2 ^ 48 ∧ d = unfoldZ z ∧ rs = leadB (tcls z) ++ bitsN (tw (tcls z)) z ++ r := by
  unfold tdiff at h
  cases h1 : tlead 4 0 rs with
  | none => rw [h1] at h; cases h
  | some p =>
    obtain ⟨k, q⟩ := p
    rw [h1, Option.bind_some] at h
    obtain ⟨i, e1, e2, e3⟩ := tlead_ok _ _ _ _ _ h1
    obtain rfl : k = i := by omega
    cases h2 : getB (tw k) q with
    | none => rw [h2] at h; cases h
    | some p =>
      obtain ⟨z, q2⟩ := p
      rw [h2, Option.bind_some] at h
      obtain ⟨e4, e5⟩ := getB_ok h2
      have h : (if tcls z = k then some (unfoldZ z, q2) else none) = some (d, r) := h
      by_cases hk : tcls z = k
      · rw [if_pos hk] at h
        simp only [Option.some.injEq, Prod.mk.injEq] at h
        obtain ⟨rfl, rfl⟩ := h
        refine ⟨z, Nat.lt_of_lt_of_le e5 (Nat.pow_le_pow_right (by decide) (tw_le k)), rfl, ?_⟩
        rw [hk, e3, e4]
        unfold leadB
        simp only [List.append_assoc]
      · rw [if_neg hk] at h; cases h
theorem tget_ok {s : TS} {t : Nat} {rs r : List Bool} (h : tget s rs = some (t, r)) : rs = tput s t ++ r ∧ tmay s t := by
  unfold tget at h
  unfold tput
  by_cases h0 : s.n = 0
  · rw [if_pos h0] at h
    rw [if_pos h0]
    cases hg : getB 46 rs with
    | none => rw [hg] at h; cases h
    | some p =>
      rw [hg, Option.bind_some] at h
      split at h
      · rename_i hle
        simp only [Option.some.injEq] at h
        subst h
        exact ⟨(getB_ok hg).1, by omega, by simp only at hle; omega, .inl h0⟩
      · cases h
  · rw [if_neg h0] at h
    rw [if_neg h0]
    cases hg : tdiff rs with
    | none => rw [hg] at h; cases h
    | some p =>
      obtain ⟨d, q⟩ := p
      rw [hg, Option.bind_some] at h
      obtain ⟨z, hz, rfl, e⟩ := tdiff_ok hg
      split at h
      · rename_i hm
        simp only [Option.some.injEq, Prod.mk.injEq] at h
        obtain ⟨rfl, rfl⟩ := h
        simp only at hm
        have h0 := hm.1
        have hc : ((((s.last : Int) + s.delta + unfoldZ z).toNat : Nat) : Int) = (s.last : Int) + s.delta + unfoldZ z := Int.toNat_of_nonneg h0
        have hzz : tz s ((s.last : Int) + s.delta + unfoldZ z).toNat = z := by
          unfold tz
          rw [hc, show (s.last : Int) + s.delta + unfoldZ z - s.last - s.delta = unfoldZ z from by omega, fold_unfold]
        exact ⟨by rw [hzz]; exact e, by rw [hc]; exact hm⟩
      · cases h
theorem tnext_ok {s : TS} {t : Nat} (h : tmay s t) : TSok (tnext s t) := by
  obtain ⟨_, h2, _⟩ := h
  unfold tnext TSok
  split <;> simp only <;> omega
/-! Values. -/
structure XS where
  n : Nat
  last : Nat
  lead : Nat
  trail : Nat
def nlz (x : Nat) : Nat := 63 - Nat.log2 x
def ntzF : Nat → Nat → Nat
  | 0, _ => 0
  | f + 1, x => if x % 2 = 1 then 0 else ntzF f (x / 2) + 1
def ntz (x : Nat) : Nat := ntzF 64 x
theorem ntzF_spec : ∀ (f x : Nat), 0 < x → x < 2 ^ f → 2 ^ ntzF f x ∣ x ∧ ¬ 2 ^ (ntzF f x + 1) ∣ x ∧ ntzF f x < f
  | 0, x, h, h2 => by omega
  | f + 1, x, h, h2 => by
    rw [ntzF]
    by_cases h1 : x % 2 = 1
    · rw [if_pos h1]
      exact ⟨by simp, by rw [Nat.zero_add, Nat.pow_one]; omega, by omega⟩
    · rw [if_neg h1]
      have hx : x = 2 * (x / 2) := by omega
      obtain ⟨a, b, c⟩ := ntzF_spec f (x / 2) (by omega) (by rw [Nat.pow_succ] at h2; omega)
      refine ⟨?_, ?_, by omega⟩
      · rw [hx, Nat.mul_div_cancel_left _ (by decide : 0 < 2), Nat.pow_succ, Nat.mul_comm _ 2]
        exact Nat.mul_dvd_mul_left 2 a
      · intro hd
        apply b
        rw [hx, Nat.mul_div_cancel_left _ (by decide : 0 < 2), Nat.pow_succ, Nat.mul_comm _ 2] at hd
        exact Nat.dvd_of_mul_dvd_mul_left (by decide) hd
theorem nlz_spec {x : Nat} (h0 : x ≠ 0) (h : x < 2 ^ 64) : nlz x ≤ 63 ∧ 2 ^ (63 - nlz x) ≤ x ∧ x < 2 ^ (64 - nlz x) := by
  have h1 : Nat.log2 x < 64 := (Nat.log2_lt h0).2 h
  unfold nlz
  refine ⟨by omega, ?_, ?_⟩
  · rw [show 63 - (63 - Nat.log2 x) = Nat.log2 x from by omega]; exact Nat.log2_self_le h0
  · rw [show 64 - (63 - Nat.log2 x) = Nat.log2 x + 1 from by omega]; exact Nat.lt_log2_self
theorem nlz_ge {x k : Nat} (h0 : x ≠ 0) (hk : k ≤ 63) (h : x < 2 ^ (64 - k)) : k ≤ nlz x := by
  have := (Nat.log2_lt h0).2 h
  unfold nlz
  omega
theorem ntz_spec {x : Nat} (h0 : x ≠ 0) (h : x < 2 ^ 64) : 2 ^ ntz x ∣ x ∧ ¬ 2 ^ (ntz x + 1) ∣ x ∧ ntz x < 64 := ntzF_spec 64 x (by omega) h
theorem ntz_ge {x k : Nat} (h0 : x ≠ 0) (h : x < 2 ^ 64) (hk : 2 ^ k ∣ x) : k ≤ ntz x := by
  obtain ⟨_, b, _⟩ := ntz_spec h0 h
  exact Nat.le_of_not_lt fun hlt => b (Nat.dvd_trans (Nat.pow_dvd_pow 2 hlt) hk)
theorem lz_tz {x : Nat} (h0 : x ≠ 0) (h : x < 2 ^ 64) : nlz x + ntz x ≤ 63 := by
  obtain ⟨a1, a2, a3⟩ := nlz_spec h0 h
  obtain ⟨b1, b2, b3⟩ := ntz_spec h0 h
  have h1 := Nat.lt_of_le_of_lt (Nat.le_of_dvd (by omega) b1) a3
  have := (Nat.pow_lt_pow_iff_right (by decide : 1 < 2)).1 h1
  omega
def vheld (s : XS) (x : Nat) : Prop := s.lead < 64 ∧ s.lead ≤ nlz x ∧ s.trail ≤ ntz x
instance (s : XS) (x : Nat) : Decidable (vheld s x) := by unfold vheld; exact inferInstance
def xput (s : XS) (v : Nat) : List Bool :=
  if s.n = 0 then bitsN 64 v
  else if v ^^^ s.last = 0 then [false]
  else if vheld s (v ^^^ s.last) then [true, false] ++ bitsN (64 - s.lead - s.trail) ((v ^^^ s.last) / 2 ^ s.trail)
  else [true, true] ++ bitsN 6 (nlz (v ^^^ s.last)) ++ bitsN 6 (64 - nlz (v ^^^ s.last) - ntz (v ^^^ s.last) - 1) ++ bitsN (64 - nlz (v ^^^ s.last) - ntz (v ^^^ s.last)) ((v ^^^ s.last) / 2 ^ ntz (v ^^^ s.last))
def xnext (s : XS) (v : Nat) : XS :=
  if s.n = 0 then ⟨1, v, s.lead, s.trail⟩
  else if v ^^^ s.last = 0 then ⟨s.n + 1, v, s.lead, s.trail⟩
  else if vheld s (v ^^^ s.last) then ⟨s.n + 1, v, s.lead, s.trail⟩
  else ⟨s.n + 1, v, nlz (v ^^^ s.last), ntz (v ^^^ s.last)⟩
def XSok (s : XS) : Prop := s.last < 2 ^ 64 ∧ (s.lead = 64 ∧ s.trail = 0 ∨ s.lead + s.trail ≤ 63)
/-- The bits within a window. -/
def vwithin (l t : Nat) (rs : List Bool) : Option (Nat × List Bool) := (getB (64 - l - t) rs).bind fun p => if p.1 * 2 ^ t = 0 then none else some (p.1 * 2 ^ t, p.2)
def vfresh (s : XS) (rs : List Bool) : Option (Nat × List Bool) :=
  (getB 6 rs).bind fun p => (getB 6 p.2).bind fun q => if 64 < p.1 + q.1 + 1 then none
    else (vwithin p.1 (64 - p.1 - q.1 - 1) q.2).bind fun w => if nlz w.1 = p.1 ∧ ntz w.1 = 64 - p.1 - q.1 - 1 ∧ ¬ vheld s w.1 then some w else none
def vdiff (s : XS) (rs : List Bool) : Option (Nat × List Bool) :=
  (getB 1 rs).bind fun p => if p.1 = 0 then some (0, p.2)
    else (getB 1 p.2).bind fun q => if q.1 = 1 then vfresh s q.2 else if s.lead = 64 then none else vwithin s.lead s.trail q.2
def xget (s : XS) (rs : List Bool) : Option (Nat × List Bool) :=
  if s.n = 0 then getB 64 rs else (vdiff s rs).bind fun p => some (s.last ^^^ p.1, p.2)
theorem xor_lt {a b : Nat} (ha : a < 2 ^ 64) (hb : b < 2 ^ 64) : a ^^^ b < 2 ^ 64 := Nat.xor_lt_two_pow ha hb
theorem xor_back2 (a x : Nat) : (a ^^^ x) ^^^ a = x := by rw [Nat.xor_comm a x, Nat.xor_assoc, Nat.xor_self, Nat.xor_zero]
theorem vwithin_ok {l t x : Nat} {rs r : List Bool} (hlt : l + t ≤ 63) (h : vwithin l t rs = some (x, r)) : rs = bitsN (64 - l - t) (x / 2 ^ t) ++ r ∧ x ≠ 0 ∧ x < 2 ^ (64 - l) ∧ 2 ^ t ∣ x := by
  unfold vwithin at h
  cases hg : getB (64 - l - t) rs with
  | none => rw [hg] at h; cases h
  | some p =>
    obtain ⟨y, q⟩ := p
    rw [hg, Option.bind_some] at h
    obtain ⟨e, hy⟩ := getB_ok hg
    have h : (if y * 2 ^ t = 0 then none else some (y * 2 ^ t, q)) = some (x, r) := h
    by_cases h0 : y * 2 ^ t = 0
    · rw [if_pos h0] at h; cases h
    · rw [if_neg h0] at h
      simp only [Option.some.injEq, Prod.mk.injEq] at h
      obtain ⟨rfl, rfl⟩ := h
      refine ⟨by rw [Nat.mul_div_cancel _ (Nat.two_pow_pos t)]; exact e, h0, ?_, Nat.dvd_mul_left _ _⟩
      calc y * 2 ^ t < 2 ^ (64 - l - t) * 2 ^ t := Nat.mul_lt_mul_of_pos_right hy (Nat.two_pow_pos _)
        _ = 2 ^ (64 - l) := by rw [← Nat.pow_add, show 64 - l - t + t = 64 - l from by omega]
theorem bitsN1_inv {x : Nat} (h : x < 2 ^ 1) : bitsN 1 x = [decide (x = 1)] := by
  obtain rfl | rfl : x = 0 ∨ x = 1 := by omega
  · rfl
  · rfl
theorem vdiff_ok {s : XS} {x : Nat} {rs r : List Bool} (hs : XSok s) (h : vdiff s rs = some (x, r)) :
    x < 2 ^ 64 ∧ rs = (if x = 0 then [false] else if vheld s x then [true, false] ++ bitsN (64 - s.lead - s.trail) (x / 2 ^ s.trail) else [true, true] ++ bitsN 6 (nlz x) ++ bitsN 6 (64 - nlz x - ntz x - 1) ++ bitsN (64 - nlz x - ntz x) (x / 2 ^ ntz x)) ++ r := by
  obtain ⟨hl, hw⟩ := hs
  unfold vdiff at h
  cases h1 : getB 1 rs with
  | none => rw [h1] at h; cases h
  | some p =>
    obtain ⟨a, q⟩ := p
    rw [h1, Option.bind_some] at h
    obtain ⟨e1, l1⟩ := getB_ok h1
    rw [bitsN1_inv l1] at e1
    simp only at h
    by_cases ha : a = 0
    · rw [if_pos ha] at h
      simp only [Option.some.injEq, Prod.mk.injEq] at h
      obtain ⟨rfl, rfl⟩ := h
      subst ha
      exact ⟨by decide, by rw [if_pos rfl]; exact e1⟩
    · rw [if_neg ha] at h
      obtain rfl : a = 1 := by omega
      cases h2 : getB 1 q with
      | none => rw [h2] at h; cases h
      | some p =>
        obtain ⟨b, q2⟩ := p
        rw [h2, Option.bind_some] at h
        obtain ⟨e2, l2⟩ := getB_ok h2
        rw [bitsN1_inv l2] at e2
        simp only at h
        by_cases hb : b = 1
        · rw [if_pos hb] at h
          subst hb
          unfold vfresh at h
          cases h3 : getB 6 q2 with
          | none => rw [h3] at h; cases h
          | some p =>
            obtain ⟨c, q3⟩ := p
            rw [h3, Option.bind_some] at h
            obtain ⟨e3, l3⟩ := getB_ok h3
            simp only at h
            cases h4 : getB 6 q3 with
            | none => rw [h4] at h; cases h
            | some p =>
              obtain ⟨d, q4⟩ := p
              rw [h4, Option.bind_some] at h
              obtain ⟨e4, l4⟩ := getB_ok h4
              simp only at h
              by_cases hcd : 64 < c + d + 1
              · rw [if_pos hcd] at h; cases h
              · rw [if_neg hcd] at h
                cases h5 : vwithin c (64 - c - d - 1) q4 with
                | none => rw [h5] at h; cases h
                | some p =>
                  rw [h5, Option.bind_some] at h
                  split at h
                  · rename_i hc
                    simp only [Option.some.injEq] at h
                    subst h
                    obtain ⟨c1, c2, c3⟩ := hc
                    obtain ⟨e5, g1, g2, g3⟩ := vwithin_ok (by omega) h5
                    simp only at c1 c2 c3
                    have hx64 : x < 2 ^ 64 := Nat.lt_of_lt_of_le g2 (Nat.pow_le_pow_right (by decide) (by omega))
                    refine ⟨hx64, ?_⟩
                    rw [if_neg g1, if_neg c3, c1, c2, e1, e2, e3, e4, e5]
                    have hd : 64 - c - (64 - c - d - 1) - 1 = d := by omega
                    simp only [hd, List.append_assoc, List.cons_append, List.nil_append, decide_true]
                  · cases h
        · rw [if_neg hb] at h
          obtain rfl : b = 0 := by omega
          by_cases h64 : s.lead = 64
          · rw [if_pos h64] at h; cases h
          · rw [if_neg h64] at h
            have hw' : s.lead + s.trail ≤ 63 := by omega
            obtain ⟨e5, g1, g2, g3⟩ := vwithin_ok hw' h
            have hx64 : x < 2 ^ 64 := Nat.lt_of_lt_of_le g2 (Nat.pow_le_pow_right (by decide) (by omega))
            refine ⟨hx64, ?_⟩
            rw [if_neg g1, if_pos ⟨by omega, nlz_ge g1 (by omega) g2, ntz_ge g1 hx64 g3⟩, e1, e2, e5]
            rfl
theorem xget_ok {s : XS} {v : Nat} {rs r : List Bool} (hs : XSok s) (h : xget s rs = some (v, r)) : rs = xput s v ++ r ∧ v < 2 ^ 64 := by
  unfold xget at h
  unfold xput
  by_cases h0 : s.n = 0
  · rw [if_pos h0] at h
    rw [if_pos h0]
    exact getB_ok h
  · rw [if_neg h0] at h
    rw [if_neg h0]
    cases h1 : vdiff s rs with
    | none => rw [h1] at h; cases h
    | some p =>
      obtain ⟨x, q⟩ := p
      rw [h1, Option.bind_some] at h
      simp only [Option.some.injEq, Prod.mk.injEq] at h
      obtain ⟨rfl, rfl⟩ := h
      obtain ⟨g1, g2⟩ := vdiff_ok hs h1
      rw [xor_back2]
      exact ⟨g2, xor_lt hs.1 g1⟩
theorem xnext_ok {s : XS} {v : Nat} (hs : XSok s) (hv : v < 2 ^ 64) : XSok (xnext s v) := by
  obtain ⟨hl, hw⟩ := hs
  unfold xnext
  split
  · exact ⟨hv, hw⟩
  · split
    · exact ⟨hv, hw⟩
    · split
      · exact ⟨hv, hw⟩
      · rename_i h _
        exact ⟨hv, .inr (lz_tz h (xor_lt hv hl))⟩
/-! Samples. -/
def encB : TS → XS → List (Nat × Nat) → List Bool
  | _, _, [] => []
  | s, u, a :: l => tput s a.1 ++ xput u a.2 ++ encB (tnext s a.1) (xnext u a.2) l
def decB : Nat → TS → XS → List Bool → Option (List (Nat × Nat) × List Bool)
  | 0, _, _, rs => some ([], rs)
  | k + 1, s, u, rs => (tget s rs).bind fun p => (xget u p.2).bind fun q => (decB k (tnext s p.1) (xnext u q.1) q.2).bind fun w => some ((p.1, q.1) :: w.1, w.2)
/-- Samples that may be put. -/
def Right : TS → List (Nat × Nat) → Prop
  | _, [] => True
  | s, a :: l => tmay s a.1 ∧ a.2 < 2 ^ 64 ∧ Right (tnext s a.1) l
theorem enc_dec : ∀ (k : Nat) (s : TS) (u : XS) (rs : List Bool) (l : List (Nat × Nat)) (r : List Bool), XSok u → decB k s u rs = some (l, r) → l.length = k ∧ Right s l ∧ rs = encB s u l ++ r
  | 0, _, _, rs, l, r, _, h => by
    simp only [decB, Option.some.injEq, Prod.mk.injEq] at h
    obtain ⟨rfl, rfl⟩ := h
    exact ⟨rfl, trivial, rfl⟩
  | k + 1, s, u, rs, l, r, hu, h => by
    rw [decB] at h
    cases h1 : tget s rs with
    | none => rw [h1] at h; cases h
    | some p =>
      obtain ⟨t, q⟩ := p
      rw [h1, Option.bind_some] at h
      simp only at h
      obtain ⟨e1, m1⟩ := tget_ok h1
      cases h2 : xget u q with
      | none => rw [h2] at h; cases h
      | some p =>
        obtain ⟨v, q2⟩ := p
        rw [h2, Option.bind_some] at h
        simp only at h
        obtain ⟨e2, m2⟩ := xget_ok hu h2
        cases h3 : decB k (tnext s t) (xnext u v) q2 with
        | none => rw [h3] at h; cases h
        | some p =>
          obtain ⟨w, q3⟩ := p
          rw [h3, Option.bind_some] at h
          simp only [Option.some.injEq, Prod.mk.injEq] at h
          obtain ⟨rfl, rfl⟩ := h
          obtain ⟨k1, k2, k3⟩ := enc_dec k _ _ _ _ _ (xnext_ok hu m2) h3
          refine ⟨by rw [List.length_cons, k1], ⟨m1, m2, k2⟩, ?_⟩
          rw [e1, e2, k3, encB]
          simp only [List.append_assoc]
end Go.FS

/- Noughts ahead and behind: the plain law. -/
set_option autoImplicit false
set_option linter.unusedVariables false
namespace Go.FS
theorem log2_div {x k : Nat} (h : 2 ^ k ≤ x) : Nat.log2 (x / 2 ^ k) + k = Nat.log2 x := by
  have hp := Nat.two_pow_pos k
  have h0 : x ≠ 0 := by omega
  have h1 : x / 2 ^ k ≠ 0 := by
    have := Nat.div_pos h hp
    omega
  symm
  rw [Nat.log2_eq_iff h0]
  obtain ⟨a, b⟩ := (Nat.log2_eq_iff h1).1 rfl
  refine ⟨?_, ?_⟩
  · rw [Nat.pow_add]
    exact (Nat.le_div_iff_mul_le hp).1 a
  · rw [show Nat.log2 (x / 2 ^ k) + k + 1 = Nat.log2 (x / 2 ^ k) + 1 + k from by omega, Nat.pow_add]
    exact (Nat.div_lt_iff_lt_mul hp).1 b
theorem low_bit {x : Nat} (h0 : x ≠ 0) (h : x < 2 ^ 64) : x &&& (2 ^ 64 - x) = 2 ^ ntz x := by
  obtain ⟨a, b, c⟩ := ntz_spec h0 h
  generalize ntz x = k at *
  obtain ⟨q, hq⟩ := a
  have hodd : q % 2 = 1 := by
    rcases Nat.mod_two_eq_zero_or_one q with h2 | h2
    · exfalso; apply b
      rw [Nat.pow_succ, hq]
      exact Nat.mul_dvd_mul_left _ (Nat.dvd_of_mod_eq_zero h2)
    · exact h2
  obtain ⟨m, rfl⟩ : ∃ m, q = 2 * m + 1 := ⟨q / 2, by omega⟩
  have hp := Nat.two_pow_pos k
  have e1 : x = 2 ^ (k + 1) * m + 2 ^ k := by rw [hq, Nat.pow_succ, Nat.mul_add, Nat.mul_one, Nat.mul_assoc]
  have e2 : x - 1 = 2 ^ (k + 1) * m + (2 ^ k - 1) := by omega
  have l1 : 2 ^ k < 2 ^ (k + 1) := by rw [Nat.pow_succ]; omega
  have l2 : 2 ^ k - 1 < 2 ^ (k + 1) := by omega
  refine Nat.eq_of_testBit_eq fun j => ?_
  have hx : x - 1 < 2 ^ 64 := by omega
  have e3 : 2 ^ 64 - x = 2 ^ 64 - ((x - 1) + 1) := by omega
  rw [Nat.testBit_and, e3, Nat.testBit_two_pow_sub_succ hx, e2, Nat.testBit_two_pow_mul_add _ l2, e1, Nat.testBit_two_pow_mul_add _ l1, Nat.testBit_two_pow, Nat.testBit_two_pow_sub_one]
  by_cases hj : j < k + 1
  · rw [if_pos hj, if_pos hj]
    by_cases hk : k = j
    · subst hk; simp; omega
    · simp [hk]
  · rw [if_neg hj, if_neg hj]
    have : ¬ k = j := by omega
    simp [this]
    intro h1 h2
    exact h1
def brT : List Int := [0, 1, 56, 2, 57, 49, 28, 3, 61, 58, 42, 50, 38, 29, 17, 4, 62, 47, 59, 36, 45, 43, 51, 22, 53, 39, 33, 30, 24, 18, 12, 5, 63, 55, 48, 27, 60, 41, 37, 16, 46, 35, 44, 21, 52, 32, 23, 11, 54, 26, 40, 15, 34, 20, 31, 10, 25, 14, 19, 9, 13, 8, 7, 6]
theorem br_all : (List.range 64).all (fun k => brT[(2 ^ k * 285870213051353865 % 2 ^ 64) / 2 ^ 58]? == some (k : Int)) = true := by decide +kernel
theorem br_at {k : Nat} (h : k < 64) : brT[(2 ^ k * 285870213051353865 % 2 ^ 64) / 2 ^ 58]? = some (k : Int) := by
  have := List.all_eq_true.1 br_all k (List.mem_range.2 h)
  simpa using this
def len8 (y : Nat) : Nat := if y = 0 then 0 else Nat.log2 y + 1
end Go.FS

/- Sums of bytes: the plain law. -/
set_option autoImplicit false
set_option linter.unusedVariables false
namespace Go.FS
def pol : Nat := 2197175160
def cr1 (r : Nat) : Nat := if r % 2 = 1 then r / 2 ^^^ pol else r / 2
def crN : Nat → Nat → Nat
  | 0, r => r
  | k + 1, r => cr1 (crN k r)
def crMore : Nat → List UInt8 → Nat
  | r, [] => r
  | r, b :: l => crMore (crN 8 (r ^^^ b.toNat)) l
def ones32 : Nat := 4294967295
def crSum (B : List UInt8) : Nat := crMore ones32 B ^^^ ones32
theorem pol_lt : pol < 2 ^ 32 := by decide
theorem cr1_lt {r : Nat} (h : r < 2 ^ 32) : cr1 r < 2 ^ 32 := by
  unfold cr1
  split
  · exact Nat.xor_lt_two_pow (by omega) pol_lt
  · omega
theorem crN_lt {r : Nat} (h : r < 2 ^ 32) : ∀ k, crN k r < 2 ^ 32
  | 0 => h
  | k + 1 => cr1_lt (crN_lt h k)
theorem crX_lt {r : Nat} (h : r < 2 ^ 32) (b : UInt8) : r ^^^ b.toNat < 2 ^ 32 := Nat.xor_lt_two_pow h (Nat.lt_trans b.toNat_lt (by decide))
theorem crMore_lt : ∀ {B : List UInt8} {r : Nat}, r < 2 ^ 32 → crMore r B < 2 ^ 32
  | [], _, h => h
  | b :: l, r, h => show crMore (crN 8 (r ^^^ b.toNat)) l < 2 ^ 32 from crMore_lt (crN_lt (crX_lt h b) 8)
theorem crMore_snoc (b : UInt8) : ∀ (l : List UInt8) (r : Nat), crMore r (l ++ [b]) = crN 8 (crMore r l ^^^ b.toNat)
  | [], r => rfl
  | c :: l, r => crMore_snoc b l _
def leV : List UInt8 → Nat
  | [] => 0
  | b :: l => b.toNat + 256 * leV l
theorem leV_lt : ∀ l : List UInt8, leV l < 256 ^ l.length
  | [] => by decide
  | b :: l => by
    have := leV_lt l
    have hb := b.toNat_lt
    rw [leV, List.length_cons, Nat.pow_succ]
    omega
theorem leV_snoc : ∀ (l : List UInt8) (b : UInt8), leV (l ++ [b]) = leV l + b.toNat * 256 ^ l.length
  | [], b => by simp [leV]
  | c :: l, b => by
    rw [List.cons_append, leV, leV, leV_snoc l b, List.length_cons, Nat.pow_succ, Nat.mul_add, Nat.add_assoc]
    congr 2
    rw [Nat.mul_left_comm, Nat.mul_comm 256]
def openB (l : List UInt8) : Bool := decide (4 ≤ l.length) && decide (leV (l.drop (l.length - 4)) = crSum (l.take (l.length - 4)))
end Go.FS

/- Numbers as bytes: the plain law. -/
set_option autoImplicit false
namespace Go.FS
/-- A number's bytes. -/
def vput (x : Nat) : List UInt8 := if x ≤ 127 then [UInt8.ofNat x] else UInt8.ofNat (x % 128 + 128) :: vput (x / 128)
termination_by x
decreasing_by omega
theorem vput_lo {x : Nat} (h : x ≤ 127) : vput x = [UInt8.ofNat x] := by rw [vput, if_pos h]
theorem vput_hi {x : Nat} (h : ¬ x ≤ 127) : vput x = UInt8.ofNat (x % 128 + 128) :: vput (x / 128) := by rw [vput, if_neg h]
/-- What is read: the number and how many bytes it has; or an error. -/
def vgo : List UInt8 → Nat → Nat → Except Int (Nat × Nat)
  | [], _, _ => .error 7
  | x :: l, i, acc => if (i = 9 ∧ 1 < x.toNat) ∨ (0 < i ∧ x.toNat = 0) then .error 10 else
      if x.toNat < 128 then .ok (acc + x.toNat % 128 * 2 ^ (7 * i), i + 1) else vgo l (i + 1) (acc + x.toNat % 128 * 2 ^ (7 * i))
theorem pow7 (i : Nat) : (2 : Nat) ^ (7 * (i + 1)) = 2 ^ (7 * i) * 128 := by rw [show 7 * (i + 1) = 7 * i + 7 from by omega, Nat.pow_add]
theorem ofNat_toNat {x : Nat} (h : x < 256) : (UInt8.ofNat x).toNat = x := by
  rw [UInt8.toNat_ofNat']; exact Nat.mod_eq_of_lt h
/-- What is read was put. -/
theorem vgo_ok : ∀ (l : List UInt8) (i acc n j : Nat), i ≤ 9 → vgo l i acc = .ok (n, j) → ∃ y, i < j ∧ j ≤ i + l.length ∧ l.take (j - i) = vput y ∧ n = acc + y * 2 ^ (7 * i) ∧ y * 2 ^ (7 * i) < 2 ^ 64 ∧ (0 < i → 0 < y)
  | [], i, acc, n, j, _, h => by cases h
  | x :: l, i, acc, n, j, hi, h => by
    unfold vgo at h
    split at h
    · cases h
    · next c =>
      have c1 : i = 9 → x.toNat ≤ 1 := fun e => Nat.le_of_not_lt fun g => c (.inl ⟨e, g⟩)
      have c2 : 0 < i → 0 < x.toNat := fun e => Nat.pos_of_ne_zero fun g => c (.inr ⟨e, g⟩)
      have hx : x.toNat < 256 := x.toNat_lt
      split at h
      · next hlt =>
        injection h with h
        injection h with h1 h2
        subst h1 h2
        refine ⟨x.toNat, by omega, by rw [List.length_cons]; omega, ?_, by rw [Nat.mod_eq_of_lt hlt], ?_, c2⟩
        · have : i + 1 - i = 1 := by omega
          rw [this, vput_lo (by omega), UInt8.ofNat_toNat]; rfl
        · by_cases h9 : i = 9
          · subst h9
            have := c1 rfl
            have e : (2 : Nat) ^ (7 * 9) = 2 ^ 63 := by decide
            rw [e]; omega
          · have : (2 : Nat) ^ (7 * i) ≤ 2 ^ (7 * 8) := Nat.pow_le_pow_right (by decide) (by omega)
            calc x.toNat * 2 ^ (7 * i) ≤ 127 * 2 ^ (7 * 8) := Nat.mul_le_mul (by omega) this
              _ < 2 ^ 64 := by decide
      · next hge =>
        have h9 : i ≠ 9 := fun e => by have := c1 e; omega
        obtain ⟨y, k1, k2, k3, k4, k5, k6⟩ := vgo_ok l (i + 1) _ n j (by omega) h
        have hy := k6 (by omega)
        have hb : (x.toNat % 128 + 128 * y) * 2 ^ (7 * i) = x.toNat % 128 * 2 ^ (7 * i) + y * 2 ^ (7 * (i + 1)) := by
          rw [Nat.add_mul, pow7]
          congr 1
          rw [Nat.mul_comm 128 y, Nat.mul_assoc, Nat.mul_comm 128]
        refine ⟨x.toNat % 128 + 128 * y, by omega, by rw [List.length_cons]; omega, ?_, by rw [k4, hb, Nat.add_assoc], ?_, fun _ => by omega⟩
        · have e : j - i = (j - (i + 1)) + 1 := by omega
          rw [e, List.take_succ_cons, k3, vput_hi (x := x.toNat % 128 + 128 * y) (by omega)]
          have e1 : (x.toNat % 128 + 128 * y) % 128 + 128 = x.toNat := by omega
          have e2 : (x.toNat % 128 + 128 * y) / 128 = y := by omega
          rw [e1, e2, UInt8.ofNat_toNat]
        · -- the top bits
          rw [hb]
          have hy64 : y * 2 ^ (7 * (i + 1)) < 2 ^ 64 := k5
          have hdiv : (2 : Nat) ^ (7 * (i + 1)) ∣ 2 ^ 64 := Nat.pow_dvd_pow 2 (by omega)
          obtain ⟨q, hq⟩ := hdiv
          have hpos : 0 < (2 : Nat) ^ (7 * (i + 1)) := Nat.two_pow_pos _
          have hyq : y < q := by
            rw [hq, Nat.mul_comm y] at hy64
            exact Nat.lt_of_mul_lt_mul_left hy64
          have h1 : (y + 1) * 2 ^ (7 * (i + 1)) ≤ 2 ^ 64 := by
            rw [hq, Nat.mul_comm]
            exact Nat.mul_le_mul_left _ hyq
          have h2 : x.toNat % 128 * 2 ^ (7 * i) < 2 ^ (7 * (i + 1)) := by
            rw [pow7, Nat.mul_comm (2 ^ (7 * i))]
            exact Nat.mul_lt_mul_of_pos_right (by omega) (Nat.two_pow_pos _)
          rw [Nat.add_mul, Nat.one_mul] at h1
          omega
end Go.FS
namespace Go.FS
theorem toList_loop (b : ByteArray) : ∀ (k i : Nat) (acc : List UInt8), b.size - i = k → ByteArray.toList.loop b i acc = acc.reverse ++ b.data.toList.drop i
  | 0, i, acc, h => by
    rw [ByteArray.toList.loop, if_neg (by omega)]
    have : b.data.toList.drop i = [] := List.drop_eq_nil_of_le (by have : b.data.toList.length = b.size := rfl; omega)
    rw [this, List.append_nil]
  | k + 1, i, acc, h => by
    rw [ByteArray.toList.loop, if_pos (by omega), toList_loop b k (i + 1) _ (by omega)]
    have hi : i < b.data.toList.length := by have : b.data.toList.length = b.size := rfl; omega
    have e : b.get! i = b.data.toList[i] := by
      cases b with | mk d =>
      show d[i]! = d.toList[i]
      rw [getElem!_pos d i (by simpa using hi)]; simp
    rw [List.drop_eq_getElem_cons hi, List.reverse_cons, List.append_assoc, e]
    rfl
theorem ba_toList (b : ByteArray) : b.toList = b.data.toList := by
  have := toList_loop b b.size 0 [] (by omega)
  exact this
end Go.FS

/- Chunks: the plain law. -/
set_option autoImplicit false
set_option linter.unusedVariables false
namespace Go.FS
def t0 : TS := ⟨0, 0, 0⟩
def x0 : XS := ⟨0, 0, 64, 0⟩
theorem t0_ok : TSok t0 := ⟨Nat.zero_le _, Nat.zero_le _⟩
theorem x0_ok : XSok x0 := ⟨by decide, .inl ⟨rfl, rfl⟩⟩
theorem tnext_n (t : TS) (a : Nat) : (tnext t a).n = t.n + 1 := by
  unfold tnext
  split
  · rename_i h; rw [h]
  · rfl
theorem xnext_n (x : XS) (v : Nat) : (xnext x v).n = x.n + 1 := by
  unfold xnext
  split
  · rename_i h; rw [h]
  · (repeat' split) <;> rfl
end Go.FS
