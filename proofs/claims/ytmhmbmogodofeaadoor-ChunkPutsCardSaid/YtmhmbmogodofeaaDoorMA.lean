
/- Bits: the plain law. -/
set_option autoImplicit false
namespace Go.FS
/-- A number's lowest bits, the highest one ahead. -/
def bitsN : Nat → Nat → List Bool
  | 0, _ => []
  | n + 1, x => decide (x / 2 ^ n % 2 = 1) :: bitsN n x
def valB : List Bool → Nat
  | [] => 0
  | b :: l => (if b then 2 ^ l.length else 0) + valB l
theorem bitsN_len : ∀ (n x : Nat), (bitsN n x).length = n
  | 0, _ => rfl
  | n + 1, x => by rw [bitsN, List.length_cons, bitsN_len n x]
theorem valB_lt : ∀ (l : List Bool), valB l < 2 ^ l.length
  | [] => by decide
  | b :: l => by
    have := valB_lt l
    rw [valB, List.length_cons, Nat.pow_succ]
    split <;> omega
theorem mod_step (x n : Nat) : x % 2 ^ (n + 1) = x / 2 ^ n % 2 * 2 ^ n + x % 2 ^ n := by
  rw [Nat.pow_succ, Nat.mod_mul, Nat.mul_comm, Nat.add_comm]
theorem valB_bits : ∀ (n x : Nat), valB (bitsN n x) = x % 2 ^ n
  | 0, x => by rw [bitsN, valB, Nat.pow_zero, Nat.mod_one]
  | n + 1, x => by
    rw [bitsN, valB, bitsN_len, valB_bits n x, mod_step]
    have h2 : x / 2 ^ n % 2 < 2 := Nat.mod_lt _ (by decide)
    by_cases h : x / 2 ^ n % 2 = 1
    · rw [if_pos (by simpa using h), h, Nat.one_mul]
    · have h0 : x / 2 ^ n % 2 = 0 := by omega
      rw [if_neg (by simpa using h), h0, Nat.zero_mul]
theorem bitsN_mod : ∀ (n m x : Nat), n ≤ m → bitsN n (x % 2 ^ m) = bitsN n x
  | 0, _, _, _ => rfl
  | n + 1, m, x, h => by
    rw [bitsN, bitsN, bitsN_mod n m x (by omega)]
    congr 1
    have : x % 2 ^ m / 2 ^ n % 2 = x / 2 ^ n % 2 := by
      obtain ⟨k, rfl⟩ : ∃ k, m = n + (k + 1) := ⟨m - n - 1, by omega⟩
      rw [Nat.pow_add, Nat.mod_mul_right_div_self, Nat.pow_succ, Nat.mul_comm, Nat.mod_mul_right_mod]
    rw [this]
theorem bits_valB : ∀ (l : List Bool), bitsN l.length (valB l) = l
  | [] => rfl
  | b :: l => by
    have hl := valB_lt l
    have ih := bits_valB l
    have hp := Nat.two_pow_pos l.length
    have e1 : valB (b :: l) % 2 ^ l.length = valB l := by
      rw [valB]
      cases b
      · rw [if_neg (by simp), Nat.zero_add, Nat.mod_eq_of_lt hl]
      · rw [if_pos rfl, Nat.add_mod_left, Nat.mod_eq_of_lt hl]
    rw [List.length_cons, bitsN, ← bitsN_mod l.length l.length _ (Nat.le_refl _), e1, ih]
    congr 1
    rw [valB]
    cases b
    · rw [if_neg (by simp), Nat.zero_add, Nat.div_eq_of_lt hl]; rfl
    · rw [if_pos rfl, Nat.add_div_left _ hp, Nat.div_eq_of_lt hl]; rfl
theorem bitsN_add : ∀ (a b x : Nat), bitsN (a + b) x = bitsN a (x / 2 ^ b) ++ bitsN b x
  | 0, b, x => by rw [Nat.zero_add]; rfl
  | a + 1, b, x => by
    rw [show a + 1 + b = a + b + 1 from by omega, bitsN, bitsN, bitsN_add a b x, List.cons_append]
    congr 1
    rw [Nat.div_div_eq_div_mul, ← Nat.pow_add, Nat.add_comm b a]
theorem valB_app : ∀ (l m : List Bool), valB (l ++ m) = valB l * 2 ^ m.length + valB m
  | [], m => by rw [List.nil_append, valB, Nat.zero_mul, Nat.zero_add]
  | b :: l, m => by
    rw [List.cons_append, valB, valB, valB_app l m, List.length_append, Nat.add_mul, Nat.add_assoc]
    congr 1
    cases b
    · simp
    · simp [Nat.pow_add]
theorem valB_zero (n : Nat) : valB (List.replicate n false) = 0 := by
  induction n with
  | zero => rfl
  | succ n ih => rw [List.replicate_succ, valB, ih]; rfl
/-- The bits of bytes. -/
def unpack : List UInt8 → List Bool
  | [] => []
  | b :: l => bitsN 8 b.toNat ++ unpack l
theorem unpack_len : ∀ (B : List UInt8), (unpack B).length = B.length * 8
  | [] => rfl
  | b :: l => by rw [unpack, List.length_append, bitsN_len, unpack_len l, List.length_cons]; omega
theorem unpack_app : ∀ (B C : List UInt8), unpack (B ++ C) = unpack B ++ unpack C
  | [], C => rfl
  | b :: l, C => by rw [List.cons_append, unpack, unpack, unpack_app l C, List.append_assoc]
theorem toNat_ofNat {x : Nat} (h : x < 256) : (UInt8.ofNat x).toNat = x := by
  rw [UInt8.toNat_ofNat']; exact Nat.mod_eq_of_lt h
theorem unpack_inj : ∀ {B C : List UInt8}, unpack B = unpack C → B = C
  | [], [], _ => rfl
  | [], c :: C, h => by have := congrArg List.length h; rw [unpack_len, unpack_len] at this; simp at this
  | b :: B, [], h => by have := congrArg List.length h; rw [unpack_len, unpack_len] at this; simp at this
  | b :: B, c :: C, h => by
    rw [unpack, unpack] at h
    obtain ⟨h1, h2⟩ := List.append_inj h (by rw [bitsN_len, bitsN_len])
    have h3 := congrArg valB h1
    rw [valB_bits, valB_bits, Nat.mod_eq_of_lt b.toNat_lt, Nat.mod_eq_of_lt c.toNat_lt] at h3
    rw [UInt8.toNat_inj.1 h3, unpack_inj h2]
/-- Bits with noughts up to a byte's end. -/
def padded (bs : List Bool) (B : List UInt8) : Prop := unpack B = bs ++ List.replicate (B.length * 8 - bs.length) false ∧ bs.length ≤ B.length * 8 ∧ B.length * 8 < bs.length + 8
theorem padded_fun {bs : List Bool} {B C : List UInt8} (h : padded bs B) (k : padded bs C) : B = C := by
  obtain ⟨h1, h2, h3⟩ := h
  obtain ⟨k1, k2, k3⟩ := k
  have : B.length = C.length := by omega
  exact unpack_inj (by rw [h1, k1, this])
theorem padded_nil : padded [] [] := ⟨rfl, Nat.le_refl _, by decide⟩
/-- A byte more, where none has room. -/
theorem padded_more {bs : List Bool} {B : List UInt8} {x n : Nat} (h : padded bs B) (h8 : bs.length % 8 = 0) (hn : 1 ≤ n) (hn8 : n ≤ 8) (hx : x < 2 ^ n) : padded (bs ++ bitsN n x) (B ++ [UInt8.ofNat (x * 2 ^ (8 - n))]) := by
  obtain ⟨h1, h2, h3⟩ := h
  have hB : B.length * 8 = bs.length := by omega
  have hlt : x * 2 ^ (8 - n) < 256 := by
    calc x * 2 ^ (8 - n) < 2 ^ n * 2 ^ (8 - n) := Nat.mul_lt_mul_of_pos_right hx (Nat.two_pow_pos _)
      _ = 256 := by rw [← Nat.pow_add, show n + (8 - n) = 8 from by omega]
  have h0 : bs.length - bs.length = 0 := Nat.sub_self _
  rw [hB, h0, List.replicate_zero, List.append_nil] at h1
  have hb : bitsN 8 (x * 2 ^ (8 - n)) = bitsN n x ++ List.replicate (8 - n) false := by
    have := bits_valB (bitsN n x ++ List.replicate (8 - n) false)
    rw [List.length_append, bitsN_len, List.length_replicate, valB_app, valB_bits, valB_zero, List.length_replicate, Nat.mod_eq_of_lt hx, Nat.add_zero, show n + (8 - n) = 8 from by omega] at this
    exact this
  refine ⟨?_, by rw [List.length_append, List.length_append, bitsN_len]; simp only [List.length_singleton]; omega, by rw [List.length_append, List.length_append, bitsN_len]; simp only [List.length_singleton]; omega⟩
  rw [unpack_app, h1]
  show bs ++ (bitsN 8 (UInt8.ofNat _).toNat ++ []) = _
  rw [toNat_ofNat hlt, hb, List.append_nil, List.append_assoc]
  congr 2
  rw [List.length_append, List.length_append, bitsN_len]
  congr 1
  simp only [List.length_singleton]; omega
/-- Into the last byte's room. -/
theorem padded_fill {bs : List Bool} {B : List UInt8} {x n : Nat} (h : padded bs B) (h8 : bs.length % 8 ≠ 0) (hn : 1 ≤ n) (hn8 : n ≤ 8 - bs.length % 8) (hx : x < 2 ^ n) :
    ∃ (B0 : List UInt8) (b : UInt8), B = B0 ++ [b] ∧ (b.toNat ||| (x * 2 ^ (8 - bs.length % 8 - n))) < 256 ∧ padded (bs ++ bitsN n x) (B0 ++ [UInt8.ofNat (b.toNat ||| (x * 2 ^ (8 - bs.length % 8 - n)))]) := by
  obtain ⟨h1, h2, h3⟩ := h
  have hBpos : B ≠ [] := fun e => by subst e; simp only [List.length_nil] at h2; omega
  obtain ⟨B0, b, rfl⟩ : ∃ B0 b, B = B0 ++ [b] := ⟨B.dropLast, B.getLast hBpos, (List.dropLast_concat_getLast hBpos).symm⟩
  rw [List.length_append, List.length_singleton] at h1 h2 h3
  have hf : (B0.length + 1) * 8 - bs.length = 8 - bs.length % 8 := by omega
  rw [hf] at h1
  generalize hfr : 8 - bs.length % 8 = f at *
  -- the last byte
  have hu : unpack (B0 ++ [b]) = unpack B0 ++ bitsN 8 b.toNat := by rw [unpack_app]; show _ ++ (_ ++ []) = _; rw [List.append_nil]
  rw [hu] at h1
  have hsplit : bs = bs.take (B0.length * 8) ++ bs.drop (B0.length * 8) := (List.take_append_drop _ _).symm
  have hlt : (bs.take (B0.length * 8)).length = B0.length * 8 := by rw [List.length_take]; omega
  have ht : (bs.drop (B0.length * 8)).length + f = 8 := by rw [List.length_drop]; omega
  rw [hsplit, List.append_assoc] at h1
  obtain ⟨q1, q2⟩ := List.append_inj h1 (by rw [unpack_len, hlt])
  generalize ht0 : bs.drop (B0.length * 8) = t at *
  have hb : b.toNat = valB t * 2 ^ f := by
    have := congrArg valB q2
    rw [valB_bits, valB_app, valB_zero, List.length_replicate, Nat.add_zero, Nat.mod_eq_of_lt b.toNat_lt] at this
    exact this
  have hxlt : x * 2 ^ (f - n) < 2 ^ f := by
    calc x * 2 ^ (f - n) < 2 ^ n * 2 ^ (f - n) := Nat.mul_lt_mul_of_pos_right hx (Nat.two_pow_pos _)
      _ = 2 ^ f := by rw [← Nat.pow_add, show n + (f - n) = f from by omega]
  have hor : b.toNat ||| (x * 2 ^ (f - n)) = valB t * 2 ^ f + x * 2 ^ (f - n) := by
    rw [hb, Nat.mul_comm (valB t), ← Nat.two_pow_add_eq_or_of_lt hxlt]
  have hval : valB (t ++ (bitsN n x ++ List.replicate (f - n) false)) = valB t * 2 ^ f + x * 2 ^ (f - n) := by
    rw [valB_app, valB_app, valB_zero, valB_bits, List.length_append, bitsN_len, List.length_replicate, Nat.mod_eq_of_lt hx, Nat.add_zero, show n + (f - n) = f from by omega]
  have hlen : (t ++ (bitsN n x ++ List.replicate (f - n) false)).length = 8 := by
    rw [List.length_append, List.length_append, bitsN_len, List.length_replicate]; omega
  have hbits : bitsN 8 (valB t * 2 ^ f + x * 2 ^ (f - n)) = t ++ (bitsN n x ++ List.replicate (f - n) false) := by
    have := bits_valB (t ++ (bitsN n x ++ List.replicate (f - n) false))
    rw [hlen, hval] at this
    exact this
  have h256 : valB t * 2 ^ f + x * 2 ^ (f - n) < 256 := by
    have := valB_lt (t ++ (bitsN n x ++ List.replicate (f - n) false))
    rw [hlen, hval] at this
    exact this
  refine ⟨B0, b, rfl, by rw [hor]; exact h256, ?_, ?_, ?_⟩
  · rw [hor, unpack_app]
    show unpack B0 ++ (bitsN 8 (UInt8.ofNat _).toNat ++ []) = _
    rw [toNat_ofNat h256, hbits, List.append_nil, q1]
    have e : (B0 ++ [UInt8.ofNat (valB t * 2 ^ f + x * 2 ^ (f - n))]).length * 8 - (bs ++ bitsN n x).length = f - n := by
      rw [List.length_append, List.length_append, bitsN_len, List.length_singleton]; omega
    rw [e]
    conv => rhs; rw [hsplit]
    simp only [List.append_assoc]
  · rw [List.length_append, List.length_append, bitsN_len, List.length_singleton]; omega
  · rw [List.length_append, List.length_append, bitsN_len, List.length_singleton]; omega
end Go.FS

/- Times and values as bits: the plain law. -/
set_option autoImplicit false
set_option linter.unusedVariables false
namespace Go.FS
/-! Times. -/
structure TS where
  n : Nat
  last : Nat
  delta : Nat
def mxT : Nat := 35184372088832
def tcls (z : Nat) : Nat := if z = 0 then 0 else if z < 128 then 1 else if z < 4096 then 2 else if z < 1048576 then 3 else 4
def tw : Nat → Nat
  | 0 => 0 | 1 => 7 | 2 => 12 | 3 => 20 | _ => 48
theorem tcls_le (z : Nat) : tcls z ≤ 4 := by unfold tcls; (repeat' split) <;> omega
theorem tcls_lt {z : Nat} (h : z < 2 ^ 48) : z < 2 ^ tw (tcls z) := by
  unfold tcls
  (repeat' split) <;> simp [tw] <;> omega
theorem tw_le (k : Nat) : tw k ≤ 48 := by unfold tw; split <;> omega
def leadB (k : Nat) : List Bool := List.replicate k true ++ (if k < 4 then [false] else [])
def foldZ (d : Int) : Nat := if d < 0 then (-2 * d - 1).toNat else (2 * d).toNat
def tz (s : TS) (t : Nat) : Nat := foldZ ((t : Int) - s.last - s.delta)
def tput (s : TS) (t : Nat) : List Bool := if s.n = 0 then bitsN 46 t else leadB (tcls (tz s t)) ++ bitsN (tw (tcls (tz s t))) (tz s t)
def tnext (s : TS) (t : Nat) : TS := if s.n = 0 then ⟨1, t, 0⟩ else ⟨s.n + 1, t, t - s.last⟩
/-- What may be the next time. -/
def tmay (s : TS) (t : Int) : Prop := 0 ≤ t ∧ t ≤ mxT ∧ (s.n = 0 ∨ (s.last : Int) < t)
instance (s : TS) (t : Int) : Decidable (tmay s t) := by unfold tmay; exact inferInstance
def TSok (s : TS) : Prop := s.last ≤ mxT ∧ s.delta ≤ mxT
theorem tz_lt {s : TS} {t : Nat} (hs : TSok s) (ht : t ≤ mxT) : tz s t < 2 ^ 48 := by
  unfold tz foldZ mxT at *
  unfold TSok mxT at hs
  split <;> omega
theorem tnext_ok {s : TS} {t : Nat} (h : tmay s t) : TSok (tnext s t) := by
  obtain ⟨_, h2, _⟩ := h
  unfold tnext TSok
  split <;> simp only <;> omega
/-! Values. -/
structure XS where
  n : Nat
  last : Nat
  lead : Nat
  trail : Nat
def nlz (x : Nat) : Nat := 63 - Nat.log2 x
def ntzF : Nat → Nat → Nat
  | 0, _ => 0
  | f + 1, x => if x % 2 = 1 then 0 else ntzF f (x / 2) + 1
def ntz (x : Nat) : Nat := ntzF 64 x
theorem ntzF_spec : ∀ (f x : Nat), 0 < x → x < 2 ^ f → 2 ^ ntzF f x ∣ x ∧ ¬ 2 ^ (ntzF f x + 1) ∣ x ∧ ntzF f x < f
  | 0, x, h, h2 => by omega
  | f + 1, x, h, h2 => by
    rw [ntzF]
    by_cases h1 : x % 2 = 1
    · rw [if_pos h1]
      exact ⟨by simp, by rw [Nat.zero_add, Nat.pow_one]; omega, by omega⟩
    · rw [if_neg h1]
      have hx : x = 2 * (x / 2) := by omega
      obtain ⟨a, b, c⟩ := ntzF_spec f (x / 2) (by omega) (by rw [Nat.pow_succ] at h2; omega)
      refine ⟨?_, ?_, by omega⟩
      · rw [hx, Nat.mul_div_cancel_left _ (by decide : 0 < 2), Nat.pow_succ, Nat.mul_comm _ 2]
        exact Nat.mul_dvd_mul_left 2 a
      · intro hd
        apply b
        rw [hx, Nat.mul_div_cancel_left _ (by decide : 0 < 2), Nat.pow_succ, Nat.mul_comm _ 2] at hd
        exact Nat.dvd_of_mul_dvd_mul_left (by decide) hd
theorem nlz_spec {x : Nat} (h0 : x ≠ 0) (h : x < 2 ^ 64) : nlz x ≤ 63 ∧ 2 ^ (63 - nlz x) ≤ x ∧ x < 2 ^ (64 - nlz x) := by
  have h1 : Nat.log2 x < 64 := (Nat.log2_lt h0).2 h
  unfold nlz
  refine ⟨by omega, ?_, ?_⟩
  · rw [show 63 - (63 - Nat.log2 x) = Nat.log2 x from by omega]; exact Nat.log2_self_le h0
  · rw [show 64 - (63 - Nat.log2 x) = Nat.log2 x + 1 from by omega]; exact Nat.lt_log2_self
theorem ntz_spec {x : Nat} (h0 : x ≠ 0) (h : x < 2 ^ 64) : 2 ^ ntz x ∣ x ∧ ¬ 2 ^ (ntz x + 1) ∣ x ∧ ntz x < 64 := ntzF_spec 64 x (by omega) h
theorem lz_tz {x : Nat} (h0 : x ≠ 0) (h : x < 2 ^ 64) : nlz x + ntz x ≤ 63 := by
  obtain ⟨a1, a2, a3⟩ := nlz_spec h0 h
  obtain ⟨b1, b2, b3⟩ := ntz_spec h0 h
  have h1 := Nat.lt_of_le_of_lt (Nat.le_of_dvd (by omega) b1) a3
  have := (Nat.pow_lt_pow_iff_right (by decide : 1 < 2)).1 h1
  omega
def vheld (s : XS) (x : Nat) : Prop := s.lead < 64 ∧ s.lead ≤ nlz x ∧ s.trail ≤ ntz x
instance (s : XS) (x : Nat) : Decidable (vheld s x) := by unfold vheld; exact inferInstance
def xput (s : XS) (v : Nat) : List Bool :=
  if s.n = 0 then bitsN 64 v
  else if v ^^^ s.last = 0 then [false]
  else if vheld s (v ^^^ s.last) then [true, false] ++ bitsN (64 - s.lead - s.trail) ((v ^^^ s.last) / 2 ^ s.trail)
  else [true, true] ++ bitsN 6 (nlz (v ^^^ s.last)) ++ bitsN 6 (64 - nlz (v ^^^ s.last) - ntz (v ^^^ s.last) - 1) ++ bitsN (64 - nlz (v ^^^ s.last) - ntz (v ^^^ s.last)) ((v ^^^ s.last) / 2 ^ ntz (v ^^^ s.last))
def xnext (s : XS) (v : Nat) : XS :=
  if s.n = 0 then ⟨1, v, s.lead, s.trail⟩
  else if v ^^^ s.last = 0 then ⟨s.n + 1, v, s.lead, s.trail⟩
  else if vheld s (v ^^^ s.last) then ⟨s.n + 1, v, s.lead, s.trail⟩
  else ⟨s.n + 1, v, nlz (v ^^^ s.last), ntz (v ^^^ s.last)⟩
def XSok (s : XS) : Prop := s.last < 2 ^ 64 ∧ (s.lead = 64 ∧ s.trail = 0 ∨ s.lead + s.trail ≤ 63)
theorem xor_lt {a b : Nat} (ha : a < 2 ^ 64) (hb : b < 2 ^ 64) : a ^^^ b < 2 ^ 64 := Nat.xor_lt_two_pow ha hb
theorem xnext_ok {s : XS} {v : Nat} (hs : XSok s) (hv : v < 2 ^ 64) : XSok (xnext s v) := by
  obtain ⟨hl, hw⟩ := hs
  unfold xnext
  split
  · exact ⟨hv, hw⟩
  · split
    · exact ⟨hv, hw⟩
    · split
      · exact ⟨hv, hw⟩
      · rename_i h _
        exact ⟨hv, .inr (lz_tz h (xor_lt hv hl))⟩
/-! Samples. -/
def encB : TS → XS → List (Nat × Nat) → List Bool
  | _, _, [] => []
  | s, u, a :: l => tput s a.1 ++ xput u a.2 ++ encB (tnext s a.1) (xnext u a.2) l
/-- Samples that may be put. -/
def Right : TS → List (Nat × Nat) → Prop
  | _, [] => True
  | s, a :: l => tmay s a.1 ∧ a.2 < 2 ^ 64 ∧ Right (tnext s a.1) l
end Go.FS

/- Noughts ahead and behind: the plain law. -/
set_option autoImplicit false
set_option linter.unusedVariables false
namespace Go.FS
theorem log2_div {x k : Nat} (h : 2 ^ k ≤ x) : Nat.log2 (x / 2 ^ k) + k = Nat.log2 x := by
  have hp := Nat.two_pow_pos k
  have h0 : x ≠ 0 := by omega
  have h1 : x / 2 ^ k ≠ 0 := by
    have := Nat.div_pos h hp
    omega
  symm
  rw [Nat.log2_eq_iff h0]
  obtain ⟨a, b⟩ := (Nat.log2_eq_iff h1).1 rfl
  refine ⟨?_, ?_⟩
  · rw [Nat.pow_add]
    exact (Nat.le_div_iff_mul_le hp).1 a
  · rw [show Nat.log2 (x / 2 ^ k) + k + 1 = Nat.log2 (x / 2 ^ k) + 1 + k from by omega, Nat.pow_add]
    exact (Nat.div_lt_iff_lt_mul hp).1 b
theorem low_bit {x : Nat} (h0 : x ≠ 0) (h : x < 2 ^ 64) : x &&& (2 ^ 64 - x) = 2 ^ ntz x := by
  obtain ⟨a, b, c⟩ := ntz_spec h0 h
  generalize ntz x = k at *
  obtain ⟨q, hq⟩ := a
  have hodd : q % 2 = 1 := by
    rcases Nat.mod_two_eq_zero_or_one q with h2 | h2
    · exfalso; apply b
      rw [Nat.pow_succ, hq]
      exact Nat.mul_dvd_mul_left _ (Nat.dvd_of_mod_eq_zero h2)
    · exact h2
  obtain ⟨m, rfl⟩ : ∃ m, q = 2 * m + 1 := ⟨q / 2, by omega⟩
  have hp := Nat.two_pow_pos k
  have e1 : x = 2 ^ (k + 1) * m + 2 ^ k := by rw [hq, Nat.pow_succ, Nat.mul_add, Nat.mul_one, Nat.mul_assoc]
  have e2 : x - 1 = 2 ^ (k + 1) * m + (2 ^ k - 1) := by omega
  have l1 : 2 ^ k < 2 ^ (k + 1) := by rw [Nat.pow_succ]; omega
  have l2 : 2 ^ k - 1 < 2 ^ (k + 1) := by omega
  refine Nat.eq_of_testBit_eq fun j => ?_
  have hx : x - 1 < 2 ^ 64 := by omega
  have e3 : 2 ^ 64 - x = 2 ^ 64 - ((x - 1) + 1) := by omega
  rw [Nat.testBit_and, e3, Nat.testBit_two_pow_sub_succ hx, e2, Nat.testBit_two_pow_mul_add _ l2, e1, Nat.testBit_two_pow_mul_add _ l1, Nat.testBit_two_pow, Nat.testBit_two_pow_sub_one]
  by_cases hj : j < k + 1
  · rw [if_pos hj, if_pos hj]
    by_cases hk : k = j
    · subst hk; simp; omega
    · simp [hk]
  · rw [if_neg hj, if_neg hj]
    have : ¬ k = j := by omega
    simp [this]
    intro h1 h2
    exact h1
def brT : List Int := [0, 1, 56, 2, 57, 49, 28, 3, 61, 58, 42, 50, 38, 29, 17, 4, 62, 47, 59, 36, 45, 43, 51, 22, 53, 39, 33, 30, 24, 18, 12, 5, 63, 55, 48, 27, 60, 41, 37, 16, 46, 35, 44, 21, 52, 32, 23, 11, 54, 26, 40, 15, 34, 20, 31, 10, 25, 14, 19, 9, 13, 8, 7, 6]
theorem br_all : (List.range 64).all (fun k => brT[(2 ^ k * 285870213051353865 % 2 ^ 64) / 2 ^ 58]? == some (k : Int)) = true := by decide +kernel
theorem br_at {k : Nat} (h : k < 64) : brT[(2 ^ k * 285870213051353865 % 2 ^ 64) / 2 ^ 58]? = some (k : Int) := by
  have := List.all_eq_true.1 br_all k (List.mem_range.2 h)
  simpa using this
def len8 (y : Nat) : Nat := if y = 0 then 0 else Nat.log2 y + 1
end Go.FS

/- Sums of bytes: the plain law. -/
set_option autoImplicit false
set_option linter.unusedVariables false
namespace Go.FS
def pol : Nat := 2197175160
def cr1 (r : Nat) : Nat := if r % 2 = 1 then r / 2 ^^^ pol else r / 2
def crN : Nat → Nat → Nat
  | 0, r => r
  | k + 1, r => cr1 (crN k r)
def crMore : Nat → List UInt8 → Nat
  | r, [] => r
  | r, b :: l => crMore (crN 8 (r ^^^ b.toNat)) l
def ones32 : Nat := 4294967295
def crSum (B : List UInt8) : Nat := crMore ones32 B ^^^ ones32
theorem pol_lt : pol < 2 ^ 32 := by decide
theorem cr1_lt {r : Nat} (h : r < 2 ^ 32) : cr1 r < 2 ^ 32 := by
  unfold cr1
  split
  · exact Nat.xor_lt_two_pow (by omega) pol_lt
  · omega
theorem crN_lt {r : Nat} (h : r < 2 ^ 32) : ∀ k, crN k r < 2 ^ 32
  | 0 => h
  | k + 1 => cr1_lt (crN_lt h k)
theorem crX_lt {r : Nat} (h : r < 2 ^ 32) (b : UInt8) : r ^^^ b.toNat < 2 ^ 32 := Nat.xor_lt_two_pow h (Nat.lt_trans b.toNat_lt (by decide))
theorem crMore_lt : ∀ {B : List UInt8} {r : Nat}, r < 2 ^ 32 → crMore r B < 2 ^ 32
  | [], _, h => h
  | b :: l, r, h => show crMore (crN 8 (r ^^^ b.toNat)) l < 2 ^ 32 from crMore_lt (crN_lt (crX_lt h b) 8)
theorem crSum_lt (B : List UInt8) : crSum B < 2 ^ 32 := Nat.xor_lt_two_pow (crMore_lt (by decide)) (by decide)
theorem crMore_snoc (b : UInt8) : ∀ (l : List UInt8) (r : Nat), crMore r (l ++ [b]) = crN 8 (crMore r l ^^^ b.toNat)
  | [], r => rfl
  | c :: l, r => crMore_snoc b l _
def leB : Nat → Nat → List UInt8
  | 0, _ => []
  | k + 1, v => UInt8.ofNat (v % 256) :: leB k (v / 256)
theorem leB_len : ∀ k v, (leB k v).length = k
  | 0, _ => rfl
  | k + 1, v => by rw [leB, List.length_cons, leB_len k]
theorem leB_snoc : ∀ k v, leB (k + 1) v = leB k v ++ [UInt8.ofNat (v / 256 ^ k % 256)]
  | 0, v => by simp [leB]
  | k + 1, v => by
    rw [leB, leB_snoc k, leB, List.cons_append, Nat.div_div_eq_div_mul, show 256 * 256 ^ k = 256 ^ (k + 1) from by rw [Nat.pow_succ, Nat.mul_comm]]
def sealB (B : List UInt8) : List UInt8 := B ++ leB 4 (crSum B)
end Go.FS

/- Numbers as bytes: the plain law. -/
set_option autoImplicit false
namespace Go.FS
/-- A number's bytes. -/
def vput (x : Nat) : List UInt8 := if x ≤ 127 then [UInt8.ofNat x] else UInt8.ofNat (x % 128 + 128) :: vput (x / 128)
termination_by x
decreasing_by omega
theorem vput_lo {x : Nat} (h : x ≤ 127) : vput x = [UInt8.ofNat x] := by rw [vput, if_pos h]
theorem vput_hi {x : Nat} (h : ¬ x ≤ 127) : vput x = UInt8.ofNat (x % 128 + 128) :: vput (x / 128) := by rw [vput, if_neg h]
theorem vput_len : ∀ (k x : Nat), x < 2 ^ (7 * (k + 1)) → (vput x).length ≤ k + 1
  | k, x, h => by
    by_cases hx : x ≤ 127
    · rw [vput_lo hx]; simp
    · rw [vput_hi hx, List.length_cons]
      cases k with
      | zero => simp at h; omega
      | succ k =>
        have e : (2 : Nat) ^ (7 * (k + 1 + 1)) = 2 ^ (7 * (k + 1)) * 128 := by rw [show 7 * (k + 1 + 1) = 7 * (k + 1) + 7 from by omega, Nat.pow_add]
        have := vput_len k (x / 128) (by rw [e] at h; omega)
        omega
theorem vput_len10 {x : Nat} (h : x < 2 ^ 64) : (vput x).length ≤ 10 := vput_len 9 x (Nat.lt_of_lt_of_le h (by decide))
theorem vput_pos (x : Nat) : 0 < (vput x).length := by
  by_cases hx : x ≤ 127
  · rw [vput_lo hx]; simp
  · rw [vput_hi hx]; simp
theorem ofNat_toNat {x : Nat} (h : x < 256) : (UInt8.ofNat x).toNat = x := by
  rw [UInt8.toNat_ofNat']; exact Nat.mod_eq_of_lt h
end Go.FS
namespace Go.FS
theorem toList_loop (b : ByteArray) : ∀ (k i : Nat) (acc : List UInt8), b.size - i = k → ByteArray.toList.loop b i acc = acc.reverse ++ b.data.toList.drop i
  | 0, i, acc, h => by
    rw [ByteArray.toList.loop, if_neg (by omega)]
    have : b.data.toList.drop i = [] := List.drop_eq_nil_of_le (by have : b.data.toList.length = b.size := rfl; omega)
    rw [this, List.append_nil]
  | k + 1, i, acc, h => by
    rw [ByteArray.toList.loop, if_pos (by omega), toList_loop b k (i + 1) _ (by omega)]
    have hi : i < b.data.toList.length := by have : b.data.toList.length = b.size := rfl; omega
    have e : b.get! i = b.data.toList[i] := by
      cases b with | mk d =>
      show d[i]! = d.toList[i]
      rw [getElem!_pos d i (by simpa using hi)]; simp
    rw [List.drop_eq_getElem_cons hi, List.reverse_cons, List.append_assoc, e]
    rfl
theorem ba_toList (b : ByteArray) : b.toList = b.data.toList := by
  have := toList_loop b b.size 0 [] (by omega)
  exact this
end Go.FS

/- Chunks: the plain law. -/
set_option autoImplicit false
set_option linter.unusedVariables false
namespace Go.FS
/-- Bits as bytes. -/
def packF : Nat → List Bool → List UInt8
  | 0, _ => []
  | f + 1, bs => if bs = [] then [] else UInt8.ofNat (valB ((bs ++ List.replicate 8 false).take 8)) :: packF f (bs.drop 8)
theorem unpack_cons8 {l : List Bool} (h : l.length = 8) (B : List UInt8) : unpack (UInt8.ofNat (valB l) :: B) = l ++ unpack B := by
  rw [unpack]
  have h1 := valB_lt l
  rw [h] at h1
  rw [toNat_ofNat h1]
  have := bits_valB l
  rw [h] at this
  rw [this]
theorem packF_ok : ∀ (f : Nat) (bs : List Bool), bs.length ≤ f * 8 → padded bs (packF f bs)
  | 0, bs, h => by
    have : bs = [] := List.length_eq_zero_iff.1 (by omega)
    subst this
    exact padded_nil
  | f + 1, bs, h => by
    unfold packF
    by_cases h0 : bs = []
    · rw [if_pos h0, h0]; exact padded_nil
    · rw [if_neg h0]
      have hp : 0 < bs.length := List.length_pos_iff.2 h0
      have hl : ((bs ++ List.replicate 8 false).take 8).length = 8 := by rw [List.length_take, List.length_append, List.length_replicate]; omega
      obtain ⟨i1, i2, i3⟩ := packF_ok f (bs.drop 8) (by rw [List.length_drop]; omega)
      rw [List.length_drop] at i1 i2 i3
      refine ⟨?_, by rw [List.length_cons]; omega, ?_⟩
      · rw [unpack_cons8 hl, i1, List.length_cons]
        by_cases h8 : 8 ≤ bs.length
        · rw [List.take_append_of_le_length h8, ← List.append_assoc, List.take_append_drop]
          congr 2
          omega
        · have hd : bs.drop 8 = [] := List.drop_eq_nil_of_le (by omega)
          rw [hd, List.nil_append]
          have ht : (bs ++ List.replicate 8 false).take 8 = bs ++ List.replicate (8 - bs.length) false := by
            rw [List.take_append, List.take_of_length_le (by omega), List.take_replicate]
            congr 2; omega
          have hz : (packF f (bs.drop 8)).length = 0 := by omega
          rw [ht, List.append_assoc, List.replicate_append_replicate]
          rw [hd] at hz
          congr 2
          omega
      · rw [List.length_cons]
        by_cases h8 : 8 ≤ bs.length
        · omega
        · by_cases hz : (packF f (bs.drop 8)).length = 0
          · omega
          · omega
def packB (bs : List Bool) : List UInt8 := packF bs.length bs
theorem padded_pack (bs : List Bool) : padded bs (packB bs) := packF_ok _ _ (by omega)
def t0 : TS := ⟨0, 0, 0⟩
def x0 : XS := ⟨0, 0, 64, 0⟩
theorem t0_ok : TSok t0 := ⟨Nat.zero_le _, Nat.zero_le _⟩
theorem x0_ok : XSok x0 := ⟨by decide, .inl ⟨rfl, rfl⟩⟩
/-- A chunk of samples. -/
def putC (l : List (Nat × Nat)) : List UInt8 := sealB (vput l.length ++ (vput (packB (encB t0 x0 l)).length ++ packB (encB t0 x0 l)))
/-- May these samples be put? -/
def mayAll : TS → List (Int × Nat) → Prop
  | _, [] => True
  | t, a :: l => tmay t a.1 ∧ mayAll (tnext t a.1.toNat) l
def toN (l : List (Int × Nat)) : List (Nat × Nat) := l.map fun a => (a.1.toNat, a.2)
theorem tnext_n (t : TS) (a : Nat) : (tnext t a).n = t.n + 1 := by
  unfold tnext
  split
  · rename_i h; rw [h]
  · rfl
theorem xnext_n (x : XS) (v : Nat) : (xnext x v).n = x.n + 1 := by
  unfold xnext
  split
  · rename_i h; rw [h]
  · (repeat' split) <;> rfl
end Go.FS
