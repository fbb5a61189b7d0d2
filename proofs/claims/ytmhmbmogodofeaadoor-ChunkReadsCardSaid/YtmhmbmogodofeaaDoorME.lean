import Derived.Test.YtmhmbmogodofeaaDoorMC
import Derived.Test.YtmhmbmogodofeaaDoorMA
set_option autoImplicit false
set_option linter.unusedVariables false
set_option linter.unusedSimpArgs false
set_option maxRecDepth 100000
namespace Go.Proofs.YtmhmbmogodofeaaDoor.S
open Go.FS Go.RowKit
attribute [local congr] bind_cg cond_cg gd_cg

/-! Sealed, Open. -/
theorem p256 (k : Nat) : 2 ^ (8 * k) = 256 ^ k := by rw [Nat.pow_mul]
theorem or32v {a q k : Nat} (ha : a < 2 ^ k) (hk : k ≤ 32) (hq : q * 2 ^ k < 2 ^ 32) : bopD Tryd.prog .or 127 (W (a : Int)) (W ((q * 2 ^ k : Nat) : Int)) = some (W ((a + q * 2 ^ k : Nat) : Int)) := by
  have hk2 : (2 : Nat) ^ k ≤ 2 ^ 32 := Nat.pow_le_pow_right (by decide) hk
  rw [or32 (by omega) hq, Nat.mul_comm q, Nat.or_comm, ← Nat.two_pow_add_eq_or_of_lt ha, Nat.add_comm]
theorem c92 {n m : Nat} {s : SH} (l : List UInt8) (hl : l.length = 4) : callD Tryd.prog AB (n + 1) (.fn 92) [sl by' m l] s = some [(.tuple #[W (leV l : Nat), I 0], s)] := by
  rw [call_fn (fn := Tryd.f92) rfl rfl (by kernel_rfl)]
  suffices h : One (bodyD Tryd.prog false (callD Tryd.prog AB n) AB.N 92 Tryd.f92 [sl by' m l] s) fun v s' => v = .tuple #[W (leV l : Nat), I 0] ∧ s' = s by
    obtain ⟨v, s', e, rfl, rfl⟩ := h
    exact e
  rw [f92_r]
  have h4 : ¬ ((l.length : Int) < 4) := by omega
  simp only [f92, oO, bindS, many1, jnE, boolS, gdB, fst', snd', len_sl u22, bop_lss, h4, decide_false, condF]
  refine list_one l (fun i (y : Value × Value × Value) (s' : SH) => s' = s ∧ y.2.2 = I (i : Int) ∧ y.1 = W (leV (l.take i) : Nat)) ?_ ?_ ⟨rfl, rfl, rfl⟩ (by rw [hl]; show _ < 2 ^ 64; omega)
  · rintro i hi ⟨y1, y2, y3⟩ s' ⟨rfl, h1, h2⟩ nx hnx
    simp only at h1 h2
    subst h1 h2
    have hlt : (i : Int) < 4 := by omega
    have hw1 : IntKind.i64.wrap ((i : Int) + 1) = ((i + 1 : Nat) : Int) := by rw [wrap_i64 (by omega) (by omega)]; rfl
    have hw8 : IntKind.i64.wrap (8 * (i : Int)) = ((8 * i : Nat) : Int) := by rw [wrap_i64 (by omega) (by omega)]; omega
    have hb := l[i].toNat_lt
    have hp : (2 : Nat) ^ (8 * i) ≤ 2 ^ 24 := Nat.pow_le_pow_right (by decide) (by omega)
    have hq : l[i].toNat * 2 ^ (8 * i) < 2 ^ 32 := by
      calc l[i].toNat * 2 ^ (8 * i) ≤ 255 * 2 ^ 24 := Nat.mul_le_mul (by omega) hp
        _ < 2 ^ 32 := by decide
    have hsh := shl32 (a := l[i].toNat) (k := 8 * i) (by omega) hq
    have hacc := leV_lt (l.take i)
    rw [List.length_take, Nat.min_eq_left (by omega), ← p256] at hacc
    have hor := or32v hacc (by omega) hq
    have ht : leV (l.take i) + l[i].toNat * 2 ^ (8 * i) = leV (l.take (i + 1)) := by
      rw [List.take_succ_eq_append_getElem hi, leV_snoc, List.length_take, Nat.min_eq_left (by omega), p256]
    rw [ht] at hor
    simp only [f92_l0, oO, bindS, many1, jnE, boolS, gdB, fst', snd', bop_lss, hlt, decide_true, condT, ixs22 by_len hi, ld_by, cvt8, bop_mul, hw8, hsh, hor, bop_add, hw1]
    exact hnx (_, _, _) _ ⟨rfl, rfl, rfl⟩
  · rintro ⟨y1, y2, y3⟩ s' ⟨rfl, h1, h2⟩ nx
    simp only at h1 h2
    subst h1 h2
    have hnlt : ¬ ((l.length : Int) < 4) := by omega
    simp only [f92_l0, oO, bindS, many1, jnE, boolS, gdB, fst', snd', bop_lss, hnlt, decide_false, condF, beq_yes, condT]
    rw [List.take_length]
    exact One.ret ⟨rfl, rfl⟩
theorem c58 {n m : Nat} {s : SH} (l : List UInt8) (hl : l.length + 20 ≤ 140737488355328) : ∃ v s', callD Tryd.prog AB (n + 7) (.fn 58) [sl by' m l] s = some [(.tuple #[v, .bool (openB l)], s')] ∧ Sm s.n s s' := by
  rw [call_fn (fn := Tryd.f58) rfl rfl (by kernel_rfl)]
  show ∃ v s', bodyD Tryd.prog false _ _ 58 Tryd.f58 _ s = _ ∧ _
  rw [f58_r]
  by_cases h4 : 4 ≤ l.length
  · have hw : IntKind.i64.wrap ((l.length : Int) - 4) = ((l.length - 4 : Nat) : Int) := by rw [wrap_i64 (by omega) (by omega)]; omega
    have hn : ¬ (((l.length - 4 : Nat) : Int) < 0) := by omega
    obtain ⟨m1, e1⟩ := slc_from (P := Tryd.prog) (s := s) (t := 22) (m := m) (k := .i64) (xs := l) u22 z5 by_len (show l.length - 4 ≤ l.length by omega)
    have e2 := fun s : SH => slc_sl (P := Tryd.prog) (s := s) (t := 22) (m := m) (k := .i64) (xs := l) u22 z5 by_len (show l.length - 4 ≤ l.length by omega)
    have e92 := c92 (n := n + 5) (m := m1) (s := s) (l.drop (l.length - 4)) (by rw [List.length_drop]; omega)
    have e89 := c89 (n := n) (m := bif Nat.beq m 2 then 2 else 0) (s := s) (l.take (l.length - 4)) (by rw [List.length_take]; omega)
    have ho : openB l = decide (leV (l.drop (l.length - 4)) = crSum (l.take (l.length - 4))) := by unfold openB; rw [decide_eq_true h4, Bool.true_and]
    by_cases hs : leV (l.drop (l.length - 4)) = crSum (l.take (l.length - 4))
    · have hs' : ((leV (l.drop (l.length - 4)) : Nat) : Int) = ((crSum (l.take (l.length - 4)) : Nat) : Int) := by rw [hs]
      obtain ⟨v, s2, e3, w1, w2, w3⟩ := gapp22 (lo := s.n) (v := sl by' 1 []) (xs := []) (s := s) (m2 := bif Nat.beq m 2 then 2 else 0) (ys := l.take (l.length - 4)) (.inl ⟨rfl, .inr rfl⟩) (Nat.le_refl _) (by simp only [List.length_nil]; rw [List.length_take]; omega)
      refine ⟨v, s2, ?_, w2⟩
      simp only [f58, oO, bindS, many1, jnE, boolS, gdB, fst', snd', len_sl u22, b_sub, hw, bop_lss, hn, decide_false, condF, e1, e92, ext2, e2, e89, b_neq, hs', decide_true, Bool.not_true, bs22_0, e3, ho, hs]
    · have hs' : ¬ ((leV (l.drop (l.length - 4)) : Nat) : Int) = ((crSum (l.take (l.length - 4)) : Nat) : Int) := by omega
      refine ⟨fzV 2 #[], s, ?_, .refl _ _⟩
      simp only [f58, oO, bindS, many1, jnE, boolS, gdB, fst', snd', len_sl u22, b_sub, hw, bop_lss, hn, decide_false, condF, e1, e92, ext2, e2, e89, b_neq, hs', Bool.not_false, condT, ho, hs]
  · have hw : IntKind.i64.wrap ((l.length : Int) - 4) = (l.length : Int) - 4 := wrap_i64 (by omega) (by omega)
    have hn : (l.length : Int) - 4 < 0 := by omega
    refine ⟨fzV 2 #[], s, ?_, .refl _ _⟩
    have ho : openB l = false := by unfold openB; rw [decide_eq_false h4, Bool.false_and]
    simp only [f58, oO, bindS, many1, jnE, boolS, gdB, fst', snd', len_sl u22, b_sub, hw, bop_lss, hn, decide_true, condT, ho]
end Go.Proofs.YtmhmbmogodofeaaDoor.S

set_option autoImplicit false
set_option linter.unusedVariables false
set_option linter.unusedSimpArgs false
set_option maxRecDepth 100000
namespace Go.Proofs.YtmhmbmogodofeaaDoor.S
open Go.FS Go.RowKit
attribute [local congr] bind_cg cond_cg gd_cg

/-! A chunk's builder. -/
abbrev br (t : TS) (x : XS) (wid : Nat) : List Value := [I t.n, I t.last, I t.delta, I x.n, U x.last, I x.lead, I x.trail, pt wid 0]
/-- A builder that has these bits. -/
def Bd (lo id wid : Nat) (s : SH) (t : TS) (x : XS) (bs : List Bool) : Prop := HP.get s.h id = some (.row (br t x wid)) ∧ id < s.n ∧ (lo ≤ id ∧ lo ≤ wid) ∧ id ≠ wid ∧ Wr lo wid s bs
theorem fld104_1' (id : Nat) : fieldAddrD Tryd.prog 104 (pt id 0) 1 = some (pt id 3) := fld104_1 id
abbrev sv (t : Int) (v : Nat) : Value := .agg #[I t, U (v : Int)]
theorem Bd.ext {lo id wid : Nat} {s s' : SH} {t : TS} {x : XS} {bs : List Bool} (h : Bd lo id wid s t x bs) (k : Ext s s') : Bd lo id wid s' t x bs := by
  obtain ⟨h1, h2, h3, h4, h5⟩ := h
  exact ⟨by rw [k.2 id h2]; exact h1, Nat.lt_of_lt_of_le h2 k.1, h3, h4, h5.ext k⟩
end Go.Proofs.YtmhmbmogodofeaaDoor.S

set_option autoImplicit false
set_option linter.unusedVariables false
set_option linter.unusedSimpArgs false
set_option maxRecDepth 100000
namespace Go.Proofs.YtmhmbmogodofeaaDoor.S
open Go.FS Go.RowKit
attribute [local congr] bind_cg cond_cg gd_cg

/-! A builder's bytes; chunk.Put. -/
section
variable {G : Nat → Option (Array Value)} {P : Program}
theorem cutT_ext {A : Ann (FG G)} {k : Nat} {f : FuncId} {fn : Func} (hI : A.i f = none) (hc : A.cut f = some [none]) (hf : P.funcs[f]? = some fn) {args : List Value} {s : St (FG G)} {l' : List Value}
    (h : One (bodyD P (A.row f) (callD P A k) A.N f fn args s) fun v' s' => ∃ l : List Value, v' = .tuple l.toArray ∧ (∀ c ∈ l, Bel s.n (stripN 8 s.n c)) ∧ l.map (stripN 8 s.n) = l' ∧ Ext s s') : callD P A (k + 1) (.fn f) args s = some [(.tuple l'.toArray, s)] := by
  obtain ⟨v', s', e, l, rfl, hb, hl2, h2⟩ := h
  have hl : l.toArray.toList = l := by simp
  rw [call_cut hI hc hf, e, bindS, cut_tupG (s2 := s') (l := l) (by rw [hl]; exact frzL_bel (k := 6) l s' hb) h2.1 (fun i hi => .inl (h2.2 i hi)) hb, mrg_same h2, hl2]
end
theorem by_str8 (n : Nat) (b : UInt8) : (by' b).map (stripN 6 n) = by' b := by_str n 5 b
theorem grow_str {α : Type} {enc : α → List Value} {z n lo : Nat} {s : SH} {v : Value} {xs : List α} (h : Grow lo z enc s v xs) (hlo : n ≤ lo) (hs : ∀ x, (enc x).map (stripN 6 n) = enc x) (hb : ∀ x, ∀ v ∈ enc x, Bel n v) (hx : xs ≠ []) : stripN 8 n v = sl enc 0 xs ∧ Bel n (stripN 8 n v) := by
  obtain ⟨m, h1, _, h3⟩ := grow_cut h hlo hs
  rw [h1, h3 hx]
  exact ⟨rfl, bel_sl (by omega) hb⟩
theorem nil_str (n : Nat) (e : Int) : (∀ c ∈ [fzV 2 #[], I e], Bel n (stripN 8 n c)) ∧ [fzV 2 #[], I e].map (stripN 8 n) = [fzV 2 #[], I e] := by
  have h : stripN 8 n (fzV 2 #[]) = fzV 2 #[] := by
    show stripN 8 n (sl by' 2 []) = _
    rw [strip_sl' (by_str8 n)]
    have : Nat.blt 2 (n + 3) = true := by rw [blt_dec, decide_eq_true]; omega
    rw [this]; rfl
  refine ⟨fun c hc => ?_, by rw [List.map_cons, h]; rfl⟩
  simp only [List.mem_cons, List.not_mem_nil, or_false] at hc
  rcases hc with rfl | rfl
  · rw [h]; exact .fz 2 #[] (by omega) (fun v hv => by simp at hv)
  · exact .int _ _
theorem al40 (s : SH) : allocD Tryd.prog s 40 = some (pt s.n 0, newD s (.row [I 0, U 0])) := alloc_at zr40
theorem p40 (a : Int) (v : Nat) : partD Tryd.prog 40 [I a, U (v : Int)] 0 = some (sv a v) := part_agg a40 z40 rfl rfl
theorem st40_0 (s : SH) (a : Int) (v : Nat) : storeD Tryd.prog (newD s (.row [I 0, U 0])) 40 (pt s.n 0) (sv a v) = some (newD s (.row [I a, U (v : Int)])) := st_n0 (l := [I a, U (v : Int)]) s z40 rfl rfl rfl
end Go.Proofs.YtmhmbmogodofeaaDoor.S

set_option autoImplicit false
set_option linter.unusedVariables false
set_option linter.unusedSimpArgs false
set_option maxRecDepth 100000
namespace Go.Proofs.YtmhmbmogodofeaaDoor.S
open Go.FS Go.RowKit
attribute [local congr] bind_cg cond_cg gd_cg

/-! The reader. -/
theorem unp_at0 {B : List UInt8} {q r m : Nat} (hr : r < 8) (hm : r + m ≤ 8) (hp : q < B.length) : ((unpack B).drop (q * 8 + r)).take m = bitsN m (B[q].toNat / 2 ^ (8 - r - m)) := by
  have e : B = B.take q ++ B[q] :: B.drop (q + 1) := by rw [← List.drop_eq_getElem_cons hp, List.take_append_drop]
  generalize hb : B[q] = b at *
  have hl : (unpack (B.take q)).length = q * 8 := by rw [unpack_len, List.length_take, Nat.min_eq_left (by omega)]
  have hu : (unpack B).drop (q * 8 + r) = (bitsN 8 b.toNat ++ unpack (B.drop (q + 1))).drop r := by
    conv => lhs; rw [e, unpack_app]
    rw [List.drop_append, List.drop_eq_nil_of_le (by omega), List.nil_append, hl]
    congr 1
    omega
  have a1 := bitsN_add r (8 - r) b.toNat
  rw [show r + (8 - r) = 8 from by omega] at a1
  have a2 := bitsN_add m (8 - r - m) b.toNat
  rw [show m + (8 - r - m) = 8 - r from by omega] at a2
  rw [hu, a1, a2, List.append_assoc, List.drop_left' (bitsN_len _ _), List.append_assoc, List.take_left' (bitsN_len _ _)]
theorem unp_at {B : List UInt8} {p m : Nat} (hm : p % 8 + m ≤ 8) (hp : p / 8 < B.length) : ((unpack B).drop p).take m = bitsN m (B[p / 8].toNat / 2 ^ (8 - p % 8 - m)) := by
  have := unp_at0 (B := B) (q := p / 8) (r := p % 8) (m := m) (Nat.mod_lt _ (by decide)) hm hp
  rwa [show p / 8 * 8 + p % 8 = p from by omega] at this
abbrev rdr (m : Nat) (B : List UInt8) (p : Nat) : List Value := [sl by' m B, I (p : Int), .bool true]
/-- A reader of these bytes, at a place. -/
def Rd (id m : Nat) (B : List UInt8) (s : SH) (p : Nat) : Prop := HP.get s.h id = some (.row (rdr m B p)) ∧ id < s.n ∧ m < s.n + 3 ∧ p ≤ B.length * 8 ∧ B.length < 2 ^ 40
noncomputable def rdS (s : SH) (id m : Nat) (B : List UInt8) (p : Nat) : SH := putD s id (.row (rdr m B p))
theorem rdS_n (s : SH) (id m : Nat) (B : List UInt8) (p : Nat) : (rdS s id m B p).n = s.n := rfl
theorem rdS_rdS (s : SH) (id m : Nat) (B : List UInt8) (p q : Nat) : rdS (rdS s id m B p) id m B q = rdS s id m B q := put_put _ _ _ _
theorem Rd.same {id m p : Nat} {B : List UInt8} {s : SH} (h : Rd id m B s p) : rdS s id m B p = s := put_same h.1
theorem Rd.move {id m p q : Nat} {B : List UInt8} {s : SH} (h : Rd id m B s p) (hq : q ≤ B.length * 8) : Rd id m B (rdS s id m B q) q := ⟨get_put_same _, h.2.1, h.2.2.1, hq, h.2.2.2.2⟩
theorem Rd.ext {id m p : Nat} {B : List UInt8} {s s' : SH} (h : Rd id m B s p) (k : Ext s s') : Rd id m B s' p := ⟨by rw [k.2 id h.2.1]; exact h.1, Nat.lt_of_lt_of_le h.2.1 k.1, by have := h.2.2.1; have := k.1; omega, h.2.2.2⟩
theorem rld_22 {s : SH} {id m p : Nat} {B : List UInt8} (h : HP.get s.h id = some (.row (rdr m B p))) : loadD Tryd.prog s 22 (pt id 0) = some (sl by' m B) := by rw [load_row h, part_one a22]; rfl
theorem rld_3 {s : SH} {id m p : Nat} {B : List UInt8} (h : HP.get s.h id = some (.row (rdr m B p))) : loadD Tryd.prog s 3 (pt id 1) = some (I p) := by rw [load_row h, p3_1]
theorem rld_4 {s : SH} {id m p : Nat} {B : List UInt8} (h : HP.get s.h id = some (.row (rdr m B p))) : loadD Tryd.prog s 4 (pt id 2) = some (.bool true) := by rw [load_row h, part_one a4]; rfl
theorem rst_3 {s : SH} {id m p q : Nat} {B : List UInt8} (h : HP.get s.h id = some (.row (rdr m B p))) : storeD Tryd.prog s 3 (pt id 1) (I q) = some (rdS s id m B q) := by
  rw [store_row (l := [I q]) z3 h rfl rfl rfl (show 1 + 1 ≤ 3 by decide)]; rfl
theorem neq64 (id : Nat) : bopD Tryd.prog .neq 64 (pt id 0) (.pointer none) = some (.bool true) := ptr_neq 64 id 0 u64
theorem c28 {n m : Nat} {s : SH} (B : List UInt8) (hB : B.length < 2 ^ 40) : ∃ s' m', callD Tryd.prog AB (n + 1) (.fn 28) [sl by' m B] s = some [(pt (s'.n - 1) 0, s')] ∧ Rd (s'.n - 1) m' B s' 0 ∧ Ext s s' ∧ s.n < s'.n := by
  obtain ⟨v, s1, e1, w1, w2, w3⟩ := gapp22 (lo := s.n) (v := sl by' 1 []) (xs := []) (s := s) (m2 := m) (ys := B) (.inl ⟨rfl, .inr rfl⟩) (Nat.le_refl _) (by simp only [List.length_nil]; omega)
  rw [List.nil_append] at w1
  have hm : ∃ m', v = sl by' m' B ∧ m' < s1.n + 3 := by
    rcases w1 with ⟨rfl, rfl | rfl⟩ | ⟨id, _, h2, rfl, _⟩
    · exact ⟨2, rfl, by omega⟩
    · exact ⟨1, rfl, by omega⟩
    · exact ⟨id + 3, rfl, by omega⟩
  obtain ⟨m', rfl, hm'⟩ := hm
  have hnn := w2.1
  refine ⟨newD s1 (.row (rdr m' B 0)), m', ?_, ⟨get_new (by rw [newD_n]; omega), by rw [newD_n]; omega, by rw [newD_n]; omega, Nat.zero_le _, hB⟩, Ext.new w2 _, by rw [newD_n]; omega⟩
  rw [call_fn (fn := Tryd.f28) rfl rfl (by kernel_rfl)]
  show bodyD Tryd.prog false _ _ 28 Tryd.f28 _ s = _
  rw [f28_r]
  have b1 : buildD Tryd.prog 120 [(0, sl by' m' B), (2, .bool true)] = some (.agg (rdr m' B 0).toArray) := by
    have : ∀ (k : Nat) (a : Array Value), buildD Tryd.prog 120 [(0, .iface k (.tuple a)), (2, .bool true)] = some (.agg #[.iface k (.tuple a), I 0, .bool true]) := fun k a => by kernel_rfl
    exact this _ _
  have b2 : boxD s1 (.agg (rdr m' B 0).toArray) = some (pt s1.n 0, newD s1 (.row (rdr m' B 0))) := box_at rfl rfl
  simp only [f28, oO, bindS, many1, jnE, boolS, gdB, fst', snd', bs22_0, e1, b1, b2]
  rfl
theorem c95 {n id m p : Nat} {s : SH} {B : List UInt8} (h : Rd id m B s p) : callD Tryd.prog AB (n + 1) (.fn 95) [pt id 0] s = some [(.bool true, s)] := by
  refine cut_plain (fn := Tryd.f95) rfl rfl (by kernel_rfl) (fun _ h => by cases h) (.bool _) ?_
  show One (bodyD Tryd.prog false _ _ 95 Tryd.f95 _ _) _
  rw [f95_r]
  simp only [f95, oO, bindS, many1, jnE, boolS, gdB, fst', snd', neq64, condT, nilc, fld120_2, rld_4 h.1]
  exact One.ret ⟨rfl, .refl s⟩
theorem c63 {n id m p : Nat} {s : SH} {B : List UInt8} (h : Rd id m B s p) : callD Tryd.prog AB (n + 2) (.fn 63) [pt id 0] s = some [(I ((B.length * 8 - p : Nat) : Int), s)] := by
  refine cut_plain (fn := Tryd.f63) rfl rfl (by kernel_rfl) (fun _ h => by cases h) (.int _ _) ?_
  show One (bodyD Tryd.prog false _ _ 63 Tryd.f63 _ _) _
  rw [f63_r]
  obtain ⟨h1, h2, h3, h4, h5⟩ := h
  have hm : IntKind.i64.wrap ((B.length : Int) * 8) = ((B.length * 8 : Nat) : Int) := by rw [wrap_i64 (by omega) (by omega)]; omega
  have hs : IntKind.i64.wrap (((B.length * 8 : Nat) : Int) - (p : Int)) = ((B.length * 8 - p : Nat) : Int) := by rw [wrap_i64 (by omega) (by omega)]; omega
  simp only [f63, oO, bindS, many1, jnE, boolS, gdB, fst', snd', c95 (n := n) ⟨h1, h2, h3, h4, h5⟩, uop_not, Bool.not_true, condF, nilc, fld120_0, fld120_1, rld_22 h1, rld_3 h1, len_sl u22, bop_mul, hm, b_sub, hs]
  exact One.ret ⟨rfl, .refl s⟩
/-- What is left. -/
def lft (B : List UInt8) (p : Nat) : List Bool := (unpack B).drop p
theorem lft_len (B : List UInt8) (p : Nat) : (lft B p).length = B.length * 8 - p := by unfold lft; rw [List.length_drop, unpack_len]
theorem cvt5_38 (s : SH) (b : UInt8) : convertD Tryd.prog false s 5 38 (.int .u8 (b.toNat : Int)) = some (U (b.toNat : Int), s) := by
  have := b.toNat_lt
  rw [conv_int u5 u38, wrap_u64 (by omega) (by omega)]
theorem or64l {a y k : Nat} (hy : y < 2 ^ k) (h : a * 2 ^ k + y < 2 ^ 64) (hk : k ≤ 64) : bopD Tryd.prog .or 38 (U ((a * 2 ^ k : Nat) : Int)) (U (y : Int)) = some (U ((a * 2 ^ k + y : Nat) : Int)) := by
  rw [or64 (by omega) (by omega), Nat.mul_comm a, ← Nat.two_pow_add_eq_or_of_lt hy]
theorem c64_ok {n id m p k x : Nat} {s : SH} {B : List UInt8} {r : List Bool} (h : Rd id m B s p) (hk : k ≤ 64) (hg : getB k (lft B p) = some (x, r)) :
    callD Tryd.prog AB (n + 3) (.fn 64) [pt id 0, I (k : Int)] s = some [(.tuple #[U (x : Int), I 0], rdS s id m B (p + k))] ∧ p + k ≤ B.length * 8 ∧ lft B (p + k) = r := by
  unfold getB at hg
  by_cases hl : k ≤ (lft B p).length
  · rw [if_pos hl] at hg
    simp only [Option.some.injEq, Prod.mk.injEq] at hg
    obtain ⟨rfl, rfl⟩ := hg
    rw [lft_len] at hl
    have hpl := h.2.2.2.1
    have hBl := h.2.2.2.2
    refine ⟨?_, by omega, by unfold lft; rw [List.drop_drop]⟩
    rw [call_fn (fn := Tryd.f64) rfl rfl (by kernel_rfl)]
    suffices hh : One (bodyD Tryd.prog false (callD Tryd.prog AB (n + 2)) AB.N 64 Tryd.f64 [pt id 0, I (k : Int)] s) fun w s' => w = .tuple #[U (valB ((lft B p).take k) : Nat), I 0] ∧ s' = rdS s id m B (p + k) by
      obtain ⟨w, s', e, rfl, rfl⟩ := hh
      exact e
    rw [f64_r]
    have k0 : ¬ (k : Int) < 0 := by omega
    have k1 : ¬ (k : Int) > 64 := by omega
    have k2 : ¬ (k : Int) > ((B.length * 8 - p : Nat) : Int) := by omega
    simp only [f64, oO, bindS, many1, jnE, boolS, gdB, fst', snd', c95 (n := n + 1) h, uop_not, Bool.not_true, condF, bop_lss, k0, decide_false, bop_gtr, k1, c63 (n := n) h, k2]
    refine loop_rule (fun d (z : Value × Value × Value × Value × Value) (s' : SH) => d ≤ k ∧ z.1 = I (d : Int) ∧ z.2.1 = U (valB ((lft B p).take (k - d)) : Nat) ∧ s' = rdS s id m B (p + (k - d))) (fun r => One r fun w s' => w = .tuple #[U (valB ((lft B p).take k) : Nat), I 0] ∧ s' = rdS s id m B (p + k)) ?_ _ k _ _ ⟨Nat.le_refl _, rfl, by rw [Nat.sub_self]; rfl, by rw [Nat.sub_self, Nat.add_zero, h.same]⟩ (by show k < 2 ^ 64; omega)
    rintro d ⟨z1, z2, z3, z4, z5⟩ s1 ⟨hd, e1, e2, rfl⟩ nx hnx
    simp only at e1 e2
    subst e1 e2
    by_cases h0 : d = 0
    · subst h0
      have hng : ¬ (((0 : Nat) : Int) > 0) := by omega
      simp only [f64_l0, oO, bindS, many1, jnE, boolS, gdB, fst', snd', bop_gtr, hng, decide_false, condF, beq_yes, condT]
      rw [Nat.sub_zero]
      exact One.ret ⟨rfl, rfl⟩
    · have hgt : (d : Int) > 0 := by omega
      have hR := h.move (q := p + (k - d)) (by omega)
      generalize hq : p + (k - d) = q at *
      have hql : q + d ≤ B.length * 8 := by omega
      have hmod : Int.tmod ((q : Nat) : Int) 8 = ((q % 8 : Nat) : Int) := rfl
      have hquo : Int.tdiv ((q : Nat) : Int) 8 = ((q / 8 : Nat) : Int) := rfl
      have hfr : IntKind.i64.wrap (8 - ((q % 8 : Nat) : Int)) = ((8 - q % 8 : Nat) : Int) := by rw [wrap_i64 (by omega) (by omega)]; omega
      generalize hm : min d (8 - q % 8) = j
      have hj1 : 1 ≤ j := by omega
      have hj2 : j ≤ 8 - q % 8 := by omega
      have hjd : j ≤ d := by omega
      have hmin : minD Tryd.prog (I (d : Int)) [I ((8 - q % 8 : Nat) : Int)] = some (I (j : Int)) := by rw [min_nat, hm]
      have hws : IntKind.i64.wrap ((d : Int) - (j : Int)) = ((d - j : Nat) : Int) := by rw [wrap_i64 (by omega) (by omega)]; omega
      have hwq : IntKind.i64.wrap ((q / 8 : Nat) : Int) = ((q / 8 : Nat) : Int) := wrap_i64 (by omega) (by omega)
      have hwf : IntKind.i64.wrap (((8 - q % 8 : Nat) : Int) - (j : Int)) = ((8 - q % 8 - j : Nat) : Int) := by rw [wrap_i64 (by omega) (by omega)]; omega
      have hwa : IntKind.i64.wrap ((q : Int) + (j : Int)) = ((q + j : Nat) : Int) := by rw [wrap_i64 (by omega) (by omega)]; omega
      have hi : q / 8 < B.length := by omega
      have hb := unp_at (B := B) (p := q) (m := j) (by omega) hi
      have hsh := shr64 (a := B[q / 8].toNat) (k := 8 - q % 8 - j) (by omega)
      have hdl : B[q / 8].toNat / 2 ^ (8 - q % 8 - j) < 2 ^ 64 := Nat.lt_of_le_of_lt (Nat.div_le_self _ _) (Nat.lt_trans B[q / 8].toNat_lt (by decide))
      have e96 := oneS (c96 (n := n + 1) (s := rdS s id m B q) (B[q / 8].toNat / 2 ^ (8 - q % 8 - j)) j hdl (by omega))
      have htk : (lft B p).take (k - d + j) = (lft B p).take (k - d) ++ bitsN j (B[q / 8].toNat / 2 ^ (8 - q % 8 - j)) := by
        rw [← hb, List.take_add, ← hq]
        unfold lft
        rw [List.drop_drop]
      have hv : valB ((lft B p).take (k - (d - j))) = valB ((lft B p).take (k - d)) * 2 ^ j + B[q / 8].toNat / 2 ^ (8 - q % 8 - j) % 2 ^ j := by
        rw [show k - (d - j) = k - d + j from by omega, htk, valB_app, bitsN_len, valB_bits]
      have hvl : valB ((lft B p).take (k - (d - j))) < 2 ^ 64 := by
        refine Nat.lt_of_lt_of_le (valB_lt _) (Nat.pow_le_pow_right (by decide) ?_)
        rw [List.length_take]; omega
      rw [hv] at hvl
      have hyl : B[q / 8].toNat / 2 ^ (8 - q % 8 - j) % 2 ^ j < 2 ^ j := Nat.mod_lt _ (Nat.two_pow_pos _)
      have hshl := shl64 (a := valB ((lft B p).take (k - d))) (k := j) (by omega) (by omega)
      have hor := or64l hyl hvl (by omega)
      rw [← hv] at hor
      simp only [f64_l0, oO, bindS, many1, jnE, boolS, gdB, fst', snd', bop_gtr, hgt, decide_true, condT, nilc, fld120_0, fld120_1, rld_3 hR.1, rld_22 hR.1, b_rem _ _ _ _ (show (8 : Int) ≠ 0 by decide), hmod, b_sub, hfr, hmin, b_quo _ _ _ _ (show (8 : Int) ≠ 0 by decide), hquo, hwq, ixs22 by_len hi, ld_by, cvt5_38, hwf, hsh, hshl, e96, hor, bop_add, hwa, rst_3 hR.1, hws]
      refine hnx (d - j) (_, _, _, _, _) _ (by omega) ⟨by omega, rfl, rfl, ?_⟩
      rw [rdS_rdS]
      congr 1
      omega
  · rw [if_neg hl] at hg; cases hg
theorem c64_no {n id m p k : Nat} {s : SH} {B : List UInt8} (h : Rd id m B s p) (hk : k ≤ 64) (hg : getB k (lft B p) = none) :
    callD Tryd.prog AB (n + 3) (.fn 64) [pt id 0, I (k : Int)] s = some [(.tuple #[U 0, I 50], s)] := by
  have hl : ¬ k ≤ (lft B p).length := fun hl => by unfold getB at hg; rw [if_pos hl] at hg; cases hg
  rw [lft_len] at hl
  rw [call_fn (fn := Tryd.f64) rfl rfl (by kernel_rfl)]
  show bodyD Tryd.prog false _ _ 64 Tryd.f64 _ s = _
  rw [f64_r]
  have hpl := h.2.2.2.1
  have k0 : ¬ (k : Int) < 0 := by omega
  have k1 : ¬ (k : Int) > 64 := by omega
  have k2 : (k : Int) > ((B.length * 8 - p : Nat) : Int) := by omega
  simp only [f64, oO, bindS, many1, jnE, boolS, gdB, fst', snd', c95 (n := n + 1) h, uop_not, Bool.not_true, condF, bop_lss, k0, decide_false, bop_gtr, k1, c63 (n := n) h, k2, decide_true, condT]
end Go.Proofs.YtmhmbmogodofeaaDoor.S
