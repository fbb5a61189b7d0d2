import Derived.Test.YtmhmbmogodofeaaDoorMC
import Derived.Test.YtmhmbmogodofeaaDoorMA
set_option autoImplicit false
set_option linter.unusedVariables false
set_option linter.unusedSimpArgs false
set_option maxRecDepth 100000
namespace Go.Proofs.YtmhmbmogodofeaaDoor.S
open Go.FS Go.RowKit
attribute [local congr] bind_cg cond_cg gd_cg

/-! Sealed, Open. -/
theorem ofNat_mod (y : Nat) : UInt8.ofNat (y % 256) = UInt8.ofNat y := by
  apply UInt8.toNat_inj.1
  rw [UInt8.toNat_ofNat', UInt8.toNat_ofNat']
  omega
theorem p256 (k : Nat) : 2 ^ (8 * k) = 256 ^ k := by rw [Nat.pow_mul]
theorem cvt32_8 (s : SH) (y : Nat) : convertD Tryd.prog false s 127 5 (W (y : Int)) = some (.int .u8 (((UInt8.ofNat y).toNat : Nat) : Int), s) := by rw [conv_int u127 u5, wrap_u8]
theorem c88 {n m : Nat} {s : SH} (bs : List UInt8) (x : Nat) (hb : bs.length + 20 ≤ 140737488355328) :
    ∃ v s', callD Tryd.prog AB (n + 1) (.fn 88) [sl by' m bs, W (x : Int)] s = some [(v, s')] ∧ Grow s.n 1 by' s' v (bs ++ leB 4 x) ∧ Sm s.n s s' := by
  rw [call_fn (fn := Tryd.f88) rfl rfl (by kernel_rfl)]
  suffices h : One (bodyD Tryd.prog false (callD Tryd.prog AB n) AB.N 88 Tryd.f88 [sl by' m bs, W (x : Int)] s) fun v s' => Grow s.n 1 by' s' v (bs ++ leB 4 x) ∧ Sm s.n s s' by
    obtain ⟨v, s', e, h1, h2⟩ := h
    exact ⟨v, s', e, h1, h2⟩
  rw [f88_r]
  have hw : IntKind.i64.wrap ((bs.length : Int) + 4) = (bs.length : Int) + 4 := wrap_i64 (by omega) (by omega)
  have g0 : Grow s.n 1 by' (newD s (.tok 0 1)) (sl by' (s.n + 3) []) [] := .inr ⟨s.n, Nat.le_refl _, by rw [newD_n]; omega, rfl, get_new rfl⟩
  obtain ⟨v1, s1, e1, w1, w2, w3⟩ := gapp22 (m2 := m) (ys := bs) g0 (by rw [newD_n]; omega) (by simp only [List.length_nil]; omega)
  have hs1 : Sm s.n s s1 := ((Sm.refl s.n s).new (Nat.le_refl _) _).trans w2
  rw [List.nil_append] at w1
  simp only [f88, oO, bindS, many1, jnE, boolS, gdB, fst', snd', o_makeSlice, len_sl u22, bop_add, hw, mk22 s ((bs.length : Int) + 4) (by omega) (by omega), e1]
  refine list_one (List.replicate 4 ()) (fun i (y : Value × Value × Value) (s' : SH) => y.2.2 = I (i : Int) ∧ Grow s.n 1 by' s' y.1 (bs ++ leB i x) ∧ Sm s.n s s') ?_ ?_ ⟨rfl, by show Grow s.n 1 by' s1 v1 (bs ++ []); rw [List.append_nil]; exact w1, hs1⟩ (by rw [List.length_replicate]; show _ < 2 ^ 64; omega)
  · rintro i hi ⟨y1, y2, y3⟩ s' ⟨h1, h4, h5⟩ nx hnx
    rw [List.length_replicate] at hi
    simp only at h1 h4
    subst h1
    have hlt : (i : Int) < 4 := by omega
    have hw1 : IntKind.i64.wrap ((i : Int) + 1) = ((i + 1 : Nat) : Int) := by rw [wrap_i64 (by omega) (by omega)]; rfl
    have hw8 : IntKind.i64.wrap (8 * (i : Int)) = ((8 * i : Nat) : Int) := by rw [wrap_i64 (by omega) (by omega)]; omega
    have hsh := shr32 (a := x) (k := 8 * i) (j := .i64) (by omega)
    rw [p256] at hsh
    obtain ⟨v2, s2, e2, z1, z2, z3⟩ := gapp22 (m2 := 1) (ys := [UInt8.ofNat (x / 256 ^ i)]) h4 h5.1 (by rw [List.length_append, leB_len]; simp only [List.length_singleton]; omega)
    simp only [f88_l0, oO, bindS, many1, jnE, boolS, gdB, fst', snd', bop_lss, hlt, decide_true, condT, bop_mul, hw8, hsh, cvt32_8, bs22, e2, bop_add, hw1]
    refine hnx (_, _, _) _ ⟨rfl, ?_, h5.trans z2⟩
    rw [leB_snoc, ofNat_mod, ← List.append_assoc]
    exact z1
  · rintro ⟨y1, y2, y3⟩ s' ⟨h1, h4, h5⟩ nx
    rw [List.length_replicate] at h1 h4
    simp only at h1 h4
    subst h1
    have hnlt : ¬ (((4 : Nat) : Int) < 4) := by omega
    simp only [f88_l0, oO, bindS, many1, jnE, boolS, gdB, fst', snd', bop_lss, hnlt, decide_false, condF, beq_yes, condT]
    exact One.ret ⟨h4, h5⟩
theorem c53 {n m : Nat} {s : SH} (bs : List UInt8) (hb : bs.length + 20 ≤ 140737488355328) :
    ∃ v s', callD Tryd.prog AB (n + 7) (.fn 53) [sl by' m bs] s = some [(v, s')] ∧ Grow s.n 1 by' s' v (sealB bs) ∧ Sm s.n s s' := by
  obtain ⟨v, s', e, h1, h2⟩ := c88 (n := n + 5) (m := m) (s := s) bs (crSum bs) hb
  refine ⟨v, s', ?_, h1, h2⟩
  rw [call_fn (fn := Tryd.f53) rfl rfl (by kernel_rfl)]
  show bodyD Tryd.prog false _ _ 53 Tryd.f53 _ s = _
  rw [f53_r]
  simp only [f53, oO, bindS, many1, jnE, boolS, gdB, fst', snd', c89 (n := n) bs (by omega), e]
end Go.Proofs.YtmhmbmogodofeaaDoor.S

set_option autoImplicit false
set_option linter.unusedVariables false
set_option linter.unusedSimpArgs false
set_option maxRecDepth 100000
namespace Go.Proofs.YtmhmbmogodofeaaDoor.S
open Go.FS Go.RowKit
attribute [local congr] bind_cg cond_cg gd_cg

/-! A chunk's builder. -/
abbrev br (t : TS) (x : XS) (wid : Nat) : List Value := [I t.n, I t.last, I t.delta, I x.n, U x.last, I x.lead, I x.trail, pt wid 0]
/-- A builder that has these bits. -/
def Bd (lo id wid : Nat) (s : SH) (t : TS) (x : XS) (bs : List Bool) : Prop := HP.get s.h id = some (.row (br t x wid)) ∧ id < s.n ∧ (lo ≤ id ∧ lo ≤ wid) ∧ id ≠ wid ∧ Wr lo wid s bs
def Kb (lo : Nat) (s s' : SH) : Prop := s.n ≤ s'.n ∧ ∀ j, j < lo → HP.get s'.h j = HP.get s.h j
theorem p102b (t : TS) (x : XS) (w : Nat) : partD Tryd.prog 102 (br t x w) 0 = some (tsV t) := part_agg a102 z102 (l := tr t.n t.last t.delta) rfl rfl
theorem p100b (t : TS) (x : XS) (w : Nat) : partD Tryd.prog 100 (br t x w) 3 = some (xsV x) := part_agg a100 z100 (l := vr x.n x.last x.lead x.trail) rfl rfl
theorem p105b (t : TS) (x : XS) (w : Nat) : partD Tryd.prog 105 (br t x w) 7 = some (pt w 0) := part_one a105
theorem fld104_1' (id : Nat) : fieldAddrD Tryd.prog 104 (pt id 0) 1 = some (pt id 3) := fld104_1 id
theorem neq36 (id : Nat) : bopD Tryd.prog .neq 36 (pt id 0) (.pointer none) = some (.bool true) := ptr_neq 36 id 0 u36
theorem neq105 (id : Nat) : bopD Tryd.prog .neq 105 (pt id 0) (.pointer none) = some (.bool true) := ptr_neq 105 id 0 u105
theorem bld_3 {s : SH} {id w : Nat} {t : TS} {x : XS} (h : HP.get s.h id = some (.row (br t x w))) : loadD Tryd.prog s 3 (pt id 0) = some (I t.n) := by rw [load_row h, p3_0]
theorem bld_31 {s : SH} {id w : Nat} {t : TS} {x : XS} (h : HP.get s.h id = some (.row (br t x w))) : loadD Tryd.prog s 3 (pt id 1) = some (I t.last) := by rw [load_row h, p3_1]
theorem bld_102 {s : SH} {id w : Nat} {t : TS} {x : XS} (h : HP.get s.h id = some (.row (br t x w))) : loadD Tryd.prog s 102 (pt id 0) = some (tsV t) := by rw [load_row h, p102b]
theorem bld_100 {s : SH} {id w : Nat} {t : TS} {x : XS} (h : HP.get s.h id = some (.row (br t x w))) : loadD Tryd.prog s 100 (pt id 3) = some (xsV x) := by rw [load_row h, p100b]
theorem bld_105 {s : SH} {id w : Nat} {t : TS} {x : XS} (h : HP.get s.h id = some (.row (br t x w))) : loadD Tryd.prog s 105 (pt id 7) = some (pt w 0) := by rw [load_row h, p105b]
theorem bst_102 {s : SH} {id w : Nat} {t t' : TS} {x : XS} (h : HP.get s.h id = some (.row (br t x w))) : storeD Tryd.prog s 102 (pt id 0) (tsV t') = some (putD s id (.row (br t' x w))) := by
  unfold tsV
  rw [store_row (l := tr t'.n t'.last t'.delta) z102 h rfl rfl rfl (show 0 + 3 ≤ 8 by decide)]; rfl
theorem bst_100 {s : SH} {id w : Nat} {t : TS} {x x' : XS} (h : HP.get s.h id = some (.row (br t x w))) : storeD Tryd.prog s 100 (pt id 3) (xsV x') = some (putD s id (.row (br t x' w))) := by
  unfold xsV
  rw [store_row (l := vr x'.n x'.last x'.lead x'.trail) z100 h rfl rfl rfl (show 3 + 4 ≤ 8 by decide)]; rfl
theorem c46 {n lo id wid : Nat} {s : SH} {t : TS} {x : XS} {bs : List Bool} (h : Bd lo id wid s t x bs) : callD Tryd.prog AB (n + 1) (.fn 46) [pt id 0] s = some [(.bool true, s)] := by
  refine cut_plain (fn := Tryd.f46) rfl rfl (by kernel_rfl) (fun _ h => by cases h) (.bool _) ?_
  show One (bodyD Tryd.prog false _ _ 46 Tryd.f46 _ _) _
  rw [f46_r]
  simp only [f46, oO, bindS, many1, jnE, boolS, gdB, fst', snd', neq36, condT, nilc, fld108_1, bld_105 h.1, neq105]
  exact One.ret ⟨rfl, .refl s⟩
theorem c47 {n lo id wid : Nat} {s : SH} {t : TS} {x : XS} {bs : List Bool} (h : Bd lo id wid s t x bs) (a : Int) : callD Tryd.prog AB (n + 1) (.fn 47) [pt id 0, I a] s = some [(.bool (decide (tmay t a)), s)] := by
  refine cut_plain (fn := Tryd.f47) rfl rfl (by kernel_rfl) (fun _ h => by cases h) (.bool _) ?_
  show One (bodyD Tryd.prog false _ _ 47 Tryd.f47 _ _) _
  rw [f47_r]
  simp only [f47, oO, bindS, many1, jnE, boolS, gdB, fst', snd', bop_geq]
  by_cases h1 : a ≥ 0
  · by_cases h2 : a ≤ 35184372088832
    · simp only [oO, bindS, many1, jnE, boolS, gdB, fst', snd', h1, decide_true, condT, bop_leq, h2, nilc, fld104_0, fld102_0, fld102_1, bld_3 h.1, bop_eql]
      by_cases h3 : t.n = 0
      · have h3' : (t.n : Int) = 0 := by omega
        have hm : tmay t a := ⟨h1, h2, .inl h3⟩
        simp only [oO, bindS, many1, jnE, boolS, gdB, fst', snd', h3', decide_true, condT]
        exact One.ret ⟨by rw [decide_eq_true hm], .refl s⟩
      · have h3' : ¬ (t.n : Int) = 0 := by omega
        simp only [oO, bindS, many1, jnE, boolS, gdB, fst', snd', h3', decide_false, condF, bld_31 h.1, bop_gtr, bindS]
        refine One.ret ⟨?_, .refl s⟩
        by_cases h4 : a > (t.last : Int)
        · have hm : tmay t a := ⟨h1, h2, .inr h4⟩
          rw [decide_eq_true hm, decide_eq_true h4]
        · have hm : ¬ tmay t a := fun hm => by
            obtain ⟨_, _, h5⟩ := hm
            omega
          rw [decide_eq_false hm, decide_eq_false h4]
    · have hm : ¬ tmay t a := fun hm => h2 hm.2.1
      simp only [oO, bindS, many1, jnE, boolS, gdB, fst', snd', h1, decide_true, condT, bop_leq, h2, decide_false, condF]
      exact One.ret ⟨by rw [decide_eq_false hm], .refl s⟩
  · have hm : ¬ tmay t a := fun hm => h1 hm.1
    simp only [oO, bindS, many1, jnE, boolS, gdB, fst', snd', h1, decide_false, condF]
    exact One.ret ⟨by rw [decide_eq_false hm], .refl s⟩
theorem c17 {n : Nat} {s : SH} : ∃ s', callD Tryd.prog AB (n + 2) (.fn 17) [] s = some [(pt (s.n + 1) 0, s')] ∧ Bd s.n (s.n + 1) s.n s' ⟨0, 0, 0⟩ ⟨0, 0, 64, 0⟩ [] ∧ Ext s s' ∧ s'.n = s.n + 2 := by
  let s1 : SH := newD s (.row [fzV 2 #[], .int .i64 0, .bool true])
  refine ⟨newD s1 (.row (br ⟨0, 0, 0⟩ ⟨0, 0, 64, 0⟩ s.n)), ?_, ⟨get_n0 s1 _, show s.n + 1 < s.n + 1 + 1 by omega, ⟨by omega, Nat.le_refl _⟩, by omega, ?_⟩, ext2' s _ _, rfl⟩
  · rw [call_fn (fn := Tryd.f17) rfl rfl (by kernel_rfl)]
    show bodyD Tryd.prog false _ _ 17 Tryd.f17 _ s = _
    rw [f17_r]
    have b1 : buildD Tryd.prog 104 [(1, xsV ⟨0, 0, 64, 0⟩)] = some (.agg #[I 0, I 0, I 0, I 0, U 0, I 64, I 0]) := by kernel_rfl
    have b2 : buildD Tryd.prog 108 [(0, .agg #[I 0, I 0, I 0, I 0, U 0, I 64, I 0]), (1, pt s.n 0)] = some (.agg (br ⟨0, 0, 0⟩ ⟨0, 0, 64, 0⟩ s.n).toArray) := by kernel_rfl
    have b3 : boxD s1 (.agg (br ⟨0, 0, 0⟩ ⟨0, 0, 64, 0⟩ s.n).toArray) = some (pt s1.n 0, newD s1 (.row (br ⟨0, 0, 0⟩ ⟨0, 0, 64, 0⟩ s.n))) := box_at rfl rfl
    simp only [f17, oO, bindS, many1, jnE, boolS, gdB, fst', snd', c44 (n := n), b1, c45 (n := n), b2, b3]
    rfl
  · exact (Wr.new (get_n0 s _) (show s.n < s.n + 1 by omega) (show s.n ≤ s.n + 1 by omega) : Wr s.n s.n s1 []).new' _
abbrev sv (t : Int) (v : Nat) : Value := .agg #[I t, U (v : Int)]
theorem bx40 (s : SH) (t : Int) (v : Nat) : boxD s (sv t v) = some (pt s.n 0, newD s (.row [I t, U (v : Int)])) := box_at rfl rfl
theorem Bd.ext {lo id wid : Nat} {s s' : SH} {t : TS} {x : XS} {bs : List Bool} (h : Bd lo id wid s t x bs) (k : Ext s s') : Bd lo id wid s' t x bs := by
  obtain ⟨h1, h2, h3, h4, h5⟩ := h
  exact ⟨by rw [k.2 id h2]; exact h1, Nat.lt_of_lt_of_le h2 k.1, h3, h4, h5.ext k⟩
/-- Full, or too early. -/
theorem c18_full {n lo id wid : Nat} {s : SH} {t : TS} {x : XS} {bs : List Bool} (h : Bd lo id wid s t x bs) (hf : t.n = 120) (a : Int) (v : Nat) : ∃ s', callD Tryd.prog AB (n + 2) (.fn 18) [pt id 0, sv a v] s = some [(I 4, s')] ∧ Bd lo id wid s' t x bs ∧ Ext s s' := by
  refine ⟨newD s (.row [I a, U (v : Int)]), ?_, h.ext (ext1 s _), ext1 s _⟩
  have h1 := h.ext (ext1 s (.row [I a, U (v : Int)]))
  rw [call_fn (fn := Tryd.f18) rfl rfl (by kernel_rfl)]
  show bodyD Tryd.prog false _ _ 18 Tryd.f18 _ s = _
  rw [f18_r]
  have e46 := c46 (n := n) h1
  have hf' : (t.n : Int) = 120 := by omega
  simp only [f18, oO, bindS, many1, jnE, boolS, gdB, fst', snd', bx40, e46, uop_not, Bool.not_true, condF, nilc, fld108_0, fld104_0, fld102_0, bld_3 h1.1, bop_eql, hf', decide_true, condT]
theorem c18_no {n lo id wid : Nat} {s : SH} {t : TS} {x : XS} {bs : List Bool} (h : Bd lo id wid s t x bs) (hf : t.n ≠ 120) (a : Int) (v : Nat) (hm : ¬ tmay t a) : ∃ s', callD Tryd.prog AB (n + 2) (.fn 18) [pt id 0, sv a v] s = some [(I 60, s')] ∧ Bd lo id wid s' t x bs ∧ Ext s s' := by
  refine ⟨newD s (.row [I a, U (v : Int)]), ?_, h.ext (ext1 s _), ext1 s _⟩
  have h1 := h.ext (ext1 s (.row [I a, U (v : Int)]))
  rw [call_fn (fn := Tryd.f18) rfl rfl (by kernel_rfl)]
  show bodyD Tryd.prog false _ _ 18 Tryd.f18 _ s = _
  rw [f18_r]
  have e46 := c46 (n := n) h1
  have e47 := oneS (c47 (n := n) h1 a)
  have hf' : ¬ (t.n : Int) = 120 := by omega
  simp only [f18, oO, bindS, many1, jnE, boolS, gdB, fst', snd', bx40, e46, uop_not, Bool.not_true, condF, nilc, fld108_0, fld104_0, fld102_0, bld_3 h1.1, bop_eql, hf', decide_false, fld40_0, ld_n0, ld_n1, ld_n2, ld_n3, p3_0, p3_1, p3_2, p3_3, p38_0, p38_1, e47, hm, Bool.not_false, condT]
theorem c18_yes {n lo id wid : Nat} {s : SH} {t : TS} {x : XS} {bs : List Bool} (h : Bd lo id wid s t x bs) (hf : t.n < 120) (ht : TSok t) (hx : XSok x) (hxn : x.n ≤ 4096) (a v : Nat) (hm : tmay t a) (hv : v < 2 ^ 64) (hb : bs.length ≤ 100000) :
    ∃ s', callD Tryd.prog AB (n + 6) (.fn 18) [pt id 0, sv a v] s = some [(I 0, s')] ∧ Bd lo id wid s' (tnext t a) (xnext x v) (bs ++ (tput t a ++ xput x v)) ∧ Kb lo s s' := by
  rw [call_fn (fn := Tryd.f18) rfl rfl (by kernel_rfl)]
  suffices hh : One (bodyD Tryd.prog false (callD Tryd.prog AB (n + 5)) AB.N 18 Tryd.f18 [pt id 0, sv a v] s) fun w s' => w = I 0 ∧ Bd lo id wid s' (tnext t a) (xnext x v) (bs ++ (tput t a ++ xput x v)) ∧ Kb lo s s' by
    obtain ⟨w, s', e, rfl, h⟩ := hh
    exact ⟨s', e, h⟩
  rw [f18_r]
  have h1 := h.ext (ext1 s (.row [I (a : Int), U (v : Int)]))
  have e46 := c46 (n := n + 4) h1
  have e47 := oneS (c47 (n := n + 4) h1 a)
  have hf' : ¬ (t.n : Int) = 120 := by omega
  obtain ⟨q1, q2, q3, q4, q5⟩ := h1
  have hid := h.2.1
  have hwid : wid < s.n := h.2.2.2.2.id_lt
  have g1 : HP.get (newD s (.row [I (a : Int), U (v : Int)])).h s.n = some (.row [I (a : Int), U (v : Int)]) := get_n0 s _
  obtain ⟨s2, e48, hW2, hK2⟩ := c48 (n := n + 1) t a q5 ht (by omega) hm (by omega)
  have e48 := oneS e48
  have hn1 : (newD s (.row [I (a : Int), U (v : Int)])).n = s.n + 1 := rfl
  have r1 := hK2.row q4 q1 (i_nb _) q2
  have r2 := hK2.row (show s.n ≠ wid by omega) g1 (i_nb _) (by omega)
  have k2 := bst_102 (t' := tnext t a) r1
  have r3 : HP.get (putD s2 id (.row (br (tnext t a) x wid))).h id = some (.row (br (tnext t a) x wid)) := get_put_same _
  have r4 : HP.get (putD s2 id (.row (br (tnext t a) x wid))).h s.n = some (.row [I (a : Int), U (v : Int)]) := by rw [get_put_other (by omega)]; exact r2
  have hW3 : Wr lo wid (putD s2 id (.row (br (tnext t a) x wid))) (bs ++ tput t a) := hW2.put q4 (not_isB r1 (i_nb _))
  obtain ⟨s4, e49, hW4, hK4⟩ := c49 (n := n) x v hW3 hx hxn hv (by rw [List.length_append]; have := tput_len (u := t) (t := a); omega)
  have e49 := oneS e49
  have r5 := hK4.row q4 r3 (i_nb _) (Nat.lt_of_lt_of_le q2 hK2.1)
  have k4 := bst_100 (x' := xnext x v) r5
  have ldv : loadD Tryd.prog (putD s2 id (.row (br (tnext t a) x wid))) 38 (pt s.n 1) = some (U v) := by rw [load_row r4, p38_1]
  simp only [f18, oO, bindS, many1, jnE, boolS, gdB, fst', snd', bx40, e46, uop_not, Bool.not_true, condF, nilc, fld108_0, fld108_1, fld104_0, fld104_1', fld102_0, bld_3 q1, bop_eql, hf', decide_false, fld40_0, fld40_1, ld_n0, ld_n1, ld_n2, ld_n3, p3_0, p3_1, p3_2, p3_3, p38_0, p38_1, e47, hm, decide_true, bld_105 q1, bld_102 q1, e48, ext2, k2, bld_105 r3, bld_100 r3, ldv, e49, k4]
  refine One.ret ⟨rfl, ⟨get_put_same _, ?_, q3, q4, ?_⟩, ?_, ?_⟩
  · rw [putD_n]; exact Nat.lt_of_lt_of_le q2 (Nat.le_trans hK2.1 hK4.1)
  · rw [← List.append_assoc]; exact hW4.put q4 (not_isB r5 (i_nb _))
  · rw [putD_n]; exact Nat.le_trans (Nat.le_succ _) (Nat.le_trans hK2.1 hK4.1)
  · intro j hj
    have hjs : j < s.n := by omega
    have hjw : j ≠ wid := by omega
    rw [get_put_other (by omega), hK4.2 j (Nat.lt_of_lt_of_le (show j < s.n + 1 by omega) hK2.1) hjw (fun hl => by omega), get_put_other (by omega), hK2.2 j (show j < s.n + 1 by omega) hjw (fun hl => by omega), get_old (by omega)]
end Go.Proofs.YtmhmbmogodofeaaDoor.S

set_option autoImplicit false
set_option linter.unusedVariables false
set_option linter.unusedSimpArgs false
set_option maxRecDepth 100000
namespace Go.Proofs.YtmhmbmogodofeaaDoor.S
open Go.FS Go.RowKit
attribute [local congr] bind_cg cond_cg gd_cg

/-! A builder's bytes; chunk.Put. -/
section
variable {G : Nat → Option (Array Value)} {P : Program}
theorem cutT_ext {A : Ann (FG G)} {k : Nat} {f : FuncId} {fn : Func} (hI : A.i f = none) (hc : A.cut f = some [none]) (hf : P.funcs[f]? = some fn) {args : List Value} {s : St (FG G)} {l' : List Value}
    (h : One (bodyD P (A.row f) (callD P A k) A.N f fn args s) fun v' s' => ∃ l : List Value, v' = .tuple l.toArray ∧ (∀ c ∈ l, Bel s.n (stripN 8 s.n c)) ∧ l.map (stripN 8 s.n) = l' ∧ Ext s s') : callD P A (k + 1) (.fn f) args s = some [(.tuple l'.toArray, s)] := by
  obtain ⟨v', s', e, l, rfl, hb, hl2, h2⟩ := h
  have hl : l.toArray.toList = l := by simp
  rw [call_cut hI hc hf, e, bindS, cut_tupG (s2 := s') (l := l) (by rw [hl]; exact frzL_bel (k := 6) l s' hb) h2.1 (fun i hi => .inl (h2.2 i hi)) hb, mrg_same h2, hl2]
end
theorem by_str8 (n : Nat) (b : UInt8) : (by' b).map (stripN 6 n) = by' b := by_str n 5 b
theorem grow_str {α : Type} {enc : α → List Value} {z n lo : Nat} {s : SH} {v : Value} {xs : List α} (h : Grow lo z enc s v xs) (hlo : n ≤ lo) (hs : ∀ x, (enc x).map (stripN 6 n) = enc x) (hb : ∀ x, ∀ v ∈ enc x, Bel n v) (hx : xs ≠ []) : stripN 8 n v = sl enc 0 xs ∧ Bel n (stripN 8 n v) := by
  obtain ⟨m, h1, _, h3⟩ := grow_cut h hlo hs
  rw [h1, h3 hx]
  exact ⟨rfl, bel_sl (by omega) hb⟩
theorem sealB_ne (B : List UInt8) : sealB B ≠ [] := by
  intro h
  have := congrArg List.length h
  unfold sealB at this
  rw [List.length_append, leB_len] at this
  simp at this
theorem two_str {v : Value} {n : Nat} {xs : List UInt8} (h : stripN 8 n v = sl by' 0 xs ∧ Bel n (stripN 8 n v)) (e : Int) : (∀ c ∈ [v, I e], Bel n (stripN 8 n c)) ∧ [v, I e].map (stripN 8 n) = [sl by' 0 xs, I e] := by
  refine ⟨fun c hc => ?_, by rw [List.map_cons, h.1]; rfl⟩
  simp only [List.mem_cons, List.not_mem_nil, or_false] at hc
  rcases hc with rfl | rfl
  · exact h.2
  · exact .int _ _
theorem nil_str (n : Nat) (e : Int) : (∀ c ∈ [fzV 2 #[], I e], Bel n (stripN 8 n c)) ∧ [fzV 2 #[], I e].map (stripN 8 n) = [fzV 2 #[], I e] := by
  have h : stripN 8 n (fzV 2 #[]) = fzV 2 #[] := by
    show stripN 8 n (sl by' 2 []) = _
    rw [strip_sl' (by_str8 n)]
    have : Nat.blt 2 (n + 3) = true := by rw [blt_dec, decide_eq_true]; omega
    rw [this]; rfl
  refine ⟨fun c hc => ?_, by rw [List.map_cons, h]; rfl⟩
  simp only [List.mem_cons, List.not_mem_nil, or_false] at hc
  rcases hc with rfl | rfl
  · rw [h]; exact .fz 2 #[] (by omega) (fun v hv => by simp at hv)
  · exact .int _ _
theorem c20 {n lo id wid : Nat} {s : SH} {t : TS} {x : XS} {bs : List Bool} (h : Bd lo id wid s t x bs) (h0 : t.n ≠ 0) (hn : t.n ≤ 120) (hb : bs.length ≤ 100000) :
    callD Tryd.prog AB (n + 8) (.fn 20) [pt id 0] s = some [(.tuple #[sl by' 0 (sealB (vput t.n ++ (vput (packB bs).length ++ packB bs))), I 0], s)] := by
  refine cutT_ext (fn := Tryd.f20) rfl rfl (by kernel_rfl) (l' := [sl by' 0 (sealB (vput t.n ++ (vput (packB bs).length ++ packB bs))), I 0]) ?_
  show One (bodyD Tryd.prog false _ _ 20 Tryd.f20 _ _) _
  rw [f20_r]
  have hz : ¬ (t.n : Int) = 0 := by omega
  have hw : IntKind.u64.wrap (t.n : Int) = (t.n : Int) := wrap_u64 (by omega) (by omega)
  have e46 := c46 (n := n + 6) h
  obtain ⟨v1, s1, e1, w1, w2⟩ := c51 (n := n + 4) (m := 2) (s := s) [] t.n (by omega) (by simp)
  obtain ⟨m1, rfl⟩ := Grow.form w1
  rw [List.nil_append] at e1 w1
  have e1 : callD Tryd.prog AB (n + 7) (.fn 51) [fzV 2 #[], U (t.n : Int)] s = some [(sl by' m1 (vput t.n), s1)] := e1
  have h1 := h.ext (s' := s1) w2
  obtain ⟨B, hp, e52⟩ := c52 (n := n + 5) h1.2.2.2.2 (by omega)
  have hB := padded_fun hp (padded_pack bs)
  subst hB
  have hBl : (packB bs).length ≤ 20000 := by have := hp.2.2; omega
  have hv1 := vput_len10 (x := t.n) (by omega)
  have x1 : Ext s1 (newD s1 (.tok (packB bs).length 1)) := ext1 s1 _
  obtain ⟨v3, s3, e3, w3, w4⟩ := c50 (n := n + 3) (m := m1) (m' := s1.n + 3) (s := newD s1 (.tok (packB bs).length 1)) (vput t.n) (packB bs) (by omega) (by omega)
  obtain ⟨m3, rfl⟩ := Grow.form w3
  have hv2 := vput_len10 (x := (packB bs).length) (by omega)
  obtain ⟨v4, s4, e4, w5, w6⟩ := c53 (n := n) (m := m3) (s := s3) (vput t.n ++ (vput (packB bs).length ++ packB bs)) (by rw [List.length_append, List.length_append]; omega)
  have e51 := oneS e1
  have e52 := oneS e52
  have e50 := oneS e3
  have k1 := w2.1
  have k2 := x1.1
  have k3 := w4.1
  simp only [f20, oO, bindS, many1, jnE, boolS, gdB, fst', snd', e46, uop_not, Bool.not_true, condF, nilc, fld108_0, fld108_1, fld104_0, fld102_0, bld_3 h.1, bop_eql, hz, decide_false, conv_int u3 u38, hw, e51, bld_105 h1.1, bld_105 h.1, e52, e50, ext2, eqO_s, Bool.and_true, condT, e4]
  have hs := grow_str (n := s.n) w5 (by omega) (by_str8 s.n) (fun x => by_bel s.n x) (sealB_ne _)
  obtain ⟨y1, y2⟩ := two_str hs 0
  exact One.ret ⟨[v4, I 0], rfl, y1, y2, ((Ext.trans w2 x1).trans w4).trans w6⟩
def se (a : Int × Nat) : List Value := [I a.1, U (a.2 : Int)]
theorem se_len (a : Int × Nat) : (se a).length = 2 := rfl
theorem ld_se {s : SH} (a : Int × Nat) : loadD Tryd.prog s 40 (fpV (se a).toArray 0) = some (sv a.1 a.2) := by rw [load_fp, part_agg a40 z40 (l := se a) rfl rfl]; rfl
theorem al40 (s : SH) : allocD Tryd.prog s 40 = some (pt s.n 0, newD s (.row [I 0, U 0])) := alloc_at zr40
theorem p40 (a : Int) (v : Nat) : partD Tryd.prog 40 [I a, U (v : Int)] 0 = some (sv a v) := part_agg a40 z40 rfl rfl
theorem st40_0 (s : SH) (a : Int) (v : Nat) : storeD Tryd.prog (newD s (.row [I 0, U 0])) 40 (pt s.n 0) (sv a v) = some (newD s (.row [I a, U (v : Int)])) := st_n0 (l := [I a, U (v : Int)]) s z40 rfl rfl rfl
theorem c14_0 {n m : Nat} {s : SH} : callD Tryd.prog AB (n + 1) (.fn 14) [sl se m []] s = some [(.tuple #[fzV 2 #[], I 2], s)] := by
  refine cutT_ext (fn := Tryd.f14) rfl rfl (by kernel_rfl) (l' := [fzV 2 #[], I 2]) ?_
  show One (bodyD Tryd.prog false _ _ 14 Tryd.f14 _ _) _
  rw [f14_r]
  simp only [f14, oO, bindS, many1, jnE, boolS, gdB, fst', snd', len_sl u24, List.length_nil, show ((0 : Nat) : Int) = 0 from rfl, bop_eql, decide_true, condT]
  exact One.ret ⟨[fzV 2 #[], I 2], rfl, (nil_str _ _).1, (nil_str _ _).2, .refl s⟩
theorem c14_full {n m : Nat} {s : SH} (l : List (Int × Nat)) (hl : 120 < l.length) : callD Tryd.prog AB (n + 1) (.fn 14) [sl se m l] s = some [(.tuple #[fzV 2 #[], I 4], s)] := by
  refine cutT_ext (fn := Tryd.f14) rfl rfl (by kernel_rfl) (l' := [fzV 2 #[], I 4]) ?_
  show One (bodyD Tryd.prog false _ _ 14 Tryd.f14 _ _) _
  rw [f14_r]
  have h1 : ¬ (l.length : Int) = 0 := by omega
  have h2 : (l.length : Int) > 120 := by omega
  simp only [f14, oO, bindS, many1, jnE, boolS, gdB, fst', snd', len_sl u24, bop_eql, h1, decide_false, condF, bop_gtr, h2, decide_true, condT]
  exact One.ret ⟨[fzV 2 #[], I 4], rfl, (nil_str _ _).1, (nil_str _ _).2, .refl s⟩
theorem c14 {n m : Nat} {s : SH} (l : List (Int × Nat)) (h0 : l ≠ []) (hl : l.length ≤ 120) (hv : ∀ a ∈ l, a.2 < 2 ^ 64) :
    (mayAll t0 l → callD Tryd.prog AB (n + 9) (.fn 14) [sl se m l] s = some [(.tuple #[sl by' 0 (putC (toN l)), I 0], s)]) ∧ (¬ mayAll t0 l → callD Tryd.prog AB (n + 9) (.fn 14) [sl se m l] s = some [(.tuple #[fzV 2 #[], I 60], s)]) := by
  have hlp : 0 < l.length := List.length_pos_iff.2 h0
  have key : One (bodyD Tryd.prog false (callD Tryd.prog AB (n + 8)) AB.N 14 Tryd.f14 [sl se m l] s) fun v' s' => Ext s s' ∧ ((mayAll t0 l ∧ v' = .tuple #[sl by' 0 (putC (toN l)), I 0]) ∨ (¬ mayAll t0 l ∧ v' = .tuple #[fzV 2 #[], I 60])) := by
    rw [f14_r]
    have h1 : ¬ (l.length : Int) = 0 := by omega
    have h2 : ¬ (l.length : Int) > 120 := by omega
    obtain ⟨s1, e17, hB, hx, hn⟩ := c17 (n := n + 6) (s := s)
    simp only [f14, oO, bindS, many1, jnE, boolS, gdB, fst', snd', len_sl u24, bop_eql, h1, decide_false, condF, bop_gtr, h2, e17]
    refine list_one l (fun i (y : Value × Value × Value × Value) (s' : SH) => y.2.2.2 = I (i : Int) ∧ (s.n ≤ s'.n ∧ ∀ j, j < s.n → HP.get s'.h j = HP.get s.h j) ∧ ∃ t x bs, Bd s.n (s.n + 1) s.n s' t x bs ∧ t.n = i ∧ x.n = i ∧ TSok t ∧ XSok x ∧ bs.length ≤ i * 140 ∧ (mayAll t (l.drop i) ↔ mayAll t0 l) ∧ bs ++ encB t x (toN (l.drop i)) = encB t0 x0 (toN l)) ?_ ?_ ⟨rfl, hx, t0, x0, [], hB, rfl, rfl, t0_ok, x0_ok, Nat.zero_le _, by rw [List.drop_zero], by rw [List.drop_zero, List.nil_append]⟩ (by show l.length < 2 ^ 64; omega)
    · rintro i hi ⟨y1, y2, y3, y4⟩ s' ⟨g1, g2, t, x, bs, k1, k2, k3, k4, k5, k6, k7, k8⟩ nx hnx
      simp only at g1
      subst g1
      have hlt : (i : Int) < l.length := by omega
      have hw : IntKind.i64.wrap ((i : Int) + 1) = ((i + 1 : Nat) : Int) := by rw [wrap_i64 (by omega) (by omega)]; rfl
      have hd : l.drop i = l[i] :: l.drop (i + 1) := List.drop_eq_getElem_cons hi
      have hvi := hv _ (List.getElem_mem hi)
      have kx := k1.ext (ext1 s' (.row [I l[i].1, U (l[i].2 : Int)]))
      simp only [f14_l0, oO, bindS, many1, jnE, boolS, gdB, fst', snd', bop_lss, hlt, decide_true, condT, ixs24 se_len hi, ld_se, al40, st40_0, ld_n0, ld_n1, ld_n2, ld_n3, p3_0, p3_1, p3_2, p3_3, p38_0, p38_1, p40]
      rw [hd] at k7 k8
      generalize l[i] = a at kx hvi k7 k8
      obtain ⟨a, v⟩ := a
      by_cases hm : tmay t a
      · obtain ⟨an, rfl⟩ : ∃ an : Nat, a = an := ⟨a.toNat, (Int.toNat_of_nonneg hm.1).symm⟩
        obtain ⟨s2, e18, q1, q2⟩ := c18_yes (n := n + 2) kx (by omega) k4 k5 (by omega) an v hm hvi (by omega)
        simp only [e18, oO, bindS, many1, jnE, boolS, gdB, fst', snd', b_neq, decide_true, Bool.not_true, condF, bop_add, hw]
        refine hnx (_, _, _, _) _ ⟨rfl, ⟨?_, fun j hj => ?_⟩, tnext t an, xnext x v, _, q1, by rw [tnext_n, k2], by rw [xnext_n, k3], tnext_ok hm, xnext_ok k5 hvi, ?_, ?_, ?_⟩
        · have q21 : s'.n + 1 ≤ s2.n := q2.1
          have := g2.1
          omega
        · rw [q2.2 j hj, get_old (by have := g2.1; omega)]; exact g2.2 j hj
        · have a1 := tput_len (u := t) (t := an)
          have a2 := xput_len (u := x) (v := v)
          rw [List.length_append, List.length_append]; omega
        · rw [← k7]
          show _ ↔ (tmay t (an : Int) ∧ mayAll (tnext t (an : Int).toNat) _)
          rw [Int.toNat_natCast]
          exact ⟨fun h => ⟨hm, h⟩, fun h => h.2⟩
        · rw [← k8]
          show _ = bs ++ (tput t (an : Int).toNat ++ xput x v ++ encB (tnext t (an : Int).toNat) (xnext x v) (toN _))
          rw [Int.toNat_natCast]
          simp only [List.append_assoc]
      · obtain ⟨s2, e18, q1, q2⟩ := c18_no (n := n + 6) kx (by omega) a v hm
        simp only [e18, oO, bindS, many1, jnE, boolS, gdB, fst', snd', b_neq, show ¬ (60 : Int) = 0 from by decide, decide_false, Bool.not_false, condT]
        refine One.ret ⟨?_, .inr ⟨fun h => hm ((k7.2 h).1), rfl⟩⟩
        exact (show Ext s s' from g2).trans ((ext1 s' _).trans q2)
    · rintro ⟨y1, y2, y3, y4⟩ s' ⟨g1, g2, t, x, bs, k1, k2, k3, k4, k5, k6, k7, k8⟩ nx
      simp only at g1
      subst g1
      have hnlt : ¬ ((l.length : Int) < l.length) := by omega
      rw [List.drop_length] at k7 k8
      have hb : bs = encB t0 x0 (toN l) := by rw [← k8]; show bs = bs ++ []; rw [List.append_nil]
      have e20 := c20 (n := n) k1 (by omega) (by omega) (by omega)
      simp only [f14_l0, oO, bindS, many1, jnE, boolS, gdB, fst', snd', bop_lss, hnlt, decide_false, condF, beq_yes, condT, e20, ext2]
      refine One.ret ⟨g2, .inl ⟨k7.1 trivial, ?_⟩⟩
      have hl2 : (toN l).length = l.length := by unfold toN; rw [List.length_map]
      unfold putC
      rw [hb, k2, hl2]
  have hb0 : ∀ (xs : List UInt8) (n : Nat), stripN 8 n (sl by' 0 xs) = sl by' 0 xs ∧ Bel n (stripN 8 n (sl by' 0 xs)) := fun xs n => by
    have : stripN 8 n (sl by' 0 xs) = sl by' 0 xs := by rw [strip_sl' (by_str8 n)]; cases Nat.blt 0 (n + 3) <;> rfl
    rw [this]
    exact ⟨rfl, bel_sl (by omega) fun x => by_bel n x⟩
  refine ⟨fun hm => ?_, fun hm => ?_⟩
  · refine cutT_ext (fn := Tryd.f14) rfl rfl (by kernel_rfl) (l' := [sl by' 0 (putC (toN l)), I 0]) (key.mono fun v s' h => ?_)
    rcases h.2 with ⟨_, rfl⟩ | ⟨h3, _⟩
    · obtain ⟨y1, y2⟩ := two_str (hb0 (putC (toN l)) s.n) 0
      exact ⟨[sl by' 0 (putC (toN l)), I 0], rfl, y1, y2, h.1⟩
    · exact absurd hm h3
  · refine cutT_ext (fn := Tryd.f14) rfl rfl (by kernel_rfl) (l' := [fzV 2 #[], I 60]) (key.mono fun v s' h => ?_)
    rcases h.2 with ⟨h3, _⟩ | ⟨_, rfl⟩
    · exact absurd h3 hm
    · exact ⟨[fzV 2 #[], I 60], rfl, (nil_str _ _).1, (nil_str _ _).2, h.1⟩
end Go.Proofs.YtmhmbmogodofeaaDoor.S

set_option autoImplicit false
set_option linter.unusedVariables false
set_option linter.unusedSimpArgs false
set_option maxRecDepth 100000
namespace Go.Proofs.YtmhmbmogodofeaaDoor.S
open Go.FS Go.RowKit
attribute [local congr] bind_cg cond_cg gd_cg

/-! The reader. -/
abbrev rdr (m : Nat) (B : List UInt8) (p : Nat) : List Value := [sl by' m B, I (p : Int), .bool true]
/-- A reader of these bytes, at a place. -/
def Rd (id m : Nat) (B : List UInt8) (s : SH) (p : Nat) : Prop := HP.get s.h id = some (.row (rdr m B p)) ∧ id < s.n ∧ m < s.n + 3 ∧ p ≤ B.length * 8 ∧ B.length < 2 ^ 40
noncomputable def rdS (s : SH) (id m : Nat) (B : List UInt8) (p : Nat) : SH := putD s id (.row (rdr m B p))
theorem Rd.same {id m p : Nat} {B : List UInt8} {s : SH} (h : Rd id m B s p) : rdS s id m B p = s := put_same h.1
theorem Rd.move {id m p q : Nat} {B : List UInt8} {s : SH} (h : Rd id m B s p) (hq : q ≤ B.length * 8) : Rd id m B (rdS s id m B q) q := ⟨get_put_same _, h.2.1, h.2.2.1, hq, h.2.2.2.2⟩
theorem Rd.ext {id m p : Nat} {B : List UInt8} {s s' : SH} (h : Rd id m B s p) (k : Ext s s') : Rd id m B s' p := ⟨by rw [k.2 id h.2.1]; exact h.1, Nat.lt_of_lt_of_le h.2.1 k.1, by have := h.2.2.1; have := k.1; omega, h.2.2.2⟩
end Go.Proofs.YtmhmbmogodofeaaDoor.S

set_option autoImplicit false
set_option linter.unusedVariables false
set_option linter.unusedSimpArgs false
set_option maxRecDepth 100000
namespace Go.Proofs.YtmhmbmogodofeaaDoor.S
open Go.FS Go.RowKit
attribute [local congr] bind_cg cond_cg gd_cg

/-! What reads: at a place behind, with an answer, or an error. -/
theorem But.rdS {id m p : Nat} {B : List UInt8} {a b : SH} (h : But id a b) : But id a (rdS b id m B p) := h.put _
/-! stamp.lead, stamp.difference -/
/-! stamp.Get -/
end Go.Proofs.YtmhmbmogodofeaaDoor.S

set_option autoImplicit false
set_option linter.unusedVariables false
set_option linter.unusedSimpArgs false
set_option maxRecDepth 100000
namespace Go.Proofs.YtmhmbmogodofeaaDoor.S
open Go.FS Go.RowKit
attribute [local congr] bind_cg cond_cg gd_cg

/-! xor.read, xor.within, xor.fresh, xor.differs -/
def i6 (a : Nat) : List Value := [I (a : Int)]
def u6 (a : Nat) : List Value := [U (a : Int)]
end Go.Proofs.YtmhmbmogodofeaaDoor.S

set_option autoImplicit false
set_option linter.unusedVariables false
set_option linter.unusedSimpArgs false
set_option maxRecDepth 100000
namespace Go.Proofs.YtmhmbmogodofeaaDoor.S
open Go.FS Go.RowKit
attribute [local congr] bind_cg cond_cg gd_cg

end Go.Proofs.YtmhmbmogodofeaaDoor.S

set_option autoImplicit false
set_option linter.unusedVariables false
set_option linter.unusedSimpArgs false
set_option maxRecDepth 100000
namespace Go.Proofs.YtmhmbmogodofeaaDoor.S
open Go.FS Go.RowKit
attribute [local congr] bind_cg cond_cg gd_cg

end Go.Proofs.YtmhmbmogodofeaaDoor.S

set_option autoImplicit false
set_option linter.unusedVariables false
set_option linter.unusedSimpArgs false
set_option maxRecDepth 100000
namespace Go.Proofs.YtmhmbmogodofeaaDoor.S
open Go.FS Go.RowKit
attribute [local congr] bind_cg cond_cg gd_cg

/-! Samples of bits. -/
end Go.Proofs.YtmhmbmogodofeaaDoor.S

set_option autoImplicit false
set_option linter.unusedVariables false
set_option linter.unusedSimpArgs false
set_option maxRecDepth 100000
namespace Go.Proofs.YtmhmbmogodofeaaDoor.S
open Go.FS Go.RowKit
attribute [local congr] bind_cg cond_cg gd_cg

/-! slices.Collect of samples; a clean rest. -/
end Go.Proofs.YtmhmbmogodofeaaDoor.S

set_option autoImplicit false
set_option linter.unusedVariables false
set_option linter.unusedSimpArgs false
set_option maxRecDepth 100000
namespace Go.Proofs.YtmhmbmogodofeaaDoor.S
open Go.FS Go.RowKit
attribute [local congr] bind_cg cond_cg gd_cg

/-! chunk.look, chunk.Read -/
end Go.Proofs.YtmhmbmogodofeaaDoor.S

set_option autoImplicit false
set_option linter.unusedVariables false
set_option linter.unusedSimpArgs false
set_option maxRecDepth 100000
namespace Go.Proofs.YtmhmbmogodofeaaDoor.S
open Go.FS Go.RowKit
attribute [local congr] bind_cg cond_cg gd_cg

/-! chunk.Read -/
/-! The plain law. -/
end Go.Proofs.YtmhmbmogodofeaaDoor.S

set_option autoImplicit false
set_option linter.unusedVariables false
set_option linter.unusedSimpArgs false
set_option maxRecDepth 100000
namespace Go.Proofs.YtmhmbmogodofeaaDoor.S
open Go.FS Go.RowKit
attribute [local congr] bind_cg cond_cg gd_cg

/-! SameBytes; ChunkOnce. -/
theorem bytesOf_by (bs : List UInt8) : bytesOf (bs.map by').flatten = some bs := by
  induction bs with
  | nil => rfl
  | cons b bs ih =>
    show (bytesOf (bs.map by').flatten).map (fun r => UInt8.ofNat (Int.toNat (b.toNat : Int)) :: r) = _
    rw [ih, Int.toNat_natCast, UInt8.ofNat_toNat]; rfl
theorem aggL_fz {α : Type} (enc : α → List Value) (xs : List α) : aggL ((xs.map enc).map fun e => Value.agg e.toArray) = some (xs.map enc).flatten := by
  induction xs with
  | nil => rfl
  | cons x xs ih =>
    show (aggL ((xs.map enc).map fun e => Value.agg e.toArray)).map ((enc x).toArray.toList ++ ·) = _
    rw [ih]; simp
theorem conv_bs (s : SH) (m : Nat) (bs : List UInt8) : convertD Tryd.prog false s 22 9 (sl by' m bs) = some (.string ⟨bs.toArray⟩, s) := by
  have hf : fzOk 1 ((bs.map by').map fun e => Value.agg e.toArray).toArray = true := fzOk_fz fun e he => by obtain ⟨x, _, rfl⟩ := List.mem_map.1 he; rfl
  have hc : cellsD s 1 ((bs.map by').map fun e => Value.agg e.toArray).toArray.size (.iface m (.tuple ((bs.map by').map fun e => Value.agg e.toArray).toArray)) = some (bs.map by').flatten := by
    simp only [cellsD, hf, Nat.ble_eq_true_of_le (Nat.le_refl _), Bool.and_self, condT]
    have : ((bs.map by').map fun e => Value.agg e.toArray).toArray.toList.take ((bs.map by').map fun e => Value.agg e.toArray).toArray.size = (bs.map by').map fun e => Value.agg e.toArray := by
      rw [List.take_of_length_le (by simp)]
    rw [this, aggL_fz]
  unfold sl fz fzV
  simp only [convertD, u9, u22, u5]
  rw [hc, bindS, bytesOf_by]; rfl
theorem c12 {n m m' : Nat} {s : SH} (xs ys : List UInt8) : callD Tryd.prog AB (n + 1) (.fn 12) [sl by' m xs, sl by' m' ys] s = some [(.bool (xs == ys), s)] := by
  refine cut_plain (fn := Tryd.f12) rfl rfl (by kernel_rfl) (fun _ h => by cases h) (.bool _) ?_
  show One (bodyD Tryd.prog false _ _ 12 Tryd.f12 _ _) _
  rw [f12_r]
  have e : ∀ l : List UInt8, (ByteArray.mk l.toArray).toList = l := fun l => by rw [ba_toList]
  simp only [f12, oO, bindS, many1, jnE, boolS, gdB, fst', snd', conv_bs, bop_seq, e]
  exact One.ret ⟨rfl, .refl s⟩
end Go.Proofs.YtmhmbmogodofeaaDoor.S

set_option autoImplicit false
set_option linter.unusedVariables false
set_option linter.unusedSimpArgs false
set_option maxRecDepth 100000
namespace Go.Proofs.YtmhmbmogodofeaaDoor.S
open Go.FS Go.RowKit
attribute [local congr] bind_cg cond_cg gd_cg

/-! Rising samples. -/
/-- Samples that rise below a time. -/
def Good (T : Nat) (r : List (Nat × Nat)) : Prop := r.Pairwise (fun a b => a.1 < b.1) ∧ ∀ x ∈ r, x.1 < T ∧ x.2 < 2 ^ 64
theorem Good.mono {T T' : Nat} {r : List (Nat × Nat)} (h : Good T r) (hT : T ≤ T') : Good T' r := ⟨h.1, fun x hx => ⟨Nat.lt_of_lt_of_le (h.2 x hx).1 hT, (h.2 x hx).2⟩⟩
theorem rise_right : ∀ (l : List (Nat × Nat)) (t : TS), l.Pairwise (fun a b => a.1 < b.1) → (∀ x ∈ l, x.1 < 1000000000 ∧ x.2 < 2 ^ 64 ∧ (t.n = 0 ∨ t.last < x.1)) → Right t l
  | [], _, _, _ => trivial
  | a :: l, t, h, k => by
    obtain ⟨h1, h2⟩ := List.pairwise_cons.1 h
    obtain ⟨k1, k2, k3⟩ := k a (List.mem_cons_self ..)
    refine ⟨⟨by omega, by unfold mxT; omega, by omega⟩, k2, rise_right l _ h2 fun x hx => ?_⟩
    obtain ⟨q1, q2, q3⟩ := k x (List.mem_cons_of_mem _ hx)
    refine ⟨q1, q2, .inr ?_⟩
    have : (tnext t a.1).last = a.1 := by unfold tnext; split <;> rfl
    rw [this]
    exact h1 x hx
theorem Good.right {T : Nat} {r : List (Nat × Nat)} (h : Good T r) (hT : T ≤ 1000000000) : Right t0 r := rise_right r t0 h.1 fun x hx => ⟨Nat.lt_of_lt_of_le (h.2 x hx).1 hT, (h.2 x hx).2, .inl rfl⟩
/-! What was put is read back. -/
end Go.Proofs.YtmhmbmogodofeaaDoor.S
