import Derived.Test.YtmhmbmogodofeaaDoorME
set_option autoImplicit false
set_option linter.unusedVariables false
set_option linter.unusedSimpArgs false
set_option maxRecDepth 100000
namespace Go.Proofs.YtmhmbmogodofeaaDoor.S
open Go.FS Go.RowKit
attribute [local congr] bind_cg cond_cg gd_cg

/-! What reads: at a place behind, with an answer, or an error. -/
def RdAns {α : Type} (id m : Nat) (B : List UInt8) (s : SH) (call : Option (List (Value × SH))) (res : Option (α × List Bool)) (ok : α → Value) (bad : Value → Prop) : Prop :=
  ∃ p, p ≤ B.length * 8 ∧ ((∃ a r, res = some (a, r) ∧ lft B p = r ∧ call = some [(ok a, rdS s id m B p)]) ∨ (res = none ∧ ∃ v, bad v ∧ call = some [(v, rdS s id m B p)]))
/-- The same for a body, that leaves more. -/
def RdQ {α : Type} (id m : Nat) (B : List UInt8) (s : SH) (res : Option (α × List Bool)) (ok : α → Value) (bad : Value → Prop) (v : Value) (s' : SH) : Prop :=
  ∃ p, p ≤ B.length * 8 ∧ But id s s' ∧ HP.get s'.h id = some (.row (rdr m B p)) ∧ ((∃ a r, res = some (a, r) ∧ lft B p = r ∧ v = ok a) ∨ (res = none ∧ bad v))
theorem rdr_bel {m n : Nat} (hm : m < n + 3) (B : List UInt8) (p : Nat) : ∀ x ∈ rdr m B p, Bel n x := fun x hx => by
  simp only [List.mem_cons, List.not_mem_nil, or_false] at hx
  rcases hx with rfl | rfl | rfl
  · exact bel_sl hm fun b => by_bel n b
  · exact .int _ _
  · exact .bool _
def PTup (v : Value) : Prop := ∃ l : List Value, v = .tuple l.toArray ∧ ∀ x ∈ l, Plain x
theorem ptup2 {a b : Value} (h : Plain a) (k : Plain b) : PTup (.tuple #[a, b]) := ⟨[a, b], rfl, pl2 h k⟩
theorem ptup3 {a b c : Value} (h : Plain a) (k : Plain b) (j : Plain c) : PTup (.tuple #[a, b, c]) := ⟨[a, b, c], rfl, pl3 h k j⟩
theorem cut_rd {α : Type} {k id m p : Nat} {B : List UInt8} {s : SH} {f : FuncId} {fn : Func} {args : List Value} {res : Option (α × List Bool)} {ok : α → Value} {bad : Value → Prop} (hR : Rd id m B s p) (hI : AB.i f = none) (hc : AB.cut f = some [none]) (hf : (Tryd.prog).funcs[f]? = some fn)
    (hok : ∀ a, PTup (ok a)) (hbad : ∀ v, bad v → PTup v) (h : One (bodyD Tryd.prog (AB.row f) (callD Tryd.prog AB k) AB.N f fn args s) (RdQ id m B s res ok bad)) : RdAns id m B s (callD Tryd.prog AB (k + 1) (.fn f) args s) res ok bad := by
  obtain ⟨v, s', e, q, hq, h1, h2, h3⟩ := h
  have hv : PTup v := by
    rcases h3 with ⟨a, r, _, _, rfl⟩ | ⟨_, hb⟩
    · exact hok a
    · exact hbad v hb
  obtain ⟨l, rfl, hl⟩ := hv
  obtain ⟨y1, y2⟩ := plain_map hl s.n
  have key : callD Tryd.prog AB (k + 1) (.fn f) args s = some [(.tuple l.toArray, putD s id (.row (rdr m B q)))] :=
    cutT_but (l := l) hI hc hf hR.2.1 (rdr_bel hR.2.2.1 B q) ⟨_, s', e, l, rfl, y1, y2, h1, h2⟩
  refine ⟨q, hq, ?_⟩
  rcases h3 with ⟨a, r, k1, k2, k3⟩ | ⟨k1, k2⟩
  · exact .inl ⟨a, r, k1, k2, by rw [← k3]; exact key⟩
  · exact .inr ⟨k1, _, k2, key⟩
theorem But.ofExt {id : Nat} {a b : SH} (h : Ext a b) : But id a b := ⟨h.1, fun j hj _ => h.2 j hj⟩
theorem But.rdS {id m p : Nat} {B : List UInt8} {a b : SH} (h : But id a b) : But id a (rdS b id m B p) := h.put _
theorem rdS_get (s : SH) (id m : Nat) (B : List UInt8) (p : Nat) : HP.get (rdS s id m B p).h id = some (.row (rdr m B p)) := get_put_same _
theorem rdS_old {s : SH} {id m : Nat} {B : List UInt8} {p j : Nat} (h : j ≠ id) : HP.get (rdS s id m B p).h j = HP.get s.h j := get_put_other h
/-! stamp.lead, stamp.difference -/
theorem c105 {n id m p : Nat} {s : SH} {B : List UInt8} (hR : Rd id m B s p) : RdAns id m B s (callD Tryd.prog AB (n + 4) (.fn 105) [pt id 0] s) (tlead 4 0 (lft B p)) (fun k => .tuple #[I (k : Nat), I 0]) (fun v => ∃ k e : Int, e ≠ 0 ∧ v = .tuple #[I k, I e]) := by
  refine cut_rd (fn := Tryd.f105) hR rfl rfl (by kernel_rfl) (fun a => ptup2 (.int _ _) (.int _ _)) (fun v ⟨k, e, _, h⟩ => by rw [h]; exact ptup2 (.int _ _) (.int _ _)) ?_
  show One (bodyD Tryd.prog false _ _ 105 Tryd.f105 _ _) _
  rw [f105_r]
  generalize hres : tlead 4 0 (lft B p) = res
  simp only [f105, oO, bindS, many1, jnE, boolS, gdB, fst', snd']
  refine list_one (List.replicate 4 ()) (fun i (x : Value × Value × Value × Value × Value × Value) (s' : SH) => x.2.2.2.2.2 = I (i : Int) ∧ ∃ q, s' = rdS s id m B q ∧ q ≤ B.length * 8 ∧ res = tlead (4 - i) i (lft B q)) ?_ ?_ ⟨rfl, p, hR.same.symm, hR.2.2.2.1, hres.symm⟩ (by rw [List.length_replicate]; show _ < 2 ^ 64; omega)
  · rintro i hi ⟨x1, x2, x3, x4, x5, x6⟩ s' ⟨h1, q, rfl, hq, ht⟩ nx hnx
    rw [List.length_replicate] at hi
    simp only at h1
    subst h1
    have hlt : (i : Int) < 4 := by omega
    have hw : IntKind.i64.wrap ((i : Int) + 1) = ((i + 1 : Nat) : Int) := by rw [wrap_i64 (by omega) (by omega)]; rfl
    have hR1 := hR.move hq
    rw [show 4 - i = (3 - i) + 1 from by omega, tlead] at ht
    cases hg : getB 1 (lft B q) with
    | none =>
      rw [hg] at ht
      have e64 := c64_no (n := n) (k := 1) hR1 (by decide) hg
      have e64 : callD Tryd.prog AB (n + 3) (.fn 64) [pt id 0, I 1] (rdS s id m B q) = _ := e64
      simp only [f105_l0, oO, bindS, many1, jnE, boolS, gdB, fst', snd', bop_lss, hlt, decide_true, condT, e64, ext2, b_neq, show ¬ (50 : Int) = 0 from by decide, decide_false, Bool.not_false]
      exact One.ret ⟨q, hq, (But.rdS (But.refl id s)), rdS_get _ _ _ _ _, .inr ⟨ht, _, _, by decide, rfl⟩⟩
    | some a =>
      obtain ⟨x, r⟩ := a
      rw [hg, Option.bind_some] at ht
      simp only at ht
      obtain ⟨e64, k1, k2⟩ := c64_ok (n := n) (k := 1) hR1 (by decide) hg
      rw [rdS_rdS] at e64
      have e64 : callD Tryd.prog AB (n + 3) (.fn 64) [pt id 0, I 1] (rdS s id m B q) = _ := e64
      have hx2 := (getB_ok hg).2
      by_cases hx : x = 0
      · subst hx
        rw [if_pos rfl] at ht
        simp only [f105_l0, oO, bindS, many1, jnE, boolS, gdB, fst', snd', bop_lss, hlt, decide_true, condT, e64, ext2, b_neq, Bool.not_true, condF, bop_eql, show ((0 : Nat) : Int) = 0 from rfl]
        exact One.ret ⟨q + 1, k1, (But.rdS (But.refl id s)), rdS_get _ _ _ _ _, .inl ⟨i, r, ht, k2, rfl⟩⟩
      · rw [if_neg hx] at ht
        have hx' : ¬ (x : Int) = 0 := by omega
        simp only [f105_l0, oO, bindS, many1, jnE, boolS, gdB, fst', snd', bop_lss, hlt, decide_true, condT, e64, ext2, b_neq, Bool.not_true, condF, bop_eql, hx', decide_false, bop_add, hw]
        exact hnx (_, _, _, _, _, _) _ ⟨rfl, q + 1, rfl, k1, by rw [k2, ht]; congr 1; omega⟩
  · rintro ⟨x1, x2, x3, x4, x5, x6⟩ s' ⟨h1, q, rfl, hq, ht⟩ nx
    rw [List.length_replicate] at h1 ht
    simp only at h1
    subst h1
    have hnlt : ¬ (((4 : Nat) : Int) < 4) := by omega
    simp only [f105_l0, oO, bindS, many1, jnE, boolS, gdB, fst', snd', bop_lss, hnlt, decide_false, condF, beq_yes, condT]
    exact One.ret ⟨q, hq, (But.rdS (But.refl id s)), rdS_get _ _ _ _ _, .inl ⟨4, _, ht, rfl, rfl⟩⟩
theorem xor3_m' (t : TypeId) (a : Int) (h : 0 ≤ a) (h2 : a < 2 ^ 62) : bopD Tryd.prog .xor t (I a) (I (-1)) = some (I (-a - 1)) := by
  rw [bop_int]
  show some (Value.int IntKind.i64 (IntKind.i64.wrap ((BitVec.ofInt 64 a ^^^ BitVec.ofInt 64 (-1)).toNat : Nat))) = _
  have e1 : BitVec.ofInt 64 a ^^^ BitVec.ofInt 64 (-1) = ~~~ BitVec.ofInt 64 a := by
    have : BitVec.ofInt 64 (-1) = BitVec.allOnes 64 := by decide
    rw [this, BitVec.xor_allOnes]
  have e2 : ((~~~ BitVec.ofInt 64 a).toNat : Int) = 2 ^ 64 - 1 - a := by
    rw [BitVec.toNat_not, BitVec.toNat_ofInt]
    omega
  rw [e1, e2]
  have e3 : IntKind.i64.wrap (2 ^ 64 - 1 - a) = -a - 1 := by
    have wm : ∀ n : Int, IntKind.i64.wrap n = if (n % 2 ^ 64 : Int) ≥ 2 ^ 63 then n % 2 ^ 64 - 2 ^ 64 else n % 2 ^ 64 := fun n => by
      have : IntKind.i64.wrap n = if (true && decide ((n % 2 ^ 64 : Int) ≥ 2 ^ 63)) = true then n % 2 ^ 64 - 2 ^ 64 else n % 2 ^ 64 := rfl
      rw [this, Bool.true_and]
      by_cases hq : (n % 2 ^ 64 : Int) ≥ 2 ^ 63 <;> simp only [hq, decide_true, decide_false, if_true, if_false, Bool.false_eq_true]
    have hmod : (2 ^ 64 - 1 - a) % 2 ^ 64 = (-a - 1) % 2 ^ 64 := by omega
    have h1 : IntKind.i64.wrap (2 ^ 64 - 1 - a) = IntKind.i64.wrap (-a - 1) := by rw [wm, wm, hmod]
    rw [h1, wrap_i64 (by omega) (by omega)]
  rw [e3]
theorem unfoldW {z : Nat} (hz : z < 2 ^ 48) : ∃ a b c : Int, bopD Tryd.prog .shr 38 (U (z : Int)) (.int .u64 1) = some (U a) ∧ IntKind.i64.wrap a = a ∧ bopD Tryd.prog .and 38 (U (z : Int)) (.int .u64 1) = some (U b) ∧ IntKind.i64.wrap b = b ∧ uopD Tryd.prog .neg (I b) = some (I c) ∧ bopD Tryd.prog .xor 3 (I a) (I c) = some (I (unfoldZ z)) := by
  have h1 : bopD Tryd.prog .shr 38 (U (z : Int)) (.int .u64 1) = some (U ((z / 2 : Nat) : Int)) := shr64' (a := z) 1 (by decide)
  have h2 : bopD Tryd.prog .and 38 (U (z : Int)) (.int .u64 1) = some (U ((z % 2 : Nat) : Int)) := by
    have := and64 (a := z) (b := 1) (by omega) (by decide)
    rw [Nat.and_one_is_mod] at this
    exact this
  refine ⟨_, _, IntKind.i64.wrap (0 - ((z % 2 : Nat) : Int)), h1, wrap_i64 (by omega) (by omega), h2, wrap_i64 (by omega) (by omega), uop_neg _ _, ?_⟩
  unfold unfoldZ
  rcases Nat.mod_two_eq_zero_or_one z with h | h
  · rw [h, if_neg (by decide)]
    exact xor3_0 3 _ (by omega) (by omega)
  · rw [h, if_pos rfl]
    have : IntKind.i64.wrap (0 - ((1 : Nat) : Int)) = -1 := by decide
    rw [this]
    exact xor3_m' 3 _ (by omega) (by omega)
theorem c93 {n id m p : Nat} {s : SH} {B : List UInt8} (hR : Rd id m B s p) : RdAns id m B s (callD Tryd.prog AB (n + 5) (.fn 93) [pt id 0] s) (tdiff (lft B p)) (fun d => .tuple #[I d, I 0]) (fun v => ∃ e : Int, e ≠ 0 ∧ v = .tuple #[I 0, I e]) := by
  refine cut_rd (fn := Tryd.f93) hR rfl rfl (by kernel_rfl) (fun a => ptup2 (.int _ _) (.int _ _)) (fun v ⟨e, _, h⟩ => by rw [h]; exact ptup2 (.int _ _) (.int _ _)) ?_
  show One (bodyD Tryd.prog false _ _ 93 Tryd.f93 _ _) _
  rw [f93_r]
  unfold tdiff
  obtain ⟨q, hq, ⟨k, r, h1, h2, e105⟩ | ⟨h1, v, ⟨k, e, he, rfl⟩, e105⟩⟩ := c105 (n := n) hR
  · obtain ⟨i, hi1, hi2, _⟩ := tlead_ok _ _ _ _ _ h1
    have hk5 : k < 5 := by omega
    have hR1 := hR.move hq
    have htw := tw_le k
    rw [h1, Option.bind_some]
    simp only
    subst h2
    cases hg : getB (tw k) (lft B q) with
    | none =>
      rw [Option.bind_none]
      have e64 := c64_no (n := n + 1) hR1 (by omega) hg
      simp only [f93, oO, bindS, many1, jnE, boolS, gdB, fst', snd', e105, ext2, b_neq, decide_true, Bool.not_true, condF, ixa148 hk5, flg147_2 hk5, ldg3 _ hk5, e64, show ¬ (50 : Int) = 0 from by decide, decide_false, Bool.not_false, condT]
      exact One.ret ⟨q, hq, (But.rdS (But.refl id s)), rdS_get _ _ _ _ _, .inr ⟨rfl, _, by decide, rfl⟩⟩
    | some a =>
      obtain ⟨z, r⟩ := a
      rw [Option.bind_some]
      simp only
      obtain ⟨e64, k1, k2⟩ := c64_ok (n := n + 1) hR1 (by omega) hg
      rw [rdS_rdS] at e64
      have hz : z < 2 ^ 48 := Nat.lt_of_lt_of_le (getB_ok hg).2 (Nat.pow_le_pow_right (by decide) htw)
      have e77 := c77 (n := n + 2) (s := rdS s id m B (q + tw k)) z hz
      by_cases hc : tcls z = k
      · have hc' : (tcls z : Int) = (k : Int) := by omega
        obtain ⟨a, b, c, u1, u2, u3', u4, u5, u6⟩ := unfoldW hz
        rw [if_pos hc]
        simp only [f93, oO, bindS, many1, jnE, boolS, gdB, fst', snd', e105, ext2, b_neq, decide_true, Bool.not_true, condF, ixa148 hk5, flg147_2 hk5, ldg3 _ hk5, e64, e77, hc', u1, conv_int u38 u3, u2, u3', u4, u5, u6]
        exact One.ret ⟨_, k1, (But.rdS (But.refl id s)), rdS_get _ _ _ _ _, .inl ⟨_, _, rfl, k2, rfl⟩⟩
      · have hc' : ¬ (tcls z : Int) = (k : Int) := by omega
        rw [if_neg hc]
        simp only [f93, oO, bindS, many1, jnE, boolS, gdB, fst', snd', e105, ext2, b_neq, decide_true, Bool.not_true, condF, ixa148 hk5, flg147_2 hk5, ldg3 _ hk5, e64, e77, hc', decide_false, Bool.not_false, condT]
        exact One.ret ⟨_, k1, (But.rdS (But.refl id s)), rdS_get _ _ _ _ _, .inr ⟨rfl, _, by decide, rfl⟩⟩
  · rw [h1, Option.bind_none]
    simp only [f93, oO, bindS, many1, jnE, boolS, gdB, fst', snd', e105, ext2, b_neq, he, decide_false, Bool.not_false, condT]
    exact One.ret ⟨q, hq, (But.rdS (But.refl id s)), rdS_get _ _ _ _ _, .inr ⟨rfl, _, he, rfl⟩⟩
/-! stamp.Get -/
theorem c61 {n id m p : Nat} {s : SH} {B : List UInt8} (hR : Rd id m B s p) (u : TS) (hu : TSok u) (hn : u.n ≤ 4096) : RdAns id m B s (callD Tryd.prog AB (n + 6) (.fn 61) [pt id 0, tsV u] s) (tget u (lft B p)) (fun t => .tuple #[tsV (tnext u t), I (t : Nat), I 0]) (fun v => ∃ e : Int, e ≠ 0 ∧ v = .tuple #[ts 0 0 0, I 0, I e]) := by
  refine cut_rd (fn := Tryd.f61) hR rfl rfl (by kernel_rfl) (fun a => ptup3 (ts_plain _ _ _) (.int _ _) (.int _ _)) (fun v ⟨e, _, h⟩ => by rw [h]; exact ptup3 (ts_plain _ _ _) (.int _ _) (.int _ _)) ?_
  show One (bodyD Tryd.prog false _ _ 61 Tryd.f61 _ _) _
  rw [f61_r]
  have hid := hR.2.1
  have e74 := fun s => c74 (n := n + 3) (s := s) u hn hu
  obtain ⟨hu1, hu2⟩ := hu
  unfold mxT at hu1 hu2
  let s1 : SH := newD s (.row (tr u.n u.last u.delta))
  let s2 : SH := newD s1 (.row (tr 0 0 0))
  have b1 : boxD s (tsV u) = some (pt s.n 0, s1) := bx102 s _ _ _
  have b2 : allocD Tryd.prog s1 102 = some (pt s1.n 0, s2) := al102 s1
  have n1 : s1.n = s.n + 1 := rfl
  have n2 : s2.n = s.n + 2 := rfl
  have g1 : HP.get s2.h s.n = some (.row (tr u.n u.last u.delta)) := get_n1 s _ _
  have g2 : HP.get s2.h s1.n = some (.row (tr 0 0 0)) := get_n0 s1 _
  have hE : Ext s s2 := ext2' s _ _
  have m1 : loadD Tryd.prog s2 102 (pt s.n 0) = some (tsV u) := tld_n g1
  have hR2 := hR.ext hE
  -- at any place
  have old : ∀ q j, j = s.n ∨ j = s1.n → HP.get (rdS s2 id m B q).h j = HP.get s2.h j := fun q j h => rdS_old (by omega)
  have st : ∀ q, storeD Tryd.prog (rdS s2 id m B q) 102 (pt s1.n 0) (ts 0 0 0) = some (putD (rdS s2 id m B q) s1.n (.row (tr 0 0 0))) := fun q => tst_n _ _ (by rw [old q _ (.inr rfl)]; exact g2)
  have ld0 : ∀ (t : SH) (a b c : Int), loadD Tryd.prog (putD t s1.n (.row (tr a b c))) 102 (pt s1.n 0) = some (ts a b c) := fun t a b c => tld_n (get_put_same _)
  have bt : ∀ q (a b c : Int), But id s (putD (rdS s2 id m B q) s1.n (.row (tr a b c))) ∧ HP.get (putD (rdS s2 id m B q) s1.n (.row (tr a b c))).h id = some (.row (rdr m B q)) := fun q a b c =>
    ⟨(But.rdS (But.ofExt hE)).putNew (by omega) _, by rw [get_put_other (by omega)]; exact rdS_get _ _ _ _ _⟩
  -- behind a time
  have fin : ∀ q (t : Int) (hq : q ≤ B.length * 8), (tmay u t → ∃ s', callD Tryd.prog AB (n + 5) (.fn 73) [tsV u, I t] (rdS s2 id m B q) = some [(.tuple #[tsV (tnext u t.toNat), .bool true], rdS s2 id m B q)] ∧ loadD Tryd.prog (rdS s2 id m B q) 102 (pt s.n 0) = some (tsV u) ∧ allocD Tryd.prog (rdS s2 id m B q) 102 = some (pt s2.n 0, newD (rdS s2 id m B q) (.row (tr 0 0 0))) ∧
        storeD Tryd.prog (newD (rdS s2 id m B q) (.row (tr 0 0 0))) 102 (pt s2.n 0) (tsV (tnext u t.toNat)) = some s' ∧ loadD Tryd.prog s' 102 (pt s2.n 0) = some (tsV (tnext u t.toNat)) ∧ ∃ s'', storeD Tryd.prog s' 102 (pt s1.n 0) (tsV (tnext u t.toNat)) = some s'' ∧ loadD Tryd.prog s'' 102 (pt s1.n 0) = some (tsV (tnext u t.toNat)) ∧ But id s s'' ∧ HP.get s''.h id = some (.row (rdr m B q))) := by
    intro q t hq hm
    obtain ⟨tn, rfl⟩ : ∃ tn : Nat, t = tn := ⟨t.toNat, (Int.toNat_of_nonneg hm.1).symm⟩
    rw [Int.toNat_natCast]
    generalize hv : tnext u tn = v
    have e73 := c73_yes (n := n + 4) (s := rdS s2 id m B q) u tn (by omega) hm
    rw [hv] at e73
    have hE3 : But id s (newD (rdS s2 id m B q) (.row (tr v.n v.last v.delta))) := (But.rdS (But.ofExt hE)).new _
    refine ⟨newD (rdS s2 id m B q) (.row (tr v.n v.last v.delta)), e73, tld_n (by rw [old q _ (.inl rfl)]; exact g1), al102 _, st102_0 (rdS s2 id m B q) 0 0 0 _ _ _, tld_n (get_n0 _ _), putD (newD (rdS s2 id m B q) (.row (tr v.n v.last v.delta))) s1.n (.row (tr v.n v.last v.delta)), ?_, ld0 _ _ _ _, hE3.putNew (by omega) _, ?_⟩
    · refine tst_n _ _ (x := 0) (y := 0) (z := 0) ?_
      rw [get_old (by rw [rdS_n]; omega), old q _ (.inr rfl)]; exact g2
    · rw [get_put_other (by omega), get_old (by rw [rdS_n]; omega)]; exact rdS_get _ _ _ _ _
  have finN : ∀ q (t : Int), ¬ tmay u t → ∃ s', callD Tryd.prog AB (n + 5) (.fn 73) [tsV u, I t] (rdS s2 id m B q) = some [(.tuple #[ts 0 0 0, .bool false], rdS s2 id m B q)] ∧ loadD Tryd.prog (rdS s2 id m B q) 102 (pt s.n 0) = some (tsV u) ∧ allocD Tryd.prog (rdS s2 id m B q) 102 = some (pt s2.n 0, newD (rdS s2 id m B q) (.row (tr 0 0 0))) ∧
        storeD Tryd.prog (newD (rdS s2 id m B q) (.row (tr 0 0 0))) 102 (pt s2.n 0) (ts 0 0 0) = some (newD (rdS s2 id m B q) (.row (tr 0 0 0))) ∧ storeD Tryd.prog (newD (rdS s2 id m B q) (.row (tr 0 0 0))) 102 (pt s1.n 0) (ts 0 0 0) = some s' ∧ loadD Tryd.prog s' 102 (pt s1.n 0) = some (ts 0 0 0) ∧ But id s s' ∧ HP.get s'.h id = some (.row (rdr m B q)) := by
    intro q t hm
    have hE3 : But id s (newD (rdS s2 id m B q) (.row (tr 0 0 0))) := (But.rdS (But.ofExt hE)).new _
    refine ⟨putD (newD (rdS s2 id m B q) (.row (tr 0 0 0))) s1.n (.row (tr 0 0 0)), c73_no u t hm, tld_n (by rw [old q _ (.inl rfl)]; exact g1), al102 _, st102_0 (rdS s2 id m B q) 0 0 0 _ _ _, ?_, ld0 _ _ _ _, hE3.putNew (by omega) _, ?_⟩
    · refine tst_n _ _ (x := 0) (y := 0) (z := 0) ?_
      rw [get_old (by rw [rdS_n]; omega), old q _ (.inr rfl)]; exact g2
    · rw [get_put_other (by omega), get_old (by rw [rdS_n]; omega)]; exact rdS_get _ _ _ _ _
  unfold tget
  by_cases h0 : u.n = 0
  · have hz : (u.n : Int) = 0 := by omega
    rw [if_pos h0]
    cases hg : getB 46 (lft B p) with
    | none =>
      have e64 := c64_no (n := n + 2) (k := 46) hR2 (by decide) hg
      rw [Option.bind_none]
      have e64 : callD Tryd.prog AB (n + 5) (.fn 64) [pt id 0, I 46] s2 = some [(.tuple #[U 0, I 50], rdS s2 id m B p)] := by rw [hR2.same]; exact e64
      simp only [f61, oO, bindS, many1, jnE, boolS, gdB, fst', snd', b1, b2, m1, e74, uop_not, Bool.not_true, condF, fld102_0, tld_0 g1, bop_eql, hz, decide_true, condT, e64, ext2, b_neq, show ¬ (50 : Int) = 0 from by decide, decide_false, Bool.not_false, bl102_0, st, ld0]
      exact One.ret ⟨p, hR.2.2.2.1, (bt p 0 0 0).1, (bt p 0 0 0).2, .inr ⟨rfl, _, by decide, rfl⟩⟩
    | some a =>
      obtain ⟨x, r⟩ := a
      rw [Option.bind_some]
      simp only
      obtain ⟨e64, k1, k2⟩ := c64_ok (n := n + 2) (k := 46) hR2 (by decide) hg
      have e64 : callD Tryd.prog AB (n + 5) (.fn 64) [pt id 0, I 46] s2 = some [(.tuple #[U x, I 0], rdS s2 id m B (p + 46))] := e64
      have hx := (getB_ok hg).2
      have hwx : IntKind.i64.wrap (x : Int) = (x : Int) := wrap_i64 (by omega) (by omega)
      by_cases hm : x ≤ mxT
      · have htm : tmay u x := ⟨by omega, by omega, .inl h0⟩
        obtain ⟨s', e73, l1, a1, st1, l2, s'', st2, l3, bt1, bt2⟩ := fin (p + 46) x k1 htm
        rw [Int.toNat_natCast] at e73 st1 l2 st2 l3
        rw [if_pos hm]
        simp only [f61, oO, bindS, many1, jnE, boolS, gdB, fst', snd', b1, b2, m1, e74, uop_not, Bool.not_true, condF, fld102_0, tld_0 g1, bop_eql, hz, decide_true, condT, e64, ext2, b_neq, conv_int u38 u3, hwx, l1, e73, a1, st1, l2, st2, l3]
        exact One.ret ⟨_, k1, bt1, bt2, .inl ⟨x, r, rfl, k2, rfl⟩⟩
      · have htm : ¬ tmay u x := fun h => hm (by have := h.2.1; omega)
        obtain ⟨s', e73, l1, a1, st1, st2, l3, bt1, bt2⟩ := finN (p + 46) x htm
        rw [if_neg hm]
        simp only [f61, oO, bindS, many1, jnE, boolS, gdB, fst', snd', b1, b2, m1, e74, uop_not, Bool.not_true, Bool.not_false, condF, fld102_0, tld_0 g1, bop_eql, hz, decide_true, condT, e64, ext2, b_neq, conv_int u38 u3, hwx, l1, e73, a1, st1, bl102_0, st2, l3]
        exact One.ret ⟨_, k1, bt1, bt2, .inr ⟨rfl, _, by decide, rfl⟩⟩
  · have hz : ¬ (u.n : Int) = 0 := by omega
    rw [if_neg h0]
    obtain ⟨q, hq, ⟨d, r, h1, h2, e93⟩ | ⟨h1, v, ⟨e, he, rfl⟩, e93⟩⟩ := c93 (n := n) hR2
    · rw [h1, Option.bind_some]
      simp only
      obtain ⟨z, hz2, hd, _⟩ := tdiff_ok h1
      have hdb : -2 ^ 48 ≤ d ∧ d ≤ 2 ^ 48 := by rw [hd]; unfold unfoldZ; split <;> omega
      have w1 : IntKind.i64.wrap ((u.last : Int) + (u.delta : Int)) = (u.last : Int) + u.delta := wrap_i64 (by omega) (by omega)
      have w2 : IntKind.i64.wrap ((u.last : Int) + u.delta + d) = (u.last : Int) + u.delta + d := wrap_i64 (by omega) (by omega)
      have o1 : HP.get (rdS s2 id m B q).h s.n = some (.row (tr u.n u.last u.delta)) := by rw [old q _ (.inl rfl)]; exact g1
      by_cases hm : tmay u ((u.last : Int) + u.delta + d)
      · obtain ⟨s', e73, l1, a1, st1, l2, s'', st2, l3, bt1, bt2⟩ := fin q _ hq hm
        have htn : ((((u.last : Int) + u.delta + d).toNat : Nat) : Int) = (u.last : Int) + u.delta + d := Int.toNat_of_nonneg hm.1
        rw [if_pos hm]
        simp only [f61, oO, bindS, many1, jnE, boolS, gdB, fst', snd', b1, b2, m1, e74, uop_not, Bool.not_true, condF, fld102_0, fld102_1, fld102_2, tld_0 g1, bop_eql, hz, decide_false, e93, ext2, b_neq, decide_true, tld_1 o1, tld_2 o1, bop_add, w1, w2, l1, e73, a1, st1, l2, st2, l3]
        refine One.ret ⟨_, hq, bt1, bt2, .inl ⟨_, r, rfl, h2, ?_⟩⟩
        show _ = Value.tuple #[_, I ((((u.last : Int) + u.delta + d).toNat : Nat) : Int), _]
        rw [htn]
      · obtain ⟨s', e73, l1, a1, st1, st2, l3, bt1, bt2⟩ := finN q _ hm
        rw [if_neg hm]
        simp only [f61, oO, bindS, many1, jnE, boolS, gdB, fst', snd', b1, b2, m1, e74, uop_not, Bool.not_true, Bool.not_false, condF, condT, fld102_0, fld102_1, fld102_2, tld_0 g1, bop_eql, hz, decide_false, e93, ext2, b_neq, decide_true, tld_1 o1, tld_2 o1, bop_add, w1, w2, l1, e73, a1, st1, bl102_0, st2, l3]
        exact One.ret ⟨_, hq, bt1, bt2, .inr ⟨rfl, _, by decide, rfl⟩⟩
    · rw [h1, Option.bind_none]
      simp only [f61, oO, bindS, many1, jnE, boolS, gdB, fst', snd', b1, b2, m1, e74, uop_not, Bool.not_true, Bool.not_false, condF, condT, fld102_0, tld_0 g1, bop_eql, hz, decide_false, e93, ext2, b_neq, he, bl102_0, st, ld0]
      exact One.ret ⟨q, hq, (bt q 0 0 0).1, (bt q 0 0 0).2, .inr ⟨rfl, _, he, rfl⟩⟩
end Go.Proofs.YtmhmbmogodofeaaDoor.S

set_option autoImplicit false
set_option linter.unusedVariables false
set_option linter.unusedSimpArgs false
set_option maxRecDepth 100000
namespace Go.Proofs.YtmhmbmogodofeaaDoor.S
open Go.FS Go.RowKit
attribute [local congr] bind_cg cond_cg gd_cg

/-! xor.read, xor.within, xor.fresh, xor.differs -/
theorem cut_rdS {α : Type} {k id m p : Nat} {B : List UInt8} {s : SH} {f : FuncId} {fn : Func} {args : List Value} {res : Option (α × List Bool)} {ok : α → Value} {bad : Value → Prop} (hR : Rd id m B s p) (hI : AB.i f = none) (hc : AB.cut f = some [none]) (hf : (Tryd.prog).funcs[f]? = some fn)
    (h : One (bodyD Tryd.prog (AB.row f) (callD Tryd.prog AB k) AB.N f fn args s) fun v s' => ∃ p, p ≤ B.length * 8 ∧ But id s s' ∧ HP.get s'.h id = some (.row (rdr m B p)) ∧ ∃ l l' : List Value, v = .tuple l.toArray ∧ (∀ c ∈ l, Bel s.n (stripN 8 s.n c)) ∧ l.map (stripN 8 s.n) = l' ∧ ((∃ a r, res = some (a, r) ∧ lft B p = r ∧ .tuple l'.toArray = ok a) ∨ (res = none ∧ bad (.tuple l'.toArray)))) : RdAns id m B s (callD Tryd.prog AB (k + 1) (.fn f) args s) res ok bad := by
  obtain ⟨v, s', e, q, hq, h1, h2, l, l', rfl, y1, y2, h3⟩ := h
  have key : callD Tryd.prog AB (k + 1) (.fn f) args s = some [(.tuple l'.toArray, putD s id (.row (rdr m B q)))] :=
    cutT_but (l := l) hI hc hf hR.2.1 (rdr_bel hR.2.2.1 B q) ⟨_, s', e, l, rfl, y1, y2, h1, h2⟩
  refine ⟨q, hq, ?_⟩
  rcases h3 with ⟨a, r, k1, k2, k3⟩ | ⟨k1, k2⟩
  · exact .inl ⟨a, r, k1, k2, by rw [← k3]; exact key⟩
  · exact .inr ⟨k1, _, k2, key⟩
def getMany : List Nat → List Bool → Option (List Nat × List Bool)
  | [], rs => some ([], rs)
  | n :: ns, rs => (getB n rs).bind fun p => (getMany ns p.2).bind fun q => some (p.1 :: q.1, q.2)
def i6 (a : Nat) : List Value := [I (a : Int)]
theorem i6_len (a : Nat) : (i6 a).length = 1 := rfl
def u6 (a : Nat) : List Value := [U (a : Int)]
theorem u6_len (a : Nat) : (u6 a).length = 1 := rfl
theorem u6_str (n : Nat) (a : Nat) : (u6 a).map (stripN 6 n) = u6 a := rfl
theorem u6_bel (n : Nat) (a : Nat) : ∀ v ∈ u6 a, Bel n v := fun v hv => by
  simp only [u6, List.mem_cons, List.not_mem_nil, or_false] at hv
  subst hv; exact .int _ _
theorem ld_i6 {s : SH} (a : Nat) : loadD Tryd.prog s 3 (fpV (i6 a).toArray 0) = some (I a) := by rw [load_fp, part_one a3]; rfl
theorem ld_u6 {s : SH} (a : Nat) : loadD Tryd.prog s 38 (fpV (u6 a).toArray 0) = some (U a) := by rw [load_fp, part_one a38]; rfl
theorem bs46 (s : SH) (a : Nat) : buildSliceD Tryd.prog false s 46 1 [(0, U (a : Int))] = some (sl u6 1 [a], s) := by kernel_rfl
theorem bs45_1 (s : SH) (a : Int) : buildSliceD Tryd.prog false s 45 1 [(0, I a)] = some (fz 1 [[I a]], s) := by kernel_rfl
theorem bs45_2 (s : SH) (a b : Int) : buildSliceD Tryd.prog false s 45 2 [(0, I a), (1, I b)] = some (fz 1 [[I a], [I b]], s) := by kernel_rfl
theorem gapp46 {lo : Nat} {s : SH} {v : Value} {m2 : Nat} {xs ys : List Nat} (h : Grow lo 1 u6 s v xs) (hlo : lo ≤ s.n) (hb : (xs.length + ys.length) * 8 ≤ 140737488355328) :
    ∃ v' s', appD Tryd.prog false s 46 46 v (sl u6 m2 ys) = some (v', s') ∧ Grow lo 1 u6 s' v' (xs ++ ys) ∧ Sm lo s s' ∧ (∀ j, j < s.n → HP.get s.h j ≠ some (.tok xs.length 1) → HP.get s'.h j = HP.get s.h j) :=
  h.app (i := Tryd.t38) hlo u46 u46 (by kernel_rfl) zr38 rfl (by kernel_rfl) (by kernel_rfl) (by decide) u6_len hb (by omega)
theorem c106 {n id m p m2 : Nat} {s : SH} {B : List UInt8} (hR : Rd id m B s p) (ns : List Nat) (hns : ∀ k ∈ ns, k ≤ 64) (hl : ns.length ≤ 4) (h0 : ns ≠ []) : RdAns id m B s (callD Tryd.prog AB (n + 4) (.fn 106) [pt id 0, sl i6 m2 ns] s) (getMany ns (lft B p)) (fun xs => .tuple #[sl u6 0 xs, I 0]) (fun v => ∃ e : Int, e ≠ 0 ∧ v = .tuple #[fzV 2 #[], I e]) := by
  refine cut_rdS (fn := Tryd.f106) hR rfl rfl (by kernel_rfl) ?_
  show One (bodyD Tryd.prog false _ _ 106 Tryd.f106 _ _) _
  rw [f106_r]
  generalize hres : getMany ns (lft B p) = res
  have hid := hR.2.1
  simp only [f106, oO, bindS, many1, jnE, boolS, gdB, fst', snd', len_sl u45]
  refine list_one ns (fun i (x : Value × Value × Value × Value × Value × Value × Value) (s' : SH) => x.2.2.2.2.2.2 = I (i : Int) ∧ ∃ q xs, Rd id m B s' q ∧ But id s s' ∧ Grow s.n 1 u6 s' x.2.2.1 xs ∧ xs.length = i ∧ res = (getMany (ns.drop i) (lft B q)).bind fun p => some (xs ++ p.1, p.2)) ?_ ?_ ⟨rfl, p, [], hR, .refl _ _, .inl ⟨rfl, .inl rfl⟩, rfl, ?_⟩ (by show ns.length < 2 ^ 64; omega)
  · rintro i hi ⟨x1, x2, x3, x4, x5, x6, x7⟩ s' ⟨h1, q, xs, hR1, hBt, hG, hxl, hres⟩ nx hnx
    simp only at h1 hG
    subst h1
    have hlt : (i : Int) < ns.length := by omega
    have hw : IntKind.i64.wrap ((i : Int) + 1) = ((i + 1 : Nat) : Int) := by rw [wrap_i64 (by omega) (by omega)]; rfl
    have hd : ns.drop i = ns[i] :: ns.drop (i + 1) := List.drop_eq_getElem_cons hi
    have hk := hns _ (List.getElem_mem hi)
    rw [hd, getMany] at hres
    simp only [f106_l0, oO, bindS, many1, jnE, boolS, gdB, fst', snd', bop_lss, hlt, decide_true, condT, ixs45 i6_len hi, ld_i6]
    generalize ns[i] = k at hk hres
    cases hg : getB k (lft B q) with
    | none =>
      rw [hg] at hres
      have e64 := c64_no (n := n) hR1 hk hg
      simp only [oO, bindS, many1, jnE, boolS, gdB, fst', snd', e64, ext2, b_neq, show ¬ (50 : Int) = 0 from by decide, decide_false, Bool.not_false, condT]
      obtain ⟨y1, y2⟩ := nil_str s.n 50
      exact One.ret ⟨q, hR1.2.2.2.1, hBt, hR1.1, [fzV 2 #[], I 50], [fzV 2 #[], I 50], rfl, y1, y2, .inr ⟨hres, 50, by decide, rfl⟩⟩
    | some a =>
      obtain ⟨x, r⟩ := a
      rw [hg, Option.bind_some] at hres
      simp only at hres
      obtain ⟨e64, k1, k2⟩ := c64_ok (n := n) hR1 hk hg
      have hR2 := hR1.move k1
      have hG2 : Grow s.n 1 u6 (rdS s' id m B (q + k)) x3 xs := hG.put _ (by rw [hR1.1]; intro e; cases e)
      obtain ⟨v2, s2, e2, z1, z2, z3⟩ := gapp46 (m2 := 1) (ys := [x]) hG2 (by rw [rdS_n]; exact hBt.1) (by simp only [List.length_singleton]; omega)
      simp only [oO, bindS, many1, jnE, boolS, gdB, fst', snd', e64, ext2, b_neq, decide_true, Bool.not_true, condF, bs46, e2, bop_add, hw]
      have hq2 : HP.get s2.h id = some (.row (rdr m B (q + k))) := by rw [z2.2 id hid]; exact rdS_get _ _ _ _ _
      refine hnx (_, _, _, _, _, _, _) _ ⟨rfl, q + k, xs ++ [x], ⟨hq2, Nat.lt_of_lt_of_le hR1.2.1 z2.1, by have := hR1.2.2.1; have := z2.1; rw [rdS_n] at this; omega, k1, hR.2.2.2.2⟩, ⟨Nat.le_trans hBt.1 z2.1, fun j hj hj2 => by rw [z2.2 j hj, rdS_old hj2]; exact hBt.2 j hj hj2⟩, z1, by rw [List.length_append, hxl]; rfl, ?_⟩
      rw [k2, hres]
      cases getMany (ns.drop (i + 1)) r with
      | none => rfl
      | some w => simp
  · rintro ⟨x1, x2, x3, x4, x5, x6, x7⟩ s' ⟨h1, q, xs, hR1, hBt, hG, hxl, hres⟩ nx
    simp only at h1 hG
    subst h1
    have hnlt : ¬ ((ns.length : Int) < ns.length) := by omega
    rw [List.drop_length, getMany, Option.bind_some] at hres
    simp only [List.append_nil] at hres
    simp only [f106_l0, oO, bindS, many1, jnE, boolS, gdB, fst', snd', bop_lss, hnlt, decide_false, condF, beq_yes, condT]
    have hxs : xs ≠ [] := fun e => h0 (List.length_eq_zero_iff.1 (by rw [← hxl, e]; rfl))
    have hs := grow_str (n := s.n) hG (Nat.le_refl _) (u6_str s.n) (fun x => u6_bel s.n x) hxs
    refine One.ret ⟨q, hR1.2.2.2.1, hBt, hR1.1, [x3, I 0], [sl u6 0 xs, I 0], rfl, fun c hc => ?_, by rw [List.map_cons, hs.1]; rfl, .inl ⟨xs, _, hres, rfl, rfl⟩⟩
    simp only [List.mem_cons, List.not_mem_nil, or_false] at hc
    rcases hc with rfl | rfl
    · exact hs.2
    · exact .int _ _
  · rw [List.drop_zero, hres]
    cases res <;> simp
theorem c108 {n id m p : Nat} {s : SH} {B : List UInt8} (hR : Rd id m B s p) (a b : Nat) (hab : a + b ≤ 63) : RdAns id m B s (callD Tryd.prog AB (n + 5) (.fn 108) [pt id 0, wv a b] s) (vwithin a b (lft B p)) (fun x => .tuple #[U (x : Nat), I 0]) (fun v => ∃ e : Int, e ≠ 0 ∧ v = .tuple #[U 0, I e]) := by
  refine cut_rd (fn := Tryd.f108) hR rfl rfl (by kernel_rfl) (fun a => ptup2 (.int _ _) (.int _ _)) (fun v ⟨e, _, h⟩ => by rw [h]; exact ptup2 (.int _ _) (.int _ _)) ?_
  show One (bodyD Tryd.prog false _ _ 108 Tryd.f108 _ _) _
  rw [f108_r]
  have hid := hR.2.1
  let s1 : SH := newD s (.row (wr a b))
  have n1 : s1.n = s.n + 1 := rfl
  have hE : Ext s s1 := ext1 s _
  have hR1 := hR.ext hE
  have g1 : HP.get s1.h s.n = some (.row (wr a b)) := get_n0 s _
  have b1 : boxD s (wv a b) = some (pt s.n 0, s1) := bx151 s a b
  have e83 := c83 (n := n + 3) (s := s1) a b (by omega)
  have hc := c106 (n := n) (m2 := 1) hR1 [64 - a - b] (by intro k hk; simp only [List.mem_singleton] at hk; omega) (show 1 ≤ 4 by decide) (by simp)
  obtain ⟨q, hq, hc⟩ := hc
  have hc' : sl i6 1 [64 - a - b] = fz 1 [[I ((64 - a - b : Nat) : Int)]] := rfl
  rw [hc'] at hc
  have g2 : HP.get (rdS s1 id m B q).h s.n = some (.row (wr a b)) := by rw [rdS_old (by omega)]; exact g1
  have hBt : But id s (rdS s1 id m B q) := But.rdS (But.ofExt hE)
  unfold vwithin
  cases hg : getB (64 - a - b) (lft B p) with
  | none =>
    rw [Option.bind_none]
    rcases hc with ⟨xs, r, h1, _, _⟩ | ⟨_, v, ⟨e, he, rfl⟩, e106⟩
    · rw [getMany, hg] at h1; cases h1
    · simp only [f108, oO, bindS, many1, jnE, boolS, gdB, fst', snd', b1, wld_n g1, e83, bs45_1, e106, ext2, b_neq, he, decide_false, Bool.not_false, condT]
      exact One.ret ⟨q, hq, hBt, rdS_get _ _ _ _ _, .inr ⟨rfl, e, he, rfl⟩⟩
  | some w =>
    obtain ⟨y, r⟩ := w
    rw [Option.bind_some]
    simp only
    rcases hc with ⟨xs, r', h1, h2, e106⟩ | ⟨h1, _⟩
    · rw [getMany, hg, Option.bind_some, getMany, Option.bind_some] at h1
      simp only [Option.some.injEq, Prod.mk.injEq] at h1
      obtain ⟨rfl, rfl⟩ := h1
      have hy := (getB_ok hg).2
      have hyl : y * 2 ^ b < 2 ^ 64 := by
        calc y * 2 ^ b < 2 ^ (64 - a - b) * 2 ^ b := Nat.mul_lt_mul_of_pos_right hy (Nat.two_pow_pos _)
          _ = 2 ^ (64 - a) := by rw [← Nat.pow_add, show 64 - a - b + b = 64 - a from by omega]
          _ ≤ 2 ^ 64 := Nat.pow_le_pow_right (by decide) (by omega)
      have hsh := shl64 (a := y) (k := b) (by omega) hyl
      have hix := ixs46 (m := 0) (k := .i64) (xs := [y]) u6_len (i := 0) (by simp)
      have hix : indexAddrD Tryd.prog 46 (sl u6 0 [y]) (I 0) = some (fpV (u6 y).toArray 0) := hix
      by_cases h0 : y * 2 ^ b = 0
      · rw [if_pos h0]
        have h0' : ((y * 2 ^ b : Nat) : Int) = 0 := by rw [h0]; rfl
        simp only [f108, oO, bindS, many1, jnE, boolS, gdB, fst', snd', b1, wld_n g1, e83, bs45_1, e106, ext2, b_neq, decide_true, Bool.not_true, condF, hix, ld_u6, fld151_1, wld_1 g2, hsh, bop_eql, h0', condT]
        exact One.ret ⟨q, hq, hBt, rdS_get _ _ _ _ _, .inr ⟨rfl, 50, by decide, rfl⟩⟩
      · rw [if_neg h0]
        have h0' : ¬ ((y * 2 ^ b : Nat) : Int) = 0 := by omega
        simp only [f108, oO, bindS, many1, jnE, boolS, gdB, fst', snd', b1, wld_n g1, e83, bs45_1, e106, ext2, b_neq, decide_true, Bool.not_true, condF, hix, ld_u6, fld151_1, wld_1 g2, hsh, bop_eql, h0', decide_false]
        exact One.ret ⟨q, hq, hBt, rdS_get _ _ _ _ _, .inl ⟨_, _, rfl, h2, rfl⟩⟩
    · rw [getMany, hg, Option.bind_some, getMany, Option.bind_some] at h1; cases h1
end Go.Proofs.YtmhmbmogodofeaaDoor.S

set_option autoImplicit false
set_option linter.unusedVariables false
set_option linter.unusedSimpArgs false
set_option maxRecDepth 100000
namespace Go.Proofs.YtmhmbmogodofeaaDoor.S
open Go.FS Go.RowKit
attribute [local congr] bind_cg cond_cg gd_cg

theorem wst_1 (s : SH) (a b c : Int) : storeD Tryd.prog (newD s (.row (wr a b))) 3 (pt s.n 1) (I c) = some (newD s (.row (wr a c))) := by
  rw [store_row (l := [I c]) z3 (get_n0 s (.row (wr a b))) rfl rfl rfl (show 1 + 1 ≤ 2 by decide)]
  show some (putD (newD s (.row (wr a b))) s.n (.row (wr a c))) = _
  rw [put_new]
theorem wst_n (s : SH) (id : Nat) {x y a b : Int} (h : HP.get s.h id = some (.row (wr x y))) : storeD Tryd.prog s 151 (pt id 0) (wv a b) = some (putD s id (.row (wr a b))) := st_all (l := wr a b) z151 h rfl rfl rfl
theorem ix46_0 (xs : List Nat) (h : 0 < xs.length) : indexAddrD Tryd.prog 46 (sl u6 0 xs) (I 0) = some (fpV (u6 xs[0]).toArray 0) := ixs46 (m := 0) (k := .i64) (xs := xs) u6_len h
theorem ix46_1 (xs : List Nat) (h : 1 < xs.length) : indexAddrD Tryd.prog 46 (sl u6 0 xs) (I 1) = some (fpV (u6 xs[1]).toArray 0) := ixs46 (m := 0) (k := .i64) (xs := xs) u6_len h
set_option maxHeartbeats 1600000 in
theorem c107 {n id m p : Nat} {s : SH} {B : List UInt8} (hR : Rd id m B s p) (u : XS) : RdAns id m B s (callD Tryd.prog AB (n + 6) (.fn 107) [pt id 0, wv u.lead u.trail] s) (vfresh u (lft B p)) (fun x => .tuple #[U (x : Nat), wv (nlz x) (ntz x), I 0]) (fun v => ∃ x a b e : Int, e ≠ 0 ∧ v = .tuple #[U x, wv a b, I e]) := by
  refine cut_rd (fn := Tryd.f107) hR rfl rfl (by kernel_rfl) (fun a => ptup3 (.int _ _) (wv_plain _ _) (.int _ _)) (fun v ⟨x, a, b, e, _, h⟩ => by rw [h]; exact ptup3 (.int _ _) (wv_plain _ _) (.int _ _)) ?_
  show One (bodyD Tryd.prog false _ _ 107 Tryd.f107 _ _) _
  rw [f107_r]
  have hid := hR.2.1
  let s1 : SH := newD s (.row (wr u.lead u.trail))
  let s2 : SH := newD s1 (.row (wr 0 0))
  have n1 : s1.n = s.n + 1 := rfl
  have n2 : s2.n = s.n + 2 := rfl
  have hE : Ext s s2 := ext2' s _ _
  have hR2 := hR.ext hE
  have b1 : boxD s (wv u.lead u.trail) = some (pt s.n 0, s1) := bx151 s _ _
  have b2 : allocD Tryd.prog s1 151 = some (pt s1.n 0, s2) := al151 s1
  have g1 : HP.get s2.h s.n = some (.row (wr u.lead u.trail)) := get_n1 s _ _
  have g2 : HP.get s2.h s1.n = some (.row (wr 0 0)) := get_n0 s1 _
  obtain ⟨q, hq, hc⟩ := c106 (n := n + 1) (m2 := 1) hR2 [6, 6] (by intro k hk; simp only [List.mem_cons, List.not_mem_nil, or_false] at hk; omega) (show 2 ≤ 4 by decide) (by simp)
  rw [show sl i6 1 [6, 6] = fz 1 [[I 6], [I 6]] from rfl] at hc
  have o1 : HP.get (rdS s2 id m B q).h s.n = some (.row (wr u.lead u.trail)) := by rw [rdS_old (by omega)]; exact g1
  have o2 : HP.get (rdS s2 id m B q).h s1.n = some (.row (wr 0 0)) := by rw [rdS_old (by omega)]; exact g2
  have hBt : But id s (rdS s2 id m B q) := But.rdS (But.ofExt hE)
  have gR : HP.get (rdS s2 id m B q).h id = some (.row (rdr m B q)) := rdS_get _ _ _ _ _
  have nn : (rdS s2 id m B q).n = s2.n := rfl
  unfold vfresh
  cases hg1 : getB 6 (lft B p) with
  | none =>
    rw [Option.bind_none]
    rcases hc with ⟨xs, r, h1, _, _⟩ | ⟨_, v, ⟨e, he, rfl⟩, e106⟩
    · rw [getMany, hg1] at h1; cases h1
    · have ld : loadD Tryd.prog (putD (rdS s2 id m B q) s1.n (.row (wr 0 0))) 151 (pt s1.n 0) = some (wv 0 0) := wld_n (get_put_same _)
      simp only [f107, oO, bindS, many1, jnE, boolS, gdB, fst', snd', b1, b2, bs45_2, e106, ext2, b_neq, he, decide_false, Bool.not_false, condT, bl151_0, wst_n _ _ o2, ld]
      exact One.ret ⟨q, hq, hBt.putNew (by omega) _, by rw [get_put_other (by omega)]; exact gR, .inr ⟨rfl, _, _, _, e, he, rfl⟩⟩
  | some w1 =>
    obtain ⟨L, r1⟩ := w1
    rw [Option.bind_some]
    simp only
    have hL := (getB_ok hg1).2
    cases hg2 : getB 6 r1 with
    | none =>
      rw [Option.bind_none]
      rcases hc with ⟨xs, r, h1, _, _⟩ | ⟨_, v, ⟨e, he, rfl⟩, e106⟩
      · rw [getMany, hg1, Option.bind_some, getMany, hg2] at h1; cases h1
      · have ld : loadD Tryd.prog (putD (rdS s2 id m B q) s1.n (.row (wr 0 0))) 151 (pt s1.n 0) = some (wv 0 0) := wld_n (get_put_same _)
        simp only [f107, oO, bindS, many1, jnE, boolS, gdB, fst', snd', b1, b2, bs45_2, e106, ext2, b_neq, he, decide_false, Bool.not_false, condT, bl151_0, wst_n _ _ o2, ld]
        exact One.ret ⟨q, hq, hBt.putNew (by omega) _, by rw [get_put_other (by omega)]; exact gR, .inr ⟨rfl, _, _, _, e, he, rfl⟩⟩
    | some w2 =>
      obtain ⟨M, r2⟩ := w2
      rw [Option.bind_some]
      simp only
      have hM := (getB_ok hg2).2
      rcases hc with ⟨xs, r, h1, h2, e106⟩ | ⟨h1, _⟩
      · rw [getMany, hg1, Option.bind_some, getMany, hg2, Option.bind_some, getMany, Option.bind_some] at h1
        simp only [Option.bind_some, Option.some.injEq, Prod.mk.injEq] at h1
        obtain ⟨rfl, rfl⟩ := h1
        have i0 := ix46_0 [L, M] (by simp)
        have i1 := ix46_1 [L, M] (by simp)
        simp only [List.getElem_cons_zero, List.getElem_cons_succ] at i0 i1
        have cL : IntKind.i64.wrap (L : Int) = (L : Int) := wrap_i64 (by omega) (by omega)
        have cM : IntKind.i64.wrap (M : Int) = (M : Int) := wrap_i64 (by omega) (by omega)
        have w1 : IntKind.i64.wrap (64 - (L : Int)) = 64 - (L : Int) := wrap_i64 (by omega) (by omega)
        have w2 : IntKind.i64.wrap (64 - (L : Int) - (M : Int)) = 64 - (L : Int) - (M : Int) := wrap_i64 (by omega) (by omega)
        have w3 : IntKind.i64.wrap (64 - (L : Int) - (M : Int) - 1) = 64 - (L : Int) - (M : Int) - 1 := wrap_i64 (by omega) (by omega)
        have alA : allocD Tryd.prog (rdS s2 id m B q) 151 = some (pt (rdS s2 id m B q).n 0, newD (rdS s2 id m B q) (.row (wr 0 0))) := al151 _
        have stA : storeD Tryd.prog (newD (rdS s2 id m B q) (.row (wr 0 0))) 151 (pt (rdS s2 id m B q).n 0) (wv L 0) = some (newD (rdS s2 id m B q) (.row (wr L 0))) := st151_0 _ _ _ _ _
        have ldA : loadD Tryd.prog (newD (rdS s2 id m B q) (.row (wr L 0))) 3 (pt (rdS s2 id m B q).n 0) = some (I L) := wld_0 (get_n0 _ _)
        have stB := wst_1 (rdS s2 id m B q) L 0 (64 - (L : Int) - (M : Int) - 1)
        have ldB : ∀ c : Int, loadD Tryd.prog (newD (rdS s2 id m B q) (.row (wr L c))) 3 (pt (rdS s2 id m B q).n 1) = some (I c) := fun c => wld_1 (get_n0 _ _)
        have ldC : ∀ c : Int, loadD Tryd.prog (newD (rdS s2 id m B q) (.row (wr L c))) 151 (pt (rdS s2 id m B q).n 0) = some (wv L c) := fun c => wld_n (get_n0 _ _)
        by_cases hlm : 64 < L + M + 1
        · rw [if_pos hlm]
          have hneg : 64 - (L : Int) - (M : Int) - 1 < 0 := by omega
          have stC : ∀ c : Int, storeD Tryd.prog (newD (rdS s2 id m B q) (.row (wr L c))) 151 (pt s1.n 0) (wv 0 0) = some (putD (newD (rdS s2 id m B q) (.row (wr L c))) s1.n (.row (wr 0 0))) := fun c => wst_n _ _ (x := 0) (y := 0) (by rw [get_old (by omega)]; exact o2)
          have ldD : ∀ c : Int, loadD Tryd.prog (putD (newD (rdS s2 id m B q) (.row (wr L c))) s1.n (.row (wr 0 0))) 151 (pt s1.n 0) = some (wv 0 0) := fun c => wld_n (get_put_same _)
          simp only [f107, oO, bindS, many1, jnE, boolS, gdB, fst', snd', b1, b2, bs45_2, e106, ext2, b_neq, decide_true, Bool.not_true, condF, i0, i1, ld_u6, conv_int u38 u3, cL, cM, bl151_1, alA, stA, fld151_0, fld151_1, ldA, b_sub, w1, w2, w3, stB, ldB, bop_lss, hneg, condT, bl151_0, stC, ldD]
          exact One.ret ⟨q, hq, (hBt.new _).putNew (by omega) _, by rw [get_put_other (by omega), get_old (by omega)]; exact gR, .inr ⟨rfl, _, _, _, 50, by decide, rfl⟩⟩
        · rw [if_neg hlm]
          have hT : 64 - (L : Int) - (M : Int) - 1 = ((64 - L - M - 1 : Nat) : Int) := by omega
          rw [hT] at w3 stB
          generalize hTT : 64 - L - M - 1 = T at *
          have hLT : L + T ≤ 63 := by omega
          have hnn : ¬ (T : Int) < 0 := by omega
          have hR4 : Rd id m B (newD (rdS s2 id m B q) (.row (wr L T))) q := (hR2.move hq).ext (ext1 _ _)
          have n4 : (newD (rdS s2 id m B q) (.row (wr L T))).n = s.n + 3 := rfl
          have hB4 : But id s (newD (rdS s2 id m B q) (.row (wr L T))) := hBt.new _
          have v1 : HP.get (newD (rdS s2 id m B q) (.row (wr L T))).h s.n = some (.row (wr u.lead u.trail)) := by rw [get_old (by omega)]; exact o1
          have v2 : HP.get (newD (rdS s2 id m B q) (.row (wr L T))).h s1.n = some (.row (wr 0 0)) := by rw [get_old (by omega)]; exact o2
          have v3 : HP.get (newD (rdS s2 id m B q) (.row (wr L T))).h (rdS s2 id m B q).n = some (.row (wr L T)) := get_n0 _ _
          have ldCT := ldC T
          have ldBT := ldB T
          clear ldC ldB
          obtain ⟨q2, hq2, hc2⟩ := c108 (n := n) hR4 L T hLT
          rw [h2] at hc2
          generalize newD (rdS s2 id m B q) (.row (wr L T)) = s4 at stB hR4 n4 hB4 v1 v2 v3 ldCT ldBT hc2
          have y1 : HP.get (rdS s4 id m B q2).h s.n = some (.row (wr u.lead u.trail)) := by rw [rdS_old (by omega)]; exact v1
          have y2 : HP.get (rdS s4 id m B q2).h s1.n = some (.row (wr 0 0)) := by rw [rdS_old (by omega)]; exact v2
          have y3 : HP.get (rdS s4 id m B q2).h (rdS s2 id m B q).n = some (.row (wr L T)) := by rw [rdS_old (by omega)]; exact v3
          have yE : HP.get (putD (rdS s4 id m B q2) s1.n (.row (wr L T))).h id = some (.row (rdr m B q2)) := by rw [get_put_other (by omega)]; exact rdS_get _ _ _ _ _
          have yB : But id s (putD (rdS s4 id m B q2) s1.n (.row (wr L T))) := (But.rdS hB4).putNew (by omega) _
          have stE : storeD Tryd.prog (rdS s4 id m B q2) 151 (pt s1.n 0) (wv L T) = some (putD (rdS s4 id m B q2) s1.n (.row (wr L T))) := wst_n _ _ y2
          have ldE : loadD Tryd.prog (putD (rdS s4 id m B q2) s1.n (.row (wr L T))) 151 (pt s1.n 0) = some (wv L T) := wld_n (get_put_same _)
          rcases hc2 with ⟨x, r, h3, h4, e108⟩ | ⟨h3, v, ⟨e, he, rfl⟩, e108⟩
          · obtain ⟨_, hx0, hxl, _⟩ := vwithin_ok hLT h3
            have hx64 : x < 2 ^ 64 := Nat.lt_of_lt_of_le hxl (Nat.pow_le_pow_right (by decide) (by omega))
            have e82 := oneS (c82 (n := n + 2) (s := rdS s4 id m B q2) x hx0 hx64)
            have e81 := oneS (c81 (n := n + 4) (s := rdS s4 id m B q2) u.lead u.trail L T)
            rw [h3, Option.bind_some]
            simp only
            by_cases hw : (nlz x : Int) = (L : Int) ∧ (ntz x : Int) = (T : Int)
            · have hwd : decide ((nlz x : Int) = (L : Int) ∧ (ntz x : Int) = (T : Int)) = true := decide_eq_true hw
              obtain ⟨hw1, hw2⟩ := hw
              have hw1 : nlz x = L := by omega
              have hw2 : ntz x = T := by omega
              by_cases hh : vheld u x
              · have hh' : decide (u.lead < 64 ∧ u.lead ≤ L ∧ u.trail ≤ T) = true := decide_eq_true (by rw [← hw1, ← hw2]; exact hh)
                rw [if_neg (fun h => h.2.2 hh)]
                simp only [f107, oO, bindS, many1, jnE, boolS, gdB, fst', snd', b1, b2, bs45_2, e106, ext2, b_neq, decide_true, Bool.not_true, condF, i0, i1, ld_u6, conv_int u38 u3, cL, cM, bl151_1, alA, stA, fld151_0, fld151_1, ldA, b_sub, w1, w2, hT, w3, stB, ldBT, bop_lss, hnn, decide_false, ldCT, e108, bop_eql, condT, e82, wld_n y3, w_neq, hwd, eqO_s, Bool.and_true, wld_n y1, e81, hh', stE, ldE]
                exact One.ret ⟨q2, hq2, yB, yE, .inr ⟨rfl, _, _, _, 50, by decide, rfl⟩⟩
              · have hh' : decide (u.lead < 64 ∧ u.lead ≤ L ∧ u.trail ≤ T) = false := decide_eq_false (by rw [← hw1, ← hw2]; exact hh)
                rw [if_pos ⟨hw1, hw2, hh⟩]
                simp only [f107, oO, bindS, many1, jnE, boolS, gdB, fst', snd', b1, b2, bs45_2, e106, ext2, b_neq, decide_true, Bool.not_true, condF, i0, i1, ld_u6, conv_int u38 u3, cL, cM, bl151_1, alA, stA, fld151_0, fld151_1, ldA, b_sub, w1, w2, hT, w3, stB, ldBT, bop_lss, hnn, decide_false, ldCT, e108, bop_eql, condT, e82, wld_n y3, w_neq, hwd, eqO_s, Bool.and_true, wld_n y1, e81, hh', stE, ldE]
                refine One.ret ⟨q2, hq2, yB, yE, .inl ⟨x, r, rfl, h4, ?_⟩⟩
                show _ = Value.tuple #[U (x : Int), wv (nlz x) (ntz x), I 0]
                rw [hw1, hw2]
            · have hwd : decide ((nlz x : Int) = (L : Int) ∧ (ntz x : Int) = (T : Int)) = false := decide_eq_false hw
              rw [if_neg (fun h => hw ⟨by omega, by omega⟩)]
              simp only [f107, oO, bindS, many1, jnE, boolS, gdB, fst', snd', b1, b2, bs45_2, e106, ext2, b_neq, decide_true, Bool.not_true, condF, i0, i1, ld_u6, conv_int u38 u3, cL, cM, bl151_1, alA, stA, fld151_0, fld151_1, ldA, b_sub, w1, w2, hT, w3, stB, ldBT, bop_lss, hnn, decide_false, ldCT, e108, bop_eql, condT, e82, wld_n y3, w_neq, hwd, Bool.not_false, eqO_s, Bool.and_true, stE, ldE]
              exact One.ret ⟨q2, hq2, yB, yE, .inr ⟨rfl, _, _, _, 50, by decide, rfl⟩⟩
          · rw [h3, Option.bind_none]
            simp only [f107, oO, bindS, many1, jnE, boolS, gdB, fst', snd', b1, b2, bs45_2, e106, ext2, b_neq, decide_true, Bool.not_true, condF, i0, i1, ld_u6, conv_int u38 u3, cL, cM, bl151_1, alA, stA, fld151_0, fld151_1, ldA, b_sub, w1, w2, hT, w3, stB, ldBT, bop_lss, hnn, decide_false, ldCT, e108, bop_eql, he, condT, wld_n y3, stE, ldE]
            exact One.ret ⟨q2, hq2, yB, yE, .inr ⟨rfl, _, _, _, e, he, rfl⟩⟩
      · rw [getMany, hg1, Option.bind_some, getMany, hg2, Option.bind_some, getMany, Option.bind_some] at h1; cases h1
end Go.Proofs.YtmhmbmogodofeaaDoor.S
