import Derived.Test.YtmhmbmogodofeaaDoorMJ
set_option autoImplicit false
set_option linter.unusedVariables false
set_option linter.unusedSimpArgs false
set_option maxRecDepth 100000
namespace Go.Proofs.YtmhmbmogodofeaaDoor.S
open Go.FS Go.RowKit
attribute [local congr] bind_cg cond_cg gd_cg

def RqAns {α : Type} (id m : Nat) (B : List UInt8) (s : SH) (call : Option (List (Value × SH))) (res : Option (α × List Bool)) (ok : α → Value) (bad : Value → Prop) : Prop :=
  ∃ p, p ≤ B.length * 8 ∧ ((∃ a r, res = some (a, r) ∧ lft B p = r ∧ call = some [(ok a, rqS s id m B p)]) ∨ (res = none ∧ ∃ v, bad v ∧ call = some [(v, rqS s id m B p)]))
def RqQ {α : Type} (id m : Nat) (B : List UInt8) (s : SH) (res : Option (α × List Bool)) (ok : α → Value) (bad : Value → Prop) (v : Value) (s' : SH) : Prop :=
  ∃ p, p ≤ B.length * 8 ∧ But id s s' ∧ HP.get s'.h id = some (.row (rqr m B p)) ∧ ((∃ a r, res = some (a, r) ∧ lft B p = r ∧ v = ok a) ∨ (res = none ∧ bad v))
theorem rqr_bel {m n : Nat} (hm : m < n + 3) (B : List UInt8) (p : Nat) : ∀ x ∈ rqr m B p, Bel n x := fun x hx => by
  simp only [List.mem_cons, List.not_mem_nil, or_false] at hx
  rcases hx with rfl | rfl
  · exact bel_sl hm fun b => by_bel n b
  · exact .int _ _
theorem cut_rq {α : Type} {k id m p : Nat} {B : List UInt8} {s : SH} {f : FuncId} {fn : Func} {args : List Value} {res : Option (α × List Bool)} {ok : α → Value} {bad : Value → Prop} (hR : Rq id m B s p) (hI : AB.i f = none) (hc : AB.cut f = some [none]) (hf : (Tryd.prog).funcs[f]? = some fn)
    (hok : ∀ a, PTup (ok a)) (hbad : ∀ v, bad v → PTup v) (h : One (bodyD Tryd.prog (AB.row f) (callD Tryd.prog AB k) AB.N f fn args s) (RqQ id m B s res ok bad)) : RqAns id m B s (callD Tryd.prog AB (k + 1) (.fn f) args s) res ok bad := by
  obtain ⟨v, s', e, q, hq, h1, h2, h3⟩ := h
  have hv : PTup v := by
    rcases h3 with ⟨a, r, _, _, rfl⟩ | ⟨_, hb⟩
    · exact hok a
    · exact hbad v hb
  obtain ⟨l, rfl, hl⟩ := hv
  obtain ⟨y1, y2⟩ := plain_map hl s.n
  have key : callD Tryd.prog AB (k + 1) (.fn f) args s = some [(.tuple l.toArray, putD s id (.row (rqr m B q)))] :=
    cutT_but (l := l) hI hc hf hR.2.1 (rqr_bel hR.2.2.1 B q) ⟨_, s', e, l, rfl, y1, y2, h1, h2⟩
  refine ⟨q, hq, ?_⟩
  rcases h3 with ⟨a, r, k1, k2, k3⟩ | ⟨k1, k2⟩
  · exact .inl ⟨a, r, k1, k2, by rw [← k3]; exact key⟩
  · exact .inr ⟨k1, _, k2, key⟩
theorem But.rqS {id m p : Nat} {B : List UInt8} {a b : SH} (h : But id a b) : But id a (rqS b id m B p) := h.put _
theorem c34 {n : Nat} {s : SH} : callD Tryd.prog AB (n + 1) (.fn 34) [] s = some [(xsV ⟨0, 0, 64, 0⟩, s)] := by
  refine cut_plain (fn := Tryd.f34) rfl rfl (by kernel_rfl) (fun _ h => by cases h) (vs_plain _ _ _ _) ?_
  show One (bodyD Tryd.prog false _ _ 34 Tryd.f34 _ _) _
  rw [f34_r]
  have a1 : allocD Tryd.prog s 81 = some (pt s.n 0, newD s (.row (vr 0 0 0 0))) := alloc_at zr81
  have b1 : buildD Tryd.prog 81 [(2, I 64)] = some (vs 0 0 64 0) := by kernel_rfl
  have s1 : storeD Tryd.prog (newD s (.row (vr 0 0 0 0))) 81 (pt s.n 0) (vs 0 0 64 0) = some (newD s (.row (vr 0 0 64 0))) := st_n0 (l := vr 0 0 64 0) s z81 rfl rfl rfl
  have p1 : partD Tryd.prog 81 (vr 0 0 64 0) 0 = some (vs 0 0 64 0) := part_agg a81 z81 rfl rfl
  simp only [f34, oO, bindS, many1, jnE, boolS, gdB, fst', snd', a1, b1, s1, ld_n0, ld_n1, ld_n2, ld_n3, p3_0, p3_1, p3_2, p3_3, p38_0, p38_1, p1]
  exact One.ret ⟨rfl, ext1 s _⟩
/-! The reference's stamp.Get. -/
theorem al79 (s : SH) : allocD Tryd.prog s 79 = some (pt s.n 0, newD s (.row (tr 0 0 0))) := alloc_at zr79
theorem bl79_0 : buildD Tryd.prog 79 [] = some (ts 0 0 0) := by kernel_rfl
theorem bl79 (a b c : Int) : buildD Tryd.prog 79 [(0, I a), (1, I b), (2, I c)] = some (ts a b c) := by kernel_rfl
theorem hst {s : SH} {id : Nat} {x y z a b c : Int} (h : HP.get s.h id = some (.row (tr x y z))) : storeD Tryd.prog s 79 (pt id 0) (ts a b c) = some (putD s id (.row (tr a b c))) := st_all (l := tr a b c) z79 h rfl rfl rfl
theorem hld {s : SH} {id : Nat} {a b c : Int} (h : HP.get s.h id = some (.row (tr a b c))) : loadD Tryd.prog s 79 (pt id 0) = some (ts a b c) := by rw [load_row h]; exact part_agg a79 z79 rfl rfl
theorem bs45_5 (s : SH) : buildSliceD Tryd.prog false s 45 5 [(0, I 0), (1, I 7), (2, I 12), (3, I 20), (4, I 48)] = some (sl i6 1 [0, 7, 12, 20, 48], s) := by kernel_rfl
theorem tw_get {k : Nat} (h : k < 5) : ([0, 7, 12, 20, 48] : List Nat)[k] = tw k := by
  rcases lt5 h with rfl | rfl | rfl | rfl | rfl <;> rfl
set_option maxHeartbeats 1600000 in
theorem c35 {n id m p : Nat} {s : SH} {B : List UInt8} (hR : Rq id m B s p) (u : TS) (hu : TSok u) (hn : u.n ≤ 4096) : RqAns id m B s (callD Tryd.prog AB (n + 3) (.fn 35) [pt id 0, tsV u] s) (tget u (lft B p)) (fun t => .tuple #[tsV (tnext u t), I (t : Nat), I 0]) (fun v => ∃ e : Int, e ≠ 0 ∧ v = .tuple #[ts 0 0 0, I 0, I e]) := by
  refine cut_rq (fn := Tryd.f35) hR rfl rfl (by kernel_rfl) (fun a => ptup3 (ts_plain _ _ _) (.int _ _) (.int _ _)) (fun v ⟨e, _, h⟩ => by rw [h]; exact ptup3 (ts_plain _ _ _) (.int _ _) (.int _ _)) ?_
  show One (bodyD Tryd.prog false _ _ 35 Tryd.f35 _ _) _
  rw [f35_r]
  have hid := hR.2.1
  have e67 := fun s => c67 (n := n + 1) (s := s) u hn hu
  obtain ⟨hu1, hu2⟩ := hu
  unfold mxT at hu1 hu2
  let s1 : SH := newD s (.row (tr u.n u.last u.delta))
  let s2 : SH := newD s1 (.row (tr 0 0 0))
  have b1 : boxD s (tsV u) = some (pt s.n 0, s1) := bx79 s _ _ _
  have b2 : allocD Tryd.prog s1 79 = some (pt s1.n 0, s2) := al79 s1
  have n1 : s1.n = s.n + 1 := rfl
  have n2 : s2.n = s.n + 2 := rfl
  have g1 : HP.get s2.h s.n = some (.row (tr u.n u.last u.delta)) := get_n1 s _ _
  have g2 : HP.get s2.h s1.n = some (.row (tr 0 0 0)) := get_n0 s1 _
  have hE : Ext s s2 := ext2' s _ _
  have m1 : loadD Tryd.prog s2 79 (pt s.n 0) = some (tsV u) := hld g1
  have hR2 := hR.ext hE
  have o1 : ∀ q, HP.get (rqS s2 id m B q).h s.n = some (.row (tr u.n u.last u.delta)) := fun q => by rw [rqS_old (by omega)]; exact g1
  have st : ∀ q (a b c : Int), storeD Tryd.prog (rqS s2 id m B q) 79 (pt s1.n 0) (ts a b c) = some (putD (rqS s2 id m B q) s1.n (.row (tr a b c))) := fun q a b c => hst (x := 0) (y := 0) (z := 0) (by rw [rqS_old (by omega)]; exact g2)
  have ld : ∀ (t : SH) (a b c : Int), loadD Tryd.prog (putD t s1.n (.row (tr a b c))) 79 (pt s1.n 0) = some (ts a b c) := fun t a b c => hld (get_put_same _)
  have bt : ∀ q (a b c : Int), But id s (putD (rqS s2 id m B q) s1.n (.row (tr a b c))) ∧ HP.get (putD (rqS s2 id m B q) s1.n (.row (tr a b c))).h id = some (.row (rqr m B q)) := fun q a b c =>
    ⟨(But.rqS (But.ofExt hE)).putNew (by omega) _, by rw [get_put_other (by omega)]; exact rqS_get _ _ _ _ _⟩
  by_cases h0 : u.n = 0
  · have hz : (u.n : Int) = 0 := by omega
    unfold tget
    rw [if_pos h0]
    cases hg : getB 46 (lft B p) with
    | none =>
      have e37 := c37_no (n := n + 1) (k := 46) hR2 (by decide) hg
      rw [Option.bind_none]
      have e37 : callD Tryd.prog AB (n + 2) (.fn 37) [pt id 0, I 46] s2 = some [(.tuple #[U 0, I 50], rqS s2 id m B p)] := by rw [hR2.same]; exact e37
      simp only [f35, oO, bindS, many1, jnE, boolS, gdB, fst', snd', b1, b2, m1, e67, uop_not, Bool.not_true, condF, fld79_0, tld_0 g1, bop_eql, hz, decide_true, condT, e37, ext2, b_neq, show ¬ (50 : Int) = 0 from by decide, decide_false, Bool.not_false, bl79_0, st, ld]
      exact One.ret ⟨p, hR.2.2.2.1, (bt p 0 0 0).1, (bt p 0 0 0).2, .inr ⟨rfl, _, by decide, rfl⟩⟩
    | some a =>
      obtain ⟨x, r⟩ := a
      rw [Option.bind_some]
      simp only
      obtain ⟨e37, k1, k2⟩ := c37_ok (n := n + 1) (k := 46) hR2 (by decide) hg
      have e37 : callD Tryd.prog AB (n + 2) (.fn 37) [pt id 0, I 46] s2 = some [(.tuple #[U x, I 0], rqS s2 id m B (p + 46))] := e37
      have hx := (getB_ok hg).2
      have hwx : IntKind.i64.wrap (x : Int) = (x : Int) := wrap_i64 (by omega) (by omega)
      by_cases hm : x ≤ mxT
      · have hng : ¬ (x : Int) > 35184372088832 := by unfold mxT at hm; omega
        rw [if_pos hm]
        simp only [f35, oO, bindS, many1, jnE, boolS, gdB, fst', snd', b1, b2, m1, e67, uop_not, Bool.not_true, condF, fld79_0, tld_0 g1, bop_eql, hz, decide_true, condT, e37, ext2, b_neq, bop_gtr, hng, decide_false, conv_int u38 u3, hwx, bl79, st, ld]
        refine One.ret ⟨_, k1, (bt _ _ _ _).1, (bt _ _ _ _).2, .inl ⟨x, r, rfl, k2, ?_⟩⟩
        show _ = Value.tuple #[tsV (tnext u x), I (x : Int), I 0]
        unfold tnext
        rw [if_pos h0]
        rfl
      · have hng : (x : Int) > 35184372088832 := by unfold mxT at hm; omega
        rw [if_neg hm]
        simp only [f35, oO, bindS, many1, jnE, boolS, gdB, fst', snd', b1, b2, m1, e67, uop_not, Bool.not_true, condF, fld79_0, tld_0 g1, bop_eql, hz, decide_true, condT, e37, ext2, b_neq, bop_gtr, hng, bl79_0, st, ld]
        exact One.ret ⟨_, k1, (bt _ _ _ _).1, (bt _ _ _ _).2, .inr ⟨rfl, _, by decide, rfl⟩⟩
  · have hz : ¬ (u.n : Int) = 0 := by omega
    have htg : tget u (lft B p) = (tdiff (lft B p)).bind fun p => if tmay u ((u.last : Int) + u.delta + p.1) then some (((u.last : Int) + u.delta + p.1).toNat, p.2) else none := by unfold tget; rw [if_neg h0]
    rw [htg]
    unfold tdiff
    generalize hld0 : tlead 4 0 (lft B p) = ld0
    simp only [f35, oO, bindS, many1, jnE, boolS, gdB, fst', snd', b1, b2, m1, e67, uop_not, Bool.not_true, condF, fld79_0, tld_0 g1, bop_eql, hz, decide_false]
    -- the ones
    have exit : ∀ (q k : Nat) (y1 y2 y4 y5 : Value), q ≤ B.length * 8 → k ≤ 4 → ld0 = some (k, lft B q) → One ((buildSliceD Tryd.prog false (rqS s2 id m B q) 45 5 [(0, I 0), (1, I 7), (2, I 12), (3, I 20), (4, I 48)]).bind fun p56 =>
        (indexAddrD Tryd.prog 45 p56.1 (I (k : Int))).bind fun v57 =>
        (loadD Tryd.prog p56.2 3 v57).bind fun v58 =>
        (callD Tryd.prog AB (n + 2) (.fn 37) [pt id 0, v58] p56.2).bind fun L59 => manyK L59 fun v60 s61 =>
        (extractD v60 0).bind fun v62 =>
        (extractD v60 1).bind fun v63 =>
        (bopD Tryd.prog .neq 25 v63 (.int .i64 0)).bind fun v64 =>
        (boolD v64).bind fun b65 => cond b65 (
        (buildD Tryd.prog 79 []).bind fun v66 =>
        (storeD Tryd.prog s61 79 (pt s1.n 0) v66).bind fun s67 =>
        (loadD Tryd.prog s67 79 (pt s1.n 0)).bind fun v68 => some [(.tuple #[v68, (.int .i64 0), v63], s67)]) (
        (callD Tryd.prog AB (n + 2) (.fn 68) [v62] s61).bind fun L69 => manyK L69 fun v70 s71 =>
        (extractD v70 0).bind fun v72 =>
        (extractD v70 1).bind fun v73 =>
        (bopD Tryd.prog .neq 3 v72 (I (k : Int))).bind fun v74 =>
        (boolD v74).bind fun b75 => cond b75 (
        (buildD Tryd.prog 79 []).bind fun v76 =>
        (storeD Tryd.prog s71 79 (pt s1.n 0) v76).bind fun s77 =>
        (loadD Tryd.prog s77 79 (pt s1.n 0)).bind fun v78 => some [(.tuple #[v78, (.int .i64 0), (.int .i64 60)], s77)]) (
        (bopD Tryd.prog .quo 38 v62 (.int .u64 2)).bind fun v79 =>
        (convertD Tryd.prog false s71 38 3 v79).bind fun p80 =>
        (bopD Tryd.prog .rem 38 v62 (.int .u64 2)).bind fun v81 =>
        (bopD Tryd.prog .eql 38 v81 (.int .u64 1)).bind fun v82 =>
        jn (fun (j324_17 : Value) (js324 : SH) =>
        (fieldAddrD Tryd.prog 79 (pt s.n 0) 2).bind fun v116 =>
        (loadD Tryd.prog js324 3 v116).bind fun v117 =>
        (bopD Tryd.prog .add 3 v117 j324_17).bind fun v118 =>
        jn (fun (j333_104 : Value) =>
        (boolD j333_104).bind fun b128 => cond b128 (
        (buildD Tryd.prog 79 []).bind fun v129 =>
        (storeD Tryd.prog js324 79 (pt s1.n 0) v129).bind fun s130 =>
        (loadD Tryd.prog s130 79 (pt s1.n 0)).bind fun v131 => some [(.tuple #[v131, (.int .i64 0), (.int .i64 60)], s130)]) (
        (fieldAddrD Tryd.prog 79 (pt s.n 0) 0).bind fun v132 =>
        (loadD Tryd.prog js324 3 v132).bind fun v133 =>
        (bopD Tryd.prog .add 3 v133 (.int .i64 1)).bind fun v134 =>
        (fieldAddrD Tryd.prog 79 (pt s.n 0) 1).bind fun v135 =>
        (loadD Tryd.prog js324 3 v135).bind fun v136 =>
        (bopD Tryd.prog .add 3 v136 v118).bind fun v137 =>
        (buildD Tryd.prog 79 [(0, v134), (1, v137), (2, v118)]).bind fun v138 =>
        (fieldAddrD Tryd.prog 79 (pt s.n 0) 1).bind fun v139 =>
        (loadD Tryd.prog js324 3 v139).bind fun v140 =>
        (bopD Tryd.prog .add 3 v140 v118).bind fun v141 =>
        (storeD Tryd.prog js324 79 (pt s1.n 0) v138).bind fun s142 =>
        bif (eqO HP (loadD Tryd.prog js324 3 v139) v140 && (eqO HP (loadD Tryd.prog s142 3 v139) v140 && (true))) && (true) then
        (loadD Tryd.prog s142 79 (pt s1.n 0)).bind fun v143 => some [(.tuple #[v143, v141, (.int .i64 0)], s142)]
        else none)) fun k333 =>
        (bopD Tryd.prog .lss 3 v118 (.int .i64 1)).bind fun v119 =>
        gd v119 (
        k333 (.bool true)) (
        (fieldAddrD Tryd.prog 79 (pt s.n 0) 1).bind fun v120 =>
        (loadD Tryd.prog js324 3 v120).bind fun v121 =>
        (bopD Tryd.prog .sub 3 (.int .i64 35184372088832) v121).bind fun v122 =>
        (bopD Tryd.prog .gtr 3 v118 v122).bind fun v123 =>
        k333 v123) (
        none)) fun k324 =>
        (boolD v82).bind fun b83 => cond b83 (
        (bopD Tryd.prog .quo 38 v62 (.int .u64 2)).bind fun v84 =>
        (convertD Tryd.prog false p80.2 38 3 v84).bind fun p85 =>
        (uopD Tryd.prog .neg p85.1).bind fun v86 =>
        (bopD Tryd.prog .sub 3 v86 (.int .i64 1)).bind fun v87 =>
        k324 v87 p85.2) (
        k324 p80.1 p80.2)))) (RqQ id m B s ((ld0.bind fun p => (getB (tw p.1) p.2).bind fun q => if tcls q.1 = p.1 then some (unfoldZ q.1, q.2) else none).bind fun p => if tmay u ((u.last : Int) + u.delta + p.1) then some (((u.last : Int) + u.delta + p.1).toNat, p.2) else none) (fun t => .tuple #[tsV (tnext u t), I (t : Nat), I 0]) (fun v => ∃ e : Int, e ≠ 0 ∧ v = .tuple #[ts 0 0 0, I 0, I e])) := by
      intro q k y1 y2 y4 y5 hq hk hld1
      rw [hld1, Option.bind_some]
      simp only
      have hk5 : k < 5 := by omega
      have hix := ixs45 (m := 1) (k := .i64) (xs := [0, 7, 12, 20, 48]) i6_len (i := k) (by simp; omega)
      rw [tw_get hk5] at hix
      have hRq := hR2.move hq
      have htw := tw_le k
      cases hg : getB (tw k) (lft B q) with
      | none =>
        have e37 := c37_no (n := n + 1) (k := tw k) hRq (by omega) hg
        rw [Option.bind_none, Option.bind_none]
        simp only [oO, bindS, many1, jnE, boolS, gdB, fst', snd', bs45_5, hix, ld_i6, e37, ext2, b_neq, show ¬ (50 : Int) = 0 from by decide, decide_false, Bool.not_false, condT, bl79_0, st, ld]
        exact One.ret ⟨q, hq, (bt q 0 0 0).1, (bt q 0 0 0).2, .inr ⟨rfl, _, by decide, rfl⟩⟩
      | some a =>
        obtain ⟨z, r⟩ := a
        rw [Option.bind_some]
        simp only
        obtain ⟨e37, k1, k2⟩ := c37_ok (n := n + 1) (k := tw k) hRq (by omega) hg
        rw [rqS_rqS] at e37
        have hz48 : z < 2 ^ 48 := Nat.lt_of_lt_of_le (getB_ok hg).2 (Nat.pow_le_pow_right (by decide) htw)
        have e68 := c68 (n := n + 1) (s := rqS s2 id m B (q + tw k)) z
        by_cases hc : tcls z = k
        · have hc' : (tcls z : Int) = (k : Int) := by omega
          rw [if_pos hc, Option.bind_some]
          simp only
          have hquo : IntKind.u64.wrap (Int.tdiv (z : Int) 2) = ((z / 2 : Nat) : Int) := by
            have : Int.tdiv (z : Int) 2 = ((z / 2 : Nat) : Int) := rfl
            rw [this, wrap_u64n _ (by omega)]
          have hcv : IntKind.i64.wrap ((z / 2 : Nat) : Int) = ((z / 2 : Nat) : Int) := wrap_i64n _ (by omega)
          have hrem : Int.tmod (z : Int) 2 = ((z % 2 : Nat) : Int) := rfl
          have hneg : IntKind.i64.wrap (0 - ((z / 2 : Nat) : Int)) = -((z / 2 : Nat) : Int) := by rw [wrap_i64 (by omega) (by omega)]; omega
          have hsb : IntKind.i64.wrap (-((z / 2 : Nat) : Int) - 1) = -((z / 2 : Nat) : Int) - 1 := wrap_i64 (by omega) (by omega)
          generalize hdd : unfoldZ z = dd
          have hdb : -2 ^ 48 ≤ dd ∧ dd ≤ 2 ^ 48 := by rw [← hdd]; unfold unfoldZ; split <;> omega
          have w1 : IntKind.i64.wrap ((u.delta : Int) + dd) = (u.delta : Int) + dd := wrap_i64 (by omega) (by omega)
          have w2 : IntKind.i64.wrap (35184372088832 - (u.last : Int)) = 35184372088832 - (u.last : Int) := wrap_i64 (by omega) (by omega)
          have w3 : IntKind.i64.wrap ((u.n : Int) + 1) = ((u.n + 1 : Nat) : Int) := by rw [wrap_i64 (by omega) (by omega)]; rfl
          have hodd : z % 2 = 1 ∧ dd = -((z / 2 : Nat) : Int) - 1 ∨ z % 2 = 0 ∧ dd = ((z / 2 : Nat) : Int) := by
            rw [← hdd]
            unfold unfoldZ
            rcases Nat.mod_two_eq_zero_or_one z with h | h
            · exact .inr ⟨h, by rw [if_neg (by omega)]⟩
            · exact .inl ⟨h, by rw [if_pos h]⟩
          by_cases hm : tmay u ((u.last : Int) + u.delta + dd)
          · obtain ⟨hm1, hm2, hm3⟩ := hm
            have hm : tmay u ((u.last : Int) + u.delta + dd) := ⟨hm1, hm2, hm3⟩
            unfold mxT at hm2
            have q1 : ¬ ((u.delta : Int) + dd < 1) := by omega
            have q2 : ¬ ((u.delta : Int) + dd > 35184372088832 - (u.last : Int)) := by omega
            have w4 : IntKind.i64.wrap ((u.last : Int) + ((u.delta : Int) + dd)) = (u.last : Int) + u.delta + dd := by rw [wrap_i64 (by omega) (by omega)]; omega
            obtain ⟨tn, htn⟩ : ∃ tn : Nat, (u.last : Int) + u.delta + dd = tn := ⟨((u.last : Int) + u.delta + dd).toNat, by omega⟩
            have hdl : (u.delta : Int) + dd = ((tn - u.last : Nat) : Int) := by omega
            have hnx : tnext u tn = ⟨u.n + 1, tn, tn - u.last⟩ := by unfold tnext; rw [if_neg h0]
            rw [if_pos hm]
            have fin : RqQ id m B s (some (((u.last : Int) + u.delta + dd).toNat, r)) (fun t => .tuple #[tsV (tnext u t), I (t : Nat), I 0]) (fun v => ∃ e : Int, e ≠ 0 ∧ v = .tuple #[ts 0 0 0, I 0, I e]) (.tuple #[ts ((u.n + 1 : Nat) : Int) ((u.last : Int) + u.delta + dd) ((u.delta : Int) + dd), I ((u.last : Int) + u.delta + dd), I 0]) (putD (rqS s2 id m B (q + tw k)) s1.n (.row (tr ((u.n + 1 : Nat) : Int) ((u.last : Int) + u.delta + dd) ((u.delta : Int) + dd)))) := by
              refine ⟨_, k1, (bt _ _ _ _).1, (bt _ _ _ _).2, .inl ⟨_, r, rfl, k2, ?_⟩⟩
              rw [htn, hdl]
              show _ = Value.tuple #[tsV (tnext u (tn : Int).toNat), I (((tn : Int).toNat : Nat) : Int), I 0]
              rw [Int.toNat_natCast, hnx]
              rfl
            have l3 : loadD Tryd.prog (putD (rqS s2 id m B (q + tw k)) s1.n (.row (tr ((u.n + 1 : Nat) : Int) ((u.last : Int) + u.delta + dd) ((u.delta : Int) + dd)))) 3 (pt s.n 1) = some (I u.last) := tld_1 (by rw [get_put_other (by omega)]; exact o1 _)
            rcases hodd with ⟨hz1, hz2⟩ | ⟨hz1, hz2⟩
            · have hz1' : decide (((z % 2 : Nat) : Int) = 1) = true := decide_eq_true (by omega)
              have hsb : IntKind.i64.wrap (-((z / 2 : Nat) : Int) - 1) = dd := by rw [hsb, hz2]
              simp only [oO, bindS, many1, jnE, boolS, gdB, fst', snd', bs45_5, hix, ld_i6, e37, ext2, b_neq, decide_true, Bool.not_true, condF, e68, hc', b_quo _ _ _ _ (show (2 : Int) ≠ 0 by decide), hquo, conv_int u38 u3, hcv, b_rem _ _ _ _ (show (2 : Int) ≠ 0 by decide), hrem, bop_eql, hz1', condT, uop_neg, hneg, b_sub, hsb, fld79_0, fld79_1, fld79_2, tld_0 (o1 _), tld_1 (o1 _), tld_2 (o1 _), bop_add, w1, bop_lss, q1, decide_false, w2, bop_gtr, q2, w3, w4, bl79, st, l3, eqO_s, Bool.and_true, ld]
              exact One.ret fin
            · have hz1' : decide (((z % 2 : Nat) : Int) = 1) = false := decide_eq_false (by omega)
              rw [← hz2] at hcv hquo
              simp only [oO, bindS, many1, jnE, boolS, gdB, fst', snd', bs45_5, hix, ld_i6, e37, ext2, b_neq, decide_true, Bool.not_true, condF, e68, hc', b_quo _ _ _ _ (show (2 : Int) ≠ 0 by decide), hquo, conv_int u38 u3, hcv, b_rem _ _ _ _ (show (2 : Int) ≠ 0 by decide), hrem, bop_eql, hz1', condT, fld79_0, fld79_1, fld79_2, tld_0 (o1 _), tld_1 (o1 _), tld_2 (o1 _), bop_add, w1, bop_lss, q1, decide_false, b_sub, w2, bop_gtr, q2, w3, w4, bl79, st, l3, eqO_s, Bool.and_true, ld]
              exact One.ret fin
          · rw [if_neg hm]
            have fin : RqQ id m B s none (fun t => .tuple #[tsV (tnext u t), I (t : Nat), I 0]) (fun v => ∃ e : Int, e ≠ 0 ∧ v = .tuple #[ts 0 0 0, I 0, I e]) (.tuple #[ts 0 0 0, I 0, I 60]) (putD (rqS s2 id m B (q + tw k)) s1.n (.row (tr 0 0 0))) := ⟨_, k1, (bt _ _ _ _).1, (bt _ _ _ _).2, .inr ⟨rfl, _, by decide, rfl⟩⟩
            have hq12 : (u.delta : Int) + dd < 1 ∨ (u.delta : Int) + dd > 35184372088832 - (u.last : Int) := by
              by_cases h1 : (u.delta : Int) + dd < 1
              · exact .inl h1
              · refine .inr (Int.not_le.1 fun h2 => hm ⟨by omega, by unfold mxT; omega, .inr (by omega)⟩)
            have conv2 : ∀ b : Bool, decide ((u.delta : Int) + dd < 1) = b → (b = false → decide ((u.delta : Int) + dd > 35184372088832 - (u.last : Int)) = true) := fun b hb hbf => by
              subst hbf
              rcases hq12 with h | h
              · rw [decide_eq_true h] at hb; cases hb
              · exact decide_eq_true h
            rcases hodd with ⟨hz1, hz2⟩ | ⟨hz1, hz2⟩
            · have hz1' : decide (((z % 2 : Nat) : Int) = 1) = true := decide_eq_true (by omega)
              have hsb : IntKind.i64.wrap (-((z / 2 : Nat) : Int) - 1) = dd := by rw [hsb, hz2]
              cases hb : decide ((u.delta : Int) + dd < 1)
              · have hb2 := conv2 _ hb rfl
                simp only [oO, bindS, many1, jnE, boolS, gdB, fst', snd', bs45_5, hix, ld_i6, e37, ext2, b_neq, decide_true, Bool.not_true, condF, e68, hc', b_quo _ _ _ _ (show (2 : Int) ≠ 0 by decide), hquo, conv_int u38 u3, hcv, b_rem _ _ _ _ (show (2 : Int) ≠ 0 by decide), hrem, bop_eql, hz1', condT, uop_neg, hneg, b_sub, hsb, fld79_1, fld79_2, tld_1 (o1 _), tld_2 (o1 _), bop_add, w1, bop_lss, hb, w2, bop_gtr, hb2, bl79_0, st, ld]
                exact One.ret fin
              · simp only [oO, bindS, many1, jnE, boolS, gdB, fst', snd', bs45_5, hix, ld_i6, e37, ext2, b_neq, decide_true, Bool.not_true, condF, e68, hc', b_quo _ _ _ _ (show (2 : Int) ≠ 0 by decide), hquo, conv_int u38 u3, hcv, b_rem _ _ _ _ (show (2 : Int) ≠ 0 by decide), hrem, bop_eql, hz1', condT, uop_neg, hneg, b_sub, hsb, fld79_2, tld_2 (o1 _), bop_add, w1, bop_lss, hb, bl79_0, st, ld]
                exact One.ret fin
            · have hz1' : decide (((z % 2 : Nat) : Int) = 1) = false := decide_eq_false (by omega)
              rw [← hz2] at hcv hquo
              cases hb : decide ((u.delta : Int) + dd < 1)
              · have hb2 := conv2 _ hb rfl
                simp only [oO, bindS, many1, jnE, boolS, gdB, fst', snd', bs45_5, hix, ld_i6, e37, ext2, b_neq, decide_true, Bool.not_true, condF, e68, hc', b_quo _ _ _ _ (show (2 : Int) ≠ 0 by decide), hquo, conv_int u38 u3, hcv, b_rem _ _ _ _ (show (2 : Int) ≠ 0 by decide), hrem, bop_eql, hz1', condT, fld79_1, fld79_2, tld_1 (o1 _), tld_2 (o1 _), bop_add, w1, bop_lss, hb, b_sub, w2, bop_gtr, hb2, bl79_0, st, ld]
                exact One.ret fin
              · simp only [oO, bindS, many1, jnE, boolS, gdB, fst', snd', bs45_5, hix, ld_i6, e37, ext2, b_neq, decide_true, Bool.not_true, condF, e68, hc', b_quo _ _ _ _ (show (2 : Int) ≠ 0 by decide), hquo, conv_int u38 u3, hcv, b_rem _ _ _ _ (show (2 : Int) ≠ 0 by decide), hrem, bop_eql, hz1', condT, fld79_2, tld_2 (o1 _), bop_add, w1, bop_lss, hb, bl79_0, st, ld]
                exact One.ret fin
        · have hc' : ¬ (tcls z : Int) = (k : Int) := by omega
          rw [if_neg hc, Option.bind_none]
          simp only [oO, bindS, many1, jnE, boolS, gdB, fst', snd', bs45_5, hix, ld_i6, e37, ext2, b_neq, decide_true, Bool.not_true, condF, e68, hc', decide_false, Bool.not_false, condT, bl79_0, st, ld]
          exact One.ret ⟨_, k1, (bt _ _ _ _).1, (bt _ _ _ _).2, .inr ⟨rfl, _, by decide, rfl⟩⟩
    refine list_one (List.replicate 4 ()) (fun i (y : Value × Value × Value × Value × Value) (s' : SH) => y.2.2.1 = I (i : Int) ∧ ∃ q, s' = rqS s2 id m B q ∧ q ≤ B.length * 8 ∧ ld0 = tlead (4 - i) i (lft B q)) ?_ ?_ ⟨rfl, p, hR2.same.symm, hR.2.2.2.1, hld0.symm⟩ (by rw [List.length_replicate]; show _ < 2 ^ 64; omega)
    · rintro i hi ⟨y1, y2, y3, y4, y5⟩ s' ⟨e1, q, rfl, hq, hq2⟩ nx hnx
      rw [List.length_replicate] at hi
      simp only at e1
      subst e1
      have hlt : (i : Int) < 4 := by omega
      have hw : IntKind.i64.wrap ((i : Int) + 1) = ((i + 1 : Nat) : Int) := by rw [wrap_i64 (by omega) (by omega)]; rfl
      have hRq := hR2.move hq
      rw [show 4 - i = (3 - i) + 1 from by omega, tlead] at hq2
      cases hg : getB 1 (lft B q) with
      | none =>
        rw [hg] at hq2
        have e37 := c37_no (n := n + 1) (k := 1) hRq (by decide) hg
        have e37 : callD Tryd.prog AB (n + 2) (.fn 37) [pt id 0, I 1] (rqS s2 id m B q) = _ := e37
        simp only [f35_l0, oO, bindS, many1, jnE, boolS, gdB, fst', snd', bop_lss, hlt, decide_true, condT, e37, ext2, b_neq, show ¬ (50 : Int) = 0 from by decide, decide_false, Bool.not_false, bl79_0, st, ld]
        exact One.ret ⟨q, hq, (bt q 0 0 0).1, (bt q 0 0 0).2, .inr ⟨by rw [hq2]; rfl, _, by decide, rfl⟩⟩
      | some a =>
        obtain ⟨x, r⟩ := a
        rw [hg, Option.bind_some] at hq2
        simp only at hq2
        obtain ⟨e37, k1, k2⟩ := c37_ok (n := n + 1) (k := 1) hRq (by decide) hg
        rw [rqS_rqS] at e37
        have e37 : callD Tryd.prog AB (n + 2) (.fn 37) [pt id 0, I 1] (rqS s2 id m B q) = some [(.tuple #[U x, I 0], rqS s2 id m B (q + 1))] := e37
        by_cases hx : x = 0
        · subst hx
          rw [if_pos rfl] at hq2
          simp only [f35_l0, oO, bindS, many1, jnE, boolS, gdB, fst', snd', bop_lss, hlt, decide_true, condT, e37, ext2, b_neq, Bool.not_true, condF, bop_eql, show ((0 : Nat) : Int) = 0 from rfl, beq_yes]
          exact exit (q + 1) i y1 y2 y4 y5 k1 (by omega) (by rw [hq2, k2])
        · rw [if_neg hx] at hq2
          have hx' : ¬ (x : Int) = 0 := by omega
          simp only [f35_l0, oO, bindS, many1, jnE, boolS, gdB, fst', snd', bop_lss, hlt, decide_true, condT, e37, ext2, b_neq, Bool.not_true, condF, bop_eql, hx', decide_false, bop_add, hw]
          exact hnx (_, _, _, _, _) _ ⟨rfl, q + 1, rfl, k1, by rw [k2, hq2]; congr 1; omega⟩
    · rintro ⟨y1, y2, y3, y4, y5⟩ s' ⟨e1, q, rfl, hq, hq2⟩ nx
      rw [List.length_replicate] at e1 hq2
      simp only at e1
      subst e1
      have hnlt : ¬ (((4 : Nat) : Int) < 4) := by omega
      simp only [f35_l0, oO, bindS, many1, jnE, boolS, gdB, fst', snd', bop_lss, hnlt, decide_false, condF, beq_yes, condT]
      exact exit q 4 y1 y2 y4 y5 hq (by omega) hq2
end Go.Proofs.YtmhmbmogodofeaaDoor.S

set_option autoImplicit false
set_option linter.unusedVariables false
set_option linter.unusedSimpArgs false
set_option maxRecDepth 100000
namespace Go.Proofs.YtmhmbmogodofeaaDoor.S
open Go.FS Go.RowKit
attribute [local congr] bind_cg cond_cg gd_cg

/-! The reference's xor.Get. -/
theorem put_comm (s : SH) {i j : Nat} (a b : DObj) (h : i ≠ j) : putD (putD s i a) j b = putD (putD s j b) i a := by
  rw [put_fn, put_fn, put_fn, put_fn]
  congr 1
  funext k
  by_cases h1 : k = j
  · subst h1
    have h2 : ¬ k = i := fun e => h e.symm
    show (if k = k then some b else _) = (if k = i then some a else (if k = k then some b else s.h k))
    rw [if_pos rfl, if_neg h2, if_pos rfl]
  · show (if k = j then some b else (if k = i then some a else s.h k)) = (if k = i then some a else (if k = j then some b else s.h k))
    rw [if_neg h1, if_neg h1]
noncomputable def sg (s2 : SH) (id m : Nat) (B : List UInt8) (n1 l c d : Int) (q : Nat) : SH := rqS (newD s2 (.row (vr n1 l c d))) id m B q
theorem sg_rqS (s2 : SH) (id m : Nat) (B : List UInt8) (n1 l c d : Int) (p q : Nat) : rqS (sg s2 id m B n1 l c d p) id m B q = sg s2 id m B n1 l c d q := rqS_rqS _ _ _ _ _ _
theorem sg_put (s2 : SH) {id m : Nat} {B : List UInt8} {n1 l c d n1' l' c' d' : Int} {q : Nat} (h : id ≠ s2.n) : putD (sg s2 id m B n1 l c d q) s2.n (.row (vr n1' l' c' d')) = sg s2 id m B n1' l' c' d' q := by
  unfold sg rqS
  rw [put_comm _ _ _ h, put_new]
theorem bl81_0 : buildD Tryd.prog 81 [] = some (vs 0 0 0 0) := by kernel_rfl
theorem bl81 (n l a b : Int) : buildD Tryd.prog 81 [(0, I n), (1, U l), (2, I a), (3, I b)] = some (vs n l a b) := by kernel_rfl
theorem al81 (s : SH) : allocD Tryd.prog s 81 = some (pt s.n 0, newD s (.row (vr 0 0 0 0))) := alloc_at zr81
theorem gst {s : SH} {id : Nat} {x y z t n l a b : Int} (h : HP.get s.h id = some (.row (vr x y z t))) : storeD Tryd.prog s 81 (pt id 0) (vs n l a b) = some (putD s id (.row (vr n l a b))) := st_all (l := vr n l a b) z81 h rfl rfl rfl
theorem gld {s : SH} {id : Nat} {n l a b : Int} (h : HP.get s.h id = some (.row (vr n l a b))) : loadD Tryd.prog s 81 (pt id 0) = some (vs n l a b) := by rw [load_row h]; exact part_agg a81 z81 rfl rfl
theorem wld2 {s : SH} {id : Nat} {n l a b : Int} (h : HP.get s.h id = some (.row (vr n l a b))) : loadD Tryd.prog s 3 (pt id 2) = some (I a) := by rw [load_row h, p3_2]
theorem wld3 {s : SH} {id : Nat} {n l a b : Int} (h : HP.get s.h id = some (.row (vr n l a b))) : loadD Tryd.prog s 3 (pt id 3) = some (I b) := by rw [load_row h, p3_3]
theorem getB12 (rs : List Bool) : getB 12 rs = (getB 6 rs).bind fun p => (getB 6 p.2).bind fun q => some (p.1 * 64 + q.1, q.2) := by
  unfold getB
  by_cases h : 12 ≤ rs.length
  · rw [if_pos h, if_pos (by omega), Option.bind_some]
    simp only
    rw [if_pos (by rw [List.length_drop]; omega), Option.bind_some]
    simp only
    have e : rs.take 12 = rs.take 6 ++ (rs.drop 6).take 6 := by rw [← List.take_add]
    rw [e, valB_app, List.drop_drop]
    congr 3
    rw [List.length_take, List.length_drop, Nat.min_eq_left (by omega)]
  · rw [if_neg h]
    by_cases h6 : 6 ≤ rs.length
    · rw [if_pos h6, Option.bind_some]
      simp only
      rw [if_neg (by rw [List.length_drop]; omega), Option.bind_none]
    · rw [if_neg h6, Option.bind_none]
set_option maxHeartbeats 4000000 in
theorem c36 {n id m p : Nat} {s : SH} {B : List UInt8} (hR : Rq id m B s p) (u : XS) (hu : XSok u) (hn : u.n ≤ 4096) : RqAns id m B s (callD Tryd.prog AB (n + 3) (.fn 36) [pt id 0, xsV u] s) (xget u (lft B p)) (fun v => .tuple #[xsV (xnext u v), U (v : Nat), I 0]) (fun v => ∃ e : Int, e ≠ 0 ∧ v = .tuple #[vs 0 0 0 0, U 0, I e]) := by
  refine cut_rq (fn := Tryd.f36) hR rfl rfl (by kernel_rfl) (fun a => ptup3 (vs_plain _ _ _ _) (.int _ _) (.int _ _)) (fun v ⟨e, _, h⟩ => by rw [h]; exact ptup3 (vs_plain _ _ _ _) (.int _ _) (.int _ _)) ?_
  show One (bodyD Tryd.prog false _ _ 36 Tryd.f36 _ _) _
  rw [f36_r]
  have hid := hR.2.1
  have e69 := fun s => c69 (n := n + 1) (s := s) u hn hu
  obtain ⟨hul, hwin⟩ := hu
  let s1 : SH := newD s (.row (vr u.n u.last u.lead u.trail))
  let s2 : SH := newD s1 (.row (vr 0 0 0 0))
  have nn1 : s1.n = s.n + 1 := rfl
  have nn2 : s2.n = s.n + 2 := rfl
  have hE : Ext s s2 := ext2' s _ _
  have hR2 := hR.ext hE
  have b1 : boxD s (xsV u) = some (pt s.n 0, s1) := bx81 s _ _ _ _
  have b2 : allocD Tryd.prog s1 81 = some (pt s1.n 0, s2) := al81 s1
  have g1 : HP.get s2.h s.n = some (.row (vr u.n u.last u.lead u.trail)) := get_n1 s _ _
  have g2 : HP.get s2.h s1.n = some (.row (vr 0 0 0 0)) := get_n0 s1 _
  have m1 : loadD Tryd.prog s2 81 (pt s.n 0) = some (xsV u) := gld g1
  unfold xget
  by_cases h0 : u.n = 0
  · have hz : (u.n : Int) = 0 := by omega
    rw [if_pos h0]
    have o1 : ∀ q, HP.get (rqS s2 id m B q).h s.n = some (.row (vr u.n u.last u.lead u.trail)) := fun q => by rw [rqS_old (by omega)]; exact g1
    have st : ∀ q (n l a b : Int), storeD Tryd.prog (rqS s2 id m B q) 81 (pt s1.n 0) (vs n l a b) = some (putD (rqS s2 id m B q) s1.n (.row (vr n l a b))) := fun q n l a b => gst (x := 0) (y := 0) (z := 0) (t := 0) (by rw [rqS_old (by omega)]; exact g2)
    have ld : ∀ (t : SH) (n l a b : Int), loadD Tryd.prog (putD t s1.n (.row (vr n l a b))) 81 (pt s1.n 0) = some (vs n l a b) := fun t n l a b => gld (get_put_same _)
    have bt : ∀ q (n l a b : Int), But id s (putD (rqS s2 id m B q) s1.n (.row (vr n l a b))) ∧ HP.get (putD (rqS s2 id m B q) s1.n (.row (vr n l a b))).h id = some (.row (rqr m B q)) := fun q n l a b =>
      ⟨(But.rqS (But.ofExt hE)).putNew (by omega) _, by rw [get_put_other (by omega)]; exact rqS_get _ _ _ _ _⟩
    cases hg : getB 64 (lft B p) with
    | none =>
      have e37 := c37_no (n := n + 1) (k := 64) hR2 (by decide) hg
      have e37 : callD Tryd.prog AB (n + 2) (.fn 37) [pt id 0, I 64] s2 = some [(.tuple #[U 0, I 50], rqS s2 id m B p)] := by rw [hR2.same]; exact e37
      simp only [f36, oO, bindS, many1, jnE, boolS, gdB, fst', snd', b1, b2, m1, e69, uop_not, Bool.not_true, condF, fld81_0, vld_0 g1, bop_eql, hz, decide_true, condT, e37, ext2, b_neq, show ¬ (50 : Int) = 0 from by decide, decide_false, Bool.not_false, bl81_0, st, ld]
      exact One.ret ⟨p, hR.2.2.2.1, (bt _ _ _ _ _).1, (bt _ _ _ _ _).2, .inr ⟨rfl, _, by decide, rfl⟩⟩
    | some a =>
      obtain ⟨v, r⟩ := a
      obtain ⟨e37, k, k'⟩ := c37_ok (n := n + 1) (k := 64) hR2 (by decide) hg
      have e37 : callD Tryd.prog AB (n + 2) (.fn 37) [pt id 0, I 64] s2 = some [(.tuple #[U v, I 0], rqS s2 id m B (p + 64))] := e37
      simp only [f36, oO, bindS, many1, jnE, boolS, gdB, fst', snd', b1, b2, m1, e69, uop_not, Bool.not_true, condF, fld81_0, vld_0 g1, bop_eql, hz, decide_true, condT, e37, ext2, b_neq, fld81_2, fld81_3, wld2 (o1 _), wld3 (o1 _), bl81, st, ld]
      refine One.ret ⟨_, k, (bt _ _ _ _ _).1, (bt _ _ _ _ _).2, .inl ⟨v, r, rfl, k', ?_⟩⟩
      show _ = Value.tuple #[xsV (xnext u v), U (v : Int), I 0]
      unfold xnext
      rw [if_pos h0]
      rfl
  · have hz : ¬ (u.n : Int) = 0 := by omega
    rw [if_neg h0]
    have wN : IntKind.i64.wrap ((u.n : Int) + 1) = ((u.n + 1 : Nat) : Int) := by rw [wrap_i64 (by omega) (by omega)]; rfl
    generalize hn1 : ((u.n + 1 : Nat) : Int) = n1 at wN
    let s3 : SH := newD s2 (.row (vr n1 u.last u.lead u.trail))
    have b3 : allocD Tryd.prog s2 81 = some (pt s2.n 0, newD s2 (.row (vr 0 0 0 0))) := al81 s2
    have st3 : storeD Tryd.prog (newD s2 (.row (vr 0 0 0 0))) 81 (pt s2.n 0) (vs n1 u.last u.lead u.trail) = some s3 := by rw [gst (get_n0 s2 _), put_new]
    have hRs : ∀ c d : Int, Rq id m B (newD s2 (.row (vr n1 u.last c d))) p := fun c d => hR2.ext (ext1 s2 _)
    have ids : id ≠ s2.n := by omega
    -- what stands where
    have so : ∀ (l c d : Int) q, HP.get (sg s2 id m B n1 l c d q).h s2.n = some (.row (vr n1 l c d)) := fun l c d q => by unfold sg; rw [rqS_old (Ne.symm ids)]; exact get_n0 s2 _
    have sp : ∀ (l c d : Int) q, HP.get (sg s2 id m B n1 l c d q).h s.n = some (.row (vr u.n u.last u.lead u.trail)) := fun l c d q => by unfold sg; rw [rqS_old (by omega), get_old (by omega)]; exact g1
    have sr1 : ∀ (l c d : Int) q, HP.get (sg s2 id m B n1 l c d q).h s1.n = some (.row (vr 0 0 0 0)) := fun l c d q => by unfold sg; rw [rqS_old (by omega), get_old (by omega)]; exact g2
    have sgo1 : ∀ (l c d : Int) q, loadD Tryd.prog (sg s2 id m B n1 l c d q) 38 (pt s2.n 1) = some (U l) := fun l c d q => vld_1 (so l c d q)
    have sgo2 : ∀ (l c d : Int) q, loadD Tryd.prog (sg s2 id m B n1 l c d q) 3 (pt s2.n 2) = some (I c) := fun l c d q => wld2 (so l c d q)
    have sgo3 : ∀ (l c d : Int) q, loadD Tryd.prog (sg s2 id m B n1 l c d q) 3 (pt s2.n 3) = some (I d) := fun l c d q => wld3 (so l c d q)
    have sgoA : ∀ (l c d : Int) q, loadD Tryd.prog (sg s2 id m B n1 l c d q) 81 (pt s2.n 0) = some (vs n1 l c d) := fun l c d q => gld (so l c d q)
    have sp1 : ∀ (l c d : Int) q, loadD Tryd.prog (sg s2 id m B n1 l c d q) 38 (pt s.n 1) = some (U u.last) := fun l c d q => vld_1 (sp l c d q)
    have sp2 : ∀ (l c d : Int) q, loadD Tryd.prog (sg s2 id m B n1 l c d q) 3 (pt s.n 2) = some (I u.lead) := fun l c d q => wld2 (sp l c d q)
    have sp3 : ∀ (l c d : Int) q, loadD Tryd.prog (sg s2 id m B n1 l c d q) 3 (pt s.n 3) = some (I u.trail) := fun l c d q => wld3 (sp l c d q)
    have sst1 : ∀ (l c d v : Int) q, storeD Tryd.prog (sg s2 id m B n1 l c d q) 38 (pt s2.n 1) (U v) = some (sg s2 id m B n1 v c d q) := fun l c d v q => by
      rw [store_row (l := [U v]) z38 (so l c d q) rfl rfl rfl (show 1 + 1 ≤ 4 by decide)]
      exact congrArg some (sg_put s2 ids)
    have sst2 : ∀ (l c d v : Int) q, storeD Tryd.prog (sg s2 id m B n1 l c d q) 3 (pt s2.n 2) (I v) = some (sg s2 id m B n1 l v d q) := fun l c d v q => by
      rw [store_row (l := [I v]) z3 (so l c d q) rfl rfl rfl (show 2 + 1 ≤ 4 by decide)]
      exact congrArg some (sg_put s2 ids)
    have sst3 : ∀ (l c d v : Int) q, storeD Tryd.prog (sg s2 id m B n1 l c d q) 3 (pt s2.n 3) (I v) = some (sg s2 id m B n1 l c v q) := fun l c d v q => by
      rw [store_row (l := [I v]) z3 (so l c d q) rfl rfl rfl (show 3 + 1 ≤ 4 by decide)]
      exact congrArg some (sg_put s2 ids)
    have sst0 : ∀ (l c d : Int) q, storeD Tryd.prog (sg s2 id m B n1 l c d q) 81 (pt s1.n 0) (vs 0 0 0 0) = some (putD (sg s2 id m B n1 l c d q) s1.n (.row (vr 0 0 0 0))) := fun l c d q => gst (sr1 l c d q)
    have sstF : ∀ (l c d x y z t : Int) q, storeD Tryd.prog (sg s2 id m B n1 l c d q) 81 (pt s1.n 0) (vs x y z t) = some (putD (sg s2 id m B n1 l c d q) s1.n (.row (vr x y z t))) := fun l c d x y z t q => gst (sr1 l c d q)
    have sld0 : ∀ (t : SH), loadD Tryd.prog (putD t s1.n (.row (vr 0 0 0 0))) 81 (pt s1.n 0) = some (vs 0 0 0 0) := fun t => gld (get_put_same _)
    have sldF : ∀ (t : SH) (n l a b : Int), loadD Tryd.prog (putD t s1.n (.row (vr n l a b))) 81 (pt s1.n 0) = some (vs n l a b) := fun t n l a b => gld (get_put_same _)
    have sgF1 : ∀ (l c d x y z t : Int) q, loadD Tryd.prog (putD (sg s2 id m B n1 l c d q) s1.n (.row (vr x y z t))) 38 (pt s2.n 1) = some (U l) := fun l c d x y z t q => vld_1 (by rw [get_put_other (by omega)]; exact so l c d q)
    have sbt : ∀ (l c d x y z t : Int) {q : Nat}, But id s (putD (sg s2 id m B n1 l c d q) s1.n (.row (vr x y z t))) ∧ HP.get (putD (sg s2 id m B n1 l c d q) s1.n (.row (vr x y z t))).h id = some (.row (rqr m B q)) := fun l c d x y z t q =>
      ⟨(But.rqS (But.ofExt (hE.new _))).putNew (by omega) _, by rw [get_put_other (by omega)]; exact rqS_get _ _ _ _ _⟩
    have s3e : s3 = sg s2 id m B n1 u.last u.lead u.trail p := (hRs u.lead u.trail).same.symm
    have hRg : ∀ (c d : Int) q, q ≤ B.length * 8 → Rq id m B (sg s2 id m B n1 u.last c d q) q := fun c d q hq => (hRs c d).move hq
    rw [s3e] at st3
    clear_value s3
    unfold vdiff
    cases hg1 : getB 1 (lft B p) with
    | none =>
      have e1g := c37_no (n := n + 1) (k := 1) (hRg u.lead u.trail p hR.2.2.2.1) (by decide) hg1
      have e1g : callD Tryd.prog AB (n + 2) (.fn 37) [pt id 0, I 1] (sg s2 id m B n1 u.last u.lead u.trail p) = _ := e1g
      simp only [Option.bind_none]
      simp only [f36, oO, bindS, many1, jnE, boolS, gdB, fst', snd', b1, b2, m1, e69, uop_not, Bool.not_true, condF, fld81_0, fld81_1, fld81_2, fld81_3, vld_0 g1, vld_1 g1, wld2 g1, wld3 g1, bop_eql, hz, decide_false, bop_add, wN, bl81, b3, st3, e1g, ext2, b_neq, show ¬ (50 : Int) = 0 from by decide, Bool.not_false, condT, bl81_0, sst0, sld0]
      exact One.ret ⟨p, hR.2.2.2.1, (sbt _ _ _ _ _ _ _).1, (sbt _ _ _ _ _ _ _).2, .inr ⟨rfl, _, by decide, rfl⟩⟩
    | some w1 =>
      obtain ⟨a, r1⟩ := w1
      obtain ⟨e1g, hq1, hr1⟩ := c37_ok (n := n + 1) (k := 1) (hRg u.lead u.trail p hR.2.2.2.1) (by decide) hg1
      rw [sg_rqS] at e1g
      have e1g : callD Tryd.prog AB (n + 2) (.fn 37) [pt id 0, I 1] (sg s2 id m B n1 u.last u.lead u.trail p) = some [(.tuple #[U a, I 0], sg s2 id m B n1 u.last u.lead u.trail (p + 1))] := e1g
      simp only [Option.bind_some]
      by_cases ha : a = 0
      · subst ha
        simp only [if_true, Option.bind_some]
        simp only [f36, oO, bindS, many1, jnE, boolS, gdB, fst', snd', b1, b2, m1, e69, uop_not, Bool.not_true, condF, fld81_0, fld81_1, fld81_2, fld81_3, vld_0 g1, vld_1 g1, wld2 g1, wld3 g1, bop_eql, hz, decide_false, bop_add, wN, bl81, b3, st3, e1g, ext2, b_neq, decide_true, show ((0 : Nat) : Int) = 0 from rfl, condT, sgoA, sgo1, sstF, sgF1, eqO_s, Bool.and_true, sldF]
        refine One.ret ⟨_, hq1, (sbt _ _ _ _ _ _ _).1, (sbt _ _ _ _ _ _ _).2, .inl ⟨u.last ^^^ 0, r1, rfl, hr1, ?_⟩⟩
        show _ = Value.tuple #[xsV (xnext u (u.last ^^^ 0)), U ((u.last ^^^ 0 : Nat) : Int), I 0]
        rw [xnext_win u 0 h0]
        unfold winL winT
        rw [if_pos rfl, if_pos rfl, Nat.xor_zero, ← hn1]
        rfl
      · simp only [if_neg ha]
        have ha' : decide ((a : Int) = 0) = false := decide_eq_false (by omega)
        cases hg2 : getB 1 r1 with
        | none =>
          rw [← hr1] at hg2
          have e2g := c37_no (n := n + 1) (k := 1) (hRg u.lead u.trail _ hq1) (by decide) hg2
          have e2g : callD Tryd.prog AB (n + 2) (.fn 37) [pt id 0, I 1] (sg s2 id m B n1 u.last u.lead u.trail (p + 1)) = _ := e2g
          simp only [Option.bind_none]
          simp only [f36, oO, bindS, many1, jnE, boolS, gdB, fst', snd', b1, b2, m1, e69, uop_not, Bool.not_true, condF, fld81_0, fld81_1, fld81_2, fld81_3, vld_0 g1, vld_1 g1, wld2 g1, wld3 g1, bop_eql, hz, decide_false, bop_add, wN, bl81, b3, st3, e1g, ext2, b_neq, decide_true, ha', e2g, show ¬ (50 : Int) = 0 from by decide, Bool.not_false, condT, bl81_0, sst0, sld0]
          exact One.ret ⟨_, hq1, (sbt _ _ _ _ _ _ _).1, (sbt _ _ _ _ _ _ _).2, .inr ⟨rfl, _, by decide, rfl⟩⟩
        | some w2 =>
          obtain ⟨b, r2⟩ := w2
          rw [← hr1] at hg2
          obtain ⟨e2g, hq2, hr2⟩ := c37_ok (n := n + 1) (k := 1) (hRg u.lead u.trail _ hq1) (by decide) hg2
          rw [sg_rqS] at e2g
          have e2g : callD Tryd.prog AB (n + 2) (.fn 37) [pt id 0, I 1] (sg s2 id m B n1 u.last u.lead u.trail (p + 1)) = some [(.tuple #[U b, I 0], sg s2 id m B n1 u.last u.lead u.trail (p + 1 + 1))] := e2g
          simp only [Option.bind_some]
          generalize p + 1 + 1 = q2 at *
          by_cases hb : b = 1
          · simp only [if_pos hb]
            have hb' : decide ((b : Int) = 1) = true := decide_eq_true (by omega)
            unfold vfresh
            have h12 := getB12 r2
            cases hg12 : getB 12 r2 with
            | none =>
              rw [hg12] at h12
              have e3g := c37_no (n := n + 1) (k := 12) (hRg u.lead u.trail q2 hq2) (by decide) (by rw [hr2]; exact hg12)
              have e3g : callD Tryd.prog AB (n + 2) (.fn 37) [pt id 0, I 12] (sg s2 id m B n1 u.last u.lead u.trail q2) = _ := e3g
              have hnone : ((getB 6 r2).bind fun p => (getB 6 p.2).bind fun q => if 64 < p.1 + q.1 + 1 then none else (vwithin p.1 (64 - p.1 - q.1 - 1) q.2).bind fun w => if nlz w.1 = p.1 ∧ ntz w.1 = 64 - p.1 - q.1 - 1 ∧ ¬ vheld u w.1 then some w else none) = none := by
                cases h6 : getB 6 r2 with
                | none => rfl
                | some w =>
                  rw [h6, Option.bind_some] at h12
                  rw [Option.bind_some]
                  cases h7 : getB 6 w.2 with
                  | none => rfl
                  | some w' => rw [h7] at h12; cases h12
              rw [hnone, Option.bind_none]
              simp only [f36, oO, bindS, many1, jnE, boolS, gdB, fst', snd', b1, b2, m1, e69, uop_not, Bool.not_true, condF, fld81_0, fld81_1, fld81_2, fld81_3, vld_0 g1, vld_1 g1, wld2 g1, wld3 g1, bop_eql, hz, decide_false, bop_add, wN, bl81, b3, st3, e1g, ext2, b_neq, decide_true, ha', e2g, hb', condT, e3g, show ¬ (50 : Int) = 0 from by decide, Bool.not_false, bl81_0, sst0, sld0]
              exact One.ret ⟨_, hq2, (sbt _ _ _ _ _ _ _).1, (sbt _ _ _ _ _ _ _).2, .inr ⟨rfl, _, by decide, rfl⟩⟩
            | some w3 =>
              obtain ⟨yy, r3⟩ := w3
              rw [hg12] at h12
              obtain ⟨e3g, hq3, hr3⟩ := c37_ok (n := n + 1) (k := 12) (hRg u.lead u.trail q2 hq2) (by decide) (by rw [hr2]; exact hg12)
              rw [sg_rqS] at e3g
              have e3g : callD Tryd.prog AB (n + 2) (.fn 37) [pt id 0, I 12] (sg s2 id m B n1 u.last u.lead u.trail q2) = some [(.tuple #[U yy, I 0], sg s2 id m B n1 u.last u.lead u.trail (q2 + 12))] := e3g
              generalize q2 + 12 = q3 at *
              cases h6 : getB 6 r2 with
              | none => rw [h6] at h12; cases h12
              | some w =>
                obtain ⟨L, r4⟩ := w
                rw [h6, Option.bind_some] at h12
                simp only at h12
                cases h7 : getB 6 r4 with
                | none => rw [h7] at h12; cases h12
                | some w' =>
                  obtain ⟨M, r5⟩ := w'
                  rw [h7, Option.bind_some] at h12
                  simp only [Option.some.injEq, Prod.mk.injEq] at h12
                  obtain ⟨rfl, rfl⟩ := h12
                  have hL := (getB_ok h6).2
                  have hM := (getB_ok h7).2
                  simp only [h7, Option.bind_some]
                  have hqu : IntKind.u64.wrap (Int.tdiv ((L * 64 + M : Nat) : Int) 64) = (L : Int) := by
                    have : Int.tdiv ((L * 64 + M : Nat) : Int) 64 = (((L * 64 + M) / 64 : Nat) : Int) := rfl
                    rw [this, show (L * 64 + M) / 64 = L from by omega, wrap_u64n _ (by omega)]
                  have hre : Int.tmod ((L * 64 + M : Nat) : Int) 64 = (M : Int) := by
                    have : Int.tmod ((L * 64 + M : Nat) : Int) 64 = (((L * 64 + M) % 64 : Nat) : Int) := rfl
                    rw [this, show (L * 64 + M) % 64 = M from by omega]
                  have cL : IntKind.i64.wrap (L : Int) = (L : Int) := wrap_i64n _ (by omega)
                  have cM : IntKind.i64.wrap (M : Int) = (M : Int) := wrap_i64n _ (by omega)
                  have wM1 : IntKind.i64.wrap ((M : Int) + 1) = ((M + 1 : Nat) : Int) := by rw [wrap_i64 (by omega) (by omega)]; rfl
                  have wLM : IntKind.i64.wrap ((L : Int) + ((M + 1 : Nat) : Int)) = ((L + M + 1 : Nat) : Int) := by rw [wrap_i64 (by omega) (by omega)]; omega
                  by_cases hlm : 64 < L + M + 1
                  · simp only [if_pos hlm, Option.bind_none]
                    have hgt : ((L + M + 1 : Nat) : Int) > 64 := by omega
                    simp only [f36, oO, bindS, many1, jnE, boolS, gdB, fst', snd', b1, b2, m1, e69, uop_not, Bool.not_true, condF, fld81_0, fld81_1, fld81_2, fld81_3, vld_0 g1, vld_1 g1, wld2 g1, wld3 g1, bop_eql, hz, decide_false, bop_add, wN, bl81, b3, st3, e1g, ext2, b_neq, decide_true, ha', e2g, hb', condT, e3g, b_quo _ _ _ _ (show (64 : Int) ≠ 0 by decide), hqu, conv_int u38 u3, cL, sst2, b_rem _ _ _ _ (show (64 : Int) ≠ 0 by decide), hre, cM, wM1, sgo2, wLM, bop_gtr, hgt, bl81_0, sst0, sld0]
                    exact One.ret ⟨_, hq3, (sbt _ _ _ _ _ _ _).1, (sbt _ _ _ _ _ _ _).2, .inr ⟨rfl, _, by decide, rfl⟩⟩
                  · simp only [if_neg hlm]
                    have hng : ¬ ((L + M + 1 : Nat) : Int) > 64 := by omega
                    have wT0 : IntKind.i64.wrap (((64 - L : Nat) : Int) - ((M + 1 : Nat) : Int)) = ((64 - L - M - 1 : Nat) : Int) := by rw [wrap_i64 (by omega) (by omega)]; omega
                    generalize hTT : 64 - L - M - 1 = T at *
                    have wT := wT0
                    have hlt63 : L + T ≤ 63 := by omega
                    rw [← hr3]
                    obtain ⟨hq9, hvw⟩ : q3 ≤ B.length * 8 ∧ True := ⟨hq3, trivial⟩
                    have hLT : L + T ≤ 63 := hlt63
                    have wA : IntKind.i64.wrap (64 - (L : Int)) = ((64 - L : Nat) : Int) := by rw [wrap_i64 (by omega) (by omega)]; omega
                    have wB : IntKind.i64.wrap (((64 - L : Nat) : Int) - (T : Int)) = ((64 - L - T : Nat) : Int) := by rw [wrap_i64 (by omega) (by omega)]; omega
                    have hRt : Rq id m B (sg s2 id m B n1 u.last L T q3) q3 := (hRs L T).move hq9
                    unfold vwithin
                    cases hgt : getB (64 - L - T) (lft B q3) with
                    | none =>
                      have e37 := c37_no (n := n + 1) hRt (by omega) hgt
                      simp only [Option.bind_none]
                      simp only [f36, oO, bindS, many1, jnE, boolS, gdB, fst', snd', b1, b2, m1, e69, uop_not, Bool.not_true, condF, fld81_0, fld81_1, fld81_2, fld81_3, vld_0 g1, vld_1 g1, wld2 g1, wld3 g1, bop_eql, hz, decide_false, bop_add, wN, bl81, b3, st3, e1g, ext2, b_neq, decide_true, ha', e2g, hb', condT, e3g, b_quo _ _ _ _ (show (64 : Int) ≠ 0 by decide), hqu, conv_int u38 u3, cL, sst2, b_rem _ _ _ _ (show (64 : Int) ≠ 0 by decide), hre, cM, wM1, sgo2, wLM, bop_gtr, hng, wA, wT, sst3, sgo2, sgo3, b_sub, wA, wB, e37, ext2, b_neq, show ¬ (50 : Int) = 0 from by decide, decide_false, Bool.not_false, condT, bl81_0, sst0, sld0]
                      exact One.ret ⟨q3, hq9, (sbt _ _ _ _ _ _ _).1, (sbt _ _ _ _ _ _ _).2, .inr ⟨rfl, _, by decide, rfl⟩⟩
                    | some a =>
                      obtain ⟨y, r⟩ := a
                      simp only [Option.bind_some]
                      obtain ⟨e37, k1, k2⟩ := c37_ok (n := n + 1) hRt (by omega) hgt
                      rw [sg_rqS] at e37
                      have hy := (getB_ok hgt).2
                      have hyl : ∀ j, j ≤ T → y * 2 ^ j < 2 ^ 64 := fun j hj => by
                        calc y * 2 ^ j < 2 ^ (64 - L - T) * 2 ^ j := Nat.mul_lt_mul_of_pos_right hy (Nat.two_pow_pos _)
                          _ = 2 ^ (64 - L - T + j) := by rw [← Nat.pow_add]
                          _ ≤ 2 ^ 64 := Nat.pow_le_pow_right (by decide) (by omega)
                      simp only [f36, oO, bindS, many1, jnE, boolS, gdB, fst', snd', b1, b2, m1, e69, uop_not, Bool.not_true, condF, fld81_0, fld81_1, fld81_2, fld81_3, vld_0 g1, vld_1 g1, wld2 g1, wld3 g1, bop_eql, hz, decide_false, bop_add, wN, bl81, b3, st3, e1g, ext2, b_neq, decide_true, ha', e2g, hb', condT, e3g, b_quo _ _ _ _ (show (64 : Int) ≠ 0 by decide), hqu, conv_int u38 u3, cL, sst2, b_rem _ _ _ _ (show (64 : Int) ≠ 0 by decide), hre, cM, wM1, sgo2, wLM, bop_gtr, hng, wA, wT, sst3, sgo2, sgo3, b_sub, wA, wB, e37, ext2, b_neq, decide_true, Bool.not_true, condF]
                      generalize q3 + (64 - L - T) = qq at *
                      refine list_one (List.replicate T ()) (fun i (z : Value × Value) (s' : SH) => s' = sg s2 id m B n1 u.last L T qq ∧ z.2 = I (i : Int) ∧ z.1 = U ((y * 2 ^ i : Nat) : Int)) ?_ ?_ ⟨rfl, rfl, by rw [Nat.pow_zero, Nat.mul_one]⟩ (by rw [List.length_replicate]; show T < 2 ^ 64; omega)
                      · rintro i hi ⟨z1, z2⟩ s' ⟨rfl, e1, e2⟩ nx hnx
                        rw [List.length_replicate] at hi
                        simp only at e1 e2
                        subst e1 e2
                        have hlt : (i : Int) < (T : Int) := by omega
                        have hw : IntKind.i64.wrap ((i : Int) + 1) = ((i + 1 : Nat) : Int) := by rw [wrap_i64 (by omega) (by omega)]; rfl
                        have hb := hyl (i + 1) (by omega)
                        have hm : IntKind.u64.wrap (2 * ((y * 2 ^ i : Nat) : Int)) = ((y * 2 ^ (i + 1) : Nat) : Int) := by
                          rw [Nat.pow_succ, ← Nat.mul_assoc] at hb
                          rw [wrap_u64 (by omega) (by omega), Nat.pow_succ, ← Nat.mul_assoc]; omega
                        simp only [f36_l0, oO, bindS, many1, jnE, boolS, gdB, fst', snd', fld81_3, sgo3, bop_lss, hlt, decide_true, condT, bop_mul, hm, bop_add, hw]
                        exact hnx (_, _) _ ⟨rfl, rfl, rfl⟩
                      · rintro ⟨z1, z2⟩ s' ⟨rfl, e1, e2⟩ nx
                        rw [List.length_replicate] at e1 e2
                        simp only at e1 e2
                        subst e1 e2
                        have hnlt : ¬ (T : Int) < (T : Int) := by omega
                        have hx64 := hyl T (Nat.le_refl _)
                        generalize hxe : y * 2 ^ T = x at *
                        by_cases hx0 : x = 0
                        · have hx0' : ((x : Nat) : Int) = 0 := by omega
                          simp only [if_pos hx0, Option.bind_none]
                          simp only [f36_l0, oO, bindS, many1, jnE, boolS, gdB, fst', snd', fld81_3, sgo3, bop_lss, hnlt, decide_false, condF, beq_yes, condT, bop_eql, hx0', decide_true, bl81_0, sst0, sld0]
                          exact One.ret ⟨qq, k1, (sbt _ _ _ _ _ _ _).1, (sbt _ _ _ _ _ _ _).2, .inr ⟨rfl, _, by decide, rfl⟩⟩
                        · have hx0' : ¬ ((x : Nat) : Int) = 0 := by omega
                          have e70 := c70 (n := n + 1) (s := sg s2 id m B n1 u.last L T qq) x hx0 hx64
                          have hxr := xor64 hul hx64
                          simp only [if_neg hx0, Option.bind_some]
                          by_cases hc : nlz x = L ∧ ntz x = T ∧ ¬ vheld u x
                          · obtain ⟨c1, c2, c3⟩ := hc
                            have hfin : xnext u (u.last ^^^ x) = ⟨u.n + 1, u.last ^^^ x, L, T⟩ := by
                              rw [xnext_win u x h0]
                              unfold winL winT
                              rw [if_neg hx0, if_neg hx0, if_neg c3, if_neg c3, c1, c2]
                            have d1 : (nlz x : Int) = (L : Int) := by omega
                            have d2 : (ntz x : Int) = (T : Int) := by omega
                            have d3 : decide ((u.lead : Int) < 64) = false ∨ (decide ((nlz x : Int) ≥ (u.lead : Int)) = false ∧ decide ((u.lead : Int) < 64) = true) ∨ (decide ((ntz x : Int) ≥ (u.trail : Int)) = false ∧ decide ((nlz x : Int) ≥ (u.lead : Int)) = true ∧ decide ((u.lead : Int) < 64) = true) := by
                              unfold vheld at c3
                              by_cases p1 : u.lead < 64
                              · by_cases p2 : u.lead ≤ nlz x
                                · have p3 : ¬ u.trail ≤ ntz x := fun h => c3 ⟨p1, p2, h⟩
                                  exact .inr (.inr ⟨decide_eq_false (by omega), decide_eq_true (by omega), decide_eq_true (by omega)⟩)
                                · exact .inr (.inl ⟨decide_eq_false (by omega), decide_eq_true (by omega)⟩)
                              · exact .inl (decide_eq_false (by omega))
                            have cd : decide (nlz x = L ∧ ntz x = T ∧ ¬ vheld u x) = true := decide_eq_true ⟨c1, c2, c3⟩
                            rw [if_pos ⟨c1, c2, c3⟩, Option.bind_some]
                            rw [c1, c2] at e70
                            rw [d1, d2] at d3
                            rcases d3 with d3 | ⟨d3, d4⟩ | ⟨d3, d4, d5⟩
                            · simp only [f36_l0, oO, bindS, many1, jnE, boolS, gdB, fst', snd', fld81_3, fld81_2, sgo2, sgo3, bop_lss, hnlt, decide_false, condF, beq_yes, condT, bop_eql, hx0', e70, ext2, hb', decide_true, b_neq, Bool.not_true, sp2, d3, fld81_1, sp1, hxr, sst1, sgo1, sgoA, sstF, eqO_s, Bool.and_true, sldF, sgF1]
                              refine One.ret ⟨qq, k1, (sbt _ _ _ _ _ _ _).1, (sbt _ _ _ _ _ _ _).2, .inl ⟨u.last ^^^ x, r, rfl, k2, ?_⟩⟩
                              show _ = Value.tuple #[xsV (xnext u (u.last ^^^ x)), U ((u.last ^^^ x : Nat) : Int), I 0]
                              rw [hfin, ← hn1]
                              rfl
                            · simp only [f36_l0, oO, bindS, many1, jnE, boolS, gdB, fst', snd', fld81_3, fld81_2, sgo2, sgo3, bop_lss, bop_geq, hnlt, decide_false, condF, beq_yes, condT, bop_eql, hx0', e70, ext2, hb', decide_true, b_neq, Bool.not_true, sp2, d3, d4, fld81_1, sp1, hxr, sst1, sgo1, sgoA, sstF, eqO_s, Bool.and_true, sldF, sgF1]
                              refine One.ret ⟨qq, k1, (sbt _ _ _ _ _ _ _).1, (sbt _ _ _ _ _ _ _).2, .inl ⟨u.last ^^^ x, r, rfl, k2, ?_⟩⟩
                              show _ = Value.tuple #[xsV (xnext u (u.last ^^^ x)), U ((u.last ^^^ x : Nat) : Int), I 0]
                              rw [hfin, ← hn1]
                              rfl
                            · simp only [f36_l0, oO, bindS, many1, jnE, boolS, gdB, fst', snd', fld81_3, fld81_2, sgo2, sgo3, bop_lss, bop_geq, hnlt, decide_false, condF, beq_yes, condT, bop_eql, hx0', e70, ext2, hb', decide_true, b_neq, Bool.not_true, sp2, sp3, d3, d4, d5, fld81_1, sp1, hxr, sst1, sgo1, sgoA, sstF, eqO_s, Bool.and_true, sldF, sgF1]
                              refine One.ret ⟨qq, k1, (sbt _ _ _ _ _ _ _).1, (sbt _ _ _ _ _ _ _).2, .inl ⟨u.last ^^^ x, r, rfl, k2, ?_⟩⟩
                              show _ = Value.tuple #[xsV (xnext u (u.last ^^^ x)), U ((u.last ^^^ x : Nat) : Int), I 0]
                              rw [hfin, ← hn1]
                              rfl
                          · rw [if_neg hc, Option.bind_none]
                            have fin : RqQ id m B s none (fun v => .tuple #[xsV (xnext u v), U (v : Nat), I 0]) (fun v => ∃ e : Int, e ≠ 0 ∧ v = .tuple #[vs 0 0 0 0, U 0, I e]) (.tuple #[vs 0 0 0 0, U 0, I 50]) (putD (sg s2 id m B n1 u.last L T qq) s1.n (.row (vr 0 0 0 0))) := ⟨qq, k1, (sbt _ _ _ _ _ _ _).1, (sbt _ _ _ _ _ _ _).2, .inr ⟨rfl, _, by decide, rfl⟩⟩
                            by_cases c1 : nlz x = L
                            · have d1 : decide ((nlz x : Int) = (L : Int)) = true := decide_eq_true (by omega)
                              by_cases c2 : ntz x = T
                              · have d2 : decide ((ntz x : Int) = (T : Int)) = true := decide_eq_true (by omega)
                                have hh : vheld u x := Classical.byContradiction fun h => hc ⟨c1, c2, h⟩
                                obtain ⟨p1, p2, p3⟩ := hh
                                have d3 : decide ((u.lead : Int) < 64) = true := decide_eq_true (by omega)
                                have d4 : decide ((nlz x : Int) ≥ (u.lead : Int)) = true := decide_eq_true (by omega)
                                have d5 : decide ((ntz x : Int) ≥ (u.trail : Int)) = true := decide_eq_true (by omega)
                                simp only [f36_l0, oO, bindS, many1, jnE, boolS, gdB, fst', snd', fld81_3, fld81_2, sgo2, sgo3, bop_lss, bop_geq, hnlt, decide_false, condF, beq_yes, condT, bop_eql, hx0', e70, ext2, hb', decide_true, b_neq, Bool.not_true, d1, d2, sp2, sp3, d3, d4, d5, bl81_0, sst0, sld0]
                                exact One.ret fin
                              · have d2 : decide ((ntz x : Int) = (T : Int)) = false := decide_eq_false (by omega)
                                simp only [f36_l0, oO, bindS, many1, jnE, boolS, gdB, fst', snd', fld81_3, fld81_2, sgo2, sgo3, bop_lss, hnlt, decide_false, condF, beq_yes, condT, bop_eql, hx0', e70, ext2, hb', decide_true, b_neq, Bool.not_true, Bool.not_false, d1, d2, bl81_0, sst0, sld0]
                                exact One.ret fin
                            · have d1 : decide ((nlz x : Int) = (L : Int)) = false := decide_eq_false (by omega)
                              simp only [f36_l0, oO, bindS, many1, jnE, boolS, gdB, fst', snd', fld81_3, fld81_2, sgo2, sgo3, bop_lss, hnlt, decide_false, condF, beq_yes, condT, bop_eql, hx0', e70, ext2, hb', decide_true, b_neq, Bool.not_true, Bool.not_false, d1, bl81_0, sst0, sld0]
                              exact One.ret fin
          · simp only [if_neg hb]
            have hb' : decide ((b : Int) = 1) = false := decide_eq_false (by omega)
            by_cases h64 : u.lead = 64
            · simp only [if_pos h64, Option.bind_none]
              have h64' : decide ((u.lead : Int) = 64) = true := decide_eq_true (by omega)
              simp only [f36, oO, bindS, many1, jnE, boolS, gdB, fst', snd', b1, b2, m1, e69, uop_not, Bool.not_true, condF, fld81_0, fld81_1, fld81_2, fld81_3, vld_0 g1, vld_1 g1, wld2 g1, wld3 g1, bop_eql, hz, decide_false, bop_add, wN, bl81, b3, st3, e1g, ext2, b_neq, decide_true, ha', e2g, hb', sp2, h64', condT, bl81_0, sst0, sld0]
              exact One.ret ⟨_, hq2, (sbt _ _ _ _ _ _ _).1, (sbt _ _ _ _ _ _ _).2, .inr ⟨rfl, _, by decide, rfl⟩⟩
            · simp only [if_neg h64]
              have h64' : decide ((u.lead : Int) = 64) = false := decide_eq_false (by omega)
              have hlt63 : u.lead + u.trail ≤ 63 := by omega
              rw [← hr2]
              obtain ⟨hq9, hvw⟩ : q2 ≤ B.length * 8 ∧ True := ⟨hq2, trivial⟩
              have hLT : u.lead + u.trail ≤ 63 := hlt63
              have wA : IntKind.i64.wrap (64 - (u.lead : Int)) = ((64 - u.lead : Nat) : Int) := by rw [wrap_i64 (by omega) (by omega)]; omega
              have wB : IntKind.i64.wrap (((64 - u.lead : Nat) : Int) - (u.trail : Int)) = ((64 - u.lead - u.trail : Nat) : Int) := by rw [wrap_i64 (by omega) (by omega)]; omega
              have hRt : Rq id m B (sg s2 id m B n1 u.last u.lead u.trail q2) q2 := (hRs u.lead u.trail).move hq9
              unfold vwithin
              cases hgt : getB (64 - u.lead - u.trail) (lft B q2) with
              | none =>
                have e37 := c37_no (n := n + 1) hRt (by omega) hgt
                simp only [Option.bind_none]
                simp only [f36, oO, bindS, many1, jnE, boolS, gdB, fst', snd', b1, b2, m1, e69, uop_not, Bool.not_true, condF, fld81_0, fld81_1, fld81_2, fld81_3, vld_0 g1, vld_1 g1, wld2 g1, wld3 g1, bop_eql, hz, decide_false, bop_add, wN, bl81, b3, st3, e1g, ext2, b_neq, decide_true, ha', e2g, hb', sp2, h64', sgo2, sgo3, b_sub, wA, wB, e37, ext2, b_neq, show ¬ (50 : Int) = 0 from by decide, decide_false, Bool.not_false, condT, bl81_0, sst0, sld0]
                exact One.ret ⟨q2, hq9, (sbt _ _ _ _ _ _ _).1, (sbt _ _ _ _ _ _ _).2, .inr ⟨rfl, _, by decide, rfl⟩⟩
              | some a =>
                obtain ⟨y, r⟩ := a
                simp only [Option.bind_some]
                obtain ⟨e37, k1, k2⟩ := c37_ok (n := n + 1) hRt (by omega) hgt
                rw [sg_rqS] at e37
                have hy := (getB_ok hgt).2
                have hyl : ∀ j, j ≤ u.trail → y * 2 ^ j < 2 ^ 64 := fun j hj => by
                  calc y * 2 ^ j < 2 ^ (64 - u.lead - u.trail) * 2 ^ j := Nat.mul_lt_mul_of_pos_right hy (Nat.two_pow_pos _)
                    _ = 2 ^ (64 - u.lead - u.trail + j) := by rw [← Nat.pow_add]
                    _ ≤ 2 ^ 64 := Nat.pow_le_pow_right (by decide) (by omega)
                simp only [f36, oO, bindS, many1, jnE, boolS, gdB, fst', snd', b1, b2, m1, e69, uop_not, Bool.not_true, condF, fld81_0, fld81_1, fld81_2, fld81_3, vld_0 g1, vld_1 g1, wld2 g1, wld3 g1, bop_eql, hz, decide_false, bop_add, wN, bl81, b3, st3, e1g, ext2, b_neq, decide_true, ha', e2g, hb', sp2, h64', sgo2, sgo3, b_sub, wA, wB, e37, ext2, b_neq, decide_true, Bool.not_true, condF]
                generalize q2 + (64 - u.lead - u.trail) = qq at *
                refine list_one (List.replicate u.trail ()) (fun i (z : Value × Value) (s' : SH) => s' = sg s2 id m B n1 u.last u.lead u.trail qq ∧ z.2 = I (i : Int) ∧ z.1 = U ((y * 2 ^ i : Nat) : Int)) ?_ ?_ ⟨rfl, rfl, by rw [Nat.pow_zero, Nat.mul_one]⟩ (by rw [List.length_replicate]; show u.trail < 2 ^ 64; omega)
                · rintro i hi ⟨z1, z2⟩ s' ⟨rfl, e1, e2⟩ nx hnx
                  rw [List.length_replicate] at hi
                  simp only at e1 e2
                  subst e1 e2
                  have hlt : (i : Int) < (u.trail : Int) := by omega
                  have hw : IntKind.i64.wrap ((i : Int) + 1) = ((i + 1 : Nat) : Int) := by rw [wrap_i64 (by omega) (by omega)]; rfl
                  have hb := hyl (i + 1) (by omega)
                  have hm : IntKind.u64.wrap (2 * ((y * 2 ^ i : Nat) : Int)) = ((y * 2 ^ (i + 1) : Nat) : Int) := by
                    rw [Nat.pow_succ, ← Nat.mul_assoc] at hb
                    rw [wrap_u64 (by omega) (by omega), Nat.pow_succ, ← Nat.mul_assoc]; omega
                  simp only [f36_l0, oO, bindS, many1, jnE, boolS, gdB, fst', snd', fld81_3, sgo3, bop_lss, hlt, decide_true, condT, bop_mul, hm, bop_add, hw]
                  exact hnx (_, _) _ ⟨rfl, rfl, rfl⟩
                · rintro ⟨z1, z2⟩ s' ⟨rfl, e1, e2⟩ nx
                  rw [List.length_replicate] at e1 e2
                  simp only at e1 e2
                  subst e1 e2
                  have hnlt : ¬ (u.trail : Int) < (u.trail : Int) := by omega
                  have hx64 := hyl u.trail (Nat.le_refl _)
                  generalize hxe : y * 2 ^ u.trail = x at *
                  by_cases hx0 : x = 0
                  · have hx0' : ((x : Nat) : Int) = 0 := by omega
                    simp only [if_pos hx0, Option.bind_none]
                    simp only [f36_l0, oO, bindS, many1, jnE, boolS, gdB, fst', snd', fld81_3, sgo3, bop_lss, hnlt, decide_false, condF, beq_yes, condT, bop_eql, hx0', decide_true, bl81_0, sst0, sld0]
                    exact One.ret ⟨qq, k1, (sbt _ _ _ _ _ _ _).1, (sbt _ _ _ _ _ _ _).2, .inr ⟨rfl, _, by decide, rfl⟩⟩
                  · have hx0' : ¬ ((x : Nat) : Int) = 0 := by omega
                    have e70 := c70 (n := n + 1) (s := sg s2 id m B n1 u.last u.lead u.trail qq) x hx0 hx64
                    have hxr := xor64 hul hx64
                    simp only [if_neg hx0, Option.bind_some]
                    have hfin : xnext u (u.last ^^^ x) = ⟨u.n + 1, u.last ^^^ x, u.lead, u.trail⟩ := by
                      have hxl : x < 2 ^ (64 - u.lead) := by
                        rw [← hxe]
                        calc y * 2 ^ u.trail < 2 ^ (64 - u.lead - u.trail) * 2 ^ u.trail := Nat.mul_lt_mul_of_pos_right hy (Nat.two_pow_pos _)
                          _ = 2 ^ (64 - u.lead) := by rw [← Nat.pow_add, show 64 - u.lead - u.trail + u.trail = 64 - u.lead from by omega]
                      have hh : vheld u x := ⟨by omega, nlz_ge hx0 (by omega) hxl, ntz_ge hx0 hx64 (by rw [← hxe]; exact Nat.dvd_mul_left _ _)⟩
                      rw [xnext_win u x h0]
                      unfold winL winT
                      rw [if_neg hx0, if_neg hx0, if_pos hh, if_pos hh]
                    simp only [f36_l0, oO, bindS, many1, jnE, boolS, gdB, fst', snd', fld81_3, sgo3, bop_lss, hnlt, decide_false, condF, beq_yes, condT, bop_eql, hx0', e70, ext2, hb', fld81_1, sp1, hxr, sst1, sgo1, sgoA, sstF, eqO_s, Bool.and_true, sldF, sgF1]
                    refine One.ret ⟨qq, k1, (sbt _ _ _ _ _ _ _).1, (sbt _ _ _ _ _ _ _).2, .inl ⟨u.last ^^^ x, r, rfl, k2, ?_⟩⟩
                    show _ = Value.tuple #[xsV (xnext u (u.last ^^^ x)), U ((u.last ^^^ x : Nat) : Int), I 0]
                    rw [hfin, ← hn1]
                    rfl
end Go.Proofs.YtmhmbmogodofeaaDoor.S

set_option autoImplicit false
set_option linter.unusedVariables false
set_option linter.unusedSimpArgs false
set_option maxRecDepth 100000
namespace Go.Proofs.YtmhmbmogodofeaaDoor.S
open Go.FS Go.RowKit
attribute [local congr] bind_cg cond_cg gd_cg

/-! The reference's Read. -/
theorem slc_both2 {α : Type} {enc : α → List Value} {s : SH} {t e : TypeId} {z m j i : Nat} {k k' : IntKind} {xs : List α} (hu : (Tryd.prog).underlying t = some (.slice e)) (hz : sizeD Tryd.prog e = some z) (hl : ∀ x, (enc x).length = z) (hij : i ≤ j) (hj : j ≤ xs.length) :
    ∃ m', m' ≤ 2 ∧ slcD Tryd.prog s t (sl enc m xs) (some (.int k (i : Int))) (some (.int k' (j : Int))) none = some (sl enc m' ((xs.take j).drop i)) := by
  have hf : fzOk z ((xs.map enc).map fun e => Value.agg e.toArray).toArray = true := fzOk_fz fun e he => by obtain ⟨x, _, rfl⟩ := List.mem_map.1 he; exact hl x
  have h0 : ∀ j : Nat, decide ((0 : Int) ≤ (j : Int)) = true := by simp
  refine ⟨bif Nat.beq m 2 then 2 else 0, by cases Nat.beq m 2 <;> simp, ?_⟩
  have e1 : sliceD Tryd.prog t (sl enc m xs) (some (.int k (i : Int))) (some (.int k' (j : Int))) none = some (sl enc (bif Nat.beq m 2 then 2 else 0) ((xs.take j).drop i)) := by
    unfold sliceD
    simp only [optInt, h0, condT, bindS, Int.toNat_natCast, hu]
    unfold sl
    simp only [fz_list, hz, bindS, hf, fz_size, List.length_map, Option.getD_none, Option.getD_some, Nat.ble_eq_true_of_le hij, Nat.ble_eq_true_of_le hj, Nat.ble_eq_true_of_le (Nat.le_refl xs.length), Option.isSome_some, Bool.true_or, Bool.and_self, condT]
    cases Nat.beq m 2 <;> simp [fzV]
  unfold slcD
  rw [e1]; rfl
def ReadQ (s : SH) (bs : List UInt8) (at' : Int) (v : Value) (s' : SH) : Prop :=
  Ext s s' ∧ ((∃ e, v = .tuple #[fzV 2 #[], I 0, I e] ∧ readB bs at' = ([], 0, e)) ∨ (∃ v1 l k, v = .tuple #[v1, I (k : Nat), I 0] ∧ readB bs at' = (l, k, 0) ∧ l ≠ [] ∧ ∃ lo, s.n ≤ lo ∧ Grow lo 2 sn s' v1 l))
theorem bs24_0 (s : SH) : buildSliceD Tryd.prog false s 24 0 [] = some (sl sn 1 [], s) := by kernel_rfl
theorem bl77 (m : Nat) (B : List UInt8) : buildD Tryd.prog 77 [(0, sl by' m B)] = some (.agg (rqr m B 0).toArray) := by
  have : ∀ (k : Nat) (a : Array Value), buildD Tryd.prog 77 [(0, .iface k (.tuple a))] = some (.agg #[.iface k (.tuple a), I 0]) := fun k a => by kernel_rfl
  exact this _ _
theorem st79_0 (s : SH) (x y z a b c : Int) : storeD Tryd.prog (newD s (.row (tr x y z))) 79 (pt s.n 0) (ts a b c) = some (newD s (.row (tr a b c))) := by rw [hst (get_n0 s _), put_new]
theorem st81_0 (s : SH) (x y z t n l a b : Int) : storeD Tryd.prog (newD s (.row (vr x y z t))) 81 (pt s.n 0) (vs n l a b) = some (newD s (.row (vr n l a b))) := by rw [gst (get_n0 s _), put_new]
set_option maxHeartbeats 1600000 in
theorem read10 {n m : Nat} {s : SH} (bs : List UInt8) (at' : Int) (hb : bs.length < 2 ^ 40) : One (bodyD Tryd.prog (AB.row 10) (callD Tryd.prog AB (n + 11)) AB.N 10 Tryd.f10 [sl by' m bs, I at'] s) (ReadQ s bs at') := by
  show One (bodyD Tryd.prog false _ _ 10 Tryd.f10 _ _) _
  rw [f10_r]
  by_cases hat : at' < 0 ∨ (bs.length : Int) < at'
  · have hr : readB bs at' = ([], 0, 2) := by
      have hl : lookB bs at' = (0, 0, 0, 2) := by unfold lookB; rw [if_pos hat]
      unfold readB
      rw [hl]; rfl
    simp only [f10, oO, bindS, many1, jnE, boolS, gdB, fst', snd', c32_arg (n := n + 10) bs at' hat, tup3, ext3, b_neq, show ¬ (2 : Int) = 0 from by decide, decide_false, Bool.not_false, condT]
    exact One.ret ⟨.refl s, .inl ⟨2, rfl, hr⟩⟩
  · obtain ⟨i, rfl⟩ : ∃ i : Nat, at' = i := ⟨at'.toNat, by omega⟩
    have hi : i ≤ bs.length := by omega
    have nilR : ∀ e : Int, lookB bs (i : Int) = (0, 0, 0, e) → e ≠ 0 → readB bs (i : Int) = ([], 0, e) := fun e h1 h2 => by
      unfold readB
      rw [h1, if_pos h2]
    have e32 := c32 (n := n + 10) (m := m) (s := s) bs i hi (by omega)
    obtain ⟨v1, v2⟩ := vread_nx hi
    have vg := vread_ge hi
    have hlk : lookB bs (i : Int) = lookB bs (i : Int) := rfl
    conv at hlk => rhs; unfold lookB
    rw [if_neg hat, Int.toNat_natCast] at hlk
    generalize vread bs i = r at *
    obtain ⟨x, j, e⟩ := r
    simp only [tup3] at e32 v1 v2 vg hlk
    by_cases he : e = 0
    · rw [if_neg (fun h => h he)] at hlk
      subst he
      have vg1 := vg rfl
      have e32b := c32 (n := n + 10) (m := m) (s := s) bs j v1 (by omega)
      obtain ⟨w1, w2⟩ := vread_nx v1
      have wg := vread_ge v1
      generalize vread bs j = r at *
      obtain ⟨y, k, e2⟩ := r
      simp only [tup3] at e32b w1 w2 wg hlk
      have hwl : IntKind.i64.wrap ((bs.length : Int) - (k : Int)) = ((bs.length - k : Nat) : Int) := by rw [wrap_i64 (by omega) (by omega)]; omega
      have hul : IntKind.u64.wrap ((bs.length - k : Nat) : Int) = ((bs.length - k : Nat) : Int) := wrap_u64 (by omega) (by omega)
      by_cases he2 : e2 = 0
      · rw [if_neg (fun h => h he2)] at hlk
        subst he2
        have wg1 := wg rfl
        by_cases hx : x < 1 ∨ 120 < x
        · rw [if_pos hx] at hlk
          have hr := nilR 80 hlk (by decide)
          by_cases hx1 : x < 1
          · have hx1' : (x : Int) < 1 := by omega
            simp only [f10, oO, bindS, many1, jnE, boolS, gdB, fst', snd', e32, ext3, b_neq, decide_true, Bool.not_true, condF, e32b, bop_lss, hx1', condT]
            exact One.ret ⟨.refl s, .inl ⟨80, rfl, hr⟩⟩
          · have hx1' : ¬ (x : Int) < 1 := by omega
            have hx2 : (x : Int) > 120 := by omega
            simp only [f10, oO, bindS, many1, jnE, boolS, gdB, fst', snd', e32, ext3, b_neq, decide_true, Bool.not_true, condF, e32b, bop_lss, hx1', decide_false, bop_gtr, hx2, condT]
            exact One.ret ⟨.refl s, .inl ⟨80, rfl, hr⟩⟩
        · rw [if_neg hx] at hlk
          have hx1' : ¬ (x : Int) < 1 := by omega
          have hx2' : ¬ (x : Int) > 120 := by omega
          by_cases hy : bs.length - k < y ∨ bs.length - k - y < 4
          · rw [if_pos hy] at hlk
            have hr := nilR 7 hlk (by decide)
            by_cases hy1 : bs.length - k < y
            · have hy1' : (y : Int) > ((bs.length - k : Nat) : Int) := by omega
              simp only [f10, oO, bindS, many1, jnE, boolS, gdB, fst', snd', e32, ext3, b_neq, decide_true, Bool.not_true, condF, e32b, len_sl u22, b_sub, hwl, conv_int u3 u38, hul, bop_lss, hx1', decide_false, bop_gtr, hx2', hy1', condT]
              exact One.ret ⟨.refl s, .inl ⟨7, rfl, hr⟩⟩
            · have hy1' : ¬ (y : Int) > ((bs.length - k : Nat) : Int) := by omega
              have cy : IntKind.i64.wrap (y : Int) = (y : Int) := wrap_i64 (by omega) (by omega)
              have hws : IntKind.i64.wrap (((bs.length - k : Nat) : Int) - (y : Int)) = ((bs.length - k - y : Nat) : Int) := by rw [wrap_i64 (by omega) (by omega)]; omega
              have hy2' : ((bs.length - k - y : Nat) : Int) < 4 := by omega
              simp only [f10, oO, bindS, many1, jnE, boolS, gdB, fst', snd', e32, ext3, b_neq, decide_true, Bool.not_true, condF, e32b, len_sl u22, b_sub, hwl, conv_int u3 u38, conv_int u38 u3, cy, hul, bop_lss, hx1', decide_false, bop_gtr, hx2', hy1', hws, hy2', condT]
              exact One.ret ⟨.refl s, .inl ⟨7, rfl, hr⟩⟩
          · rw [if_neg hy] at hlk
            have hy1' : ¬ (y : Int) > ((bs.length - k : Nat) : Int) := by omega
            have cy : IntKind.i64.wrap (y : Int) = (y : Int) := wrap_i64 (by omega) (by omega)
            have hws : IntKind.i64.wrap (((bs.length - k : Nat) : Int) - (y : Int)) = ((bs.length - k - y : Nat) : Int) := by rw [wrap_i64 (by omega) (by omega)]; omega
            have hy2' : ¬ ((bs.length - k - y : Nat) : Int) < 4 := by omega
            have cx : IntKind.i64.wrap (x : Int) = (x : Int) := wrap_i64 (by omega) (by omega)
            have ck : IntKind.i64.wrap ((k : Int) + (y : Int)) = ((k + y : Nat) : Int) := by rw [wrap_i64 (by omega) (by omega)]; omega
            have c4 : IntKind.i64.wrap (((k + y : Nat) : Int) + 4) = ((k + y + 4 : Nat) : Int) := by rw [wrap_i64 (by omega) (by omega)]; omega
            obtain ⟨m1, _, hs1⟩ := slc_both2 (s := s) (t := 22) (m := m) (k := .i64) (k' := .i64) (xs := bs) u22 z5 by_len (show i ≤ k + y + 4 by omega) (show k + y + 4 ≤ bs.length by omega)
            obtain ⟨v, s1, e33, h33⟩ := c33 (n := n + 7) (m := m1) (s := s) ((bs.take (k + y + 4)).drop i) (by rw [List.length_drop, List.length_take]; omega)
            by_cases ho : openB ((bs.take (k + y + 4)).drop i) = true
            · rw [if_pos ho] at hlk
              rw [ho] at e33
              have hrb : readB bs (i : Int) = match decB x t0 x0 (unpack ((bs.take (k + y)).drop k)) with
                | none => ([], 0, 80)
                | some (l, r) => if r.length < 8 ∧ valB r = 0 then (l, k + y + 4, 0) else ([], 0, 80) := by
                unfold readB
                rw [hlk]
                rfl
              obtain ⟨m2, hm2, hs2⟩ := slc_both2 (s := s1) (t := 22) (m := m) (k := .i64) (k' := .i64) (xs := bs) u22 z5 by_len (show k ≤ k + y by omega) (show k + y ≤ bs.length by omega)
              generalize hB : (bs.take (k + y)).drop k = B at *
              have hBl : B.length < 2 ^ 40 := by rw [← hB, List.length_drop, List.length_take]; omega
              let s2 : SH := newD s1 (.row (rqr m2 B 0))
              have b2 : boxD s1 (.agg (rqr m2 B 0).toArray) = some (pt s1.n 0, s2) := box_at rfl rfl
              have e34 := c34 (n := n + 10) (s := s2)
              let s3 : SH := newD s2 (.row (tr 0 0 0))
              let s4 : SH := newD s3 (.row (vr 0 0 64 0))
              have al1 : allocD Tryd.prog s2 79 = some (pt s2.n 0, s3) := al79 s2
              have al2 : allocD Tryd.prog s3 81 = some (pt s3.n 0, newD s3 (.row (vr 0 0 0 0))) := al81 s3
              have n2 : s2.n = s1.n + 1 := rfl
              have n3 : s3.n = s1.n + 2 := rfl
              have n4 : s4.n = s1.n + 3 := rfl
              have hn1 := h33.1
              have st1 : storeD Tryd.prog (newD s3 (.row (vr 0 0 0 0))) 79 (pt s2.n 0) (ts 0 0 0) = some (newD s3 (.row (vr 0 0 0 0))) := by
                rw [hst (x := 0) (y := 0) (z := 0) (by rw [get_old (by omega)]; exact get_n0 s2 _)]
                exact congrArg some (put_same (by rw [get_old (by omega)]; exact get_n0 s2 _))
              have st2 : storeD Tryd.prog (newD s3 (.row (vr 0 0 0 0))) 81 (pt s3.n 0) (xsV ⟨0, 0, 64, 0⟩) = some s4 := st81_0 _ _ _ _ _ _ _ _ _
              have hE4 : Ext s s4 := ((Ext.new (Ext.new (Ext.new h33 _) _) _))
              have g1 : HP.get s4.h s1.n = some (.row (rqr m2 B 0)) := by rw [get_old (by omega), get_old (by omega)]; exact get_n0 s1 _
              have g2 : HP.get s4.h s2.n = some (.row (tr 0 0 0)) := by rw [get_old (by omega)]; exact get_n0 s2 _
              have g3 : HP.get s4.h s3.n = some (.row (vr 0 0 64 0)) := get_n0 s3 _
              have hR : Rq s1.n m2 B s4 0 := ⟨g1, by omega, by omega, Nat.zero_le _, hBl⟩
              simp only [f10, oO, bindS, many1, jnE, boolS, gdB, fst', snd', e32, ext3, ext2, b_neq, decide_true, Bool.not_true, condF, e32b, len_sl u22, b_sub, hwl, conv_int u3 u38, conv_int u38 u3, cy, hul, bop_lss, hx1', decide_false, bop_gtr, hx2', hy1', hws, hy2', bop_add, ck, c4, hs1, e33, uop_not, hs2, bl77, b2, bl79_0, e34, al1, al2, st1, st2, bs24_0]
              generalize hres : decB x t0 x0 (unpack B) = res at hrb
              have bad : ∀ s' : SH, Ext s s' → res = none → One (some [((.tuple #[fzV 2 #[], I 0, I 80] : Value), s')]) (ReadQ s bs (i : Int)) := fun s' hE hn => One.ret ⟨hE, .inl ⟨80, rfl, by rw [hrb, hn]⟩⟩
              refine list_one (List.replicate x ()) (fun i (z : Value × Value × Value × Value × Value × Value × Value × Value × Value) (s' : SH) => z.2.2.2.2.1 = I (i : Int) ∧ ∃ pre q t xx, pre.length = i ∧ Grow s4.n 2 sn s' z.2.2.2.1 pre ∧ Rq s1.n m2 B s' q ∧ s4.n ≤ s'.n ∧ Ext s s' ∧ HP.get s'.h s2.n = some (.row (tr t.n t.last t.delta)) ∧ HP.get s'.h s3.n = some (.row (vr xx.n xx.last xx.lead xx.trail)) ∧ t.n = i ∧ xx.n = i ∧ TSok t ∧ XSok xx ∧ res = (decB (x - i) t xx (lft B q)).bind fun w => some (pre ++ w.1, w.2)) ?_ ?_ ⟨rfl, [], 0, t0, x0, rfl, .inl ⟨rfl, .inr rfl⟩, hR, Nat.le_refl _, hE4, g2, g3, rfl, rfl, t0_ok, x0_ok, ?_⟩ (by rw [List.length_replicate]; show _ < 2 ^ 64; omega)
              · rintro d hd ⟨x1, x2, x3, x4, x5, x6, x7, x8, x9⟩ s' ⟨h1, pre, q, t, xx, hpre, hG, hR1, hn, hE, gt, gx, htn, hxn, htok, hxok, hrs⟩ nx hnx
                rw [List.length_replicate] at hd
                simp only at h1 hG
                subst h1
                have hlt : (d : Int) < x := by omega
                have hw : IntKind.i64.wrap ((d : Int) + 1) = ((d + 1 : Nat) : Int) := by rw [wrap_i64 (by omega) (by omega)]; rfl
                rw [show x - d = (x - (d + 1)) + 1 from by omega, decB] at hrs
                have lt : loadD Tryd.prog s' 79 (pt s2.n 0) = some (tsV t) := hld gt
                obtain ⟨q1, hq1, ⟨tv, r1, d1, d2, e35⟩ | ⟨d1, v, ⟨e, he, rfl⟩, e35⟩⟩ := c35 (n := n + 8) hR1 t htok (by omega)
                · rw [d1, Option.bind_some] at hrs
                  simp only at hrs
                  obtain ⟨_, htm⟩ := tget_ok d1
                  have htok2 := tnext_ok htm
                  dsimp only at e35
                  generalize hv : tnext t tv = t2 at *
                  have ht2 : t2.n = d + 1 := by rw [← hv, tnext_n, htn]
                  let s5 : SH := newD (rqS s' s1.n m2 B q1) (.row (tr t2.n t2.last t2.delta))
                  have n5 : s5.n = s'.n + 1 := rfl
                  have nq1 : (rqS s' s1.n m2 B q1).n = s'.n := rfl
                  have alA : allocD Tryd.prog (rqS s' s1.n m2 B q1) 79 = some (pt s'.n 0, newD (rqS s' s1.n m2 B q1) (.row (tr 0 0 0))) := al79 _
                  have stA : storeD Tryd.prog (newD (rqS s' s1.n m2 B q1) (.row (tr 0 0 0))) 79 (pt s'.n 0) (tsV t2) = some s5 := st79_0 _ _ _ _ _ _ _
                  have hR2 : Rq s1.n m2 B s5 q1 := (hR1.move hq1).ext (ext1 _ _)
                  have hE5 : Ext s s5 := ⟨by have := hE.1; omega, fun j hj => by rw [get_old (by rw [nq1]; have := hE.1; omega), rqS_old (by omega)]; exact hE.2 j hj⟩
                  have o2 : HP.get s5.h s2.n = some (.row (tr t.n t.last t.delta)) := by rw [get_old (by rw [nq1]; omega), rqS_old (by omega)]; exact gt
                  have o3 : HP.get s5.h s3.n = some (.row (vr xx.n xx.last xx.lead xx.trail)) := by rw [get_old (by rw [nq1]; omega), rqS_old (by omega)]; exact gx
                  have o4 : HP.get s5.h s'.n = some (.row (tr t2.n t2.last t2.delta)) := get_n0 _ _
                  have hG5 : Grow s4.n 2 sn s5 x4 pre := (hG.put _ (by rw [hR1.1]; intro e; cases e)).new _
                  have lx : loadD Tryd.prog s5 81 (pt s3.n 0) = some (xsV xx) := gld o3
                  obtain ⟨q2, hq2, ⟨vv, r2, d3, d4, e36⟩ | ⟨d3, v, ⟨e, he, rfl⟩, e36⟩⟩ := c36 (n := n + 8) hR2 xx hxok (by omega)
                  · rw [d2] at d3
                    rw [d3, Option.bind_some] at hrs
                    simp only at hrs
                    obtain ⟨_, hvl⟩ := xget_ok hxok d3
                    have hxok2 := xnext_ok hxok hvl
                    have hxn2 : (xnext xx vv).n = d + 1 := by rw [xnext_n, hxn]
                    dsimp only at e36
                    generalize xnext xx vv = xx2 at *
                    let s6 : SH := newD (rqS s5 s1.n m2 B q2) (.row (vr xx2.n xx2.last xx2.lead xx2.trail))
                    have n6 : s6.n = s'.n + 2 := rfl
                    have nq2 : (rqS s5 s1.n m2 B q2).n = s'.n + 1 := rfl
                    have alB : allocD Tryd.prog (rqS s5 s1.n m2 B q2) 81 = some (pt (s'.n + 1) 0, newD (rqS s5 s1.n m2 B q2) (.row (vr 0 0 0 0))) := al81 _
                    have stB : storeD Tryd.prog (newD (rqS s5 s1.n m2 B q2) (.row (vr 0 0 0 0))) 81 (pt (s'.n + 1) 0) (xsV xx2) = some s6 := st81_0 _ _ _ _ _ _ _ _ _
                    have hR3 : Rq s1.n m2 B s6 q2 := (hR2.move hq2).ext (ext1 _ _)
                    have old : ∀ j, j < s'.n + 1 → j ≠ s1.n → HP.get s6.h j = HP.get s5.h j := fun j hj hj2 => by rw [get_old (by rw [nq2]; omega), rqS_old hj2]
                    have p2 : HP.get s6.h s2.n = some (.row (tr t.n t.last t.delta)) := by rw [old _ (by omega) (by omega)]; exact o2
                    have p3 : HP.get s6.h s3.n = some (.row (vr xx.n xx.last xx.lead xx.trail)) := by rw [old _ (by omega) (by omega)]; exact o3
                    have p4 : HP.get s6.h s'.n = some (.row (tr t2.n t2.last t2.delta)) := by rw [old _ (by omega) (by omega)]; exact o4
                    have p5 : HP.get s6.h (s'.n + 1) = some (.row (vr xx2.n xx2.last xx2.lead xx2.trail)) := get_n0 _ _
                    have hG6 : Grow s4.n 2 sn s6 x4 pre := (hG5.put _ (by rw [hR2.1]; intro e; cases e)).new _
                    have ldt : loadD Tryd.prog s6 79 (pt s'.n 0) = some (tsV t2) := hld p4
                    have ldx : loadD Tryd.prog s6 81 (pt (s'.n + 1) 0) = some (xsV xx2) := gld p5
                    let s7 : SH := putD s6 s2.n (.row (tr t2.n t2.last t2.delta))
                    let s8 : SH := putD s7 s3.n (.row (vr xx2.n xx2.last xx2.lead xx2.trail))
                    have sA : storeD Tryd.prog s6 79 (pt s2.n 0) (tsV t2) = some s7 := hst p2
                    have sB : storeD Tryd.prog s7 81 (pt s3.n 0) (xsV xx2) = some s8 := gst (by rw [get_put_other (by omega)]; exact p3)
                    have ldx7 : loadD Tryd.prog s7 81 (pt (s'.n + 1) 0) = some (xsV xx2) := gld (by rw [get_put_other (by omega)]; exact p5)
                    have hG8 : Grow s4.n 2 sn s8 x4 pre := (hG6.put _ (by rw [p2]; intro e; cases e)).put _ (by rw [get_put_other (by omega), p3]; intro e; cases e)
                    obtain ⟨v9, s9, e9, z1, z2, z3⟩ := gapp24n (m2 := 1) (ys := [(tv, vv)]) hG8 (by show s4.n ≤ s'.n + 2; omega) (by simp only [List.length_singleton]; omega)
                    have bs8 : buildSliceD Tryd.prog false s8 24 1 [(0, sv (tv : Int) vv)] = some (sl sn 1 [(tv, vv)], s8) := bs24n s8 (tv, vv)
                    have h8n : s8.n = s'.n + 2 := rfl
                    have hn9 := z2.1
                    simp only [f10_l0, oO, bindS, many1, jnE, boolS, gdB, fst', snd', conv_int u38 u3, cx, bop_lss, hlt, decide_true, condT, lt, e35, ext3, alA, stA, b_neq, Bool.not_true, condF, lx, e36, alB, stB, ldt, ldx, sA, sB, ldx7, eqO_s, Bool.and_true, bl40, bs8, e9, bop_add, hw]
                    refine hnx (_, _, _, _, _, _, _, _, _) _ ⟨rfl, pre ++ [(tv, vv)], q2, t2, xx2, by rw [List.length_append, hpre]; rfl, z1, ⟨by rw [z2.2 _ (by omega), get_put_other (by omega), get_put_other (by omega)]; exact hR3.1, by omega, by omega, hq2, hBl⟩, by omega, ⟨by have := hE.1; omega, fun j hj => ?_⟩, ?_, ?_, ht2, hxn2, htok2, hxok2, ?_⟩
                    · have := hE.1
                      rw [z2.2 _ (by omega), get_put_other (by omega), get_put_other (by omega), old _ (by omega) (by omega)]; exact hE5.2 j hj
                    · rw [z2.2 _ (by omega), get_put_other (by omega)]; exact get_put_same _
                    · rw [z2.2 _ (by omega)]; exact get_put_same _
                    · rw [hrs, d4]
                      cases decB (x - (d + 1)) t2 xx2 r2 with
                      | none => rfl
                      | some w => simp
                  · rw [d2] at d3
                    rw [d3, Option.bind_none] at hrs
                    have nq2 : (rqS s5 s1.n m2 B q2).n = s'.n + 1 := rfl
                    have alB : allocD Tryd.prog (rqS s5 s1.n m2 B q2) 81 = some (pt (s'.n + 1) 0, newD (rqS s5 s1.n m2 B q2) (.row (vr 0 0 0 0))) := al81 _
                    have stB : storeD Tryd.prog (newD (rqS s5 s1.n m2 B q2) (.row (vr 0 0 0 0))) 81 (pt (s'.n + 1) 0) (vs 0 0 0 0) = some (newD (rqS s5 s1.n m2 B q2) (.row (vr 0 0 0 0))) := st81_0 _ _ _ _ _ _ _ _ _
                    simp only [f10_l0, oO, bindS, many1, jnE, boolS, gdB, fst', snd', conv_int u38 u3, cx, bop_lss, hlt, decide_true, condT, lt, e35, ext3, alA, stA, b_neq, Bool.not_true, condF, lx, e36, alB, stB, he, decide_false, Bool.not_false]
                    refine bad _ ⟨by rw [newD_n, nq2]; have := hE.1; omega, fun j hj => ?_⟩ (by rw [hrs]; rfl)
                    have := hE.1
                    rw [get_old (by rw [nq2]; omega), rqS_old (by omega)]; exact hE5.2 j hj
                · rw [d1, Option.bind_none] at hrs
                  have nq1 : (rqS s' s1.n m2 B q1).n = s'.n := rfl
                  have alA : allocD Tryd.prog (rqS s' s1.n m2 B q1) 79 = some (pt s'.n 0, newD (rqS s' s1.n m2 B q1) (.row (tr 0 0 0))) := al79 _
                  have stA : storeD Tryd.prog (newD (rqS s' s1.n m2 B q1) (.row (tr 0 0 0))) 79 (pt s'.n 0) (ts 0 0 0) = some (newD (rqS s' s1.n m2 B q1) (.row (tr 0 0 0))) := st79_0 _ _ _ _ _ _ _
                  simp only [f10_l0, oO, bindS, many1, jnE, boolS, gdB, fst', snd', conv_int u38 u3, cx, bop_lss, hlt, decide_true, condT, lt, e35, ext3, alA, stA, b_neq, he, decide_false, Bool.not_false]
                  refine bad _ ⟨by rw [newD_n, nq1]; have := hE.1; omega, fun j hj => ?_⟩ (by rw [hrs]; rfl)
                  have := hE.1
                  rw [get_old (by rw [nq1]; omega), rqS_old (by omega)]; exact hE.2 j hj
              · rintro ⟨x1, x2, x3, x4, x5, x6, x7, x8, x9⟩ s' ⟨h1, pre, q, t, xx, hpre, hG, hR1, hn, hE, gt, gx, htn, hxn, htok, hxok, hrs⟩ nx
                rw [List.length_replicate] at h1 hpre hrs
                simp only at h1 hG
                subst h1
                have hnlt : ¬ ((x : Int) < x) := by omega
                rw [Nat.sub_self, decB, Option.bind_some] at hrs
                simp only [List.append_nil] at hrs
                have hl := lft_len B q
                have m8 : IntKind.i64.wrap (8 * (B.length : Int)) = ((B.length * 8 : Nat) : Int) := by rw [wrap_i64 (by omega) (by omega)]; omega
                have hqB := hR1.2.2.2.1
                have mr : IntKind.i64.wrap (((B.length * 8 : Nat) : Int) - (q : Int)) = ((lft B q).length : Int) := by rw [hl, wrap_i64 (by omega) (by omega)]; omega
                rw [hrs] at hrb
                simp only at hrb
                by_cases h8 : (lft B q).length < 8
                · have h8' : ¬ ((lft B q).length : Int) ≥ 8 := by omega
                  have hg : getB (lft B q).length (lft B q) = some (valB (lft B q), []) := by
                    unfold getB
                    rw [if_pos (Nat.le_refl _), List.take_length, List.drop_length]
                  obtain ⟨e37, k1, k2⟩ := c37_ok (n := n + 10) hR1 (by omega) hg
                  have hEr : Ext s (rqS s' s1.n m2 B (q + (lft B q).length)) := ⟨hE.1, fun j hj => by rw [rqS_old (by have := hE.1; omega)]; exact hE.2 j hj⟩
                  by_cases hz : valB (lft B q) = 0
                  · rw [if_pos ⟨h8, hz⟩] at hrb
                    have hz' : (valB (lft B q) : Int) = 0 := by omega
                    simp only [f10_l0, oO, bindS, many1, jnE, boolS, gdB, fst', snd', conv_int u38 u3, cx, bop_lss, hnlt, decide_false, condF, beq_yes, condT, nilc, fld77_0, fld77_1, qld_22 hR1.1, qld_3 hR1.1, len_sl u22, bop_mul, m8, b_sub, mr, bop_geq, h8', e37, ext2, b_neq, hz', decide_true, Bool.not_true, bop_add, c4]
                    refine One.ret ⟨hEr, .inr ⟨x4, pre, k + y + 4, rfl, hrb, fun e => by rw [e] at hpre; simp at hpre; omega, s4.n, by omega, hG.put _ (by rw [hR1.1]; intro e; cases e)⟩⟩
                  · rw [if_neg (fun h => hz h.2)] at hrb
                    have hz' : ¬ (valB (lft B q) : Int) = 0 := by omega
                    simp only [f10_l0, oO, bindS, many1, jnE, boolS, gdB, fst', snd', conv_int u38 u3, cx, bop_lss, hnlt, decide_false, condF, beq_yes, condT, nilc, fld77_0, fld77_1, qld_22 hR1.1, qld_3 hR1.1, len_sl u22, bop_mul, m8, b_sub, mr, bop_geq, h8', e37, ext2, b_neq, hz', Bool.not_false]
                    exact One.ret ⟨hEr, .inl ⟨80, rfl, hrb⟩⟩
                · rw [if_neg (fun h => h8 h.1)] at hrb
                  have h8' : ((lft B q).length : Int) ≥ 8 := by omega
                  simp only [f10_l0, oO, bindS, many1, jnE, boolS, gdB, fst', snd', conv_int u38 u3, cx, bop_lss, hnlt, decide_false, condF, beq_yes, condT, nilc, fld77_0, fld77_1, qld_22 hR1.1, qld_3 hR1.1, len_sl u22, bop_mul, m8, b_sub, mr, bop_geq, h8', decide_true]
                  exact One.ret ⟨hE, .inl ⟨80, rfl, hrb⟩⟩
              · rw [Nat.sub_zero, ← hres]
                show _ = (decB x t0 x0 (unpack B)).bind _
                cases decB x t0 x0 (unpack B) with
                | none => rfl
                | some w => rfl
            · have ho' : openB ((bs.take (k + y + 4)).drop i) = false := by simpa using ho
              rw [if_neg ho] at hlk
              rw [ho'] at e33
              simp only [f10, oO, bindS, many1, jnE, boolS, gdB, fst', snd', e32, ext3, ext2, b_neq, decide_true, Bool.not_true, condF, e32b, len_sl u22, b_sub, hwl, conv_int u3 u38, conv_int u38 u3, cy, hul, bop_lss, hx1', decide_false, bop_gtr, hx2', hy1', hws, hy2', bop_add, ck, c4, hs1, e33, uop_not, Bool.not_false, condT]
              exact One.ret ⟨h33, .inl ⟨80, rfl, nilR 80 hlk (by decide)⟩⟩
      · rw [if_pos he2] at hlk
        simp only [f10, oO, bindS, many1, jnE, boolS, gdB, fst', snd', e32, ext3, b_neq, decide_true, Bool.not_true, condF, e32b, he2, decide_false, Bool.not_false, condT]
        exact One.ret ⟨.refl s, .inl ⟨e2, rfl, nilR e2 hlk he2⟩⟩
    · rw [if_pos he] at hlk
      simp only [f10, oO, bindS, many1, jnE, boolS, gdB, fst', snd', e32, ext3, b_neq, he, decide_false, Bool.not_false, condT]
      exact One.ret ⟨.refl s, .inl ⟨e, rfl, nilR e hlk he⟩⟩
theorem c10 {n m : Nat} {s : SH} (bs : List UInt8) (at' : Int) (hb : bs.length < 2 ^ 40) : ∃ m', callD Tryd.prog AB (n + 12) (.fn 10) [sl by' m bs, I at'] s = some [(.tuple #[sl sn m' (readB bs at').1, I (readB bs at').2.1, I (readB bs at').2.2], s)] := by
  have h := read10 (n := n) (m := m) (s := s) bs at' hb
  obtain ⟨v, s', e, hE, ⟨er, rfl, hr⟩ | ⟨v1, l, k, rfl, hr, hl, lo, hlo, hG⟩⟩ := h
  · refine ⟨2, cutT_ext (fn := Tryd.f10) rfl rfl (by kernel_rfl) (l' := [sl sn 2 (readB bs at').1, I (readB bs at').2.1, I (readB bs at').2.2]) ⟨_, s', e, [fzV 2 #[], I 0, I er], rfl, (nil_str3 _ _ _).1, ?_, hE⟩⟩
    rw [hr]
    exact (nil_str3 _ _ _).2
  · have hst := grow_str (n := s.n) hG hlo (sn_str s.n) (fun a => sn_bel s.n a) hl
    obtain ⟨y1, y2⟩ := three_str hst (k : Int) 0
    refine ⟨0, cutT_ext (fn := Tryd.f10) rfl rfl (by kernel_rfl) (l' := [sl sn 0 (readB bs at').1, I (readB bs at').2.1, I (readB bs at').2.2]) ⟨_, s', e, [v1, I k, I 0], rfl, y1, ?_, hE⟩⟩
    rw [hr]
    exact y2
theorem readB_len (bs : List UInt8) (i : Int) : (readB bs i).1.length ≤ 120 := by
  unfold readB
  by_cases h0 : (lookB bs i).2.2.2 = 0
  · rw [if_neg (fun h => h h0)]
    obtain ⟨i', x, j, y, k', hi', hi, hv1, hv2, hx1, hx2, hij, hjk, hk, ho, hlk⟩ := look_ok h0
    rw [hlk]
    simp only
    cases hd : decB x t0 x0 (unpack ((bs.take (k' + y)).drop k')) with
    | none => exact Nat.zero_le _
    | some w =>
      obtain ⟨l', r⟩ := w
      obtain ⟨d1, _, _⟩ := enc_dec _ _ _ _ _ _ x0_ok hd
      simp only
      split
      · simp only; omega
      · exact Nat.zero_le _
  · rw [if_pos h0]; exact Nat.zero_le _
theorem c8_r {n m : Nat} {s : SH} (B : List UInt8) (hB : B.length < 2 ^ 40) : ∃ m' s', callD Tryd.prog AB (n + 1) (.fn 8) [sl by' m B] s = some [(sl by' m' B, s')] ∧ Grow s.n 1 by' s' (sl by' m' B) B ∧ Sm s.n s s' := by
  obtain ⟨v, s1, e1, w1, w2, w3⟩ := gapp22 (lo := s.n) (v := sl by' 1 []) (xs := []) (s := s) (m2 := m) (ys := B) (.inl ⟨rfl, .inr rfl⟩) (Nat.le_refl _) (by simp only [List.length_nil]; omega)
  rw [List.nil_append] at w1
  obtain ⟨m', rfl⟩ := Grow.form w1
  refine ⟨m', s1, ?_, w1, w2⟩
  rw [call_fn (fn := Tryd.f8) rfl rfl (by kernel_rfl)]
  show bodyD Tryd.prog false _ _ 8 Tryd.f8 _ s = _
  rw [f8_r]
  simp only [f8, oO, bindS, many1, jnE, boolS, gdB, fst', snd', bs22_0, e1]
theorem run3 {n m : Nat} (s : SH) (b : List UInt8) (at' : Int) : ∃ s', callD Tryd.prog AB (n + 13) (.fn 3) [sl by' m b, I at'] s = some [(.bool true, s')] := by
  rw [call_fn (fn := Tryd.f3) rfl rfl (by kernel_rfl)]
  show ∃ s', bodyD Tryd.prog false _ _ 3 Tryd.f3 _ s = _
  rw [f3_r]
  have hmin : minD Tryd.prog (I (b.length : Int)) [I 600] = some (I ((min b.length 600 : Nat) : Int)) := min_nat _ _ _
  have hsl := slc_sl (P := Tryd.prog) (s := s) (t := 22) (m := m) (k := .i64) (xs := b) u22 z5 by_len (Nat.min_le_left b.length 600)
  generalize hbb : b.take (min b.length 600) = c at hsl
  have hcl : c.length ≤ 600 := by rw [← hbb, List.length_take]; omega
  generalize (bif Nat.beq m 2 then 2 else 0) = mc at hsl
  obtain ⟨mm, s1, e8, _, _⟩ := c8_r (n := n + 11) (m := mc) (s := s) c (by omega)
  obtain ⟨m1, e9⟩ := c9 (n := n) (m := mm) (s := s1) c at' (by omega)
  obtain ⟨m2, e10⟩ := c10 (n := n) (m := mc) (s := s1) c at' (by omega)
  have e11 := c11 (n := n + 11) (m := m1) (m' := m2) (s := s1) (readB c at').1 (by have := readB_len c at'; omega)
  have e12 := c12 (n := n + 11) (m := mm) (m' := mc) (s := s1) c c
  rw [show (c == c) = true from by simp] at e12
  refine ⟨s1, ?_⟩
  simp only [f3, oO, bindS, many1, jnE, boolS, gdB, fst', snd', len_sl u22, hmin, hsl, e8, e9, e10, ext3, e11, condT, bop_eql, decide_true, e12, c13]
end Go.Proofs.YtmhmbmogodofeaaDoor.S
