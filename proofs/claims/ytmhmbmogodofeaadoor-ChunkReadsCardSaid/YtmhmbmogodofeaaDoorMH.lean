import Derived.Test.YtmhmbmogodofeaaDoorMF
set_option autoImplicit false
set_option linter.unusedVariables false
set_option linter.unusedSimpArgs false
set_option maxRecDepth 100000
namespace Go.Proofs.YtmhmbmogodofeaaDoor.S
open Go.FS Go.RowKit
attribute [local congr] bind_cg cond_cg gd_cg

/-- The window behind a value that differs so. -/
def winL (u : XS) (x : Nat) : Nat := if x = 0 then u.lead else if vheld u x then u.lead else nlz x
def winT (u : XS) (x : Nat) : Nat := if x = 0 then u.trail else if vheld u x then u.trail else ntz x
theorem xnext_win (u : XS) (x : Nat) (h0 : u.n ≠ 0) : xnext u (u.last ^^^ x) = ⟨u.n + 1, u.last ^^^ x, winL u x, winT u x⟩ := by
  unfold xnext winL winT
  rw [if_neg h0, xor_back2]
  split
  · rfl
  · split <;> rfl
set_option maxHeartbeats 1600000 in
theorem c94 {n id m p : Nat} {s : SH} {B : List UInt8} (hR : Rd id m B s p) (u : XS) (hu : XSok u) : RdAns id m B s (callD Tryd.prog AB (n + 7) (.fn 94) [pt id 0, wv u.lead u.trail] s) (vdiff u (lft B p)) (fun x => .tuple #[U (x : Nat), wv (winL u x) (winT u x), I 0]) (fun v => ∃ x a b e : Int, e ≠ 0 ∧ v = .tuple #[U x, wv a b, I e]) := by
  refine cut_rd (fn := Tryd.f94) hR rfl rfl (by kernel_rfl) (fun a => ptup3 (.int _ _) (wv_plain _ _) (.int _ _)) (fun v ⟨x, a, b, e, _, h⟩ => by rw [h]; exact ptup3 (.int _ _) (wv_plain _ _) (.int _ _)) ?_
  show One (bodyD Tryd.prog false _ _ 94 Tryd.f94 _ _) _
  rw [f94_r]
  have hid := hR.2.1
  obtain ⟨_, hwin⟩ := hu
  let s1 : SH := newD s (.row (wr u.lead u.trail))
  let s2 : SH := newD s1 (.row (wr 0 0))
  have n1 : s1.n = s.n + 1 := rfl
  have n2 : s2.n = s.n + 2 := rfl
  have hE : Ext s s2 := ext2' s _ _
  have hR2 := hR.ext hE
  have b1 : boxD s (wv u.lead u.trail) = some (pt s.n 0, s1) := bx151 s _ _
  have b2 : allocD Tryd.prog s1 151 = some (pt s1.n 0, s2) := al151 s1
  have g1 : HP.get s2.h s.n = some (.row (wr u.lead u.trail)) := get_n1 s _ _
  have g2 : HP.get s2.h s1.n = some (.row (wr 0 0)) := get_n0 s1 _
  have key : ∀ q, loadD Tryd.prog (rdS s2 id m B q) 151 (pt s.n 0) = some (wv u.lead u.trail) ∧ loadD Tryd.prog (rdS s2 id m B q) 3 (pt s.n 0) = some (I u.lead) ∧ (∀ a b : Int, storeD Tryd.prog (rdS s2 id m B q) 151 (pt s1.n 0) (wv a b) = some (putD (rdS s2 id m B q) s1.n (.row (wr a b)))) ∧ (∀ a b : Int, loadD Tryd.prog (putD (rdS s2 id m B q) s1.n (.row (wr a b))) 151 (pt s1.n 0) = some (wv a b)) ∧ (∀ a b : Int, But id s (putD (rdS s2 id m B q) s1.n (.row (wr a b))) ∧ HP.get (putD (rdS s2 id m B q) s1.n (.row (wr a b))).h id = some (.row (rdr m B q))) := fun q => by
    have o1 : HP.get (rdS s2 id m B q).h s.n = some (.row (wr u.lead u.trail)) := by rw [rdS_old (by omega)]; exact g1
    have o2 : HP.get (rdS s2 id m B q).h s1.n = some (.row (wr 0 0)) := by rw [rdS_old (by omega)]; exact g2
    exact ⟨wld_n o1, wld_0 o1, fun a b => wst_n _ _ o2, fun a b => wld_n (get_put_same _), fun a b => ⟨(But.rdS (But.ofExt hE)).putNew (by omega) _, by rw [get_put_other (by omega)]; exact rdS_get _ _ _ _ _⟩⟩
  have hc1 := fun q (hR : Rd id m B s2 q) => c106 (n := n + 2) (m2 := 1) hR [1] (by intro k hk; simp only [List.mem_singleton] at hk; omega) (show 1 ≤ 4 by decide) (by simp)
  rw [show sl i6 1 [1] = fz 1 [[I 1]] from rfl] at hc1
  unfold vdiff
  obtain ⟨q, hq, hc⟩ := hc1 p hR2
  obtain ⟨k1, k2, k3, k4, k5⟩ := key q
  cases hg1 : getB 1 (lft B p) with
  | none =>
    rw [Option.bind_none]
    rcases hc with ⟨xs, r, h1, _, _⟩ | ⟨_, v, ⟨e, he, rfl⟩, e106⟩
    · rw [getMany, hg1] at h1; cases h1
    · simp only [f94, oO, bindS, many1, jnE, boolS, gdB, fst', snd', b1, b2, bs45_1, e106, ext2, b_neq, he, decide_false, Bool.not_false, condT, k1, k3, k4]
      exact One.ret ⟨q, hq, (k5 _ _).1, (k5 _ _).2, .inr ⟨rfl, _, _, _, e, he, rfl⟩⟩
  | some w1 =>
    obtain ⟨a, r1⟩ := w1
    rw [Option.bind_some]
    simp only
    rcases hc with ⟨xs, r, h1, h2, e106⟩ | ⟨h1, _⟩
    · rw [getMany, hg1, Option.bind_some, getMany, Option.bind_some] at h1
      simp only [Option.some.injEq, Prod.mk.injEq] at h1
      obtain ⟨rfl, rfl⟩ := h1
      have i0 := ix46_0 [a] (by simp)
      simp only [List.getElem_cons_zero] at i0
      by_cases ha : a = 0
      · rw [if_pos ha]
        subst ha
        simp only [f94, oO, bindS, many1, jnE, boolS, gdB, fst', snd', b1, b2, bs45_1, e106, ext2, b_neq, decide_true, Bool.not_true, condF, i0, ld_u6, bop_eql, show ((0 : Nat) : Int) = 0 from rfl, condT, k1, k3, k4]
        refine One.ret ⟨q, hq, (k5 _ _).1, (k5 _ _).2, .inl ⟨0, r1, rfl, h2, ?_⟩⟩
        show _ = Value.tuple #[U 0, wv (winL u 0) (winT u 0), I 0]
        unfold winL winT
        rw [if_pos rfl, if_pos rfl]
      · rw [if_neg ha]
        have ha' : ¬ (a : Int) = 0 := by omega
        have hRq : Rd id m B (rdS s2 id m B q) q := hR2.move hq
        obtain ⟨q2, hq2, hc2⟩ := c106 (n := n + 2) (m2 := 1) hRq [1] (by intro k hk; simp only [List.mem_singleton] at hk; omega) (show 1 ≤ 4 by decide) (by simp)
        rw [show sl i6 1 [1] = fz 1 [[I 1]] from rfl, rdS_rdS] at hc2
        rw [h2] at hc2
        obtain ⟨l1, l2, l3, l4, l5⟩ := key q2
        cases hg2 : getB 1 r1 with
        | none =>
          rw [Option.bind_none]
          rcases hc2 with ⟨xs, r, h3, _, _⟩ | ⟨_, v, ⟨e, he, rfl⟩, e2⟩
          · rw [getMany, hg2] at h3; cases h3
          · simp only [f94, oO, bindS, many1, jnE, boolS, gdB, fst', snd', b1, b2, bs45_1, e106, ext2, b_neq, decide_true, Bool.not_true, condF, i0, ld_u6, bop_eql, ha', e2, he, decide_false, Bool.not_false, condT, l1, l3, l4]
            exact One.ret ⟨q2, hq2, (l5 _ _).1, (l5 _ _).2, .inr ⟨rfl, _, _, _, e, he, rfl⟩⟩
        | some w2 =>
          obtain ⟨b, r2⟩ := w2
          rw [Option.bind_some]
          simp only
          rcases hc2 with ⟨xs, r, h3, h4, e2⟩ | ⟨h3, _⟩
          · rw [getMany, hg2, Option.bind_some, getMany, Option.bind_some] at h3
            simp only [Option.some.injEq, Prod.mk.injEq] at h3
            obtain ⟨rfl, rfl⟩ := h3
            have i1 := ix46_0 [b] (by simp)
            simp only [List.getElem_cons_zero] at i1
            have hRq2 : Rd id m B (rdS s2 id m B q2) q2 := hR2.move hq2
            by_cases hb : b = 1
            · rw [if_pos hb]
              have hb' : (b : Int) = 1 := by omega
              obtain ⟨q3, hq3, hc3⟩ := c107 (n := n) hRq2 u
              rw [rdS_rdS, h4] at hc3
              obtain ⟨o1, o2, o3, o4, o5⟩ := key q3
              rcases hc3 with ⟨x, r, h5, h6, e3⟩ | ⟨h5, v, ⟨x, a2, b2', e, he, rfl⟩, e3⟩
              · simp only [f94, oO, bindS, many1, jnE, boolS, gdB, fst', snd', b1, b2, bs45_1, e106, ext2, ext3, b_neq, decide_true, Bool.not_true, condF, i0, i1, ld_u6, bop_eql, ha', decide_false, e2, hb', condT, l1, e3, o3, o4]
                refine One.ret ⟨q3, hq3, (o5 _ _).1, (o5 _ _).2, .inl ⟨x, r, h5, h6, ?_⟩⟩
                have hfr : x ≠ 0 ∧ ¬ vheld u x := by
                  unfold vfresh at h5
                  cases g1 : getB 6 r2 with
                  | none => rw [g1] at h5; cases h5
                  | some p1 =>
                    rw [g1, Option.bind_some] at h5
                    cases g2 : getB 6 p1.2 with
                    | none => rw [g2] at h5; cases h5
                    | some p2 =>
                      rw [g2, Option.bind_some] at h5
                      split at h5
                      · cases h5
                      · rename_i hcd
                        cases g3 : vwithin p1.1 (64 - p1.1 - p2.1 - 1) p2.2 with
                        | none => rw [g3] at h5; cases h5
                        | some p3 =>
                          rw [g3, Option.bind_some] at h5
                          split at h5
                          · rename_i hcc
                            simp only [Option.some.injEq] at h5
                            subst h5
                            exact ⟨(vwithin_ok (by omega) g3).2.1, hcc.2.2⟩
                          · cases h5
                show _ = Value.tuple #[U (x : Int), wv (winL u x) (winT u x), I 0]
                unfold winL winT
                rw [if_neg hfr.1, if_neg hfr.1, if_neg hfr.2, if_neg hfr.2]
              · simp only [f94, oO, bindS, many1, jnE, boolS, gdB, fst', snd', b1, b2, bs45_1, e106, ext2, ext3, b_neq, decide_true, Bool.not_true, condF, i0, i1, ld_u6, bop_eql, ha', decide_false, e2, hb', condT, l1, e3, o3, o4]
                exact One.ret ⟨q3, hq3, (o5 _ _).1, (o5 _ _).2, .inr ⟨h5, _, _, _, e, he, rfl⟩⟩
            · rw [if_neg hb]
              have hb' : ¬ (b : Int) = 1 := by omega
              by_cases h64 : u.lead = 64
              · rw [if_pos h64]
                have h64' : decide ((u.lead : Int) = 64) = true := decide_eq_true (by omega)
                simp only [f94, oO, bindS, many1, jnE, boolS, gdB, fst', snd', b1, b2, bs45_1, e106, ext2, ext3, b_neq, decide_true, Bool.not_true, condF, i0, i1, ld_u6, bop_eql, ha', decide_false, e2, hb', fld151_0, l2, h64', condT, l1, l3, l4]
                exact One.ret ⟨q2, hq2, (l5 _ _).1, (l5 _ _).2, .inr ⟨rfl, _, _, _, 50, by decide, rfl⟩⟩
              · rw [if_neg h64]
                have h64' : ¬ (u.lead : Int) = 64 := by omega
                have hlt : u.lead + u.trail ≤ 63 := by omega
                obtain ⟨q3, hq3, hc3⟩ := c108 (n := n + 1) hRq2 u.lead u.trail hlt
                rw [rdS_rdS, h4] at hc3
                obtain ⟨o1, o2, o3, o4, o5⟩ := key q3
                rcases hc3 with ⟨x, r, h5, h6, e3⟩ | ⟨h5, v, ⟨e, he, rfl⟩, e3⟩
                · simp only [f94, oO, bindS, many1, jnE, boolS, gdB, fst', snd', b1, b2, bs45_1, e106, ext2, ext3, b_neq, decide_true, Bool.not_true, condF, i0, i1, ld_u6, bop_eql, ha', decide_false, e2, hb', fld151_0, l2, h64', l1, e3, o1, o3, o4]
                  refine One.ret ⟨q3, hq3, (o5 _ _).1, (o5 _ _).2, .inl ⟨x, r, h5, h6, ?_⟩⟩
                  obtain ⟨_, x1, x2, x3⟩ := vwithin_ok hlt h5
                  have hx64 : x < 2 ^ 64 := Nat.lt_of_lt_of_le x2 (Nat.pow_le_pow_right (by decide) (by omega))
                  have hh : vheld u x := ⟨by omega, nlz_ge x1 (by omega) x2, ntz_ge x1 hx64 x3⟩
                  show _ = Value.tuple #[U (x : Int), wv (winL u x) (winT u x), I 0]
                  unfold winL winT
                  rw [if_neg x1, if_neg x1, if_pos hh, if_pos hh]
                · simp only [f94, oO, bindS, many1, jnE, boolS, gdB, fst', snd', b1, b2, bs45_1, e106, ext2, ext3, b_neq, decide_true, Bool.not_true, condF, i0, i1, ld_u6, bop_eql, ha', decide_false, e2, hb', fld151_0, l2, h64', l1, e3, o1, o3, o4]
                  exact One.ret ⟨q3, hq3, (o5 _ _).1, (o5 _ _).2, .inr ⟨h5, _, _, _, e, he, rfl⟩⟩
          · rw [getMany, hg2, Option.bind_some, getMany, Option.bind_some] at h3; cases h3
    · rw [getMany, hg1, Option.bind_some, getMany, Option.bind_some] at h1; cases h1
theorem c62 {n id m p : Nat} {s : SH} {B : List UInt8} (hR : Rd id m B s p) (u : XS) (hu : XSok u) (hn : u.n ≤ 4096) : RdAns id m B s (callD Tryd.prog AB (n + 8) (.fn 62) [pt id 0, xsV u] s) (xget u (lft B p)) (fun v => .tuple #[xsV (xnext u v), U (v : Nat), I 0]) (fun v => ∃ e : Int, e ≠ 0 ∧ v = .tuple #[vs 0 0 0 0, U 0, I e]) := by
  refine cut_rd (fn := Tryd.f62) hR rfl rfl (by kernel_rfl) (fun a => ptup3 (vs_plain _ _ _ _) (.int _ _) (.int _ _)) (fun v ⟨e, _, h⟩ => by rw [h]; exact ptup3 (vs_plain _ _ _ _) (.int _ _) (.int _ _)) ?_
  show One (bodyD Tryd.prog false _ _ 62 Tryd.f62 _ _) _
  rw [f62_r]
  have hid := hR.2.1
  have e78 := fun s => c78 (n := n + 5) (s := s) u hn hu
  have e79 := fun s => c79 (n := n + 6) (s := s) u
  have e84 := fun s (v a b : Nat) => oneS (c84 (n := n + 6) (s := s) u v a b hn)
  let s1 : SH := newD s (.row (vr u.n u.last u.lead u.trail))
  let s2 : SH := newD s1 (.row (vr 0 0 0 0))
  have n1 : s1.n = s.n + 1 := rfl
  have n2 : s2.n = s.n + 2 := rfl
  have hE : Ext s s2 := ext2' s _ _
  have hR2 := hR.ext hE
  have b1 : boxD s (xsV u) = some (pt s.n 0, s1) := bx100 s _ _ _ _
  have b2 : allocD Tryd.prog s1 100 = some (pt s1.n 0, s2) := al100 s1
  have g1 : HP.get s2.h s.n = some (.row (vr u.n u.last u.lead u.trail)) := get_n1 s _ _
  have g2 : HP.get s2.h s1.n = some (.row (vr 0 0 0 0)) := get_n0 s1 _
  have m1 : loadD Tryd.prog s2 100 (pt s.n 0) = some (xsV u) := vld_n g1
  have key : ∀ q, loadD Tryd.prog (rdS s2 id m B q) 100 (pt s.n 0) = some (xsV u) ∧ (∀ v : XS, storeD Tryd.prog (rdS s2 id m B q) 100 (pt s1.n 0) (xsV v) = some (putD (rdS s2 id m B q) s1.n (.row (vr v.n v.last v.lead v.trail)))) ∧ (storeD Tryd.prog (rdS s2 id m B q) 100 (pt s1.n 0) (vs 0 0 0 0) = some (putD (rdS s2 id m B q) s1.n (.row (vr 0 0 0 0)))) ∧ (∀ a b c d : Int, loadD Tryd.prog (putD (rdS s2 id m B q) s1.n (.row (vr a b c d))) 100 (pt s1.n 0) = some (vs a b c d)) ∧ loadD Tryd.prog (putD (rdS s2 id m B q) s1.n (.row (vr 0 0 0 0))) 100 (pt s1.n 0) = some (vs 0 0 0 0) ∧ (∀ a b c d : Int, But id s (putD (rdS s2 id m B q) s1.n (.row (vr a b c d))) ∧ HP.get (putD (rdS s2 id m B q) s1.n (.row (vr a b c d))).h id = some (.row (rdr m B q))) := fun q => by
    have o1 : HP.get (rdS s2 id m B q).h s.n = some (.row (vr u.n u.last u.lead u.trail)) := by rw [rdS_old (by omega)]; exact g1
    have o2 : HP.get (rdS s2 id m B q).h s1.n = some (.row (vr 0 0 0 0)) := by rw [rdS_old (by omega)]; exact g2
    exact ⟨vld_n o1, fun v => vst_n _ _ o2, vst_n _ _ o2, fun a b c d => vld_n (get_put_same _), vld_n (get_put_same _), fun a b c d => ⟨(But.rdS (But.ofExt hE)).putNew (by omega) _, by rw [get_put_other (by omega)]; exact rdS_get _ _ _ _ _⟩⟩
  unfold xget
  by_cases h0 : u.n = 0
  · have hz : (u.n : Int) = 0 := by omega
    rw [if_pos h0]
    cases hg : getB 64 (lft B p) with
    | none =>
      have e64 := c64_no (n := n + 4) (k := 64) hR2 (by decide) hg
      obtain ⟨k1, k2, k3, k4, k5, k6⟩ := key p
      have e64 : callD Tryd.prog AB (n + 7) (.fn 64) [pt id 0, I 64] s2 = some [(.tuple #[U 0, I 50], rdS s2 id m B p)] := by rw [hR2.same]; exact e64
      simp only [f62, oO, bindS, many1, jnE, boolS, gdB, fst', snd', b1, b2, m1, e78, uop_not, Bool.not_true, condF, fld100_0, vld_0 g1, bop_eql, hz, decide_true, condT, e64, ext2, b_neq, show ¬ (50 : Int) = 0 from by decide, decide_false, Bool.not_false, bl100_0, k3, k5]
      exact One.ret ⟨p, hR.2.2.2.1, (k6 _ _ _ _).1, (k6 _ _ _ _).2, .inr ⟨rfl, _, by decide, rfl⟩⟩
    | some a =>
      obtain ⟨v, r⟩ := a
      obtain ⟨e64, k, k'⟩ := c64_ok (n := n + 4) (k := 64) hR2 (by decide) hg
      have e64 : callD Tryd.prog AB (n + 7) (.fn 64) [pt id 0, I 64] s2 = some [(.tuple #[U v, I 0], rdS s2 id m B (p + 64))] := e64
      obtain ⟨k1, k2, k3, k4, k5, k6⟩ := key (p + 64)
      simp only [f62, oO, bindS, many1, jnE, boolS, gdB, fst', snd', b1, b2, m1, e78, uop_not, Bool.not_true, condF, fld100_0, vld_0 g1, bop_eql, hz, decide_true, condT, e64, ext2, b_neq, k1, oneS (e79 _), e84, k2, eqO_s, Bool.and_true, k4]
      refine One.ret ⟨_, k, (k6 _ _ _ _).1, (k6 _ _ _ _).2, .inl ⟨v, r, rfl, k', ?_⟩⟩
      show Value.tuple #[xsV ⟨u.n + 1, v, u.lead, u.trail⟩, _, _] = Value.tuple #[xsV (xnext u v), _, _]
      unfold xnext
      rw [if_pos h0, h0]
  · have hz : ¬ (u.n : Int) = 0 := by omega
    rw [if_neg h0]
    obtain ⟨q, hq, ⟨x, r, h1, h2, e94⟩ | ⟨h1, v, ⟨x, a, b, e, he, rfl⟩, e94⟩⟩ := c94 (n := n) hR2 u hu
    · obtain ⟨k1, k2, k3, k4, k5, k6⟩ := key q
      have hx64 := (vdiff_ok hu h1).1
      have hxr := xor64 hu.1 hx64
      rw [h1, Option.bind_some]
      have alA : allocD Tryd.prog (rdS s2 id m B q) 151 = some (pt (rdS s2 id m B q).n 0, newD (rdS s2 id m B q) (.row (wr 0 0))) := al151 _
      have stA : ∀ a b : Int, storeD Tryd.prog (newD (rdS s2 id m B q) (.row (wr 0 0))) 151 (pt (rdS s2 id m B q).n 0) (wv a b) = some (newD (rdS s2 id m B q) (.row (wr a b))) := fun a b => st151_0 _ _ _ _ _
      have nn : (rdS s2 id m B q).n = s2.n := rfl
      have o1 : HP.get (newD (rdS s2 id m B q) (.row (wr (winL u x) (winT u x)))).h s.n = some (.row (vr u.n u.last u.lead u.trail)) := by rw [get_old (by omega), rdS_old (by omega)]; exact g1
      have o2 : HP.get (newD (rdS s2 id m B q) (.row (wr (winL u x) (winT u x)))).h s1.n = some (.row (vr 0 0 0 0)) := by rw [get_old (by omega), rdS_old (by omega)]; exact g2
      have o3 : HP.get (newD (rdS s2 id m B q) (.row (wr (winL u x) (winT u x)))).h (rdS s2 id m B q).n = some (.row (wr (winL u x) (winT u x))) := get_n0 _ _
      have hB4 : But id s (newD (rdS s2 id m B q) (.row (wr (winL u x) (winT u x)))) := (But.rdS (But.ofExt hE)).new _
      have gR4 : HP.get (newD (rdS s2 id m B q) (.row (wr (winL u x) (winT u x)))).h id = some (.row (rdr m B q)) := by rw [get_old (by omega)]; exact rdS_get _ _ _ _ _
      have stA' := stA (winL u x) (winT u x)
      clear stA
      generalize newD (rdS s2 id m B q) (.row (wr (winL u x) (winT u x))) = s4 at stA' o1 o2 o3 hB4 gR4
      have ldU : loadD Tryd.prog s4 100 (pt s.n 0) = some (xsV u) := vld_n o1
      have stF : ∀ v : XS, storeD Tryd.prog s4 100 (pt s1.n 0) (xsV v) = some (putD s4 s1.n (.row (vr v.n v.last v.lead v.trail))) := fun v => vst_n _ _ o2
      have ldF : ∀ a b c d : Int, loadD Tryd.prog (putD s4 s1.n (.row (vr a b c d))) 100 (pt s1.n 0) = some (vs a b c d) := fun a b c d => vld_n (get_put_same _)
      have ldL : ∀ a b c d : Int, loadD Tryd.prog (putD s4 s1.n (.row (vr a b c d))) 38 (pt s.n 1) = some (U u.last) := fun a b c d => vld_1 (by rw [get_put_other (by omega)]; exact o1)
      simp only [f62, oO, bindS, many1, jnE, boolS, gdB, fst', snd', b1, b2, m1, e78, uop_not, Bool.not_true, condF, fld100_0, fld100_1, vld_0 g1, bop_eql, hz, decide_false, e79, e94, ext3, alA, stA', b_neq, decide_true, ldU, vld_1 o1, hxr, wld_n o3, e84, stF, ldL, ldF, eqO_s, Bool.and_true, condT]
      refine One.ret ⟨q, hq, hB4.putNew (by omega) _, by rw [get_put_other (by omega)]; exact gR4, .inl ⟨u.last ^^^ x, r, rfl, h2, ?_⟩⟩
      show _ = Value.tuple #[xsV (xnext u (u.last ^^^ x)), _, _]
      rw [xnext_win u x h0]
      rfl
    · obtain ⟨k1, k2, k3, k4, k5, k6⟩ := key q
      rw [h1, Option.bind_none]
      have alA : allocD Tryd.prog (rdS s2 id m B q) 151 = some (pt (rdS s2 id m B q).n 0, newD (rdS s2 id m B q) (.row (wr 0 0))) := al151 _
      have stA : storeD Tryd.prog (newD (rdS s2 id m B q) (.row (wr 0 0))) 151 (pt (rdS s2 id m B q).n 0) (wv a b) = some (newD (rdS s2 id m B q) (.row (wr a b))) := st151_0 _ _ _ _ _
      have nn : (rdS s2 id m B q).n = s2.n := rfl
      have o2 : HP.get (newD (rdS s2 id m B q) (.row (wr a b))).h s1.n = some (.row (vr 0 0 0 0)) := by rw [get_old (by omega), rdS_old (by omega)]; exact g2
      have gR4 : HP.get (newD (rdS s2 id m B q) (.row (wr a b))).h id = some (.row (rdr m B q)) := by rw [get_old (by omega)]; exact rdS_get _ _ _ _ _
      have hB4 : But id s (newD (rdS s2 id m B q) (.row (wr a b))) := (But.rdS (But.ofExt hE)).new _
      have stF : storeD Tryd.prog (newD (rdS s2 id m B q) (.row (wr a b))) 100 (pt s1.n 0) (vs 0 0 0 0) = some (putD (newD (rdS s2 id m B q) (.row (wr a b))) s1.n (.row (vr 0 0 0 0))) := vst_n _ _ o2
      have ldF : loadD Tryd.prog (putD (newD (rdS s2 id m B q) (.row (wr a b))) s1.n (.row (vr 0 0 0 0))) 100 (pt s1.n 0) = some (vs 0 0 0 0) := vld_n (get_put_same _)
      simp only [f62, oO, bindS, many1, jnE, boolS, gdB, fst', snd', b1, b2, m1, e78, uop_not, Bool.not_true, Bool.not_false, condF, condT, fld100_0, vld_0 g1, bop_eql, hz, decide_false, e79, e94, ext3, alA, stA, b_neq, he, bl100_0, stF, ldF]
      exact One.ret ⟨q, hq, hB4.putNew (by omega) _, by rw [get_put_other (by omega)]; exact gR4, .inr ⟨rfl, _, he, rfl⟩⟩
end Go.Proofs.YtmhmbmogodofeaaDoor.S

set_option autoImplicit false
set_option linter.unusedVariables false
set_option linter.unusedSimpArgs false
set_option maxRecDepth 100000
namespace Go.Proofs.YtmhmbmogodofeaaDoor.S
open Go.FS Go.RowKit
attribute [local congr] bind_cg cond_cg gd_cg

/-! Samples of bits. -/
abbrev sr (t : TS) (x : XS) : List Value := [I t.n, I t.last, I t.delta, I x.n, U x.last, I x.lead, I x.trail]
theorem al104 (s : SH) : allocD Tryd.prog s 104 = some (pt s.n 0, newD s (.row [I 0, I 0, I 0, I 0, U 0, I 0, I 0])) := alloc_at zr104
theorem bl104_b : buildD Tryd.prog 104 [(1, xsV ⟨0, 0, 64, 0⟩)] = some (.agg (sr t0 x0).toArray) := by kernel_rfl
theorem bl104 (t : TS) (x : XS) : buildD Tryd.prog 104 [(0, tsV t), (1, xsV x)] = some (.agg (sr t x).toArray) := by
  have : ∀ a b c d e f g : Int, buildD Tryd.prog 104 [(0, .agg #[I a, I b, I c]), (1, .agg #[I d, U e, I f, I g])] = some (.agg #[I a, I b, I c, I d, U e, I f, I g]) := fun a b c d e f g => by kernel_rfl
  exact this _ _ _ _ _ _ _
theorem sst {s : SH} {id : Nat} {r : List Value} {t : TS} {x : XS} (h : HP.get s.h id = some (.row r)) (hr : r.length = 7) : storeD Tryd.prog s 104 (pt id 0) (.agg (sr t x).toArray) = some (putD s id (.row (sr t x))) := st_all (l := sr t x) z104 h rfl rfl hr
theorem sld_102 {s : SH} {id : Nat} {t : TS} {x : XS} (h : HP.get s.h id = some (.row (sr t x))) : loadD Tryd.prog s 102 (pt id 0) = some (tsV t) := by rw [load_row h]; exact part_agg a102 z102 (l := tr t.n t.last t.delta) rfl rfl
theorem sld_100 {s : SH} {id : Nat} {t : TS} {x : XS} (h : HP.get s.h id = some (.row (sr t x))) : loadD Tryd.prog s 100 (pt id 3) = some (xsV x) := by rw [load_row h]; exact part_agg a100 z100 (l := vr x.n x.last x.lead x.trail) rfl rfl
theorem ld64 {s : SH} {id j : Nat} (h : HP.get s.h j = some (.row [pt id 0])) : loadD Tryd.prog s 64 (pt j 0) = some (pt id 0) := by rw [load_row h, part_one a64]; rfl
theorem ld3v {s : SH} {j : Nat} {a : Int} (h : HP.get s.h j = some (.row [I a])) : loadD Tryd.prog s 3 (pt j 0) = some (I a) := by rw [load_row h, p3_0]
theorem bl40 (a : Int) (v : Nat) : buildD Tryd.prog 40 [(0, I a), (1, U (v : Int))] = some (sv a v) := by kernel_rfl
def NoTok (o : Option DObj) : Prop := ∀ a z, o ≠ some (.tok a z)
theorem notok_row {o : Option DObj} {r : List Value} (h : o = some (.row r)) : NoTok o := fun a z e => by rw [h] at e; cases e
set_option maxHeartbeats 1600000 in
theorem c60 {n id m p l pa pm pr many : Nat} {s : SH} {B : List UInt8} (hR : Rd id m B s p) (g1 : HP.get s.h pm = some (.row [I (many : Int)])) (g2 : HP.get s.h pr = some (.row [pt id 0])) (hmany : many ≤ 120)
    (hid1 : pm ≠ id) (hid2 : pr ≠ id) (hpa : pa ≠ id) (hl : l ≠ id) (ha1 : pm ≠ pa) (ha2 : pr ≠ pa) (hl1 : pm ≠ l) (hl2 : pr ≠ l) (hpm : pm < s.n) (hpr : pr < s.n) (hpan : pa < s.n) (hln : l < s.n)
    (K : List (Nat × Nat) → SH → Prop) (hK0 : K [] s)
    (hKs : ∀ pre s' s'', K pre s' → s'.n ≤ s''.n → (∀ j, j < s'.n → (j < s.n ∧ j ≠ id) ∨ ¬ NoTok (HP.get s'.h j) → HP.get s''.h j = HP.get s'.h j) → K pre s'')
    (hy : ∀ pre s' t v, K pre s' → pre.length < many → ∃ s3, callD Tryd.prog AB (n + 8) (.yld l) [sv (t : Nat) v] s' = some [(.bool true, s3)] ∧ K (pre ++ [(t, v)]) s3 ∧ s'.n ≤ s3.n ∧ ∀ j, j < s'.n → j ≠ pa → j ≠ l → (j < s.n ∨ NoTok (HP.get s'.h j)) → HP.get s3.h j = HP.get s'.h j) :
    One (callD Tryd.prog AB (n + 9) (.fn 60) [.func (.yield l) #[] #[], pt pm 0, pt pr 0] s) fun _ s' => ∃ pre q, K pre s' ∧ Rd id m B s' q ∧ (∀ j, j < s.n → j ≠ id → j ≠ pa → j ≠ l → HP.get s'.h j = HP.get s.h j) ∧ ((pre.length = many ∧ decB many t0 x0 (lft B p) = some (pre, lft B q)) ∨ (pre.length ≠ many ∧ decB many t0 x0 (lft B p) = none)) := by
  rw [call_fn (fn := Tryd.f60) rfl rfl (by kernel_rfl)]
  show One (bodyD Tryd.prog false _ _ 60 Tryd.f60 _ s) _
  rw [f60_r]
  generalize hres : decB many t0 x0 (lft B p) = res
  have hid := hR.2.1
  have st0 : storeD Tryd.prog (newD s (.row [I 0, I 0, I 0, I 0, U 0, I 0, I 0])) 104 (pt s.n 0) (.agg (sr t0 x0).toArray) = some (newD s (.row (sr t0 x0))) := by rw [sst (get_n0 s _) rfl, put_new]
  have ldm : loadD Tryd.prog (newD s (.row (sr t0 x0))) 3 (pt pm 0) = some (I (many : Int)) := ld3v (by rw [get_old (by omega)]; exact g1)
  simp only [f60, oO, bindS, many1, jnE, boolS, gdB, fst', snd', c44 (n := n + 7), bl104_b, al104, st0, ldm]
  refine list_one (List.replicate many ()) (fun i (x : Value × Value × Value × Value) (s' : SH) => x.2.2.2 = I (i : Int) ∧ ∃ pre q t xx, pre.length = i ∧ K pre s' ∧ Rd id m B s' q ∧ s.n + 1 ≤ s'.n ∧ (∀ j, j < s.n → j ≠ id → j ≠ pa → j ≠ l → HP.get s'.h j = HP.get s.h j) ∧ HP.get s'.h s.n = some (.row (sr t xx)) ∧ t.n = i ∧ xx.n = i ∧ TSok t ∧ XSok xx ∧ res = (decB (many - i) t xx (lft B q)).bind fun w => some (pre ++ w.1, w.2)) ?_ ?_ ⟨rfl, [], p, t0, x0, rfl, ?_, ?_, ?_, ?_, get_n0 s _, rfl, rfl, t0_ok, x0_ok, ?_⟩ (by rw [List.length_replicate]; show _ < 2 ^ 64; omega)
  · rintro i hi ⟨x1, x2, x3, x4⟩ s' ⟨h1, pre, q, t, xx, hpre, hK, hR1, hn, hfr, gp, htn, hxn, htok, hxok, hrs⟩ nx hnx
    rw [List.length_replicate] at hi
    simp only at h1
    subst h1
    have hlt : (i : Int) < many := by omega
    have hw : IntKind.i64.wrap ((i : Int) + 1) = ((i + 1 : Nat) : Int) := by rw [wrap_i64 (by omega) (by omega)]; rfl
    rw [show many - i = (many - (i + 1)) + 1 from by omega, decB] at hrs
    have gr : HP.get s'.h pr = some (.row [pt id 0]) := by rw [hfr pr hpr hid2 ha2 hl2]; exact g2
    have idn : id ≠ s.n := by omega
    obtain ⟨q1, hq1, ⟨tv, r1, d1, d2, e61⟩ | ⟨d1, v, ⟨e, he, rfl⟩, e61⟩⟩ := c61 (n := n + 2) hR1 t htok (by omega)
    · -- a time
      rw [d1, Option.bind_some] at hrs
      simp only at hrs
      obtain ⟨_, htm⟩ := tget_ok d1
      have htok2 := tnext_ok htm
      dsimp only at e61
      generalize hv : tnext t tv = t2 at *
      have ht2 : t2.n = i + 1 := by rw [← hv, tnext_n, htn]
      let s1 : SH := newD (rdS s' id m B q1) (.row (tr t2.n t2.last t2.delta))
      have n1 : s1.n = s'.n + 1 := rfl
      have alA : allocD Tryd.prog (rdS s' id m B q1) 102 = some (pt (rdS s' id m B q1).n 0, newD (rdS s' id m B q1) (.row (tr 0 0 0))) := al102 _
      have stA : storeD Tryd.prog (newD (rdS s' id m B q1) (.row (tr 0 0 0))) 102 (pt (rdS s' id m B q1).n 0) (tsV t2) = some s1 := st102_0 _ _ _ _ _ _ _
      have hR2 : Rd id m B s1 q1 := (hR1.move hq1).ext (ext1 _ _)
      have o1 : HP.get s1.h pr = some (.row [pt id 0]) := by rw [get_old (by rw [rdS_n]; omega), rdS_old hid2]; exact gr
      have o2 : HP.get s1.h s.n = some (.row (sr t xx)) := by rw [get_old (by rw [rdS_n]; omega), rdS_old (Ne.symm idn)]; exact gp
      have o3 : HP.get s1.h (rdS s' id m B q1).n = some (.row (tr t2.n t2.last t2.delta)) := get_n0 _ _
      have idn2 : id ≠ (rdS s' id m B q1).n := by rw [rdS_n]; omega
      obtain ⟨q2, hq2, ⟨vv, r2, d3, d4, e62⟩ | ⟨d3, v, ⟨e, he, rfl⟩, e62⟩⟩ := c62 (n := n) hR2 xx hxok (by omega)
      · rw [d2] at d3
        rw [d3, Option.bind_some] at hrs
        simp only at hrs
        obtain ⟨_, hvl⟩ := xget_ok hxok d3
        have hxok2 := xnext_ok hxok hvl
        have hxn2 : (xnext xx vv).n = i + 1 := by rw [xnext_n, hxn]
        dsimp only at e62
        generalize xnext xx vv = xx2 at *
        let s2 : SH := newD (rdS s1 id m B q2) (.row (vr xx2.n xx2.last xx2.lead xx2.trail))
        have n2 : s2.n = s'.n + 2 := rfl
        have alB : allocD Tryd.prog (rdS s1 id m B q2) 100 = some (pt (rdS s1 id m B q2).n 0, newD (rdS s1 id m B q2) (.row (vr 0 0 0 0))) := al100 _
        have stB : storeD Tryd.prog (newD (rdS s1 id m B q2) (.row (vr 0 0 0 0))) 100 (pt (rdS s1 id m B q2).n 0) (xsV xx2) = some s2 := st100_0 _ _ _ _ _ _ _ _ _
        have hR3 : Rd id m B s2 q2 := (hR2.move hq2).ext (ext1 _ _)
        have old2 : ∀ j, j < s'.n → j ≠ id → HP.get s2.h j = HP.get s'.h j := fun j hj hj2 => by
          rw [get_old (by rw [rdS_n]; omega), rdS_old hj2, get_old (by rw [rdS_n]; omega), rdS_old hj2]
        have p2 : HP.get s2.h s.n = some (.row (sr t xx)) := by rw [old2 _ (by omega) (Ne.symm idn)]; exact gp
        have p3 : HP.get s2.h (rdS s' id m B q1).n = some (.row (tr t2.n t2.last t2.delta)) := by
          rw [get_old (by rw [rdS_n, rdS_n, n1]; omega), rdS_old (Ne.symm idn2)]; exact o3
        have p4 : HP.get s2.h (rdS s1 id m B q2).n = some (.row (vr xx2.n xx2.last xx2.lead xx2.trail)) := get_n0 _ _
        have hK2 : K pre s2 := hKs _ _ _ hK (by omega) fun j hj hc => by
          refine old2 j hj ?_
          rcases hc with ⟨_, h⟩ | h
          · exact h
          · exact fun e => h (by rw [e]; exact notok_row hR1.1)
        obtain ⟨s3, e3, hK3, hn3, fr3⟩ := hy pre s2 tv vv hK2 (by omega)
        have ne1 : (rdS s' id m B q1).n = s'.n := rfl
        have ne2 : (rdS s1 id m B q2).n = s'.n + 1 := rfl
        have u1 : HP.get s3.h s.n = some (.row (sr t xx)) := by rw [fr3 s.n (by omega) (by omega) (by omega) (.inr (notok_row p2))]; exact p2
        have u2 : HP.get s3.h (rdS s' id m B q1).n = some (.row (tr t2.n t2.last t2.delta)) := by rw [fr3 _ (by omega) (by omega) (by omega) (.inr (notok_row p3))]; exact p3
        have u3 : HP.get s3.h (rdS s1 id m B q2).n = some (.row (vr xx2.n xx2.last xx2.lead xx2.trail)) := by rw [fr3 _ (by omega) (by omega) (by omega) (.inr (notok_row p4))]; exact p4
        have u4 : HP.get s3.h id = some (.row (rdr m B q2)) := by rw [fr3 _ (by omega) (Ne.symm hpa) (Ne.symm hl) (.inr (notok_row hR3.1))]; exact hR3.1
        have ldt : loadD Tryd.prog s3 102 (pt (rdS s' id m B q1).n 0) = some (tsV t2) := tld_n u2
        have ldx : loadD Tryd.prog s3 100 (pt (rdS s1 id m B q2).n 0) = some (xsV xx2) := vld_n u3
        have stF : storeD Tryd.prog s3 104 (pt s.n 0) (.agg (sr t2 xx2).toArray) = some (putD s3 s.n (.row (sr t2 xx2))) := sst u1 rfl
        simp only [f60_l0, oO, bindS, many1, jnE, boolS, gdB, fst', snd', bop_lss, hlt, decide_true, condT, ld64 gr, fld104_0, fld104_1', sld_102 gp, e61, ext3, alA, stA, b_neq, Bool.not_true, condF, ld64 o1, sld_100 o2, e62, alB, stB, bl40, tgt_yld, e3, uop_not, ldt, ldx, bl104, stF, bop_add, hw]
        refine hnx (_, _, _, _) _ ⟨rfl, pre ++ [(tv, vv)], q2, t2, xx2, by rw [List.length_append, hpre]; rfl, ?_, ⟨by rw [get_put_other idn]; exact u4, by rw [putD_n]; omega, by rw [putD_n]; have := hR1.2.2.1; omega, hq2, hR.2.2.2.2⟩, by rw [putD_n]; omega, ?_, get_put_same _, ht2, hxn2, htok2, hxok2, ?_⟩
        · refine hKs _ _ _ hK3 (Nat.le_refl _) fun j hj hc => get_put_other ?_
          rcases hc with ⟨h, _⟩ | h
          · omega
          · exact fun e => h (by rw [e]; exact notok_row u1)
        · intro j hj hj2 hj3 hj4
          rw [get_put_other (by omega), fr3 j (by omega) hj3 hj4 (.inl hj), old2 j (by omega) hj2, hfr j hj hj2 hj3 hj4]
        · rw [hrs, d4]
          cases decB (many - (i + 1)) t2 xx2 r2 with
          | none => rfl
          | some w => simp
      · -- no value
        rw [d2] at d3
        rw [d3, Option.bind_none] at hrs
        have alB : allocD Tryd.prog (rdS s1 id m B q2) 100 = some (pt (rdS s1 id m B q2).n 0, newD (rdS s1 id m B q2) (.row (vr 0 0 0 0))) := al100 _
        have stB : storeD Tryd.prog (newD (rdS s1 id m B q2) (.row (vr 0 0 0 0))) 100 (pt (rdS s1 id m B q2).n 0) (vs 0 0 0 0) = some (newD (rdS s1 id m B q2) (.row (vr 0 0 0 0))) := st100_0 _ _ _ _ _ _ _ _ _
        have hR3 : Rd id m B (newD (rdS s1 id m B q2) (.row (vr 0 0 0 0))) q2 := (hR2.move hq2).ext (ext1 _ _)
        have old2 : ∀ j, j < s'.n → j ≠ id → HP.get (newD (rdS s1 id m B q2) (.row (vr 0 0 0 0))).h j = HP.get s'.h j := fun j hj hj2 => by
          rw [get_old (by rw [rdS_n, n1]; omega), rdS_old hj2, get_old (by rw [rdS_n]; omega), rdS_old hj2]
        simp only [f60_l0, oO, bindS, many1, jnE, boolS, gdB, fst', snd', bop_lss, hlt, decide_true, condT, ld64 gr, fld104_0, fld104_1', sld_102 gp, e61, ext3, alA, stA, b_neq, Bool.not_true, condF, ld64 o1, sld_100 o2, e62, alB, stB, he, decide_false, Bool.not_false]
        refine One.ret ⟨pre, q2, hKs _ _ _ hK (by rw [newD_n, rdS_n]; omega) fun j hj hc => ?_, hR3, fun j hj hj2 hj3 hj4 => by rw [old2 j (by omega) hj2, hfr j hj hj2 hj3 hj4], .inr ⟨by omega, by rw [hrs]; rfl⟩⟩
        refine old2 j hj ?_
        rcases hc with ⟨_, h⟩ | h
        · exact h
        · exact fun e => h (by rw [e]; exact notok_row hR1.1)
    · -- no time
      rw [d1, Option.bind_none] at hrs
      have alA : allocD Tryd.prog (rdS s' id m B q1) 102 = some (pt (rdS s' id m B q1).n 0, newD (rdS s' id m B q1) (.row (tr 0 0 0))) := al102 _
      have stA : storeD Tryd.prog (newD (rdS s' id m B q1) (.row (tr 0 0 0))) 102 (pt (rdS s' id m B q1).n 0) (ts 0 0 0) = some (newD (rdS s' id m B q1) (.row (tr 0 0 0))) := st102_0 _ _ _ _ _ _ _
      have hR2 : Rd id m B (newD (rdS s' id m B q1) (.row (tr 0 0 0))) q1 := (hR1.move hq1).ext (ext1 _ _)
      have old2 : ∀ j, j < s'.n → j ≠ id → HP.get (newD (rdS s' id m B q1) (.row (tr 0 0 0))).h j = HP.get s'.h j := fun j hj hj2 => by rw [get_old (by rw [rdS_n]; omega), rdS_old hj2]
      simp only [f60_l0, oO, bindS, many1, jnE, boolS, gdB, fst', snd', bop_lss, hlt, decide_true, condT, ld64 gr, fld104_0, sld_102 gp, e61, ext3, alA, stA, b_neq, he, decide_false, Bool.not_false]
      refine One.ret ⟨pre, q1, hKs _ _ _ hK (by rw [newD_n, rdS_n]; omega) fun j hj hc => ?_, hR2, fun j hj hj2 hj3 hj4 => by rw [old2 j (by omega) hj2, hfr j hj hj2 hj3 hj4], .inr ⟨by omega, by rw [hrs]; rfl⟩⟩
      refine old2 j hj ?_
      rcases hc with ⟨_, h⟩ | h
      · exact h
      · exact fun e => h (by rw [e]; exact notok_row hR1.1)
  · rintro ⟨x1, x2, x3, x4⟩ s' ⟨h1, pre, q, t, xx, hpre, hK, hR1, hn, hfr, gp, htn, hxn, htok, hxok, hrs⟩ nx
    rw [List.length_replicate] at h1 hpre hrs
    simp only at h1
    subst h1
    have hnlt : ¬ ((many : Int) < many) := by omega
    rw [Nat.sub_self, decB, Option.bind_some] at hrs
    simp only [List.append_nil] at hrs
    simp only [f60_l0, oO, bindS, many1, jnE, boolS, gdB, fst', snd', bop_lss, hnlt, decide_false, condF, beq_yes, condT]
    exact One.ret ⟨pre, q, hK, hR1, hfr, .inl ⟨hpre, hrs⟩⟩
  · exact hKs _ _ _ hK0 (by rw [newD_n]; omega) fun j hj _ => get_old (by omega)
  · exact hR.ext (ext1 s _)
  · rw [newD_n]; omega
  · intro j hj _ _ _
    exact get_old (by omega)
  · rw [Nat.sub_zero, hres]
    cases res <;> simp
end Go.Proofs.YtmhmbmogodofeaaDoor.S

set_option autoImplicit false
set_option linter.unusedVariables false
set_option linter.unusedSimpArgs false
set_option maxRecDepth 100000
namespace Go.Proofs.YtmhmbmogodofeaaDoor.S
open Go.FS Go.RowKit
attribute [local congr] bind_cg cond_cg gd_cg

/-! slices.Collect of samples; a clean rest. -/
def sn (a : Nat × Nat) : List Value := [I (a.1 : Int), U (a.2 : Int)]
theorem sn_len (a : Nat × Nat) : (sn a).length = 2 := rfl
theorem sn_str (n : Nat) (a : Nat × Nat) : (sn a).map (stripN 6 n) = sn a := rfl
theorem sn_bel (n : Nat) (a : Nat × Nat) : ∀ v ∈ sn a, Bel n v := fun v hv => by
  simp only [sn, List.mem_cons, List.not_mem_nil, or_false] at hv
  rcases hv with rfl | rfl <;> exact .int _ _
theorem bs24n (s : SH) (a : Nat × Nat) : buildSliceD Tryd.prog false s 24 1 [(0, sv a.1 a.2)] = some (sl sn 1 [a], s) := by kernel_rfl
theorem gapp24n {lo : Nat} {s : SH} {v : Value} {m2 : Nat} {xs ys : List (Nat × Nat)} (h : Grow lo 2 sn s v xs) (hlo : lo ≤ s.n) (hb : (xs.length + ys.length) * 16 ≤ 140737488355328) :
    ∃ v' s', appD Tryd.prog false s 24 24 v (sl sn m2 ys) = some (v', s') ∧ Grow lo 2 sn s' v' (xs ++ ys) ∧ Sm lo s s' ∧ (∀ j, j < s.n → HP.get s.h j ≠ some (.tok xs.length 2) → HP.get s'.h j = HP.get s.h j) :=
  h.app (i := Tryd.t40) hlo u24 u24 (by kernel_rfl) zr40 rfl (by kernel_rfl) (by kernel_rfl) (by decide) sn_len hb (by omega)
theorem bodied60 : bodied Tryd.prog 60 = true := by kernel_rfl
theorem ld24 {s : SH} {id : Nat} {v : Value} (h : HP.get s.h id = some (.row [v])) : loadD Tryd.prog s 24 (pt id 0) = some v := by rw [load_row h, part_one a24]; rfl
theorem st24 {s : SH} {id : Nat} {v w : Value} (h : HP.get s.h id = some (.row [v])) (hw : w.cells.toList = [w] ∧ oneC w = true) : storeD Tryd.prog s 24 (pt id 0) w = some (putD s id (.row [w])) := by
  rw [store_row (l := [w]) z24 h hw.1 rfl (by simp [hw.2]) (by simp)]; rfl
theorem grow_one {α : Type} {lo z : Nat} {enc : α → List Value} {s : SH} {v : Value} {xs : List α} (h : Grow lo z enc s v xs) : v.cells.toList = [v] ∧ oneC v = true := by
  rcases h with ⟨_, rfl | rfl⟩ | ⟨id, _, _, rfl, _⟩ <;> exact ⟨rfl, rfl⟩
theorem c29 {n id m p pm pr many : Nat} {s : SH} {B : List UInt8} (hR : Rd id m B s p) (g1 : HP.get s.h pm = some (.row [I (many : Int)])) (g2 : HP.get s.h pr = some (.row [pt id 0])) (hmany : many ≤ 120) (hid1 : pm ≠ id) (hid2 : pr ≠ id) (hpm : pm < s.n) (hpr : pr < s.n) :
    One (callD Tryd.prog AB (n + 11) (.fn 29) [.func (.func 60) #[] #[pt pm 0, pt pr 0]] s) fun v s' => ∃ pre, But id s s' ∧ Grow s.n 2 sn s' v pre ∧ ((pre.length = many ∧ ∃ q, decB many t0 x0 (lft B p) = some (pre, lft B q) ∧ Rd id m B s' q) ∨ (pre.length ≠ many ∧ decB many t0 x0 (lft B p) = none)) := by
  have hid := hR.2.1
  have key : One (callD Tryd.prog AB (n + 10) (.fn 59) [fzV 2 #[], .func (.func 60) #[] #[pt pm 0, pt pr 0]] s) fun v s' => ∃ pre, But id s s' ∧ Grow s.n 2 sn s' v pre ∧ ((pre.length = many ∧ ∃ q, decB many t0 x0 (lft B p) = some (pre, lft B q) ∧ Rd id m B s' q) ∨ (pre.length ≠ many ∧ decB many t0 x0 (lft B p) = none)) := by
    rw [call_fn (fn := Tryd.f59) rfl rfl (by kernel_rfl)]
    show One (bodyD Tryd.prog false _ _ 59 Tryd.f59 _ s) _
    rw [f59_r]
    let s1 : SH := newD s (.row [fzV 2 #[]])
    have n1 : s1.n = s.n + 1 := rfl
    have b1 : boxD s (fzV 2 #[]) = some (pt s.n 0, s1) := box_at rfl rfl
    simp only [f59, oO, bindS, many1, jnE, boolS, gdB, fst', snd', b1]
    generalize htl : [fzV 2 #[], _, pt s.n 0, undefV, fzV 2 #[], undefV, _, undefV, undefV, undefV, undefV, undefV, undefV] = tl
    let s2 : SH := newD s1 (.loop 0 none 59 tl [7] (cdp Tryd.f59 [1, 0, 1, 0, 0]) (cdp Tryd.f59 [1, 0, 1, 0, 1]))
    have n2 : s2.n = s.n + 2 := rfl
    have hE : Ext s s2 := ext2' s _ _
    have hrun := c60 (n := n) (id := id) (m := m) (p := p) (l := s1.n) (pa := s.n) (pm := pm) (pr := pr) (many := many) (s := s2) (B := B) (hR.ext hE) (by rw [hE.2 pm hpm]; exact g1) (by rw [hE.2 pr hpr]; exact g2) hmany hid1 hid2 (by omega) (by omega) (by omega) (by omega) (by omega) (by omega) (by omega) (by omega) (by omega) (by omega)
      (fun pre s' => s2.n ≤ s'.n ∧ HP.get s'.h s1.n = some (.loop 0 none 59 tl [7] (cdp Tryd.f59 [1, 0, 1, 0, 0]) (cdp Tryd.f59 [1, 0, 1, 0, 1])) ∧ ∃ v, HP.get s'.h s.n = some (.row [v]) ∧ Grow s2.n 2 sn s' v pre)
      ⟨Nat.le_refl _, get_n0 s1 _, _, get_n1 s _ _, .inl ⟨rfl, .inl rfl⟩⟩
      (fun pre s' s'' ⟨k1, k2, v, k3, k4⟩ hn hs => ⟨Nat.le_trans k1 hn, by rw [hs s1.n (by omega) (.inl ⟨by omega, by omega⟩)]; exact k2, v, by rw [hs s.n (by omega) (.inl ⟨by omega, by omega⟩)]; exact k3, k4.mono hn fun i hi hi2 hg => hs i hi2 (.inr fun h => h _ _ hg)⟩) ?_
    · obtain ⟨w, s6, hC, pre, q, ⟨k1, k2, v, k3, k4⟩, hR6, hfr, hd⟩ := hrun
      have htg : tgtD (.func (.func 60) #[] #[pt pm 0, pt pr 0]) [.func (.yield s1.n) #[] #[]] = some (.fn 60, [.func (.yield s1.n) #[] #[], pt pm 0, pt pr 0]) := rfl
      rw [rng_none htg bodied60 hC k2 (by decide)]
      have hld : loadD Tryd.prog (delD s6 s1.n) 24 (pt s.n 0) = some v := ld24 (by rw [get_del (by omega)]; exact k3)
      rw [hld, bindS]
      have hG : Grow s.n 2 sn (delD s6 s1.n) v pre := by
        refine Grow.weak (lo' := s2.n) (k4.mono (Nat.le_refl _) fun i hi hi2 hg => get_del ?_) (by omega)
        intro e; rw [e, k2] at hg; cases hg
      refine One.ret ⟨pre, ⟨by rw [delD_n]; omega, fun j hj hj2 => ?_⟩, hG, ?_⟩
      · rw [get_del (by omega)]
        rw [hfr j (by omega) hj2 (by omega) (by omega)]; exact hE.2 j hj
      · rcases hd with ⟨h1, h2⟩ | ⟨h1, h2⟩
        · exact .inl ⟨h1, q, h2, by rw [get_del (by omega)]; exact hR6.1, hR6.2.1, hR6.2.2⟩
        · exact .inr ⟨h1, h2⟩
    · rintro pre s' t v ⟨k1, k2, w, k3, k4⟩ hlen
      have hrd : ∀ s7 : SH, HP.get s7.h s1.n = some (.loop 0 none 59 tl [7] (cdp Tryd.f59 [1, 0, 1, 0, 0]) (cdp Tryd.f59 [1, 0, 1, 0, 1])) → roundD Tryd.prog AB.row (callD Tryd.prog AB (n + 7)) AB.N s1.n [sv (t : Nat) v] s7 = f59_r0 (dOps Tryd.prog) (callD Tryd.prog AB (n + 7)) AB.N s1.n (pt s.n 0) (sv (t : Nat) v) s7 := by
        intro s7 h7
        subst htl
        exact f59_r0_e rfl (loop_of h7) _
      rw [call_yld, hrd _ k2]
      let s3 : SH := newD s' (.row [I (t : Int), U (v : Int)])
      have n3 : s3.n = s'.n + 1 := rfl
      have m2' : HP.get s3.h s1.n = some (.loop 0 none 59 tl [7] (cdp Tryd.f59 [1, 0, 1, 0, 0]) (cdp Tryd.f59 [1, 0, 1, 0, 1])) := by rw [get_old (by omega)]; exact k2
      let s4 : SH := putD s3 s1.n (.loop 1 none 59 tl [7] (cdp Tryd.f59 [1, 0, 1, 0, 0]) (cdp Tryd.f59 [1, 0, 1, 0, 1]))
      have n4 : s4.n = s'.n + 1 := rfl
      have hb : beginD s3 s1.n = some s4 := begin_of m2'
      have g3 : HP.get s4.h s.n = some (.row [w]) := by rw [get_put_other (by omega), get_old (by omega)]; exact k3
      have g4 : HP.get s4.h s'.n = some (.row [I (t : Int), U (v : Int)]) := by rw [get_put_other (by omega)]; exact get_n0 s' _
      have hG4 : Grow s2.n 2 sn s4 w pre := (k4.new _).put _ (by rw [m2']; intro e; cases e)
      obtain ⟨v5, s5, e5, z1, z2, z3⟩ := gapp24n (m2 := 1) (ys := [(t, v)]) hG4 (by omega) (by simp only [List.length_singleton]; omega)
      have g5 : HP.get s5.h s.n = some (.row [w]) := by rw [z2.2 _ (by omega)]; exact g3
      have st5 := st24 g5 (grow_one z1)
      have g6 : HP.get (putD s5 s.n (.row [v5])).h s1.n = some (.loop 1 none 59 tl [7] (cdp Tryd.f59 [1, 0, 1, 0, 0]) (cdp Tryd.f59 [1, 0, 1, 0, 1])) := by rw [get_put_other (by omega), z2.2 _ (by omega)]; exact get_put_same _
      have st0 : storeD Tryd.prog (newD s' (.row [I 0, U 0])) 40 (pt s'.n 0) (sv (t : Nat) v) = some s3 := st40_0 s' _ _
      have ld4 : loadD Tryd.prog s4 40 (pt s'.n 0) = some (sv (t : Nat) v) := by rw [load_row g4, p40]
      have e5' : appD Tryd.prog false s4 24 24 w (sl sn 1 [(t, v)]) = some (v5, s5) := e5
      have bs := bs24n s4 (t, v)
      simp only [f59_r0, oO, bindS, many1, jnE, boolS, gdB, fst', snd', al40, st0, hb, ld24 g3, ld4, bs, e5', st5, setLoop_of g6, Option.map_some]
      have hn5 := z2.1
      refine ⟨_, rfl, ⟨by rw [putD_n, putD_n]; omega, get_put_same _, v5, by rw [get_put_other (by omega)]; exact get_put_same _, ?_⟩, by rw [putD_n, putD_n]; omega, fun j hj hj2 hj3 hj4 => ?_⟩
      · exact (z1.put _ (by rw [g5]; intro e; cases e)).put _ (by rw [g6]; intro e; cases e)
      · have e1 : HP.get s4.h j = HP.get s'.h j := by rw [get_put_other hj3, get_old (by omega)]
        rw [get_put_other hj3, get_put_other hj2]
        rcases hj4 with h | h
        · rw [z2.2 j h, e1]
        · rw [z3 j (by omega) (by rw [e1]; exact h _ _), e1]
  obtain ⟨v, s', e, h⟩ := key
  refine ⟨v, s', ?_, h⟩
  rw [call_fn (fn := Tryd.f29) rfl rfl (by kernel_rfl)]
  show bodyD Tryd.prog false _ _ 29 Tryd.f29 _ s = _
  rw [f29_r]
  simp only [f29, oO, bindS, many1, jnE, boolS, gdB, fst', snd', e]
theorem c31 {n id m p : Nat} {s : SH} {B : List UInt8} (hR : Rd id m B s p) : ∃ s', callD Tryd.prog AB (n + 4) (.fn 31) [pt id 0] s = some [(.bool (decide ((lft B p).length < 8 ∧ valB (lft B p) = 0)), s')] ∧ But id s s' := by
  rw [call_fn (fn := Tryd.f31) rfl rfl (by kernel_rfl)]
  show ∃ s', bodyD Tryd.prog false _ _ 31 Tryd.f31 _ s = _ ∧ _
  rw [f31_r]
  have hl := lft_len B p
  have hBl := hR.2.2.2.2
  have e63 := c63 (n := n + 1) hR
  rw [← hl] at e63
  by_cases h8 : (lft B p).length < 8
  · have h8' : ¬ ((lft B p).length : Int) ≥ 8 := by omega
    have hg : getB (lft B p).length (lft B p) = some (valB (lft B p), []) := by
      unfold getB
      rw [if_pos (Nat.le_refl _), List.take_length, List.drop_length]
    obtain ⟨e64, k1, k2⟩ := c64_ok (n := n) hR (by omega) hg
    refine ⟨rdS s id m B (p + (lft B p).length), ?_, (But.rdS (But.refl id s))⟩
    have e : decide ((valB (lft B p) : Int) = 0) = decide ((lft B p).length < 8 ∧ valB (lft B p) = 0) := by
      by_cases h0 : valB (lft B p) = 0
      · have hh : (lft B p).length < 8 ∧ valB (lft B p) = 0 := ⟨h8, h0⟩
        rw [decide_eq_true hh, decide_eq_true (by omega)]
      · have hh : ¬ ((lft B p).length < 8 ∧ valB (lft B p) = 0) := fun h => h0 h.2
        rw [decide_eq_false hh, decide_eq_false (by omega)]
    simp only [f31, oO, bindS, many1, jnE, boolS, gdB, fst', snd', e63, bop_geq, h8', decide_false, condF, e64, ext2, bop_eql, e]
  · have h8' : ((lft B p).length : Int) ≥ 8 := by omega
    have hh : ¬ ((lft B p).length < 8 ∧ valB (lft B p) = 0) := fun h => h8 h.1
    refine ⟨s, ?_, .refl _ _⟩
    rw [decide_eq_false hh]
    simp only [f31, oO, bindS, many1, jnE, boolS, gdB, fst', snd', e63, bop_geq, h8', decide_true, condT]
end Go.Proofs.YtmhmbmogodofeaaDoor.S
