/- FS, part o: calls, cut or not. -/
import Derived.Test.YtmhmbmogodofeaaDoorFn
set_option autoImplicit false
namespace Go.FS
open Go.RowKit
variable {P : Program} {H : HeapI}

theorem cutL_ok {E1 : Env} {s s1 : St H} {w1 : World} (hW1 : WRel E1 s1 w1) (hn : s.n ≤ E1.n) : ∀ (l : List Value) (l' : List Value) (fl : List (Option Nat)) (Es : Env) (st : St H) {l2 : List Value} {st' : St H}, LRel E1 l l' → (E1.to s.n).Le Es → Es.fz = E1.fz → Es.tb = E1.tb → WRel Es st w1 →
    ((fl.filter Option.isSome).length ≤ 1 ∧ ((st = mrg s s1 ∧ Es = E1.to s.n) ∨ (fl.filter Option.isSome).length = 0)) → cutL s s1 fl l st = some (l2, st') →
    ∃ E', LRel E' l2 l' ∧ WRel E' st' w1 ∧ Es.Le E' ∧ E'.fz = E1.fz ∧ E'.tb = E1.tb ∧ (∀ i, Es.n ≤ i → i < E'.n → E'.own i = false)
  | [], l', fl, Es, st, l2, st', hL, hle, hfz, htb, hWs, _, h => by
    have h : some (([] : List Value), st) = some (l2, st') := by cases fl <;> exact h
    injection h with h
    injection h with h1 h2
    subst h1 h2
    obtain rfl := hL.unnil
    exact ⟨Es, .nil Es, hWs, .refl Es, hfz, htb, fun i a b => absurd b (Nat.not_lt_of_le a)⟩
  | c :: l, m, fl, Es, st, l2, st', hL, hle, hfz, htb, hWs, hfl, h => by
    obtain ⟨c', l', rfl, hc, hl⟩ := hL.uncons
    have h : ((cutC s s1 st (fl.headD none) c).bind fun p => (cutL s s1 fl.tail l p.2).map fun q => (p.1 :: q.1, q.2)) = some (l2, st') := by cases fl <;> exact h
    obtain ⟨p, hp, h⟩ := bsome h
    obtain ⟨q, hq, h⟩ := msome h
    injection h with h1 h2
    subst h1 h2
    obtain ⟨p1, p2⟩ := p
    obtain ⟨q1, q2⟩ := q
    have hcount : (fl.filter Option.isSome).length = (if (fl.headD none).isSome then 1 else 0) + (fl.tail.filter Option.isSome).length := by
      cases fl with
      | nil => rfl
      | cons a fl =>
        cases a with
        | none => simp
        | some a => simp; omega
    obtain ⟨E2, a1, a2, a3, a4, a5, a6, a7⟩ := cutC_ok hW1 hc hn hle hfz htb hWs (fun ho => by
      rcases hfl.2 with h | h
      · exact h
      · rw [ho] at hcount; simp only [if_true] at hcount; omega) hp
    have hfl2 : (fl.tail.filter Option.isSome).length ≤ 1 ∧ ((p2 = mrg s s1 ∧ E2 = E1.to s.n) ∨ (fl.tail.filter Option.isSome).length = 0) := by
      refine ⟨by omega, ?_⟩
      cases ho : (fl.headD none) with
      | some z =>
        right
        rw [ho] at hcount
        simp only [Option.isSome_some, if_true] at hcount
        omega
      | none =>
        obtain ⟨e1, e2⟩ := a7 ho
        rw [ho] at hcount
        simp only [Option.isSome_none, Bool.false_eq_true, if_false] at hcount
        rcases hfl.2 with ⟨h1, h2⟩ | h
        · exact .inl ⟨e1.trans h1, e2.trans h2⟩
        · exact .inr (by omega)
    obtain ⟨E3, b1, b2, b3, b4, b5, b6⟩ := cutL_ok hW1 hn l l' fl.tail E2 p2 hl (hle.trans a3) a4 a5 a2 hfl2 hq
    refine ⟨E3, .cons (a1.mono b3) b1, b2, a3.trans b3, b4, b5, fun i x y => ?_⟩
    by_cases hi : i < E2.n
    · rw [b3.own i hi]; exact a6 i x hi
    · exact b6 i (by omega) y

theorem cut_ok {E : Env} {s s1 s2 : St H} {w : World} (hW : WRel E s w) {fl : List (Option Nat)} {v v2 v' : Value} {w1 : World} (hA : Ans E w v s1 v' w1) (h : cutD fl s v s1 = some (v2, s2)) : Ans E w v2 s2 v' w1 := by
  obtain ⟨E1, hv, hW1, hK⟩ := hA
  unfold cutD at h
  split at h
  next hc =>
    obtain ⟨hn, hB, hfl⟩ := hc
    obtain ⟨k1, k2⟩ := mrg_ok hW hW1 hK hB
    have hn' : s.n ≤ E1.n := by rw [← hW.n]; exact hK.le.n
    rw [hW.n] at k1 k2
    have fin : ∀ E', VRel E' v2 v' → WRel E' s2 w1 → (E1.to s.n).Le E' → E'.fz = E1.fz → E'.tb = E1.tb → (∀ i, (E1.to s.n).n ≤ i → i < E'.n → E'.own i = false) → Ans E w v2 s2 v' w1 := by
      intro E' h1 h2 h3 h4 h5 h6
      refine ⟨E', h1, h2, k2.le.trans h3, fun i a b c => ?_, fun b hb => hK.tbf b (by rw [← h5]; exact hb), hK.os, hK.tape, hK.output, hK.size, hK.block, fun b hb hn ht o => by rw [h4]; exact hK.fzf b hb hn ht o⟩
      have := h6 i (by show s.n ≤ i; rw [← hW.n]; exact a) b
      rw [this] at c; cases c
    split at h
    next a =>
      obtain ⟨q, hq, h⟩ := msome h
      injection h with h1 h2
      subst h1 h2
      cases hv with
      | dc v' =>
        -- a value of which nothing is said stays one
        have hL : LRel E1 [.nilFunc] [.nilFunc] := .cons .nilFunc (.nil E1)
        obtain ⟨E', b1, b2, b3, b4, b5, b6⟩ := cutL_ok hW1 hn' [.nilFunc] [.nilFunc] fl (E1.to s.n) (mrg s s1) hL (.refl _) rfl rfl k1 ⟨hfl, .inl ⟨rfl, rfl⟩⟩ hq
        have hq1 : q.1 = [.nilFunc] := by
          have hl := b1.1
          match hq2 : q.1, hl with
          | [x], _ =>
            have hx := b1.2 0 (by rw [hq2]; simp) (by simp)
            simp only [hq2, List.getElem_cons_zero] at hx
            have hq3 : ((cutC s s1 (mrg s s1) (fl.headD none) .nilFunc).bind fun p => (cutL s s1 fl.tail [] p.2).map fun q => (p.1 :: q.1, q.2)) = some q := by cases fl <;> exact hq
            obtain ⟨p, hp, hq3⟩ := bsome hq3
            obtain ⟨r, hr, hq3⟩ := msome hq3
            unfold cutC at hp
            have hst : stripN 8 s.n .nilFunc = .nilFunc := rfl
            rw [hst] at hp
            split at hp
            · split at hp
              · injection hp with hp
                rw [← hp] at hq3
                rw [← hq3] at hq2
                simp only [List.cons.injEq] at hq2
                rw [← hq2.1]
              · cases hp
            · cases hp
        exact fin E' (by rw [hq1]; exact .dc _) b2 b3 b4 b5 b6
      | tuple _ a' ha ra =>
        obtain ⟨E', b1, b2, b3, b4, b5, b6⟩ := cutL_ok hW1 hn' a.toList a'.toList fl (E1.to s.n) (mrg s s1) (LRel.ofArr ha ra) (.refl _) rfl rfl k1 ⟨hfl, .inl ⟨rfl, rfl⟩⟩ hq
        have := VRel.tupleL b1
        rw [Array.toArray_toList] at this
        exact fin E' this b2 b3 b4 b5 b6
    next =>
      obtain ⟨E', b1, b2, b3, b4, b5, b6, _⟩ := cutC_ok hW1 hv hn' (.refl _) rfl rfl k1 (fun _ => ⟨rfl, rfl⟩) h
      exact fin E' b1 b2 b3 b4 b5 b6
  next => cases h

/-- What the answers given otherwise must promise. -/
def IOk (P : Program) (I : Intr H) : Prop := ∀ f i, I f = some i → ∀ args s v s', i args s = some (v, s') → ∀ E w (args' : Array Value), WRel E s w → LRel E args args'.toList → FnOk P f args' w (Ans E w v s')

/-- No function with a body bears the one name that the machine knows otherwise. -/
def Named (P : Program) : Prop := ∀ (f : Nat) (fn : Func), P.funcs[f]? = some fn → fn.body.isSome = true → (fn.name == "runtime.NumGoroutine") = false

theorem cutJ_ok {E : Env} {s : St H} {w : World} (hW : WRel E s w) {fl : List (Option Nat)} {L L2 : List (Value × St H)} {v' : Value} {w1 : World} (hA : AnsL E w L v' w1) (h : cutJ fl s L = some L2) : AnsL E w L2 v' w1 := by
  obtain ⟨p, hp, hq⟩ := hA
  unfold cutJ at h
  obtain ⟨L1, h1, h2⟩ := msome h
  obtain ⟨r', q1, q2⟩ := joinO_mem h1 _ (List.mem_map_of_mem hp)
  obtain ⟨q, q3, q4⟩ := msome q1
  subst q4
  have hmem : q ∈ L1 := q2 q (List.mem_singleton.2 rfl)
  have hc := cut_ok hW hq (v2 := q.1) (s2 := q.2) q3
  have : q ∈ L2 := by
    rw [← h2]
    unfold mergeL
    split
    · exact hmem
    · rename_i a r
      split
      · rename_i hall
        cases hmem with
        | head => exact List.mem_singleton.2 rfl
        | tail _ hm => rw [hall q hm]; exact List.mem_singleton.2 rfl
      · exact hmem
  exact ⟨q, this, hc⟩

theorem fn_ok {A : Ann H} (hN : Named P) (hmix : P.follows .mixedOrders = true) {C : OracleJ H} (hC : COkJ P C) {f : FuncId} {fn : Func} (hf : P.funcs[f]? = some fn) {args : List Value} {s : St H} {L : List (Value × St H)}
    (h : (match A.cut f with
          | none => bodyD P (A.row f) C A.N f fn args s
          | some fl => (bodyD P (A.row f) C A.N f fn args s).bind fun L => cutJ fl s L) = some L) {E : Env} {w : World} {args' : Array Value} (hW : WRel E s w) (hA : LRel E args args'.toList) : FnOk P f args' w (AnsL E w L) := by
  have key : ∃ L0, bodyD P (A.row f) C A.N f fn args s = some L0 ∧ ∀ v' w', AnsL E w L0 v' w' → AnsL E w L v' w' := by
    cases hc : A.cut f with
    | none => rw [hc] at h; exact ⟨L, h, fun _ _ q => q⟩
    | some fl =>
      rw [hc] at h
      obtain ⟨p, hp, h⟩ := bsome h
      exact ⟨p, hp, fun v' w' q => cutJ_ok hW q h⟩
  obtain ⟨L0, hb0, himp⟩ := key
  refine .inl ⟨?_, (body_sound hC hmix A.N hf hb0 hW hA).mono fun e W' hq => ?_⟩
  · have hb : fn.body.isSome = true := by
      cases hb : fn.body with
      | some c => rfl
      | none => unfold bodyD at hb0; rw [hb] at hb0; cases hb0
    have hb2 : fn.body.isNone = false := by cases hx : fn.body <;> simp_all
    simp only [callFunc, Sem.run_bind, run_program, Result.andThen_ok, hf, hN f fn hf hb, hb2, Bool.false_eq_true, if_false]
    rfl
  · cases e with
    | returned v' => exact himp v' W' hq
    | panicked c => exact hq.elim
    | outgrown => exact hq.elim

theorem call_sound {A : Ann H} (hI : IOk P A.i) (hN : Named P) (hmix : P.follows .mixedOrders = true) : ∀ n, COkJ P (callD P A n)
  | 0 => fun g args s L h => by cases h
  | n + 1 => by
    have ih := call_sound hI hN hmix n
    intro g args s L h E w args' hW hA
    cases g with
    | yld l => exact fun hl => round_sound ih hmix A.N l h hW hA hl
    | fn f =>
      have h : (match A.i f with
        | some i => (i args s).map fun p => [p]
        | none => match P.funcs[f]? with
          | none => none
          | some fn => match A.cut f with
            | none => bodyD P (A.row f) (callD P A n) A.N f fn args s
            | some fl => (bodyD P (A.row f) (callD P A n) A.N f fn args s).bind fun L => cutJ fl s L) = some L := h
      cases hi : A.i f with
      | some i =>
        rw [hi] at h
        obtain ⟨p, hp, h⟩ := msome h
        subst h
        exact (hI f i hi args s p.1 p.2 hp E w args' hW hA).mono fun v' w' q => ⟨p, List.mem_singleton.2 rfl, q⟩
      | none =>
        rw [hi] at h
        cases hf : P.funcs[f]? with
        | none => rw [hf] at h; cases h
        | some fn =>
          rw [hf] at h
          exact fn_ok hN hmix ih hf h hW hA
end Go.FS
