/- FS, part q: what a row's list of package-level variables gives. -/
import Derived.Test.YtmhmbmogodofeaaDoorFp
import Derived.Lib.LaidTab
set_option autoImplicit false
namespace Go.FS
open Go.RowKit
variable {P : Program} {Hd : Type} {enc : TypeId × Value → Hd}

/-- The cells of a datum of numbers, bools and texts. -/
def litsN {Hd : Type} : Nat → DataW Hd → Option (List Value)
  | 0, _ => none
  | k + 1, d => match d with
    | .lit (.bool b) => some [.bool b]
    | .lit (.int q n) => some [.int q n]
    | .lit (.string l) => some [.string ⟨l.toArray⟩]
    | .agg ds => (ds.mapM (litsN k)).map List.flatten
    | _ => none

theorem lits_many {w : World} {base : Nat} {sp : Nat → Bool} {held : Bool} {k : Nat} {α : Type} {f : α → Option (DataW Hd × List MemPlace)} {as : List α} {xs : List (DataW Hd × List MemPlace)} {M : List (List Value)} {ch : α → List Value}
    (hf : as.mapM f = some xs) (hM : (xs.map (·.1)).mapM (litsN k) = some M) (ih : ∀ a ∈ as, ∀ x l, f a = some x → litsN k x.1 = some l → ch a = l) : as.map ch = M := by
  have h1 := Lib.mapM_length hf
  have h2 := Lib.mapM_length hM
  rw [List.length_map] at h2
  refine List.ext_getElem (by rw [List.length_map]; omega) fun i a b => ?_
  rw [List.length_map] at a
  obtain ⟨x, q1, q2⟩ := Lib.mapM_at hf i as[i] (by simp [a])
  obtain ⟨l, q3, q4⟩ := Lib.mapM_at hM i x.1 (by simp [q1])
  have := ih as[i] (List.getElem_mem a) x l q2 q4
  rw [List.getElem_map, this]
  rw [List.getElem?_eq_getElem b] at q3
  injection q3 with q3
  exact q3.symm

theorem chunks_all {z n : Nat} {cs : List Value} (h : cs.length = n * z) : ((List.range n).map fun i => (cs.drop (i * z)).take z).flatten = cs := by
  induction n generalizing cs with
  | zero => 
    have : cs = [] := List.eq_nil_of_length_eq_zero (by simpa using h)
    subst this; rfl
  | succ n ih =>
    rw [List.range_succ_eq_map, List.map_cons, List.flatten_cons, List.map_map]
    have e1 : (fun i => (cs.drop (i * z)).take z) ∘ Nat.succ = fun i => ((cs.drop z).drop (i * z)).take z := by
      funext i
      simp only [Function.comp, List.drop_drop]
      rw [Nat.succ_mul, Nat.add_comm]
    rw [e1, ih (by rw [List.length_drop, h, Nat.succ_mul]; omega)]
    simp only [Nat.zero_mul, List.drop_zero]
    exact List.take_append_drop z cs

theorem lits_ok {w : World} {base : Nat} {sp : Nat → Bool} {held : Bool} : ∀ (F f : Nat) (t : TypeId) (cs : List Value) (d : DataW Hd) (p : List MemPlace) (k : Nat) (l : List Value), DataW.trod enc P w base sp held f t cs = some (d, p) → plainT P F t = true → litsN k d = some l → cs = l
  | 0, _, _, _, _, _, _, _, _, hp, _ => by cases hp
  | F + 1, 0, _, _, _, _, _, _, h, _, _ => by simp [DataW.trod] at h
  | F + 1, f + 1, t, cs, d, p, 0, l, _, _, hl => by cases hl
  | F + 1, f + 1, t, cs, d, p, k + 1, l, h, hp, hl => by
    unfold plainT at hp
    split at hp
    next hu =>
      unfold DataW.trod at h
      rw [hu] at h
      split at h <;> first | (cases h; done) | skip
      all_goals rename_i hu2; first | (cases hu2; done) | skip
      injection h with h; injection h with h1 _; subst h1
      injection hl
    next q hu =>
      unfold DataW.trod at h
      rw [hu] at h
      split at h <;> first | (cases h; done) | skip
      all_goals rename_i hu2; first | (cases hu2; done) | skip
      all_goals
        injection hu2 with hu2; injection hu2 with hu2; subst hu2
        split at h
        · rename_i hc
          injection h with h; injection h with h1 _; subst h1
          obtain ⟨rfl, _⟩ := hc
          injection hl
        · cases h
    next hu =>
      unfold DataW.trod at h
      rw [hu] at h
      split at h <;> first | (cases h; done) | skip
      all_goals rename_i hu2; first | (cases hu2; done) | skip
      split at h
      · injection h with h; injection h with h1 _; subst h1
        injection hl
      · cases h
    next e hu =>
      unfold DataW.trod at h
      rw [hu] at h
      split at h <;> first | (cases h; done) | skip
      all_goals rename_i hu2; first | (cases hu2; done) | skip
      · injection h with h; injection h with h1 _; subst h1; cases hl
      · dsimp only at h
        split at h
        · obtain ⟨es, _, h⟩ := bsome h
          obtain ⟨r, _, h⟩ := msome h
          injection h with h1 _; subst h1; cases hl
        · cases h
    next fs hu =>
      simp only [Bool.and_eq_true] at hp
      simp only [DataW.trod, hu] at h
      split at h
      · rename_i hlen
        obtain ⟨xs, hx, h⟩ := msome h
        injection h with h1 _; subst h1
        obtain ⟨M, hM, rfl⟩ := msome hl
        obtain ⟨_, hd⟩ := tile_cells (cs := cs) hp.1 hlen
        rw [List.drop_zero] at hd
        rw [hd]
        congr 1
        exact lits_many (w := w) (base := base) (sp := sp) (held := held) hx hM fun a ha x l q1 q2 => lits_ok F f a.type _ x.1 x.2 k l q1 (List.all_eq_true.1 hp.2 a ha) q2
      · cases h
    next n e hu =>
      simp only [Bool.and_eq_true] at hp
      simp only [DataW.trod, hu] at h
      split at h
      · rename_i hlen
        obtain ⟨xs, hx, h⟩ := msome h
        injection h with h1 _; subst h1
        obtain ⟨M, hM, rfl⟩ := msome hl
        have hsz := Nat.eq_of_beq_eq_true hp.1.1
        have := chunks_all (cs := cs) (z := P.cellsOf e) (n := n) (by rw [hlen, hsz])
        rw [← this]
        congr 1
        exact lits_many (w := w) (base := base) (sp := sp) (held := held) hx hM fun a ha x l q1 q2 => lits_ok F f e _ x.1 x.2 k l q1 hp.2 q2
      · cases h
    next => cases hp

/-- What the row lists of a variable. -/
theorem laid_at {W : World} : ∀ {laid : List (String × DataW Unit)} {ps : List MemPlace}, DataW.LaidVars P W laid ps → ∀ x ∈ laid, ∃ g t cs fuel p, P.globalNamed x.1 = some g ∧ (P.globals[g]?).map (·.type) = some t ∧ W.var? P x.1 = some cs ∧
    ∃ (enc : TypeId × Value → Unit) (base : Nat) (sp : Nat → Bool) (held : Bool), DataW.trod enc P W base sp held fuel t cs.toList = some (x.2, p)
  | [], _, _, x, hx => by cases hx
  | y :: l, ps, h, x, hx => by
    obtain ⟨g, t, cs, fuel, p, q, h1, h2, h3, h4, h5, h6⟩ := h
    cases hx with
    | head => exact ⟨g, t, cs, fuel, p, h1, h2, h3, _, _, _, _, h4⟩
    | tail _ hx => exact laid_at h5 x hx
/-- A listed variable of numbers, bools and texts, as FS knows it. -/
theorem glb_of_laid {W : World} {laid : List (String × DataW Unit)} (h : laidMet P laid W) {name : String} {d : DataW Unit} (hx : (name, d) ∈ laid) {g : Nat} {t : TypeId} (hg : P.globalNamed name = some g) (ht : (P.globals[g]?).map (·.type) = some t) (F k : Nat) (hp : plainT P F t = true) {cs : Array Value} (hl : litsN k d = some cs.toList) (hf : cs.toList.all flat1 = true) :
    GlbRel (Env0 W) g cs := by
  obtain ⟨ps, hps, _⟩ := h
  obtain ⟨g', t', cs', fuel, p, h1, h2, h3, enc, base, sp, held, h4⟩ := laid_at hps _ hx
  obtain rfl := Option.some.inj (hg.symm.trans h1)
  obtain rfl := Option.some.inj (ht.symm.trans h2)
  have hcs := lits_ok F fuel _ _ _ _ k _ h4 hp hl
  intro j hj
  have hj' : j < cs.toList.length := by simpa using hj
  have hfl := List.all_eq_true.1 hf cs[j] (by simp)
  refine ⟨cs[j], ?_, flat1_refl hfl⟩
  show W.cell? ⟨g, j, none⟩ = _
  rw [World.var?_cell hg h3 j]
  have : cs' = cs := by rw [← Array.toArray_toList (xs := cs'), hcs, Array.toArray_toList]
  rw [this]; simp [hj]

end Go.FS
