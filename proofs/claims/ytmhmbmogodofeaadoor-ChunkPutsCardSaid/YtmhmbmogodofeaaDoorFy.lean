/- FS, part y: objects just made; plain values; what a call leaves but for one object. -/
import Derived.Test.YtmhmbmogodofeaaDoorFx
set_option autoImplicit false
set_option linter.unusedVariables false
namespace Go.FS
section
variable {G : Nat → Option (Array Value)} {P : Program}
/-! Objects just made. -/
theorem new_fn (s : St (FG G)) (o : DObj) : newD s o = { h := fun i => if i = s.n then some o else s.h i, n := s.n + 1 } := rfl
theorem put_new (s : St (FG G)) (a b : DObj) : putD (newD s a) s.n b = newD s b := by
  rw [put_fn, new_fn, new_fn]
  congr 1
  funext i
  by_cases h : i = s.n
  · rw [if_pos h, if_pos h]
  · rw [if_neg h]; show (if i = s.n then some a else s.h i) = _; rw [if_neg h, if_neg h]
theorem put_put (s : St (FG G)) (i : Nat) (a b : DObj) : putD (putD s i a) i b = putD s i b := by
  rw [put_fn, put_fn, put_fn]
  congr 1
  funext j
  by_cases hj : j = i
  · rw [if_pos hj, if_pos hj]
  · rw [if_neg hj, if_neg hj]; show (if j = i then some a else s.h j) = s.h j; rw [if_neg hj]
theorem get_n0 (s : St (FG G)) (a : DObj) : (FG G).get (newD s a).h s.n = some a := get_new rfl
theorem get_n1 (s : St (FG G)) (a b : DObj) : (FG G).get (newD (newD s a) b).h s.n = some a := by rw [get_old (by rw [newD_n]; omega)]; exact get_n0 s a
theorem get_n2 (s : St (FG G)) (a b c : DObj) : (FG G).get (newD (newD (newD s a) b) c).h s.n = some a := by rw [get_old (by rw [newD_n, newD_n]; omega)]; exact get_n1 s a b
theorem get_n3 (s : St (FG G)) (a b c d : DObj) : (FG G).get (newD (newD (newD (newD s a) b) c) d).h s.n = some a := by rw [get_old (by rw [newD_n, newD_n, newD_n]; omega)]; exact get_n2 s a b c
variable {t : TypeId} {cs : List Value} {o : Nat}
theorem ld_n0 (s : St (FG G)) : loadD P (newD s (.row cs)) t (.pointer (some ⟨s.n, o, none⟩)) = partD P t cs o := load_row (get_n0 s _)
theorem ld_n1 (s : St (FG G)) (b : DObj) : loadD P (newD (newD s (.row cs)) b) t (.pointer (some ⟨s.n, o, none⟩)) = partD P t cs o := load_row (get_n1 s _ b)
theorem ld_n2 (s : St (FG G)) (b c : DObj) : loadD P (newD (newD (newD s (.row cs)) b) c) t (.pointer (some ⟨s.n, o, none⟩)) = partD P t cs o := load_row (get_n2 s _ b c)
theorem ld_n3 (s : St (FG G)) (b c d : DObj) : loadD P (newD (newD (newD (newD s (.row cs)) b) c) d) t (.pointer (some ⟨s.n, o, none⟩)) = partD P t cs o := load_row (get_n3 s _ b c d)
theorem st_all {s : St (FG G)} {id n : Nat} {r l : List Value} (hz : sizeD P t = some n) (h : (FG G).get s.h id = some (.row r)) (hl : l.length = n) (h1 : l.all oneC = true) (hr : r.length = n) : storeD P s t (.pointer (some ⟨id, 0, none⟩)) (.agg l.toArray) = some (putD s id (.row l)) := by
  rw [store_row (l := l) hz h (by simp [Value.cells]) hl h1 (by omega)]
  unfold splice
  rw [List.take_zero, List.nil_append, Nat.zero_add, List.drop_eq_nil_of_le (by omega), List.append_nil]
end
section
variable {G : Nat → Option (Array Value)} {P : Program} {t : TypeId} {n : Nat} {r l : List Value}
theorem st_n0 (s : St (FG G)) (hz : sizeD P t = some n) (hl : l.length = n) (h1 : l.all oneC = true) (hr : r.length = n) : storeD P (newD s (.row r)) t (.pointer (some ⟨s.n, 0, none⟩)) (.agg l.toArray) = some (newD s (.row l)) := by rw [st_all hz (get_n0 s _) hl h1 hr, put_new]
/-! Plain values: nothing in them hangs on the heap. -/
def Plain (v : Value) : Prop := ∀ n, stripN 8 n v = v ∧ Bel n v
theorem Plain.int (k : IntKind) (i : Int) : Plain (.int k i) := fun n => ⟨rfl, .int k i⟩
theorem Plain.bool (b : Bool) : Plain (.bool b) := fun n => ⟨rfl, .bool b⟩
theorem Plain.string (b : ByteArray) : Plain (.string b) := fun n => ⟨rfl, .string b⟩
/-- A struct of numbers, bools, texts. -/
def Leaf : Value → Bool
  | .int _ _ => true
  | .bool _ => true
  | .string _ => true
  | _ => false
theorem leaf_strip {v : Value} (h : Leaf v = true) (k n : Nat) : stripN (k + 1) n v = v := by cases v <;> first | rfl | cases h
theorem leaf_bel {v : Value} (h : Leaf v = true) (n : Nat) : Bel n v := by
  cases v with
  | int k i => exact .int k i
  | bool b => exact .bool b
  | string b => exact .string b
  | _ => cases h
theorem Plain.agg {l : List Value} (h : l.all Leaf = true) : Plain (.agg l.toArray) := by
  intro n
  rw [List.all_eq_true] at h
  refine ⟨?_, .agg _ fun x hx => leaf_bel (h x (by simpa using hx)) n⟩
  show Value.agg ((l.toArray.toList.map (stripN 7 n)).toArray) = _
  have : l.toArray.toList = l := by simp
  rw [this]
  congr 2
  exact (List.map_congr_left fun x hx => leaf_strip (h x hx) 6 n).trans (List.map_id' l)
theorem cut_plain {A : Ann (FG G)} {k : Nat} {f : FuncId} {fn : Func} (hI : A.i f = none) (hc : A.cut f = some [none]) (hf : P.funcs[f]? = some fn) {args : List Value} {s : St (FG G)} {v : Value} (hv : ∀ a, v ≠ .tuple a) (hp : Plain v)
    (h : One (bodyD P (A.row f) (callD P A k) A.N f fn args s) fun v' s' => v' = v ∧ Ext s s') : callD P A (k + 1) (.fn f) args s = some [(v, s)] := by
  have := cut_call hI hc hf hv (by rw [(hp s.n).1]; exact (hp s.n).2) h
  rw [(hp s.n).1] at this
  exact this
theorem cutL_none {s s' : St (FG G)} : ∀ (l : List Value) (fl : List (Option Nat)) (st : St (FG G)), (∀ x ∈ fl, x = none) → (∀ c ∈ l, Bel s.n (stripN 8 s.n c)) → cutL s s' fl l st = some (l.map (stripN 8 s.n), st)
  | [], fl, st, _, _ => rfl
  | c :: l, fl, st, hf, hb => by
    have e : fl.headD none = none := by cases fl with
      | nil => rfl
      | cons a _ => exact hf a (List.mem_cons_self ..)
    unfold cutL
    rw [e]
    have e2 : cutC s s' st none c = some (stripN 8 s.n c, st) := by
      unfold cutC
      simp only
      rw [if_pos (hb c (List.mem_cons_self ..))]
    rw [e2]
    show ((cutL s s' fl.tail l st).map _) = _
    rw [cutL_none l fl.tail st (fun x hx => hf x (List.mem_of_mem_tail hx)) fun x hx => hb x (List.mem_cons_of_mem _ hx)]
    rfl
theorem cut_tupG {s s' s2 : St (FG G)} {a : Array Value} {l : List Value} (hf : frzL (frz2 s.n) a.toList s' = (l, s2)) (hn : s.n ≤ s2.n) (h : ∀ i, i < s.n → (FG G).get s2.h i = (FG G).get s.h i ∨ BelO s.n ((FG G).get s2.h i)) (hb : ∀ c ∈ l, Bel s.n (stripN 8 s.n c)) : cutJ [none] s [(.tuple a, s')] = some [(.tuple (l.map (stripN 8 s.n)).toArray, mrg s s2)] := by
  have hc : s.n ≤ s2.n ∧ (∀ i, i < s.n → (FG G).get s2.h i = (FG G).get s.h i ∨ BelO s.n ((FG G).get s2.h i)) ∧ (([none] : List (Option Nat)).filter Option.isSome).length ≤ 1 := ⟨hn, h, by decide⟩
  have e0 : frzT s.n s' (.tuple a) = (.tuple l.toArray, s2) := by
    show (Value.tuple (frzL (frz2 s.n) a.toList s').1.toArray, (frzL (frz2 s.n) a.toList s').2) = _
    rw [hf]
  have e : cutD [none] s (.tuple a) s' = some (.tuple (l.map (stripN 8 s.n)).toArray, mrg s s2) := by
    unfold cutD
    rw [e0]
    show cutD0 [none] s (.tuple l.toArray) s2 = _
    unfold cutD0
    rw [if_pos hc]
    show ((cutL s s2 [none] l.toArray.toList (mrg s s2)).map _) = _
    rw [cutL_none l [none] _ (fun x hx => by simpa using hx) hb]
    rfl
  unfold cutJ
  simp only [List.map_cons, List.map_nil, e, Option.map_some, joinO, List.append_nil, merge_one]
theorem frzL_bel {m k : Nat} : ∀ (l : List Value) (s : St (FG G)), (∀ c ∈ l, Bel m (stripN (k + 2) m c)) → frzL (frz2 m) l s = (l, s) := fun l s h => frzL_same l s fun c hc s => frz2_bel (h c hc)
/-- Several plain values. -/
theorem cutT_plain {A : Ann (FG G)} {k : Nat} {f : FuncId} {fn : Func} (hI : A.i f = none) (hc : A.cut f = some [none]) (hf : P.funcs[f]? = some fn) {args : List Value} {s : St (FG G)} {l : List Value} (hp : ∀ v ∈ l, Plain v)
    (h : One (bodyD P (A.row f) (callD P A k) A.N f fn args s) fun v' s' => v' = .tuple l.toArray ∧ Ext s s') : callD P A (k + 1) (.fn f) args s = some [(.tuple l.toArray, s)] := by
  obtain ⟨v', s', e, rfl, h2⟩ := h
  have hb : ∀ c ∈ l, Bel s.n (stripN 8 s.n c) := fun c hc => by rw [(hp c hc s.n).1]; exact (hp c hc s.n).2
  have hl : l.toArray.toList = l := by simp
  rw [call_cut hI hc hf, e, bindS, cut_tupG (s2 := s') (l := l) (by rw [hl]; exact frzL_bel (k := 6) l s' hb) h2.1 (fun i hi => .inl (h2.2 i hi)) hb, mrg_same h2]
  rw [(List.map_congr_left fun x hx => (hp x hx s.n).1).trans (List.map_id' l)]
/-- All stands but for one row. -/
def But (id : Nat) (s s' : St (FG G)) : Prop := s.n ≤ s'.n ∧ ∀ j, j < s.n → j ≠ id → (FG G).get s'.h j = (FG G).get s.h j
theorem But.refl (id : Nat) (s : St (FG G)) : But id s s := ⟨Nat.le_refl _, fun _ _ _ => rfl⟩
theorem But.trans {id : Nat} {a b c : St (FG G)} (h : But id a b) (k : But id b c) : But id a c := ⟨Nat.le_trans h.1 k.1, fun j hj hi => (k.2 j (Nat.lt_of_lt_of_le hj h.1) hi).trans (h.2 j hj hi)⟩
theorem But.ext {id : Nat} {a b c : St (FG G)} (h : But id a b) (k : Ext b c) : But id a c := ⟨Nat.le_trans h.1 k.1, fun j hj hi => (k.2 j (Nat.lt_of_lt_of_le hj h.1)).trans (h.2 j hj hi)⟩
theorem But.new {id : Nat} {a b : St (FG G)} (h : But id a b) (o : DObj) : But id a (newD b o) := h.ext ((Ext.refl b).new o)
theorem But.put {id : Nat} {a b : St (FG G)} (h : But id a b) (o : DObj) : But id a (putD b id o) := ⟨h.1, fun j hj hi => by rw [get_put_other hi]; exact h.2 j hj hi⟩
theorem But.putNew {id i : Nat} {a b : St (FG G)} (h : But id a b) (hi : a.n ≤ i) (o : DObj) : But id a (putD b i o) := ⟨h.1, fun j hj hj2 => by rw [get_put_other (by omega)]; exact h.2 j hj hj2⟩
end
end Go.FS
