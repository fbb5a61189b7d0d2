import Derived.Test.YtmhmbmogodofeaaDoorMF
import Derived.Test.YtmhmbmogodofeaaDoorTP
import Derived.Test.YtmhmbmogodofeaaDoorSP
set_option autoImplicit false
set_option linter.unusedVariables false
set_option linter.unusedSimpArgs false
set_option maxRecDepth 100000
namespace Go.Proofs.YtmhmbmogodofeaaDoor.S
open Go.FS Go.RowKit
attribute [local congr] bind_cg cond_cg gd_cg

/-! The reference's writer. -/
def rowL (bs : List Bool) : List Value := bs.map Value.bool
theorem rowL_len (bs : List Bool) : (rowL bs).length = bs.length := by unfold rowL; rw [List.length_map]
theorem rowL_app (a b : List Bool) : rowL (a ++ b) = rowL a ++ rowL b := by unfold rowL; rw [List.map_append]
theorem rowL_one (bs : List Bool) : (rowL bs).all oneC = true := by
  unfold rowL
  rw [List.all_eq_true]
  intro x hx
  obtain ⟨b, _, rfl⟩ := List.mem_map.1 hx
  rfl
def IsL (o : Option DObj) : Prop := ∃ bs, o = some (.row (rowL bs))
theorem not_isL {o : Option DObj} {x : Value} {l : List Value} (h : o = some (.row (x :: l))) (hx : ∀ y, x ≠ .bool y) : ¬ IsL o := by
  rintro ⟨B, e⟩
  rw [h] at e
  simp only [Option.some.injEq, DObj.row.injEq] at e
  cases B with
  | nil => cases e
  | cons b B => simp only [rowL, List.map_cons, List.cons.injEq] at e; exact hx _ e.1
def LB (lo id : Nat) (s : SH) (v : Value) (bs : List Bool) : Prop := (bs = [] ∧ v = fzV 2 #[]) ∨ ∃ ib, v = .slice (some ⟨ib, 0, none⟩) bs.length 2 ∧ (lo ≤ ib ∧ ib ≠ id) ∧ ib < s.n ∧ HP.get s.h ib = some (.row (rowL bs))
theorem LB.len {lo id : Nat} {s s' : SH} {v : Value} {bs : List Bool} (h : LB lo id s v bs) : lenOfD Tryd.prog s' 90 v = some (I (bs.length : Int)) := by
  rcases h with ⟨rfl, rfl⟩ | ⟨ib, rfl, _⟩
  · simp only [lenOfD, u90]; rfl
  · simp only [lenOfD, u90]
theorem LB.one {lo id : Nat} {s : SH} {v : Value} {bs : List Bool} (h : LB lo id s v bs) : v.cells.toList = [v] ∧ oneC v = true := by
  rcases h with ⟨_, rfl⟩ | ⟨ib, rfl, _⟩ <;> exact ⟨rfl, rfl⟩
theorem LB.nb {lo id : Nat} {s : SH} {v : Value} {bs : List Bool} (h : LB lo id s v bs) : ∀ y, v ≠ .bool y := by
  rcases h with ⟨_, rfl⟩ | ⟨ib, rfl, _⟩ <;> intro y e <;> cases e
theorem LB.ext {lo id : Nat} {a b : SH} {v : Value} {bs : List Bool} (h : LB lo id a v bs) (hn : a.n ≤ b.n) (hg : ∀ j, j < a.n → lo ≤ j → j ≠ id → IsL (HP.get a.h j) → HP.get b.h j = HP.get a.h j) : LB lo id b v bs := by
  rcases h with h | ⟨ib, h1, h2, h3, h4⟩
  · exact .inl h
  · exact .inr ⟨ib, h1, h2, by omega, by rw [hg ib h3 h2.1 h2.2 ⟨_, h4⟩]; exact h4⟩
theorem rep_one (b : Value) : ∀ k, repeatL k [b] = List.replicate k b
  | 0 => rfl
  | k + 1 => by rw [repeatL, rep_one b k]; rfl
theorem ms90 (s : SH) (k : Nat) (hk : k ≤ 64) : makeSliceD Tryd.prog true s 90 (I (k : Int)) (I (k : Int)) = some (.slice (some ⟨s.n, 0, none⟩) k 3, newD s (.row (rowL (List.replicate k false)))) := by
  have hi : Tryd.prog.info? 4 = some Tryd.t4 := by kernel_rfl
  have hz : (Tryd.t4.size : Nat) = 1 := by kernel_rfl
  have hbt : (Tryd.t4.bytes : Nat) = 1 := by kernel_rfl
  unfold makeSliceD
  simp only [u90, bindS, hi, zr4]
  have hc : (decide (0 ≤ (k : Int)) && decide ((k : Int) ≤ (k : Int)) && decide ((Tryd.t4.bytes : Int) * (k : Int) ≤ 140737488355328) && decide ((k : Int) ≤ 140737488355328) && Nat.beq [Value.bool false].length Tryd.t4.size) = true := by
    rw [hbt, hz, decide_eq_true (show (0 : Int) ≤ k by omega), decide_eq_true (Int.le_refl _), decide_eq_true (by omega), decide_eq_true (by omega)]; rfl
  rw [hc, condT, hz, rep_one]
  have hr : List.replicate (k : Int).toNat (Value.bool false) = rowL (List.replicate k false) := by unfold rowL; rw [List.map_replicate, Int.toNat_natCast]
  rw [hr, Int.toNat_natCast]
  rfl
theorem take_row (bs : List Bool) : takeD (rowL bs) 0 (bs.length * 1) = some (rowL bs) := by
  unfold takeD
  rw [List.drop_zero, List.take_of_length_le (by rw [rowL_len]; omega), rowL_len, Nat.mul_one, beq_yes, condT]
theorem cells_row {s : SH} {ib c : Nat} {bs : List Bool} (g : HP.get s.h ib = some (.row (rowL bs))) (hc : c / 2 = 1) : cellsD s 1 bs.length (.slice (some ⟨ib, 0, none⟩) bs.length c) = some (rowL bs) := by
  show (bif Nat.ble bs.length bs.length && Nat.beq (c / 2) 1 then (bif Nat.beq bs.length 0 then some [] else (rowD s ib).bind fun r => takeD r 0 (bs.length * 1)) else none) = _
  rw [Nat.ble_eq_true_of_le (Nat.le_refl _), hc]
  show (bif Nat.beq bs.length 0 then some [] else (rowD s ib).bind fun r => takeD r 0 (bs.length * 1)) = _
  by_cases h0 : bs.length = 0
  · have : bs = [] := List.length_eq_zero_iff.1 h0
    subst this; rfl
  · rw [beq_no h0, condF, row_of g, bindS, take_row]
theorem rowOf_chunk : ∀ (l : List Value), rowOf (chunkL 1 l.length l) = l := fun l => by
  unfold rowOf chunkL
  rw [List.map_map]
  have : ∀ (l : List Value) (k : Nat), ((List.range' k (l.length - k)).map ((fun v : Value => match v with | .agg c => c.toList | _ => []) ∘ fun i => .agg ((l.drop (i * 1)).take 1).toArray)).flatten = l.drop k := by
    intro l k
    generalize hm : l.length - k = m
    induction m generalizing k with
    | zero => rw [List.drop_eq_nil_of_le (by omega)]; rfl
    | succ m ih =>
      rw [List.range'_succ, List.map_cons, List.flatten_cons, ih (k + 1) (by omega)]
      have hk : k < l.length := by omega
      show ((l.drop (k * 1)).take 1).toArray.toList ++ _ = _
      rw [Nat.mul_one, List.drop_eq_getElem_cons hk]
      rfl
  have h := this l 0
  rw [Nat.sub_zero, List.drop_zero] at h
  rw [List.range_eq_range']
  exact h
theorem app_bits {lo id ib2 : Nat} {s : SH} {v : Value} {bs r : List Bool} (h : LB lo id s v bs) (g : HP.get s.h ib2 = some (.row (rowL r))) (hid : id < s.n) (hlo : lo ≤ s.n) (hb : bs.length + r.length ≤ 1000000) :
    ∃ v' s', appD Tryd.prog true s 90 90 v (.slice (some ⟨ib2, 0, none⟩) r.length 3) = some (v', s') ∧ LB lo id s' v' (bs ++ r) ∧ s.n ≤ s'.n ∧ ∀ j, j < s.n → (lo ≤ j → ¬ IsL (HP.get s.h j)) → HP.get s'.h j = HP.get s.h j := by
  have hni : isInt Tryd.prog 90 = false := by unfold isInt; rw [u90]
  have hi : Tryd.prog.info? 4 = some Tryd.t4 := by kernel_rfl
  have hz : (Tryd.t4.size : Nat) = 1 := by kernel_rfl
  have hbt : (Tryd.t4.bytes : Nat) = 1 := by kernel_rfl
  have ly : lenD (.slice (some ⟨ib2, 0, none⟩) r.length 3) = some r.length := rfl
  have cy := cells_row (c := 3) g rfl
  have hcond : (decide ((bs.length + r.length) * Tryd.t4.bytes ≤ 140737488355328) && decide (bs.length + r.length ≤ 140737488355328) && Nat.beq [Value.bool false].length Tryd.t4.size && Nat.blt 0 Tryd.t4.size) = true := by
    rw [hbt, hz, decide_eq_true (by omega), decide_eq_true (by omega)]; rfl
  have new : ∀ (bs' : List Bool) (s0 : SH), s0.n = s.n → (∀ j, j < s.n → (lo ≤ j → ¬ IsL (HP.get s.h j)) → HP.get s0.h j = HP.get s.h j) → LB lo id (newD s0 (.row (rowL bs'))) (.slice (some ⟨s0.n, 0, none⟩) bs'.length 2) bs' ∧ s.n ≤ (newD s0 (.row (rowL bs'))).n ∧ ∀ j, j < s.n → (lo ≤ j → ¬ IsL (HP.get s.h j)) → HP.get (newD s0 (.row (rowL bs'))).h j = HP.get s.h j := fun bs' s0 hn hg =>
    ⟨.inr ⟨s0.n, rfl, ⟨by omega, by omega⟩, by rw [newD_n]; omega, get_new rfl⟩, by rw [newD_n]; omega, fun j hj hb => by rw [get_old (by omega), hg j hj hb]⟩
  unfold appD
  rw [hni, condF]
  unfold appendD
  rcases h with ⟨rfl, rfl⟩ | ⟨ib, rfl, h3, h4, h5⟩
  · have lx : lenD (fzV 2 #[]) = some 0 := rfl
    rw [List.length_nil] at hcond
    simp only [u90, bindS, hi, ly, lx, zr4, hcond, condT]
    rw [hz]
    have he : elemsD s 1 r.length (.slice (some ⟨ib2, 0, none⟩) r.length 3) = some (chunkL 1 r.length (rowL r)) := by
      show ((cellsD s 1 r.length (.slice (some ⟨ib2, 0, none⟩) r.length 3)).bind fun l => bif l.all oneC then some (chunkL 1 r.length l) else none) = _
      rw [cy, bindS, rowL_one, condT]
    by_cases h0 : r.length = 0
    · have : r = [] := List.length_eq_zero_iff.1 h0
      subst this
      refine ⟨fzV 2 #[], s, ?_, .inl ⟨rfl, rfl⟩, Nat.le_refl _, fun _ _ _ => rfl⟩
      show (bif fzOk 1 #[] then ((elemsD s 1 0 (.slice (some ⟨ib2, 0, none⟩) 0 3)).map fun new => cond (true && Nat.beq 0 0) (fzV 2 #[], s) (appNew true s 1 (0 + 0) ([] ++ new))) else none) = _
      have he : elemsD s 1 0 (.slice (some ⟨ib2, 0, none⟩) 0 3) = _ := he
      rw [he]; rfl
    · obtain ⟨q1, q2, q3⟩ := new ([] ++ r) s rfl fun _ _ _ => rfl
      refine ⟨_, _, ?_, q1, q2, q3⟩
      show (bif fzOk 1 #[] then ((elemsD s 1 r.length (.slice (some ⟨ib2, 0, none⟩) r.length 3)).map fun new => cond (true && Nat.beq r.length 0) (fzV 2 #[], s) (appNew true s 1 (0 + r.length) ([] ++ new))) else none) = _
      rw [he, beq_no h0, List.nil_append]
      show some (appNew true s 1 (0 + r.length) ([] ++ chunkL 1 r.length (rowL r))) = _
      unfold appNew
      have hrc := rowOf_chunk (rowL r)
      rw [rowL_len] at hrc
      rw [List.nil_append, hrc, Nat.zero_add]
      rfl
  · have lx : lenD (.slice (some ⟨ib, 0, none⟩) bs.length 2) = some bs.length := rfl
    simp only [u90, bindS, hi, ly, lx, zr4, hcond, condT]
    rw [hz]
    by_cases h0 : r.length = 0
    · have : r = [] := List.length_eq_zero_iff.1 h0
      subst this
      refine ⟨.slice (some ⟨ib, 0, none⟩) bs.length 2, s, rfl, by rw [List.append_nil]; exact .inr ⟨ib, rfl, h3, h4, h5⟩, Nat.le_refl _, fun _ _ _ => rfl⟩
    · obtain ⟨q1, q2, q3⟩ := new (bs ++ r) (delD s ib) rfl fun j hj hb => get_del (fun e => hb (by rw [e]; exact h3.1) ⟨bs, by rw [e]; exact h5⟩)
      refine ⟨_, _, ?_, q1, q2, q3⟩
      rw [beq_no h0, condF, cy, bindS]
      simp only [rowL_one, show (!true) = false from rfl, condF, show Nat.beq (2 % 2) 1 = false from rfl]
      rw [row_of h5, bindS]
      simp only [show Nat.beq (2 / 2) 1 = true from rfl, condT, take_row]
      rw [rowL_app, List.length_append]
      rfl
def Wl (lo id : Nat) (s : SH) (bs : List Bool) : Prop := ∃ v, HP.get s.h id = some (.row [v]) ∧ (id < s.n ∧ lo ≤ s.n) ∧ LB lo id s v bs
def Kl (lo id : Nat) (s s' : SH) : Prop := s.n ≤ s'.n ∧ ∀ j, j < s.n → j ≠ id → (lo ≤ j → ¬ IsL (HP.get s.h j)) → HP.get s'.h j = HP.get s.h j
theorem Kl.refl (lo id : Nat) (s : SH) : Kl lo id s s := ⟨Nat.le_refl _, fun _ _ _ _ => rfl⟩
theorem Kl.trans {lo id : Nat} {a b c : SH} (h : Kl lo id a b) (k : Kl lo id b c) : Kl lo id a c := ⟨Nat.le_trans h.1 k.1, fun j h1 h2 h3 => (k.2 j (Nat.lt_of_lt_of_le h1 h.1) h2 (fun hl => by rw [h.2 j h1 h2 h3]; exact h3 hl)).trans (h.2 j h1 h2 h3)⟩
theorem Kl.ext {lo id : Nat} {a b : SH} (h : Ext a b) : Kl lo id a b := ⟨h.1, fun j h1 _ _ => h.2 j h1⟩
theorem Kl.row {lo id j : Nat} {a b : SH} (h : Kl lo id a b) {x : Value} {l : List Value} (hj : j ≠ id) (hg : HP.get a.h j = some (.row (x :: l))) (hx : ∀ y, x ≠ .bool y) (hl : j < a.n) : HP.get b.h j = some (.row (x :: l)) := by
  rw [h.2 j hl hj (fun _ => not_isL hg hx), hg]
theorem Kl.new {lo id : Nat} {a b : SH} (h : Kl lo id a b) (o : DObj) : Kl lo id a (newD b o) := ⟨by rw [newD_n]; exact Nat.le_succ_of_le h.1, fun j h1 h2 h3 => by rw [get_old (by have := h.1; omega)]; exact h.2 j h1 h2 h3⟩
theorem Kl.putNew {lo id i : Nat} {a b : SH} (h : Kl lo id a b) (hi : a.n ≤ i) (o : DObj) : Kl lo id a (putD b i o) := ⟨h.1, fun j h1 h2 h3 => by rw [get_put_other (by omega)]; exact h.2 j h1 h2 h3⟩
theorem Wl.new {lo id : Nat} {s : SH} {bs : List Bool} (h : Wl lo id s bs) (o : DObj) : Wl lo id (newD s o) bs := by
  obtain ⟨v, h1, h2, h3⟩ := h
  exact ⟨v, by rw [get_old (by omega)]; exact h1, ⟨by rw [newD_n]; omega, by rw [newD_n]; omega⟩, h3.ext (by rw [newD_n]; omega) fun j hj _ _ _ => get_old (by omega)⟩
theorem Wl.put {lo id i : Nat} {s : SH} {bs : List Bool} {o : DObj} (h : Wl lo id s bs) (hi : i ≠ id) (hb : ¬ IsL (HP.get s.h i)) : Wl lo id (putD s i o) bs := by
  obtain ⟨v, h1, h2, h3⟩ := h
  exact ⟨v, by rw [get_put_other (Ne.symm hi)]; exact h1, h2, h3.ext (Nat.le_refl _) fun j hj _ _ hL => get_put_other (fun e => hb (by rw [← e]; exact hL))⟩
theorem Wl.id_lt {lo id : Nat} {s : SH} {bs : List Bool} (h : Wl lo id s bs) : id < s.n := by obtain ⟨_, _, h, _⟩ := h; exact h.1
theorem ld90 {s : SH} {id : Nat} {v : Value} (h : HP.get s.h id = some (.row [v])) : loadD Tryd.prog s 90 (pt id 0) = some v := by rw [load_row h, part_one a90]; rfl
theorem st90 {s : SH} {id : Nat} {v w : Value} (h : HP.get s.h id = some (.row [v])) (hw : w.cells.toList = [w] ∧ oneC w = true) : storeD Tryd.prog s 90 (pt id 0) w = some (putD s id (.row [w])) := by
  rw [store_row (l := [w]) z90 h hw.1 rfl (by simp [hw.2]) (by simp)]; rfl
theorem ixl {ib n c i : Nat} (hi : i < n) : indexAddrD Tryd.prog 90 (.slice (some ⟨ib, 0, none⟩) n c) (I (i : Int)) = some (pt ib i) := by
  have h0 : decide ((0 : Int) ≤ (i : Int)) = true := decide_eq_true (by omega)
  have h1 : decide ((i : Int) < (n : Int)) = true := decide_eq_true (by omega)
  simp only [indexAddrD, u90, z4, bindS, h0, h1, Bool.and_self, condT]
  rw [Int.toNat_natCast, Nat.mul_one, Nat.zero_add]
theorem bits_step (j x k : Nat) (hj : j < k) : splice (rowL (List.replicate (k - j) false ++ bitsN j x)) (k - (j + 1)) [.bool (decide (x / 2 ^ j % 2 = 1))] = rowL (List.replicate (k - (j + 1)) false ++ bitsN (j + 1) x) := by
  have e : List.replicate (k - j) false = List.replicate (k - (j + 1)) false ++ [false] := by rw [show k - j = (k - (j + 1)) + 1 from by omega, List.replicate_succ']
  rw [e, List.append_assoc, rowL_app, rowL_app]
  unfold splice
  have hl : (rowL (List.replicate (k - (j + 1)) false)).length = k - (j + 1) := by rw [rowL_len, List.length_replicate]
  rw [List.take_append_of_le_length (by omega), List.take_of_length_le (by omega), List.drop_append, List.drop_eq_nil_of_le (by rw [hl]; simp), hl]
  have : k - (j + 1) + [Value.bool (decide (x / 2 ^ j % 2 = 1))].length - (k - (j + 1)) = 1 := by show k - (j + 1) + 1 - (k - (j + 1)) = 1; omega
  rw [this, rowL_app]
  rfl
theorem c71 {n lo id x k : Nat} {s : SH} {bs : List Bool} (hW : Wl lo id s bs) (hk : k ≤ 64) (hx : x < 2 ^ 64) (hb : bs.length + k ≤ 524288) :
    ∃ s', callD Tryd.prog AB (n + 1) (.fn 71) [pt id 0, U (x : Int), I (k : Int)] s = some [(I 0, s')] ∧ Wl lo id s' (bs ++ bitsN k x) ∧ Kl lo id s s' := by
  rw [call_fn (fn := Tryd.f71) rfl rfl (by kernel_rfl)]
  suffices h : One (bodyD Tryd.prog true (callD Tryd.prog AB n) AB.N 71 Tryd.f71 [pt id 0, U (x : Int), I (k : Int)] s) fun w s' => w = I 0 ∧ Wl lo id s' (bs ++ bitsN k x) ∧ Kl lo id s s' by
    obtain ⟨w, s', e, rfl, h⟩ := h
    exact ⟨s', e, h⟩
  rw [f71_r]
  have hW0 := hW
  obtain ⟨v, hg, ⟨hid, hlo⟩, hB⟩ := hW
  have k0 : ¬ (k : Int) < 0 := by omega
  have k1 : ¬ (k : Int) > 64 := by omega
  have w1 : IntKind.i64.wrap ((bs.length : Int) + (k : Int)) = ((bs.length + k : Nat) : Int) := by rw [wrap_i64 (by omega) (by omega)]; omega
  have k2 : ¬ ((bs.length + k : Nat) : Int) > 524288 := by omega
  have w2 : IntKind.i64.wrap ((k : Int) - 1) = (k : Int) - 1 := wrap_i64 (by omega) (by omega)
  have hlen : ∀ s' : SH, lenOfD Tryd.prog s' 90 v = some (I (bs.length : Int)) := fun s' => hB.len
  simp only [f71, oO, bindS, many1, jnE, boolS, gdB, fst', snd', bop_lss, k0, decide_false, condF, bop_gtr, k1, nilc, fld92_0, ld90 hg, hlen, bop_add, w1, k2, ms90 s k hk, b_sub, w2]
  refine list_one (List.replicate k ()) (fun j (z : Value × Value) (s' : SH) => z.1 = U ((x / 2 ^ j : Nat) : Int) ∧ z.2 = I ((k : Int) - 1 - (j : Int)) ∧ s' = newD s (.row (rowL (List.replicate (k - j) false ++ bitsN j x)))) ?_ ?_ ⟨by rw [Nat.pow_zero, Nat.div_one], by show I _ = I _; congr 1; omega, by rw [Nat.sub_zero]; show _ = newD s (.row (rowL (_ ++ []))); rw [List.append_nil]⟩ (by rw [List.length_replicate]; show _ < 2 ^ 64; omega)
  · rintro j hj ⟨z1, z2⟩ s' ⟨e1, e2, rfl⟩ nx hnx
    rw [List.length_replicate] at hj
    simp only at e1 e2
    rw [show (k : Int) - 1 - (j : Int) = ((k - (j + 1) : Nat) : Int) from by omega] at e2
    subst e1 e2
    have hge : ((k - (j + 1) : Nat) : Int) ≥ 0 := by omega
    have hxj : x / 2 ^ j < 2 ^ 64 := Nat.lt_of_le_of_lt (Nat.div_le_self _ _) hx
    generalize hy : x / 2 ^ j = y at *
    have hrem : Int.tmod (y : Int) 2 = ((y % 2 : Nat) : Int) := rfl
    have hquo : Int.tdiv (y : Int) 2 = ((y / 2 : Nat) : Int) := rfl
    have wq : IntKind.u64.wrap ((y / 2 : Nat) : Int) = ((y / 2 : Nat) : Int) := wrap_u64 (by omega) (by omega)
    have ws : IntKind.i64.wrap (((k - (j + 1) : Nat) : Int) - 1) = ((k - (j + 1) : Nat) : Int) - 1 := wrap_i64 (by omega) (by omega)
    have hd : decide (((y % 2 : Nat) : Int) = 1) = decide (x / 2 ^ j % 2 = 1) := by
      rw [hy]
      by_cases h : y % 2 = 1
      · rw [decide_eq_true h, decide_eq_true (by omega)]
      · rw [decide_eq_false h, decide_eq_false (by omega)]
    have hst : storeD Tryd.prog (newD s (.row (rowL (List.replicate (k - j) false ++ bitsN j x)))) 4 (pt s.n (k - (j + 1))) (.bool (decide (((y % 2 : Nat) : Int) = 1))) = some (newD s (.row (rowL (List.replicate (k - (j + 1)) false ++ bitsN (j + 1) x)))) := by
      rw [store_row (l := [.bool (decide (((y % 2 : Nat) : Int) = 1))]) z4 (get_n0 s _) rfl rfl rfl (by rw [rowL_len, List.length_append, List.length_replicate, bitsN_len]; omega), put_new, hd, bits_step j x k hj]
    have hix : indexAddrD Tryd.prog 90 (.slice (some ⟨s.n, 0, none⟩) k 3) (I ((k - (j + 1) : Nat) : Int)) = some (pt s.n (k - (j + 1))) := ixl (by omega)
    simp only [f71_l0, oO, bindS, many1, jnE, boolS, gdB, fst', snd', bop_geq, hge, decide_true, condT, b_rem _ _ _ _ (show (2 : Int) ≠ 0 by decide), hrem, bop_eql, hix, hst, b_quo _ _ _ _ (show (2 : Int) ≠ 0 by decide), hquo, wq, b_sub, ws]
    refine hnx (_, _) _ ⟨?_, ?_, rfl⟩
    · show U _ = U _
      rw [← hy, Nat.div_div_eq_div_mul, Nat.pow_succ]
    · show I _ = I _
      congr 1; omega
  · rintro ⟨z1, z2⟩ s' ⟨e1, e2, rfl⟩ nx
    rw [List.length_replicate] at e1 e2
    simp only at e1 e2
    subst e1 e2
    rw [List.length_replicate, Nat.sub_self]
    have hge : ¬ (k : Int) - 1 - (k : Int) ≥ 0 := by omega
    have hW1 := hW0.new (.row (rowL (List.replicate 0 false ++ bitsN k x)))
    obtain ⟨v1, hg1, ⟨hid1, hlo1⟩, hB1⟩ := hW1
    have hv : v1 = v := by
      rw [get_old (by omega), hg] at hg1
      simp only [Option.some.injEq, DObj.row.injEq, List.cons.injEq, and_true] at hg1
      exact hg1.symm
    subst hv
    have gn : HP.get (newD s (.row (rowL (List.replicate 0 false ++ bitsN k x)))).h s.n = some (.row (rowL (bitsN k x))) := get_n0 s _
    obtain ⟨v2, s2, e2, z1, z2, z3⟩ := app_bits hB1 gn hid1 hlo1 (by rw [bitsN_len]; omega)
    rw [bitsN_len] at e2
    have g2 : HP.get s2.h id = some (.row [v1]) := by rw [z3 id hid1 fun _ => not_isL hg1 hB.nb]; exact hg1
    have s2t := st90 g2 z1.one
    simp only [f71_l0, oO, bindS, many1, jnE, boolS, gdB, fst', snd', bop_geq, hge, decide_false, condF, beq_yes, condT, nilc, fld92_0, ld90 hg1, e2, s2t]
    refine One.ret ⟨rfl, ⟨v2, get_put_same _, ⟨by rw [putD_n]; omega, by rw [putD_n]; omega⟩, z1.ext (Nat.le_refl _) fun j hj _ hne _ => get_put_other hne⟩, by rw [putD_n]; have := newD_n s (.row (rowL (List.replicate 0 false ++ bitsN k x))); omega, fun j h1 h2 h3 => ?_⟩
    rw [get_put_other h2, z3 j (by rw [newD_n]; omega) (fun hl => by rw [get_old (by omega)]; exact h3 hl), get_old (by omega)]
end Go.Proofs.YtmhmbmogodofeaaDoor.S

set_option autoImplicit false
set_option linter.unusedVariables false
set_option linter.unusedSimpArgs false
set_option maxRecDepth 100000
namespace Go.Proofs.YtmhmbmogodofeaaDoor.S
open Go.FS Go.RowKit
attribute [local congr] bind_cg cond_cg gd_cg

/-! The reference's stamp.Put. -/
theorem i_nl (a : Int) : ∀ y, I a ≠ .bool y := fun y e => by injection e
theorem tr_nl {s : SH} {i : Nat} {a b c : Int} (h : HP.get s.h i = some (.row (tr a b c))) : ¬ IsL (HP.get s.h i) := not_isL h (i_nl a)
theorem hld_0 {s : SH} {id : Nat} {a b c : Int} (h : HP.get s.h id = some (.row (tr a b c))) : loadD Tryd.prog s 3 (pt id 0) = some (I a) := by rw [load_row h, p3_0]
theorem hld_1 {s : SH} {id : Nat} {a b c : Int} (h : HP.get s.h id = some (.row (tr a b c))) : loadD Tryd.prog s 3 (pt id 1) = some (I b) := by rw [load_row h, p3_1]
theorem hld_2 {s : SH} {id : Nat} {a b c : Int} (h : HP.get s.h id = some (.row (tr a b c))) : loadD Tryd.prog s 3 (pt id 2) = some (I c) := by rw [load_row h, p3_2]
theorem c38_no {n lo id : Nat} {s : SH} {bs : List Bool} (u : TS) (t : Int) (hW : Wl lo id s bs) (hu : TSok u) (hn : u.n ≤ 4096) (h : ¬ tmay u t) : ∃ s', callD Tryd.prog AB (n + 3) (.fn 38) [pt id 0, tsV u, I t] s = some [(.tuple #[ts 0 0 0, I 60], s')] ∧ Ext s s' := by
  rw [call_fn (fn := Tryd.f38) rfl rfl (by kernel_rfl)]
  suffices h : One (bodyD Tryd.prog false (callD Tryd.prog AB (n + 2)) AB.N 38 Tryd.f38 [pt id 0, tsV u, I t] s) fun w s' => w = .tuple #[ts 0 0 0, I 60] ∧ Ext s s' by
    obtain ⟨w, s', e, rfl, h⟩ := h
    exact ⟨s', e, h⟩
  rw [f38_r]
  let s1 : SH := newD s (.row (tr u.n u.last u.delta))
  let s2 : SH := newD s1 (.row (tr 0 0 0))
  have b1 : boxD s (tsV u) = some (pt s.n 0, s1) := bx79 s _ _ _
  have b2 : allocD Tryd.prog s1 79 = some (pt s1.n 0, s2) := al79 s1
  have g1 : HP.get s2.h s.n = some (.row (tr u.n u.last u.delta)) := get_n1 s _ _
  have m1 : loadD Tryd.prog s2 79 (pt s.n 0) = some (tsV u) := hld g1
  have e67 := c67 (n := n + 1) (s := s2) u hn hu
  have st : storeD Tryd.prog s2 79 (pt s1.n 0) (ts 0 0 0) = some (putD s2 s1.n (.row (tr 0 0 0))) := hst (get_n0 s1 _)
  have ld : loadD Tryd.prog (putD s2 s1.n (.row (tr 0 0 0))) 79 (pt s1.n 0) = some (ts 0 0 0) := hld (get_put_same _)
  have hE : Ext s (putD s2 s1.n (.row (tr 0 0 0))) := (ext2' s _ _).put (Nat.le_succ _) _
  by_cases g1' : t < 0
  · simp only [f38, oO, bindS, many1, jnE, boolS, gdB, fst', snd', b1, b2, m1, e67, uop_not, Bool.not_true, condF, bop_lss, g1', decide_true, condT, bl79_0, st, ld]
    exact One.ret ⟨rfl, hE⟩
  · by_cases g2 : t > 35184372088832
    · simp only [f38, oO, bindS, many1, jnE, boolS, gdB, fst', snd', b1, b2, m1, e67, uop_not, Bool.not_true, condF, bop_lss, g1', decide_false, bop_gtr, g2, decide_true, condT, bl79_0, st, ld]
      exact One.ret ⟨rfl, hE⟩
    · have h0 : ¬ u.n = 0 := fun e => h ⟨by omega, by unfold mxT; omega, .inl e⟩
      have g3 : (u.n : Int) > 0 := by omega
      have g4 : t ≤ (u.last : Int) := Int.not_lt.1 fun hl => h ⟨by omega, by unfold mxT; omega, .inr hl⟩
      simp only [f38, oO, bindS, many1, jnE, boolS, gdB, fst', snd', b1, b2, m1, e67, uop_not, Bool.not_true, condF, bop_lss, g1', decide_false, bop_gtr, g2, fld79_0, fld79_1, hld_0 g1, hld_1 g1, g3, bop_leq, g4, decide_true, condT, bl79_0, st, ld]
      exact One.ret ⟨rfl, hE⟩
theorem bits11 : bitsN 1 1 = [true] := rfl
theorem bits10 : bitsN 1 0 = [false] := rfl
theorem c38_yes {n lo id : Nat} {s : SH} {bs : List Bool} (u : TS) (t : Nat) (hW : Wl lo id s bs) (hu : TSok u) (hn : u.n ≤ 4096) (h : tmay u t) (hb : bs.length + 60 ≤ 524288) :
    ∃ s', callD Tryd.prog AB (n + 3) (.fn 38) [pt id 0, tsV u, I (t : Int)] s = some [(.tuple #[tsV (tnext u t), I 0], s')] ∧ Wl lo id s' (bs ++ tput u t) ∧ Kl lo id s s' := by
  rw [call_fn (fn := Tryd.f38) rfl rfl (by kernel_rfl)]
  suffices h : One (bodyD Tryd.prog false (callD Tryd.prog AB (n + 2)) AB.N 38 Tryd.f38 [pt id 0, tsV u, I (t : Int)] s) fun w s' => w = .tuple #[tsV (tnext u t), I 0] ∧ Wl lo id s' (bs ++ tput u t) ∧ Kl lo id s s' by
    obtain ⟨w, s', e, rfl, h⟩ := h
    exact ⟨s', e, h⟩
  rw [f38_r]
  have hid := hW.id_lt
  let s1 : SH := newD s (.row (tr u.n u.last u.delta))
  let s2 : SH := newD s1 (.row (tr 0 0 0))
  have hs1 : s1.n = s.n + 1 := rfl
  have hs2 : s2.n = s.n + 2 := rfl
  have b1 : boxD s (tsV u) = some (pt s.n 0, s1) := bx79 s _ _ _
  have b2 : allocD Tryd.prog s1 79 = some (pt s1.n 0, s2) := al79 s1
  have g1 : HP.get s2.h s.n = some (.row (tr u.n u.last u.delta)) := get_n1 s _ _
  have g2 : HP.get s2.h s1.n = some (.row (tr 0 0 0)) := get_n0 s1 _
  have m1 : loadD Tryd.prog s2 79 (pt s.n 0) = some (tsV u) := hld g1
  have e67 := c67 (n := n + 1) (s := s2) u hn hu
  have hW2 : Wl lo id s2 bs := (hW.new _).new _
  have hK2 : Kl lo id s s2 := Kl.ext (ext2' s _ _)
  obtain ⟨hu1, hu2⟩ := hu
  have hu1' := hu1
  have hu2' := hu2
  unfold mxT at hu1 hu2
  have ht := h
  obtain ⟨h1, h2, h3⟩ := h
  have h2m : (t : Int) ≤ 35184372088832 := h2
  have n1 : ¬ (t : Int) < 0 := by omega
  have n2 : ¬ (t : Int) > 35184372088832 := by omega
  have fin : ∀ (s' : SH) (v : TS) (cs : List Bool), Kl lo id s2 s' → Wl lo id s' cs → storeD Tryd.prog s' 79 (pt s1.n 0) (tsV v) = some (putD s' s1.n (.row (tr v.n v.last v.delta))) ∧ loadD Tryd.prog (putD s' s1.n (.row (tr v.n v.last v.delta))) 79 (pt s1.n 0) = some (tsV v) ∧ Wl lo id (putD s' s1.n (.row (tr v.n v.last v.delta))) cs ∧ Kl lo id s (putD s' s1.n (.row (tr v.n v.last v.delta))) := fun s' v cs hK hW' => by
    have q := hK.row (show s1.n ≠ id by omega) g2 (i_nl _) (by omega)
    exact ⟨hst q, hld (get_put_same _), hW'.put (by omega) (tr_nl q), (hK2.trans hK).putNew (by omega) _⟩
  by_cases h0 : u.n = 0
  · have g3 : ¬ (u.n : Int) > 0 := by omega
    have g4 : (u.n : Int) = 0 := by omega
    have hct : IntKind.u64.wrap (t : Int) = (t : Int) := wrap_u64 (by omega) (by omega)
    obtain ⟨s3, e71, hW3, hK3⟩ := c71 (n := n + 1) (x := t) (k := 46) hW2 (by decide) (by omega) (by omega)
    have e71 : callD Tryd.prog AB (n + 2) (.fn 71) [pt id 0, U (t : Int), I 46] s2 = some [(I 0, s3)] := e71
    obtain ⟨q1, q2, q3, q4⟩ := fin s3 ⟨1, t, 0⟩ _ hK3 hW3
    have q1 : storeD Tryd.prog s3 79 (pt s1.n 0) (ts 1 (t : Int) 0) = _ := q1
    simp only [f38, oO, bindS, many1, jnE, boolS, gdB, fst', snd', b1, b2, m1, e67, uop_not, Bool.not_true, condF, bop_lss, n1, decide_false, bop_gtr, n2, fld79_0, hld_0 g1, g3, bop_eql, g4, decide_true, condT, conv_int u3 u38, hct, e71, b_neq, bl79, q1, q2]
    have e1 : tnext u t = ⟨1, t, 0⟩ := by unfold tnext; rw [if_pos h0]
    have e2 : tput u t = bitsN 46 t := by unfold tput; rw [if_pos h0]
    rw [e1, e2]
    exact One.ret ⟨rfl, q3, q4⟩
  · have g3 : (u.n : Int) > 0 := by omega
    have g4 : ¬ (u.n : Int) = 0 := by omega
    have g5 : ¬ (t : Int) ≤ (u.last : Int) := by omega
    have w1 : IntKind.i64.wrap ((t : Int) - (u.last : Int)) = (t : Int) - (u.last : Int) := wrap_i64 (by omega) (by omega)
    have w2 : IntKind.i64.wrap ((t : Int) - (u.last : Int) - (u.delta : Int)) = (t : Int) - u.last - u.delta := wrap_i64 (by omega) (by omega)
    have hzl := tz_lt (s := u) (t := t) ⟨hu1', hu2'⟩ (by unfold mxT; omega)
    have htz : tz u t = foldZ ((t : Int) - u.last - u.delta) := rfl
    have e1 : tnext u t = ⟨u.n + 1, t, t - u.last⟩ := by unfold tnext; rw [if_neg h0]
    have e2 : tput u t = leadB (tcls (tz u t)) ++ bitsN (tw (tcls (tz u t))) (tz u t) := by unfold tput; rw [if_neg h0]
    have w3 : IntKind.i64.wrap ((u.n : Int) + 1) = ((u.n + 1 : Nat) : Int) := by rw [wrap_i64 (by omega) (by omega)]; rfl
    have w4 : (t : Int) - (u.last : Int) = ((t - u.last : Nat) : Int) := by omega
    have hcl := tcls_le (tz u t)
    have htw := tw_le (tcls (tz u t))
    have e68 := c68 (n := n + 1) (s := s2) (tz u t)
    rw [e1, e2]
    generalize tz u t = z at *
    generalize hk : tcls z = k at *
    have w5 : IntKind.i64.wrap (2 * ((t : Int) - u.last - u.delta)) = 2 * ((t : Int) - u.last - u.delta) := wrap_i64 (by omega) (by omega)
    have w6 : IntKind.u64.wrap (z : Int) = (z : Int) := wrap_u64 (by omega) (by omega)
    have hz2 : (z : Int) < 2 ^ 48 := by omega
    by_cases hd : (t : Int) - u.last - u.delta < 0
    case' pos =>
      have hzz : (z : Int) = -2 * ((t : Int) - u.last - u.delta) - 1 := by rw [htz]; unfold foldZ; rw [if_pos hd]; omega
      have w7 : IntKind.i64.wrap (-2 * ((t : Int) - u.last - u.delta)) = -2 * ((t : Int) - u.last - u.delta) := wrap_i64 (by omega) (by omega)
      have w8 : IntKind.i64.wrap (-2 * ((t : Int) - u.last - u.delta) - 1) = (z : Int) := by rw [wrap_i64 (by omega) (by omega)]; omega
      simp only [f38, oO, bindS, many1, jnE, boolS, gdB, fst', snd', b1, b2, m1, e67, uop_not, Bool.not_true, condF, bop_lss, n1, decide_false, bop_gtr, n2, fld79_0, fld79_1, fld79_2, hld_0 g1, hld_1 g1, hld_2 g1, g3, bop_leq, g5, bop_eql, g4, decide_true, condT, b_sub, w1, w2, bop_mul, w5, conv_int u3 u38, hd, w7, w8, w6, e68, ext2]
    case' neg =>
      have hzz : 2 * ((t : Int) - u.last - u.delta) = (z : Int) := by rw [htz]; unfold foldZ; rw [if_neg hd]; omega
      rw [hzz] at w5
      simp only [f38, oO, bindS, many1, jnE, boolS, gdB, fst', snd', b1, b2, m1, e67, uop_not, Bool.not_true, condF, bop_lss, n1, decide_false, bop_gtr, n2, fld79_0, fld79_1, fld79_2, hld_0 g1, hld_1 g1, hld_2 g1, g3, bop_leq, g5, bop_eql, g4, decide_true, condT, b_sub, w1, w2, bop_mul, hzz, w5, conv_int u3 u38, hd, w6, e68, ext2]
    all_goals
      refine list_one (List.replicate k ()) (fun i (y : Value × Value × Value) (s' : SH) => y.2.1 = I (i : Int) ∧ Wl lo id s' (bs ++ List.replicate i true) ∧ Kl lo id s2 s') ?_ ?_ ⟨rfl, by rw [List.replicate_zero, List.append_nil]; exact hW2, .refl _ _ _⟩ (by rw [List.length_replicate]; show _ < 2 ^ 64; omega)
      · rintro i hi ⟨y1, y2, y3⟩ s' ⟨e1, hW', hK'⟩ nx hnx
        rw [List.length_replicate] at hi
        simp only at e1
        subst e1
        have hlt : (i : Int) < (k : Int) := by omega
        have wi : IntKind.i64.wrap ((i : Int) + 1) = ((i + 1 : Nat) : Int) := by rw [wrap_i64 (by omega) (by omega)]; rfl
        obtain ⟨s3, e71, hW3, hK3⟩ := c71 (n := n + 1) (x := 1) (k := 1) hW' (by decide) (by decide) (by rw [List.length_append, List.length_replicate]; omega)
        have e71 : callD Tryd.prog AB (n + 2) (.fn 71) [pt id 0, U 1, I 1] s' = some [(I 0, s3)] := e71
        simp only [f38_l0, oO, bindS, many1, jnE, boolS, gdB, fst', snd', bop_lss, hlt, decide_true, condT, e71, b_neq, Bool.not_true, condF, bop_add, wi]
        refine hnx (_, _, _) _ ⟨rfl, ?_, hK'.trans hK3⟩
        rw [bits11, List.append_assoc] at hW3
        rw [List.replicate_succ']
        exact hW3
      · rintro ⟨y1, y2, y3⟩ s' ⟨e1, hW', hK'⟩ nx
        rw [List.length_replicate] at e1 hW'
        simp only at e1
        subst e1
        have hlt : ¬ (k : Int) < (k : Int) := by omega
        by_cases h4 : k < 4
        · have h4' : (k : Int) < 4 := by omega
          obtain ⟨s3, e71, hW3, hK3⟩ := c71 (n := n + 1) (x := 0) (k := 1) hW' (by decide) (by decide) (by rw [List.length_append, List.length_replicate]; omega)
          have e71 : callD Tryd.prog AB (n + 2) (.fn 71) [pt id 0, U 0, I 1] s' = some [(I 0, s3)] := e71
          rw [bits10] at hW3
          obtain ⟨s4, e71b, hW4, hK4⟩ := c71 (n := n + 1) (x := z) (k := tw k) hW3 (by omega) (by omega) (by rw [List.length_append, List.length_append, List.length_replicate]; show _ + _ + 1 + _ ≤ _; omega)
          obtain ⟨q1, q2, q3, q4⟩ := fin s4 ⟨u.n + 1, t, t - u.last⟩ _ ((hK'.trans hK3).trans hK4) hW4
          have g6 := ((hK'.trans hK3).trans hK4).row (show s.n ≠ id by omega) g1 (i_nl _) (by omega)
          have q1 : storeD Tryd.prog s4 79 (pt s1.n 0) (ts ((u.n + 1 : Nat) : Int) (t : Int) ((t : Int) - (u.last : Int))) = some (putD s4 s1.n (.row (tr ((u.n + 1 : Nat) : Int) (t : Int) ((t - u.last : Nat) : Int)))) := by rw [w4]; exact q1
          simp only [f38_l0, oO, bindS, many1, jnE, boolS, gdB, fst', snd', bop_lss, hlt, decide_false, condF, beq_yes, condT, h4', decide_true, e71, b_neq, Bool.not_true, e71b, fld79_0, hld_0 g6, bop_add, w3, bl79, q1, q2]
          refine One.ret ⟨rfl, ?_, q4⟩
          have hl : leadB k = List.replicate k true ++ [false] := by unfold leadB; rw [if_pos h4]
          rw [hl, ← List.append_assoc, ← List.append_assoc]
          exact q3
        · have h4' : ¬ (k : Int) < 4 := by omega
          obtain ⟨s4, e71b, hW4, hK4⟩ := c71 (n := n + 1) (x := z) (k := tw k) hW' (by omega) (by omega) (by rw [List.length_append, List.length_replicate]; omega)
          obtain ⟨q1, q2, q3, q4⟩ := fin s4 ⟨u.n + 1, t, t - u.last⟩ _ (hK'.trans hK4) hW4
          have g6 := (hK'.trans hK4).row (show s.n ≠ id by omega) g1 (i_nl _) (by omega)
          have q1 : storeD Tryd.prog s4 79 (pt s1.n 0) (ts ((u.n + 1 : Nat) : Int) (t : Int) ((t : Int) - (u.last : Int))) = some (putD s4 s1.n (.row (tr ((u.n + 1 : Nat) : Int) (t : Int) ((t - u.last : Nat) : Int)))) := by rw [w4]; exact q1
          simp only [f38_l0, oO, bindS, many1, jnE, boolS, gdB, fst', snd', bop_lss, hlt, decide_false, condF, beq_yes, condT, h4', decide_true, b_neq, Bool.not_true, e71b, fld79_0, hld_0 g6, bop_add, w3, bl79, q1, q2]
          refine One.ret ⟨rfl, ?_, q4⟩
          have hl : leadB k = List.replicate k true := by unfold leadB; rw [if_neg h4, List.append_nil]
          rw [hl, ← List.append_assoc]
          exact q3
end Go.Proofs.YtmhmbmogodofeaaDoor.S

set_option autoImplicit false
set_option linter.unusedVariables false
set_option linter.unusedSimpArgs false
set_option maxRecDepth 100000
namespace Go.Proofs.YtmhmbmogodofeaaDoor.S
open Go.FS Go.RowKit
attribute [local congr] bind_cg cond_cg gd_cg

/-! The reference's xor.Put. -/
theorem bits14 {L m : Nat} (hL : L < 64) (hm : m < 64) : bitsN 14 (12288 + 64 * L + m) = [true, true] ++ bitsN 6 L ++ bitsN 6 m := by
  have h1 := bitsN_add 8 6 (12288 + 64 * L + m)
  have h2 := bitsN_add 2 6 (192 + L)
  have e1 : (12288 + 64 * L + m) / 2 ^ 6 = 192 + L := by omega
  have e2 : (192 + L) / 2 ^ 6 = 3 := by omega
  have e3 : bitsN 6 (12288 + 64 * L + m) = bitsN 6 m := by rw [← bitsN_mod 6 6 (12288 + 64 * L + m) (Nat.le_refl _), show (12288 + 64 * L + m) % 2 ^ 6 = m from by omega]
  have e4 : bitsN 6 (192 + L) = bitsN 6 L := by rw [← bitsN_mod 6 6 (192 + L) (Nat.le_refl _), show (192 + L) % 2 ^ 6 = L from by omega]
  rw [e1, e3] at h1
  rw [e2, e4] at h2
  have h1 : bitsN 14 (12288 + 64 * L + m) = _ := h1
  rw [h1]
  have h2 : bitsN 8 (192 + L) = _ := h2
  rw [h2]
  rfl
set_option maxHeartbeats 1600000 in
theorem c39 {n lo id : Nat} {s : SH} {bs : List Bool} (u : XS) (v : Nat) (hW : Wl lo id s bs) (hu : XSok u) (hn : u.n ≤ 4096) (hv : v < 2 ^ 64) (hb : bs.length + 100 ≤ 524288) :
    ∃ s', callD Tryd.prog AB (n + 3) (.fn 39) [pt id 0, xsV u, U (v : Int)] s = some [(.tuple #[xsV (xnext u v), I 0], s')] ∧ Wl lo id s' (bs ++ xput u v) ∧ Kl lo id s s' := by
  rw [call_fn (fn := Tryd.f39) rfl rfl (by kernel_rfl)]
  suffices h : One (bodyD Tryd.prog false (callD Tryd.prog AB (n + 2)) AB.N 39 Tryd.f39 [pt id 0, xsV u, U (v : Int)] s) fun w s' => w = .tuple #[xsV (xnext u v), I 0] ∧ Wl lo id s' (bs ++ xput u v) ∧ Kl lo id s s' by
    obtain ⟨w, s', e, rfl, h⟩ := h
    exact ⟨s', e, h⟩
  rw [f39_r]
  have hid := hW.id_lt
  let s1 : SH := newD s (.row (vr u.n u.last u.lead u.trail))
  let s2 : SH := newD s1 (.row (vr 0 0 0 0))
  let s3 : SH := newD s2 (.row (vr ((u.n + 1 : Nat) : Int) v u.lead u.trail))
  have hs1 : s1.n = s.n + 1 := rfl
  have hs2 : s2.n = s.n + 2 := rfl
  have hs3 : s3.n = s.n + 3 := rfl
  have b1 : boxD s (xsV u) = some (pt s.n 0, s1) := bx81 s _ _ _ _
  have b2 : allocD Tryd.prog s1 81 = some (pt s1.n 0, s2) := al81 s1
  have g1 : HP.get s2.h s.n = some (.row (vr u.n u.last u.lead u.trail)) := get_n1 s _ _
  have m1 : loadD Tryd.prog s2 81 (pt s.n 0) = some (xsV u) := gld g1
  have e69 := c69 (n := n + 1) (s := s2) u hn hu
  have wN : IntKind.i64.wrap ((u.n : Int) + 1) = ((u.n + 1 : Nat) : Int) := by rw [wrap_i64 (by omega) (by omega)]; rfl
  have b3 : allocD Tryd.prog s2 81 = some (pt s2.n 0, newD s2 (.row (vr 0 0 0 0))) := al81 s2
  have st3 : storeD Tryd.prog (newD s2 (.row (vr 0 0 0 0))) 81 (pt s2.n 0) (vs ((u.n + 1 : Nat) : Int) v u.lead u.trail) = some s3 := by rw [gst (get_n0 s2 _), put_new]
  have g3 : HP.get s3.h s.n = some (.row (vr u.n u.last u.lead u.trail)) := get_n2 s _ _ _
  have g4 : HP.get s3.h s1.n = some (.row (vr 0 0 0 0)) := get_n1 s1 _ _
  have g5 : HP.get s3.h s2.n = some (.row (vr ((u.n + 1 : Nat) : Int) v u.lead u.trail)) := get_n0 s2 _
  have hW3 : Wl lo id s3 bs := ((hW.new _).new _).new _
  have hK3 : Kl lo id s s3 := Kl.ext (ext3' s _ _ _)
  obtain ⟨hl, hwin⟩ := hu
  have fin : ∀ (a b : Nat) (s4 : SH) (cs : List Bool), Wl lo id s4 cs → Kl lo id s s4 → HP.get s4.h s1.n = some (.row (vr 0 0 0 0)) → HP.get s4.h s2.n = some (.row (vr ((u.n + 1 : Nat) : Int) v a b)) →
      loadD Tryd.prog s4 81 (pt s2.n 0) = some (xsV ⟨u.n + 1, v, a, b⟩) ∧ storeD Tryd.prog s4 81 (pt s1.n 0) (xsV ⟨u.n + 1, v, a, b⟩) = some (putD s4 s1.n (.row (vr ((u.n + 1 : Nat) : Int) v a b))) ∧ loadD Tryd.prog (putD s4 s1.n (.row (vr ((u.n + 1 : Nat) : Int) v a b))) 81 (pt s1.n 0) = some (xsV ⟨u.n + 1, v, a, b⟩) ∧ Wl lo id (putD s4 s1.n (.row (vr ((u.n + 1 : Nat) : Int) v a b))) cs ∧ Kl lo id s (putD s4 s1.n (.row (vr ((u.n + 1 : Nat) : Int) v a b))) := fun a b s4 cs hW4 hK4 k1 k2 =>
    ⟨gld k2, gst k1, gld (get_put_same _), hW4.put (by omega) (not_isL k1 (i_nl _)), hK4.putNew (by omega) _⟩
  by_cases h0 : u.n = 0
  · have hz : decide ((u.n : Int) = 0) = true := decide_eq_true (by omega)
    obtain ⟨s4, e71, hW4, hK4⟩ := c71 (n := n + 1) (x := v) (k := 64) hW3 (by decide) hv (by omega)
    have e71 : callD Tryd.prog AB (n + 2) (.fn 71) [pt id 0, U (v : Int), I 64] s3 = some [(I 0, s4)] := e71
    have p1 := hK4.row (show s1.n ≠ id by omega) g4 (i_nl _) (by omega)
    have p2 := hK4.row (show s2.n ≠ id by omega) g5 (i_nl _) (by omega)
    obtain ⟨q0, q1, q2, q3, q4⟩ := fin u.lead u.trail s4 _ hW4 (hK3.trans hK4) p1 p2
    simp only [f39, oO, bindS, many1, jnE, boolS, gdB, fst', snd', b1, b2, m1, e69, uop_not, Bool.not_true, condF, fld81_0, fld81_2, fld81_3, vld_0 g1, wld2 g1, wld3 g1, bop_add, wN, bl81, b3, st3, vld_0 g3, bop_eql, hz, decide_true, condT, e71, b_neq, q0, q1, q2]
    have e1 : xnext u v = ⟨u.n + 1, v, u.lead, u.trail⟩ := by unfold xnext; rw [if_pos h0, h0]
    have e2 : xput u v = bitsN 64 v := by unfold xput; rw [if_pos h0]
    rw [e1, e2]
    exact One.ret ⟨rfl, q3, q4⟩
  · have hz : ¬ (u.n : Int) = 0 := by omega
    have x1 := xor64 hv hl
    have hx := xor_lt hv hl
    generalize hxe : v ^^^ u.last = x at *
    by_cases hx0 : x = 0
    · have hxz : (x : Int) = 0 := by omega
      obtain ⟨s4, e71, hW4, hK4⟩ := c71 (n := n + 1) (x := 0) (k := 1) hW3 (by decide) (by decide) (by omega)
      have e71 : callD Tryd.prog AB (n + 2) (.fn 71) [pt id 0, U 0, I 1] s3 = some [(I 0, s4)] := e71
      have p1 := hK4.row (show s1.n ≠ id by omega) g4 (i_nl _) (by omega)
      have p2 := hK4.row (show s2.n ≠ id by omega) g5 (i_nl _) (by omega)
      obtain ⟨q0, q1, q2, q3, q4⟩ := fin u.lead u.trail s4 _ hW4 (hK3.trans hK4) p1 p2
      simp only [f39, oO, bindS, many1, jnE, boolS, gdB, fst', snd', b1, b2, m1, e69, uop_not, Bool.not_true, condF, fld81_0, fld81_1, fld81_2, fld81_3, vld_0 g1, wld2 g1, wld3 g1, bop_add, wN, bl81, b3, st3, vld_0 g3, vld_1 g3, bop_eql, hz, decide_false, x1, hxz, decide_true, condT, e71, b_neq, q0, q1, q2]
      have e1 : xnext u v = ⟨u.n + 1, v, u.lead, u.trail⟩ := by unfold xnext; rw [if_neg h0, hxe, if_pos hx0]
      have e2 : xput u v = [false] := by unfold xput; rw [if_neg h0, hxe, if_pos hx0]
      rw [e1, e2]
      exact One.ret ⟨rfl, q3, q4⟩
    · have hxz : ¬ (x : Int) = 0 := by omega
      have e70 := c70 (n := n + 1) (s := s3) x hx0 hx
      have hlt := lz_tz hx0 hx
      by_cases hh : vheld u x
      · have hnx : xnext u v = ⟨u.n + 1, v, u.lead, u.trail⟩ := by unfold xnext; rw [if_neg h0, hxe, if_neg hx0, if_pos hh]
        have hh' := hh
        obtain ⟨p1, p2, p3⟩ := hh'
        have d1 : decide ((u.lead : Int) < 64) = true := decide_eq_true (by omega)
        have d2 : decide ((nlz x : Int) ≥ (u.lead : Int)) = true := decide_eq_true (by omega)
        have d3 : decide ((ntz x : Int) ≥ (u.trail : Int)) = true := decide_eq_true (by omega)
        obtain ⟨s5, e71, hW5, hK5⟩ := c71 (n := n + 1) (x := 2) (k := 2) hW3 (by decide) (by decide) (by omega)
        have e71 : callD Tryd.prog AB (n + 2) (.fn 71) [pt id 0, U 2, I 2] s3 = some [(I 0, s5)] := e71
        have hK5' := hK3.trans hK5
        have o1 := hK5.row (show s1.n ≠ id by omega) g4 (i_nl _) (by omega)
        have o2 := hK5.row (show s2.n ≠ id by omega) g5 (i_nl _) (by omega)
        have hn5 := hK5.1
        simp only [f39, oO, bindS, many1, jnE, boolS, gdB, fst', snd', b1, b2, m1, e69, uop_not, Bool.not_true, condF, fld81_0, fld81_1, fld81_2, fld81_3, vld_0 g1, wld2 g1, wld3 g1, bop_add, wN, bl81, b3, st3, vld_0 g3, vld_1 g3, bop_eql, hz, decide_false, x1, hxz, e70, ext2, wld2 g3, wld3 g3, bop_lss, bop_geq, decide_true, condT, d1, d2, d3, e71, b_neq]
        have g53 : loadD Tryd.prog s5 3 (pt s2.n 3) = some (I (u.trail : Int)) := wld3 o2
        have g52 : loadD Tryd.prog s5 3 (pt s2.n 2) = some (I (u.lead : Int)) := wld2 o2
        have wA : IntKind.i64.wrap (64 - (u.lead : Int)) = ((64 - u.lead : Nat) : Int) := by rw [wrap_i64 (by omega) (by omega)]; omega
        have wB : IntKind.i64.wrap (((64 - u.lead : Nat) : Int) - (u.trail : Int)) = ((64 - u.lead - u.trail : Nat) : Int) := by rw [wrap_i64 (by omega) (by omega)]; omega
        refine list_one (List.replicate u.trail ()) (fun i (y : Value × Value) (s' : SH) => s5 = s' ∧ y.2 = I (i : Int) ∧ y.1 = U ((x / 2 ^ i : Nat) : Int)) ?_ ?_ ⟨rfl, rfl, by rw [Nat.pow_zero, Nat.div_one]⟩ (by rw [List.length_replicate]; show u.trail < 2 ^ 64; omega)
        · rintro i hi ⟨y1, y2⟩ s' ⟨e0, e1, e2⟩ nx hnx
          rw [List.length_replicate] at hi
          simp only at e1 e2
          subst e1 e2
          rw [← e0]
          have hlt : (i : Int) < (u.trail : Int) := by omega
          have wi : IntKind.i64.wrap ((i : Int) + 1) = ((i + 1 : Nat) : Int) := by rw [wrap_i64 (by omega) (by omega)]; rfl
          have hxi : x / 2 ^ i < 2 ^ 64 := Nat.lt_of_le_of_lt (Nat.div_le_self _ _) hx
          have hquo : Int.tdiv ((x / 2 ^ i : Nat) : Int) 2 = ((x / 2 ^ i / 2 : Nat) : Int) := rfl
          have wq : IntKind.u64.wrap ((x / 2 ^ i / 2 : Nat) : Int) = ((x / 2 ^ i / 2 : Nat) : Int) := wrap_u64n _ (by omega)
          simp only [f39_l0, oO, bindS, many1, jnE, boolS, gdB, fst', snd', fld81_3, g53, bop_lss, hlt, decide_true, condT, b_quo _ _ _ _ (show (2 : Int) ≠ 0 by decide), hquo, wq, bop_add, wi]
          exact hnx (_, _) _ ⟨rfl, rfl, by rw [Nat.pow_succ, ← Nat.div_div_eq_div_mul]⟩
        · rintro ⟨y1, y2⟩ s' ⟨e0, e1, e2⟩ nx
          rw [List.length_replicate] at e1 e2
          simp only at e1 e2
          subst e1 e2
          rw [← e0]
          have hnlt : ¬ (u.trail : Int) < (u.trail : Int) := by omega
          obtain ⟨s6, e71c, hW6, hK6⟩ := c71 (n := n + 1) (x := x / 2 ^ u.trail) (k := 64 - u.lead - u.trail) hW5 (by omega) (Nat.lt_of_le_of_lt (Nat.div_le_self _ _) hx) (by rw [List.length_append, bitsN_len]; omega)
          have p1 := hK6.row (show s1.n ≠ id by omega) o1 (i_nl _) (by have := hK5'.1; omega)
          have p2 := hK6.row (show s2.n ≠ id by omega) o2 (i_nl _) (by have := hK5'.1; omega)
          obtain ⟨q0, q1, q2, q3, q4⟩ := fin u.lead u.trail s6 _ hW6 (hK5'.trans hK6) p1 p2
          simp only [f39_l0, oO, bindS, many1, jnE, boolS, gdB, fst', snd', fld81_3, fld81_2, g52, g53, bop_lss, hnlt, decide_false, condF, beq_yes, condT, b_sub, wA, wB, e71c, b_neq, decide_true, Bool.not_true, q0, q1, q2]
          refine One.ret ⟨by rw [hnx], ?_, q4⟩
          have hxp : xput u v = [true, false] ++ bitsN (64 - u.lead - u.trail) (x / 2 ^ u.trail) := by unfold xput; rw [if_neg h0, hxe, if_neg hx0, if_pos hh]
          rw [hxp, ← List.append_assoc]
          exact q3
      · have hnx : xnext u v = ⟨u.n + 1, v, nlz x, ntz x⟩ := by unfold xnext; rw [if_neg h0, hxe, if_neg hx0, if_neg hh]
        have d3 : decide ((u.lead : Int) < 64) = false ∨ (decide ((nlz x : Int) ≥ (u.lead : Int)) = false ∧ decide ((u.lead : Int) < 64) = true) ∨ (decide ((ntz x : Int) ≥ (u.trail : Int)) = false ∧ decide ((nlz x : Int) ≥ (u.lead : Int)) = true ∧ decide ((u.lead : Int) < 64) = true) := by
          by_cases p1 : u.lead < 64
          · by_cases p2 : u.lead ≤ nlz x
            · have p3 : ¬ u.trail ≤ ntz x := fun h => hh ⟨p1, p2, h⟩
              exact .inr (.inr ⟨decide_eq_false (by omega), decide_eq_true (by omega), decide_eq_true (by omega)⟩)
            · exact .inr (.inl ⟨decide_eq_false (by omega), decide_eq_true (by omega)⟩)
          · exact .inl (decide_eq_false (by omega))
        generalize hL : nlz x = L at *
        generalize hT : ntz x = T at *
        have y1 : IntKind.i64.wrap (64 * (L : Int)) = ((64 * L : Nat) : Int) := by rw [wrap_i64 (by omega) (by omega)]; omega
        have y2 : IntKind.i64.wrap (12288 + ((64 * L : Nat) : Int)) = ((12288 + 64 * L : Nat) : Int) := by rw [wrap_i64 (by omega) (by omega)]; omega
        have y3 : IntKind.i64.wrap (((12288 + 64 * L : Nat) : Int) + 64) = ((12288 + 64 * L + 64 : Nat) : Int) := by rw [wrap_i64 (by omega) (by omega)]; omega
        have y4 : IntKind.i64.wrap (((12288 + 64 * L + 64 : Nat) : Int) - (L : Int)) = ((12288 + 64 * L + 64 - L : Nat) : Int) := by rw [wrap_i64 (by omega) (by omega)]; omega
        have y5 : IntKind.i64.wrap (((12288 + 64 * L + 64 - L : Nat) : Int) - (T : Int)) = ((12288 + 64 * L + 64 - L - T : Nat) : Int) := by rw [wrap_i64 (by omega) (by omega)]; omega
        have y6 : IntKind.i64.wrap (((12288 + 64 * L + 64 - L - T : Nat) : Int) - 1) = ((12288 + 64 * L + (64 - L - T - 1) : Nat) : Int) := by rw [wrap_i64 (by omega) (by omega)]; omega
        have y7 : IntKind.u64.wrap ((12288 + 64 * L + (64 - L - T - 1) : Nat) : Int) = ((12288 + 64 * L + (64 - L - T - 1) : Nat) : Int) := wrap_u64n _ (by omega)
        obtain ⟨s4, e71, hW4, hK4⟩ := c71 (n := n + 1) (x := 12288 + 64 * L + (64 - L - T - 1)) (k := 14) hW3 (by decide) (by omega) (by omega)
        have e71 : callD Tryd.prog AB (n + 2) (.fn 71) [pt id 0, U ((12288 + 64 * L + (64 - L - T - 1) : Nat) : Int), I 14] s3 = some [(I 0, s4)] := e71
        have o1' := hK4.row (show s1.n ≠ id by omega) g4 (i_nl _) (by omega)
        have o2' := hK4.row (show s2.n ≠ id by omega) g5 (i_nl _) (by omega)
        have hn4 := hK4.1
        have z2 : storeD Tryd.prog s4 3 (pt s2.n 2) (I (L : Int)) = some (putD s4 s2.n (.row (vr ((u.n + 1 : Nat) : Int) v L u.trail))) := by
          rw [store_row (l := [I (L : Int)]) z3 o2' rfl rfl rfl (show 2 + 1 ≤ 4 by decide)]; rfl
        have z3' : storeD Tryd.prog (putD s4 s2.n (.row (vr ((u.n + 1 : Nat) : Int) v L u.trail))) 3 (pt s2.n 3) (I (T : Int)) = some (putD s4 s2.n (.row (vr ((u.n + 1 : Nat) : Int) v L T))) := by
          rw [store_row (l := [I (T : Int)]) z3 (get_put_same _) rfl rfl rfl (show 3 + 1 ≤ 4 by decide), put_put]; rfl
        have hK5' : Kl lo id s (putD s4 s2.n (.row (vr ((u.n + 1 : Nat) : Int) v L T))) := (hK3.trans hK4).putNew (by omega) _
        have hW5 : Wl lo id (putD s4 s2.n (.row (vr ((u.n + 1 : Nat) : Int) v L T))) _ := hW4.put (by omega) (not_isL o2' (i_nl _))
        have o1 : HP.get (putD s4 s2.n (.row (vr ((u.n + 1 : Nat) : Int) v L T))).h s1.n = some (.row (vr 0 0 0 0)) := by rw [get_put_other (by omega)]; exact o1'
        have o2 : HP.get (putD s4 s2.n (.row (vr ((u.n + 1 : Nat) : Int) v L T))).h s2.n = some (.row (vr ((u.n + 1 : Nat) : Int) v L T)) := get_put_same _
        have hn5 : s3.n ≤ (putD s4 s2.n (.row (vr ((u.n + 1 : Nat) : Int) v L T))).n := hn4
        generalize hs5 : putD s4 s2.n (.row (vr ((u.n + 1 : Nat) : Int) v L T)) = s5 at *
        rcases d3 with d3 | ⟨d3, d4⟩ | ⟨d3, d4, d5⟩
        · simp only [f39, oO, bindS, many1, jnE, boolS, gdB, fst', snd', b1, b2, m1, e69, uop_not, Bool.not_true, condF, fld81_0, fld81_1, fld81_2, fld81_3, vld_0 g1, wld2 g1, wld3 g1, bop_add, wN, bl81, b3, st3, vld_0 g3, vld_1 g3, bop_eql, hz, decide_false, x1, hxz, e70, ext2, wld2 g3, wld3 g3, bop_lss, bop_geq, decide_true, condT, d3, bop_mul, y1, y2, y3, y4, y5, y6, conv_int u3 u38, y7, b_sub, e71, z2, z3', b_neq]
          have g53 : loadD Tryd.prog s5 3 (pt s2.n 3) = some (I (T : Int)) := wld3 o2
          have g52 : loadD Tryd.prog s5 3 (pt s2.n 2) = some (I (L : Int)) := wld2 o2
          have wA : IntKind.i64.wrap (64 - (L : Int)) = ((64 - L : Nat) : Int) := by rw [wrap_i64 (by omega) (by omega)]; omega
          have wB : IntKind.i64.wrap (((64 - L : Nat) : Int) - (T : Int)) = ((64 - L - T : Nat) : Int) := by rw [wrap_i64 (by omega) (by omega)]; omega
          refine list_one (List.replicate T ()) (fun i (y : Value × Value) (s' : SH) => s5 = s' ∧ y.2 = I (i : Int) ∧ y.1 = U ((x / 2 ^ i : Nat) : Int)) ?_ ?_ ⟨rfl, rfl, by rw [Nat.pow_zero, Nat.div_one]⟩ (by rw [List.length_replicate]; show T < 2 ^ 64; omega)
          · rintro i hi ⟨y1, y2⟩ s' ⟨e0, e1, e2⟩ nx hnx
            rw [List.length_replicate] at hi
            simp only at e1 e2
            subst e1 e2
            rw [← e0]
            have hlt : (i : Int) < (T : Int) := by omega
            have wi : IntKind.i64.wrap ((i : Int) + 1) = ((i + 1 : Nat) : Int) := by rw [wrap_i64 (by omega) (by omega)]; rfl
            have hxi : x / 2 ^ i < 2 ^ 64 := Nat.lt_of_le_of_lt (Nat.div_le_self _ _) hx
            have hquo : Int.tdiv ((x / 2 ^ i : Nat) : Int) 2 = ((x / 2 ^ i / 2 : Nat) : Int) := rfl
            have wq : IntKind.u64.wrap ((x / 2 ^ i / 2 : Nat) : Int) = ((x / 2 ^ i / 2 : Nat) : Int) := wrap_u64n _ (by omega)
            simp only [f39_l0, oO, bindS, many1, jnE, boolS, gdB, fst', snd', fld81_3, g53, bop_lss, hlt, decide_true, condT, b_quo _ _ _ _ (show (2 : Int) ≠ 0 by decide), hquo, wq, bop_add, wi]
            exact hnx (_, _) _ ⟨rfl, rfl, by rw [Nat.pow_succ, ← Nat.div_div_eq_div_mul]⟩
          · rintro ⟨y1, y2⟩ s' ⟨e0, e1, e2⟩ nx
            rw [List.length_replicate] at e1 e2
            simp only at e1 e2
            subst e1 e2
            rw [← e0]
            have hnlt : ¬ (T : Int) < (T : Int) := by omega
            obtain ⟨s6, e71c, hW6, hK6⟩ := c71 (n := n + 1) (x := x / 2 ^ T) (k := 64 - L - T) hW5 (by omega) (Nat.lt_of_le_of_lt (Nat.div_le_self _ _) hx) (by rw [List.length_append, bitsN_len]; omega)
            have p1 := hK6.row (show s1.n ≠ id by omega) o1 (i_nl _) (by have := hK5'.1; omega)
            have p2 := hK6.row (show s2.n ≠ id by omega) o2 (i_nl _) (by have := hK5'.1; omega)
            obtain ⟨q0, q1, q2, q3, q4⟩ := fin L T s6 _ hW6 (hK5'.trans hK6) p1 p2
            simp only [f39_l0, oO, bindS, many1, jnE, boolS, gdB, fst', snd', fld81_3, fld81_2, g52, g53, bop_lss, hnlt, decide_false, condF, beq_yes, condT, b_sub, wA, wB, e71c, b_neq, decide_true, Bool.not_true, q0, q1, q2]
            refine One.ret ⟨by rw [hnx], ?_, q4⟩
            have hxp : xput u v = [true, true] ++ bitsN 6 L ++ bitsN 6 (64 - L - T - 1) ++ bitsN (64 - L - T) (x / 2 ^ T) := by unfold xput; rw [if_neg h0, hxe, if_neg hx0, if_neg hh, hL, hT]
            rw [hxp, ← bits14 (by omega) (by omega), ← List.append_assoc]
            exact q3
        · simp only [f39, oO, bindS, many1, jnE, boolS, gdB, fst', snd', b1, b2, m1, e69, uop_not, Bool.not_true, condF, fld81_0, fld81_1, fld81_2, fld81_3, vld_0 g1, wld2 g1, wld3 g1, bop_add, wN, bl81, b3, st3, vld_0 g3, vld_1 g3, bop_eql, hz, decide_false, x1, hxz, e70, ext2, wld2 g3, wld3 g3, bop_lss, bop_geq, decide_true, condT, d3, d4, bop_mul, y1, y2, y3, y4, y5, y6, conv_int u3 u38, y7, b_sub, e71, z2, z3', b_neq]
          have g53 : loadD Tryd.prog s5 3 (pt s2.n 3) = some (I (T : Int)) := wld3 o2
          have g52 : loadD Tryd.prog s5 3 (pt s2.n 2) = some (I (L : Int)) := wld2 o2
          have wA : IntKind.i64.wrap (64 - (L : Int)) = ((64 - L : Nat) : Int) := by rw [wrap_i64 (by omega) (by omega)]; omega
          have wB : IntKind.i64.wrap (((64 - L : Nat) : Int) - (T : Int)) = ((64 - L - T : Nat) : Int) := by rw [wrap_i64 (by omega) (by omega)]; omega
          refine list_one (List.replicate T ()) (fun i (y : Value × Value) (s' : SH) => s5 = s' ∧ y.2 = I (i : Int) ∧ y.1 = U ((x / 2 ^ i : Nat) : Int)) ?_ ?_ ⟨rfl, rfl, by rw [Nat.pow_zero, Nat.div_one]⟩ (by rw [List.length_replicate]; show T < 2 ^ 64; omega)
          · rintro i hi ⟨y1, y2⟩ s' ⟨e0, e1, e2⟩ nx hnx
            rw [List.length_replicate] at hi
            simp only at e1 e2
            subst e1 e2
            rw [← e0]
            have hlt : (i : Int) < (T : Int) := by omega
            have wi : IntKind.i64.wrap ((i : Int) + 1) = ((i + 1 : Nat) : Int) := by rw [wrap_i64 (by omega) (by omega)]; rfl
            have hxi : x / 2 ^ i < 2 ^ 64 := Nat.lt_of_le_of_lt (Nat.div_le_self _ _) hx
            have hquo : Int.tdiv ((x / 2 ^ i : Nat) : Int) 2 = ((x / 2 ^ i / 2 : Nat) : Int) := rfl
            have wq : IntKind.u64.wrap ((x / 2 ^ i / 2 : Nat) : Int) = ((x / 2 ^ i / 2 : Nat) : Int) := wrap_u64n _ (by omega)
            simp only [f39_l0, oO, bindS, many1, jnE, boolS, gdB, fst', snd', fld81_3, g53, bop_lss, hlt, decide_true, condT, b_quo _ _ _ _ (show (2 : Int) ≠ 0 by decide), hquo, wq, bop_add, wi]
            exact hnx (_, _) _ ⟨rfl, rfl, by rw [Nat.pow_succ, ← Nat.div_div_eq_div_mul]⟩
          · rintro ⟨y1, y2⟩ s' ⟨e0, e1, e2⟩ nx
            rw [List.length_replicate] at e1 e2
            simp only at e1 e2
            subst e1 e2
            rw [← e0]
            have hnlt : ¬ (T : Int) < (T : Int) := by omega
            obtain ⟨s6, e71c, hW6, hK6⟩ := c71 (n := n + 1) (x := x / 2 ^ T) (k := 64 - L - T) hW5 (by omega) (Nat.lt_of_le_of_lt (Nat.div_le_self _ _) hx) (by rw [List.length_append, bitsN_len]; omega)
            have p1 := hK6.row (show s1.n ≠ id by omega) o1 (i_nl _) (by have := hK5'.1; omega)
            have p2 := hK6.row (show s2.n ≠ id by omega) o2 (i_nl _) (by have := hK5'.1; omega)
            obtain ⟨q0, q1, q2, q3, q4⟩ := fin L T s6 _ hW6 (hK5'.trans hK6) p1 p2
            simp only [f39_l0, oO, bindS, many1, jnE, boolS, gdB, fst', snd', fld81_3, fld81_2, g52, g53, bop_lss, hnlt, decide_false, condF, beq_yes, condT, b_sub, wA, wB, e71c, b_neq, decide_true, Bool.not_true, q0, q1, q2]
            refine One.ret ⟨by rw [hnx], ?_, q4⟩
            have hxp : xput u v = [true, true] ++ bitsN 6 L ++ bitsN 6 (64 - L - T - 1) ++ bitsN (64 - L - T) (x / 2 ^ T) := by unfold xput; rw [if_neg h0, hxe, if_neg hx0, if_neg hh, hL, hT]
            rw [hxp, ← bits14 (by omega) (by omega), ← List.append_assoc]
            exact q3
        · simp only [f39, oO, bindS, many1, jnE, boolS, gdB, fst', snd', b1, b2, m1, e69, uop_not, Bool.not_true, condF, fld81_0, fld81_1, fld81_2, fld81_3, vld_0 g1, wld2 g1, wld3 g1, bop_add, wN, bl81, b3, st3, vld_0 g3, vld_1 g3, bop_eql, hz, decide_false, x1, hxz, e70, ext2, wld2 g3, wld3 g3, bop_lss, bop_geq, decide_true, condT, d3, d4, d5, bop_mul, y1, y2, y3, y4, y5, y6, conv_int u3 u38, y7, b_sub, e71, z2, z3', b_neq]
          have g53 : loadD Tryd.prog s5 3 (pt s2.n 3) = some (I (T : Int)) := wld3 o2
          have g52 : loadD Tryd.prog s5 3 (pt s2.n 2) = some (I (L : Int)) := wld2 o2
          have wA : IntKind.i64.wrap (64 - (L : Int)) = ((64 - L : Nat) : Int) := by rw [wrap_i64 (by omega) (by omega)]; omega
          have wB : IntKind.i64.wrap (((64 - L : Nat) : Int) - (T : Int)) = ((64 - L - T : Nat) : Int) := by rw [wrap_i64 (by omega) (by omega)]; omega
          refine list_one (List.replicate T ()) (fun i (y : Value × Value) (s' : SH) => s5 = s' ∧ y.2 = I (i : Int) ∧ y.1 = U ((x / 2 ^ i : Nat) : Int)) ?_ ?_ ⟨rfl, rfl, by rw [Nat.pow_zero, Nat.div_one]⟩ (by rw [List.length_replicate]; show T < 2 ^ 64; omega)
          · rintro i hi ⟨y1, y2⟩ s' ⟨e0, e1, e2⟩ nx hnx
            rw [List.length_replicate] at hi
            simp only at e1 e2
            subst e1 e2
            rw [← e0]
            have hlt : (i : Int) < (T : Int) := by omega
            have wi : IntKind.i64.wrap ((i : Int) + 1) = ((i + 1 : Nat) : Int) := by rw [wrap_i64 (by omega) (by omega)]; rfl
            have hxi : x / 2 ^ i < 2 ^ 64 := Nat.lt_of_le_of_lt (Nat.div_le_self _ _) hx
            have hquo : Int.tdiv ((x / 2 ^ i : Nat) : Int) 2 = ((x / 2 ^ i / 2 : Nat) : Int) := rfl
            have wq : IntKind.u64.wrap ((x / 2 ^ i / 2 : Nat) : Int) = ((x / 2 ^ i / 2 : Nat) : Int) := wrap_u64n _ (by omega)
            simp only [f39_l0, oO, bindS, many1, jnE, boolS, gdB, fst', snd', fld81_3, g53, bop_lss, hlt, decide_true, condT, b_quo _ _ _ _ (show (2 : Int) ≠ 0 by decide), hquo, wq, bop_add, wi]
            exact hnx (_, _) _ ⟨rfl, rfl, by rw [Nat.pow_succ, ← Nat.div_div_eq_div_mul]⟩
          · rintro ⟨y1, y2⟩ s' ⟨e0, e1, e2⟩ nx
            rw [List.length_replicate] at e1 e2
            simp only at e1 e2
            subst e1 e2
            rw [← e0]
            have hnlt : ¬ (T : Int) < (T : Int) := by omega
            obtain ⟨s6, e71c, hW6, hK6⟩ := c71 (n := n + 1) (x := x / 2 ^ T) (k := 64 - L - T) hW5 (by omega) (Nat.lt_of_le_of_lt (Nat.div_le_self _ _) hx) (by rw [List.length_append, bitsN_len]; omega)
            have p1 := hK6.row (show s1.n ≠ id by omega) o1 (i_nl _) (by have := hK5'.1; omega)
            have p2 := hK6.row (show s2.n ≠ id by omega) o2 (i_nl _) (by have := hK5'.1; omega)
            obtain ⟨q0, q1, q2, q3, q4⟩ := fin L T s6 _ hW6 (hK5'.trans hK6) p1 p2
            simp only [f39_l0, oO, bindS, many1, jnE, boolS, gdB, fst', snd', fld81_3, fld81_2, g52, g53, bop_lss, hnlt, decide_false, condF, beq_yes, condT, b_sub, wA, wB, e71c, b_neq, decide_true, Bool.not_true, q0, q1, q2]
            refine One.ret ⟨by rw [hnx], ?_, q4⟩
            have hxp : xput u v = [true, true] ++ bitsN 6 L ++ bitsN 6 (64 - L - T - 1) ++ bitsN (64 - L - T) (x / 2 ^ T) := by unfold xput; rw [if_neg h0, hxe, if_neg hx0, if_neg hh, hL, hT]
            rw [hxp, ← bits14 (by omega) (by omega), ← List.append_assoc]
            exact q3
end Go.Proofs.YtmhmbmogodofeaaDoor.S
