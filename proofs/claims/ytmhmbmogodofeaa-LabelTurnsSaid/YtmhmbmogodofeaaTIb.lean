/- slices.Insert of one label, as an answer that the machine is known to give. -/
import Derived.Test.YtmhmbmogodofeaaFx
import Derived.Test.YtmhmbmogodofeaaTIa
import Derived.Lib.AppendZerosOnto
import Derived.Laws.AppendOwn
set_option autoImplicit false
set_option linter.unusedVariables false
set_option linter.unusedSimpArgs false
namespace Go.Proofs.Ytmhmbmogodofeaa.T
open Go.Shelf Go.RowKit Go.Lib Go.FS
variable {H : HeapI}
theorem wrel_ext {E : Env} {s s' : St H} {w : World} (h : WRel E s w) (hn : s'.n = s.n) (hg : ∀ i, H.get s'.h i = H.get s.h i) : WRel E s' w :=
  ⟨h.n.trans hn.symm, h.blt, fun i o q => h.lt i o (by rw [← hg]; exact q), fun i j oi oj hi hj => h.inj i j oi oj (by rw [← hg]; exact hi) (by rw [← hg]; exact hj),
   fun i o q => h.obj i o (by rw [← hg]; exact q), fun i j L z L' z' b f t f' t' hi hj => h.tinj i j L z L' z' b f t f' t' (by rw [← hg]; exact hi) (by rw [← hg]; exact hj),
   fun i o q => h.tbo i o (by rw [← hg]; exact q), fun b o v hv => ⟨(h.frz b o v hv).1, fun i x q => (h.frz b o v hv).2 i x (by rw [← hg]; exact q)⟩, h.tbl, h.glb⟩
def isS : Value → Bool
  | .string _ => true
  | _ => false
theorem isS_one {l : List Value} (h : l.all isS = true) : l.all oneC = true := by
  rw [List.all_eq_true] at h ⊢
  intro x hx
  have := h x hx
  cases x <;> first | rfl | cases this
def insRow (r x : List Value) (n k : Nat) : List Value := r.take (k * 2) ++ x ++ (r.take (n * 2)).drop (k * 2)
def iIns : List Value → St H → Option (Value × St H) := fun args s => match args with
  | [.slice (some ⟨id, 0, none⟩) n c, .int .i64 k, .slice (some ⟨iv, 0, none⟩) 1 cv] =>
    (rowD s id).bind fun r => (rowD s iv).bind fun x =>
      bif Nat.beq (c / 2) 2 && (Nat.beq (cv / 2) 2 && (decide (0 ≤ k) && (decide (k ≤ n) && (Nat.ble (n * 2) r.length && (Nat.beq x.length 2 && (r.all isS && (x.all isS && (!Nat.beq id iv && Nat.ble n 1000)))))))) then
        some (.slice (some ⟨s.n, 0, none⟩) (n + 1) 4, delD (newD s (.row (insRow r x n k.toNat))) id) else none
  | _ => none
theorem row_eq {s : St H} {id : Nat} {r : List Value} (h : rowD s id = some r) : H.get s.h id = some (.row r) := by
  unfold rowD at h
  split at h
  · rename_i cs hq; injection h with h; rw [hq, h]
  · cases h
theorem spl_len {cs l : List Value} {o : Nat} (h : o + l.length ≤ cs.length) : (splice cs o l).length = cs.length := by
  unfold splice
  simp only [List.length_append, List.length_take, List.length_drop]; omega
/-- The row is what it shall be, whatever came first. -/
theorem ins_shift {r x d : List Value} {n k : Nat} (hk : k ≤ n) (hr : n * 2 ≤ r.length) (hx : x.length = 2) (hd : d.length = 2) :
    splice (splice (r.take (n * 2) ++ d) ((k + 1) * 2) ((r.drop (k * 2)).take ((n - k) * 2))) (k * 2) x = insRow r x n k := by
  have e1 : (r.drop (k * 2)).take ((n - k) * 2) = (r.take (n * 2)).drop (k * 2) := by
    rw [List.drop_take]; congr 1; omega
  rw [e1]
  unfold insRow splice
  have l1 : ((r.take (n * 2)).drop (k * 2)).length = (n - k) * 2 := by rw [List.length_drop, List.length_take]; omega
  have t1 : (List.take (n * 2) r ++ d).take ((k + 1) * 2) = (r.take (n * 2) ++ d).take (k * 2) ++ ((r.take (n * 2) ++ d).drop (k * 2)).take 2 := by
    rw [← List.take_add]; congr 1; omega
  have hl : (r.take (n * 2) ++ d).length = n * 2 + 2 := by rw [List.length_append, List.length_take, hd]; omega
  have q1 : ((r.take (n * 2) ++ d).take (k * 2)).length = k * 2 := by rw [List.length_take, hl]; omega
  have q2 : (((r.take (n * 2) ++ d).drop (k * 2)).take 2).length = 2 := by rw [List.length_take, List.length_drop, hl]; omega
  have q3 : (r.take (n * 2) ++ d).take (k * 2) = r.take (k * 2) := by
    rw [List.take_append_of_le_length (by rw [List.length_take]; omega), List.take_take]; congr 1; omega
  have q4 : (List.take (n * 2) r ++ d).drop ((k + 1) * 2 + ((r.take (n * 2)).drop (k * 2)).length) = [] := List.drop_eq_nil_of_le (by rw [hl, l1]; omega)
  rw [t1, q4, List.append_nil, List.append_assoc, hx]
  rw [List.take_append_of_le_length (by rw [q1]; exact Nat.le_refl _), List.take_of_length_le (by rw [q1]; exact Nat.le_refl _)]
  rw [List.drop_append, List.drop_eq_nil_of_le (by rw [q1]; omega), List.nil_append, q1]
  rw [List.drop_append, List.drop_eq_nil_of_le (by rw [q2]; omega), List.nil_append, q2, q3]
  rw [show k * 2 + 2 - k * 2 - 2 = 0 from by omega, List.drop_zero, List.append_assoc]
theorem ins_grow {r x d : List Value} {n k : Nat} (hk : k ≤ n) (hr : n * 2 ≤ r.length) (hx : x.length = 2) (hd : d.length = (n + 1 - k) * 2) :
    splice (splice (r.take (k * 2) ++ d) (k * 2) x) ((k + 1) * 2) ((r.drop (k * 2)).take ((n - k) * 2)) = insRow r x n k := by
  have e1 : (r.drop (k * 2)).take ((n - k) * 2) = (r.take (n * 2)).drop (k * 2) := by
    rw [List.drop_take]; congr 1; omega
  rw [e1]
  have l1 : ((r.take (n * 2)).drop (k * 2)).length = (n - k) * 2 := by rw [List.length_drop, List.length_take]; omega
  have q0 : (r.take (k * 2)).length = k * 2 := by rw [List.length_take]; omega
  have q1 : splice (r.take (k * 2) ++ d) (k * 2) x = r.take (k * 2) ++ (x ++ d.drop 2) := by
    unfold splice
    rw [List.take_append_of_le_length (by rw [q0]; exact Nat.le_refl _), List.take_of_length_le (by rw [q0]; exact Nat.le_refl _)]
    rw [List.drop_append, List.drop_eq_nil_of_le (by rw [q0]; omega), List.nil_append, q0, hx, show k * 2 + 2 - k * 2 = 2 from by omega]
  rw [q1]
  unfold insRow splice
  have q2 : (r.take (k * 2) ++ (x ++ d.drop 2)).take ((k + 1) * 2) = r.take (k * 2) ++ x := by
    rw [← List.append_assoc, List.take_append_of_le_length (by rw [List.length_append, q0, hx]; omega), List.take_of_length_le (by rw [List.length_append, q0, hx]; omega)]
  have q3 : (r.take (k * 2) ++ (x ++ d.drop 2)).drop ((k + 1) * 2 + ((r.take (n * 2)).drop (k * 2)).length) = [] := List.drop_eq_nil_of_le (by
    rw [l1]; simp only [List.length_append, List.length_drop, q0, hx, hd]; omega)
  rw [q2, q3, List.append_nil]
theorem hu23 : Try.prog.underlying 23 = some (.slice 106) := by kernel_rfl
theorem hu22 : Try.prog.underlying 22 = some (.slice 106) := by kernel_rfl
theorem hu3 : Try.prog.underlying 3 = some (.int .i64) := by kernel_rfl
theorem hi106 : Try.prog.info? 106 = some Try.t106 := by kernel_rfl
theorem hs106 : (Try.t106.size : Nat) = 2 := by kernel_rfl
theorem hb106 : (Try.t106.bytes : Nat) = 32 := by kernel_rfl
theorem hz106 : sizeD Try.prog 106 = some 2 := by kernel_rfl
theorem hzr106 : zeroD Try.prog 106 = some [Value.string ⟨#[]⟩, Value.string ⟨#[]⟩] := by kernel_rfl
theorem all_take {l : List Value} {p : Value → Bool} (h : l.all p = true) (n : Nat) : (l.take n).all p = true := by
  rw [List.all_eq_true] at h ⊢
  exact fun x hx => h x (List.mem_of_mem_take hx)
theorem all_drop {l : List Value} {p : Value → Bool} (h : l.all p = true) (n : Nat) : (l.drop n).all p = true := by
  rw [List.all_eq_true] at h ⊢
  exact fun x hx => h x (List.mem_of_mem_drop hx)
theorem take_D {r : List Value} {o n : Nat} (h : o + n ≤ r.length) : takeD r o n = some ((r.drop o).take n) := by
  unfold takeD
  have : ((r.drop o).take n).length = n := by rw [List.length_take, List.length_drop]; omega
  rw [this, beq_yes, cond_true]
theorem store_D {s : St H} {id o : Nat} {r l : List Value} (h : H.get s.h id = some (.row r)) (h1 : l.all oneC = true) (ho : o + l.length ≤ r.length) : storeAt s id o l = some (putD s id (.row (splice r o l))) := by
  unfold storeAt
  rw [row_of h, bindS, h1, Nat.ble_eq_true_of_le ho]; rfl
/-- What is copied from a row to a row. -/
theorem copy_D {s : St H} {t di oi n m si so c1 c2 : Nat} {r q : List Value} (ht : Try.prog.underlying t = some (.slice 106)) (hd : H.get s.h di = some (.row r)) (hq : H.get s.h si = some (.row q)) (hc1 : c1 / 2 = 2) (hc2 : c2 / 2 = 2) (hpos : 0 < Nat.min m n)
    (hqs : q.all isS = true ∨ ((q.drop so).take (Nat.min m n * 2)).all oneC = true) (h1 : so + Nat.min m n * 2 ≤ q.length) (h2 : oi + Nat.min m n * 2 ≤ r.length) :
    copyD Try.prog s t (.slice (some ⟨di, oi, none⟩) n c1) (.slice (some ⟨si, so, none⟩) m c2) = some (.int .i64 (Nat.min m n), putD s di (.row (splice r oi ((q.drop so).take (Nat.min m n * 2))))) := by
  have hone : ((q.drop so).take (Nat.min m n * 2)).all oneC = true := by
    rcases hqs with h | h
    · exact isS_one (all_take (all_drop h _) _)
    · exact h
  have hlen : ((q.drop so).take (Nat.min m n * 2)).length = Nat.min m n * 2 := by rw [List.length_take, List.length_drop]; omega
  have hcl : cellsD s 2 (Nat.min m n) (.slice (some ⟨si, so, none⟩) m c2) = some ((q.drop so).take (Nat.min m n * 2)) := by
    show (bif Nat.ble (Nat.min m n) m && Nat.beq (c2 / 2) 2 then (bif Nat.beq (Nat.min m n) 0 then some [] else (rowD s si).bind fun r => takeD r so (Nat.min m n * 2)) else none) = _
    rw [Nat.ble_eq_true_of_le (Nat.min_le_left _ _), hc2, beq_yes, Bool.and_self, cond_true, beq_no (by omega), cond_false, row_of hq, bindS, take_D h1]
  unfold copyD
  simp only [ht, hz106, bindS]
  show (bif Nat.beq (Nat.min m n) 0 then _ else (cellsD s 2 (Nat.min m n) (.slice (some ⟨si, so, none⟩) m c2)).bind fun l => bif Nat.beq (c1 / 2) 2 then (storeAt s di oi l).map fun s' => (Value.int .i64 (Nat.min m n), s') else none) = _
  rw [beq_no (by omega), cond_false, hcl, bindS, hc1, beq_yes, cond_true, store_D hd hone (by rw [hlen]; exact h2)]
  rfl
end Go.Proofs.Ytmhmbmogodofeaa.T
