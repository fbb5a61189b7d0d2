/- label.Text and strings.Compare as answers that the machine is known to give. -/
import Derived.Test.YtmhmbmogodofeaaTXb
import Derived.Test.YtmhmbmogodofeaaFx
set_option autoImplicit false
set_option linter.unusedVariables false
namespace Go.Proofs.Ytmhmbmogodofeaa.T
open Go.FS Go.RowKit
variable {H : HeapI}
abbrev LabT := ByteArray × ByteArray
/-- So many labels of these cells. -/
def labsOf : Nat → List Value → Option (List LabT)
  | 0, _ => some []
  | k + 1, .string a :: .string b :: r => (labsOf k r).map ((a, b) :: ·)
  | _ + 1, _ => none
abbrev lz0 : LabT := (⟨#[]⟩, ⟨#[]⟩)
theorem labsOf_get : ∀ {n : Nat} {r : List Value} {L : List LabT}, labsOf n r = some L → L.length = n ∧ ∀ k, k < n → r[k * 2]? = some (.string (L.getD k lz0).1) ∧ r[k * 2 + 1]? = some (.string (L.getD k lz0).2)
  | 0, r, L, h => by
    have h : some [] = some L := h
    injection h with h
    subst h
    exact ⟨rfl, fun k hk => absurd hk (Nat.not_lt_zero _)⟩
  | n + 1, r, L, h => by
    match r, h with
    | .string a :: .string b :: r, h =>
      have h : (labsOf n r).map ((a, b) :: ·) = some L := h
      obtain ⟨M, hM, rfl⟩ := Option.map_eq_some_iff.1 h
      obtain ⟨h1, h2⟩ := labsOf_get hM
      refine ⟨by simp [h1], fun k hk => ?_⟩
      cases k with
      | zero => exact ⟨rfl, rfl⟩
      | succ k =>
        have := h2 k (by omega)
        have e1 : (k + 1) * 2 = k * 2 + 1 + 1 := by omega
        rw [e1]
        simpa using this
def txL (L : List LabT) : List UInt8 := txk (fun k => (L.getD k lz0).1) (fun k => (L.getD k lz0).2) L.length
def iText : List Value → St H → Option (Value × St H) := fun args s => match args with
  | [.slice (some ⟨id, o, none⟩) len _] => (rowD s id).bind fun r => (labsOf len (r.drop o)).bind fun L =>
      bif Nat.blt 0 len && Nat.ble len 100 && Nat.ble ((txL L).length + 1) 140737488355328 then some (.string ⟨(txL L).toArray⟩, s) else none
  | _ => none
def iCmp : List Value → St H → Option (Value × St H) := fun args s => match args with
  | [.string a, .string b] => some (.int .i64 (Lib.compareBytes a.data.toList b.data.toList), s)
  | _ => none
def iL : Intr H := fun f => bif Nat.beq f 63 then some iText else bif Nat.beq f 67 then some iCmp else none
theorem txk_mono (nm vl : Nat → ByteArray) {k n : Nat} (h : k ≤ n) : (txk nm vl k).length ≤ (txk nm vl n).length := by
  induction n with
  | zero => rw [Nat.le_zero.1 h]; exact Nat.le_refl _
  | succ n ih =>
    rcases Nat.lt_or_ge k (n + 1) with h1 | h1
    · have := ih (by omega)
      show _ ≤ (txk nm vl n ++ _).length
      rw [List.length_append]; omega
    · have : k = n + 1 := by omega
      rw [this]; exact Nat.le_refl _
theorem iText_ok {args : List Value} {s : St H} {v : Value} {s' : St H} (h : iText args s = some (v, s')) {E : Env} {w : World} {args' : Array Value} (hW : WRel E s w) (hL : LRel E args args'.toList) : FnOk Try.prog 63 args' w (Ans E w v s') := by
  unfold iText at h
  split at h
  case h_2 => cases h
  case h_1 id o len c =>
    obtain ⟨r, hr, h⟩ := bsome h
    obtain ⟨L, hl, h⟩ := bsome h
    cases hc : (Nat.blt 0 len && Nat.ble len 100 && Nat.ble ((txL L).length + 1) 140737488355328) with
    | false => rw [hc] at h; cases h
    | true =>
      rw [hc] at h
      injection h with h
      injection h with h1 h2
      subst h1 h2
      simp only [Bool.and_eq_true] at hc
      obtain ⟨⟨hc1, hc2⟩, hc3⟩ := hc
      have c1 : 0 < len := Nat.le_of_ble_eq_true hc1
      have c2 : len ≤ 100 := Nat.le_of_ble_eq_true hc2
      have c3 : (txL L).length + 1 ≤ 140737488355328 := Nat.le_of_ble_eq_true hc3
      obtain ⟨hn, hg⟩ := labsOf_get hl
      obtain ⟨v', l', hl', hv, hrest⟩ := hL.uncons
      have := hrest.unnil
      subst this
      have hargs : args' = #[v'] := by apply Array.toList_inj.1; rw [hl']
      subst hargs
      have hrow : H.get s.h id = some (.row r) := by
        unfold rowD at hr
        split at hr
        · rename_i cs hq; injection hr with hr; rw [hq, hr]
        · cases hr
      have hR := hW.row hrow
      have hid : id < E.n := hW.lt id _ hrow
      have hbl : E.blk id < w.heap.size := hW.blt id hid hR.own
      cases hv with
      | slice _ _ _ _ a cap _ hlc hx ha =>
        rcases ha with ha | ⟨_, rfl, hroom⟩
        · omega
        have cell : ∀ j b, r[o + j]? = some (.string b) → w.cell? ⟨E.blk id, E.off id + o + j, none⟩ = some (.string b) := by
          intro j b hj
          obtain ⟨hi, e⟩ := List.getElem?_eq_some_iff.1 hj
          obtain ⟨v', q1, q2⟩ := hR.cell (o + j) hi
          rw [e] at q2
          rw [flat1_rel rfl q2] at q1
          rw [← q1]; congr 2; omega
        have g0 : ∀ k, k < len → w.cell? ⟨E.blk id, E.off id + o + k * 2, none⟩ = some (.string (L.getD k lz0).1) := fun k hk => cell _ _ (by rw [← List.getElem?_drop]; exact (hg k hk).1)
        have g1 : ∀ k, k < len → w.cell? ⟨E.blk id, E.off id + o + k * 2 + 1, none⟩ = some (.string (L.getD k lz0).2) := fun k hk => by
          have := cell (k * 2 + 1) _ (by rw [← List.getElem?_drop]; exact (hg k hk).2)
          rw [← this]; congr 2
        refine fnok_pure hW (.string _) (enters_of Try.func63 (by kernel_rfl) rfl _ _) ?_
        have ht := text (E.blk id) (E.off id + o) cap len (fun k => (L.getD k lz0).1) (fun k => (L.getD k lz0).2) w (by omega) (fun k hk => by
          have := txk_mono (fun k => (L.getD k lz0).1) (fun k => (L.getD k lz0).2) hk
          have e : (txL L).length = (txk (fun k => (L.getD k lz0).1) (fun k => (L.getD k lz0).2) len).length := by unfold txL; rw [hn]
          omega) g0 g1 hbl
        have e : txL L = txk (fun k => (L.getD k lz0).1) (fun k => (L.getD k lz0).2) len := by unfold txL; rw [hn]
        rw [e]
        exact ht
theorem iCmp_ok {args : List Value} {s : St H} {v : Value} {s' : St H} (h : iCmp args s = some (v, s')) {E : Env} {w : World} {args' : Array Value} (hW : WRel E s w) (hL : LRel E args args'.toList) : FnOk Try.prog 67 args' w (Ans E w v s') := by
  unfold iCmp at h
  split at h
  case h_2 => cases h
  case h_1 a b =>
    injection h with h
    injection h with h1 h2
    subst h1 h2
    have hf := LRel.flat1 (l := [.string a, .string b]) rfl hL
    have hargs : args' = #[.string a, .string b] := by apply Array.toList_inj.1; rw [hf]
    subst hargs
    refine fnok_pure hW (.int _ _) (enters_of Try.func67 (by kernel_rfl) rfl _ _) ((compare a b w).mono ?_)
    rintro e w' ⟨rfl, rfl⟩
    exact ⟨rfl, .refl _ _⟩
theorem iL_ok : IOk Try.prog (iL (H := H)) := by
  intro f i h args s v s' hi E w args' hW hL
  unfold iL at h
  by_cases e : f = 63
  · subst e
    have h : some iText = some i := h
    injection h with h
    subst h
    exact iText_ok hi hW hL
  · rw [beq_no e] at h
    by_cases e2 : f = 67
    · subst e2
      have h : some iCmp = some i := h
      injection h with h
      subst h
      exact iCmp_ok hi hW hL
    · rw [beq_no e2] at h; cases h
end Go.Proofs.Ytmhmbmogodofeaa.T
