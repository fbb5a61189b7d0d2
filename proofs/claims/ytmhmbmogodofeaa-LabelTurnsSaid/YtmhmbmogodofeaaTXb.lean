/- label.Text, at the machine: a set's text. -/
import Derived.Test.YtmhmbmogodofeaaTXa
set_option autoImplicit false
set_option linter.unusedVariables false
namespace Go.Proofs.Ytmhmbmogodofeaa.T
open Go.Shelf Go.RowKit
def piece (i : Nat) (a b : ByteArray) : List UInt8 := (if i = 0 then [] else [44]) ++ (a.data.toList ++ ([61] ++ b.data.toList))
def txk (nm vl : Nat → ByteArray) : Nat → List UInt8
  | 0 => []
  | k + 1 => txk nm vl k ++ piece k (nm k) (vl k)
set_option maxHeartbeats 4000000 in
set_option maxRecDepth 1000000 in
theorem text (b o cap n : Nat) (nm vl : Nat → ByteArray) (w : World) (hlen : n < 9223372036854775807) (hsm : ∀ k, k ≤ n → (txk nm vl k).length + 1 ≤ 140737488355328)
    (hc0 : ∀ k, k < n → w.cell? ⟨b, o + k * 2, none⟩ = some (.string (nm k)))
    (hc1 : ∀ k, k < n → w.cell? ⟨b, o + k * 2 + 1, none⟩ = some (.string (vl k))) (hb : b < w.heap.size) :
    Calls Try.prog 63 #[.slice (some ⟨b, o, none⟩) n cap] w fun e w' => e = .returned (.string ⟨(txk nm vl n).toArray⟩) ∧ Below w.heap.size w w' := by
  go_enter Try.func63, Try.ntmps63
  go_wp2
  go_loopw [8] (fun i wr => ∃ k : Nat, k ≤ n ∧ i = .int .i64 k ∧ Lib.IsBuilderF 183 5 w.heap.size w.heap.size (Lib.byteCells (txk nm vl k)) wr ∧ Below w.heap.size w wr)
    (fun i _ => n - (intOf i).toNat)
  case atStart =>
    refine ⟨0, Nat.zero_le _, rfl, (Lib.IsBuilderF.of (Lib.fresh_isBuilder 183 5 w)), (Below.refl _ w).alloc (Nat.le_refl _) _⟩
  case round =>
    obtain ⟨k, hk, rfl, hI, hbw⟩ := hrel
    by_cases hp : k < n
    · have g0 := hbw.cell (p := ⟨b, o + k * 2, none⟩) hb
      have g1 := hbw.cell (p := ⟨b, o + k * 2 + 1, none⟩) hb
      rw [hc0 k hp] at g0
      rw [hc1 k hp] at g1
      clear hc0 hc1
      have hl2 := hsm (k + 1) hp
      have htx : txk nm vl (k + 1) = txk nm vl k ++ piece k (nm k) (vl k) := rfl
      rw [htx] at hl2
      generalize nm k = a at g0 hl2 htx
      generalize vl k = c at g1 hl2 htx
      have hI1 := hI.alloc (.cells #[.string a, .string c] 106)
      have hb1 := hbw.alloc hbw.size (.cells #[.string a, .string c] 106)
      have hsz1 := hb1.size
      have hbl : (Lib.byteCells (txk nm vl k)).length = (txk nm vl k).length := Lib.byteCells_length _
      have hz : (a ++ ⟨#[61]⟩ ++ c).size = a.data.toList.length + 1 + c.data.toList.length := by simp [ByteArray.size_append]; rfl
      have hdat : (a ++ ⟨#[61]⟩ ++ c).data.toList = a.data.toList ++ ([61] ++ c.data.toList) := by simp [ByteArray.append_eq]
      have hlp : (piece k a c).length = (if k = 0 then 0 else 1) + (a.data.toList.length + 1 + c.data.toList.length) := by
        unfold piece
        split <;> simp <;> omega
      rw [List.length_append, hlp] at hl2
      have has : a.size ≤ a.data.toList.length := Nat.le_refl _
      have hcs : c.size ≤ c.data.toList.length := Nat.le_refl _
      by_cases h0 : k = 0
      · have hd : decide (0 < k) = false := by rw [h0]; rfl
        rw [if_pos h0] at hl2
        have hpc : piece k a c = a.data.toList ++ ([61] ++ c.data.toList) := by unfold piece; rw [if_pos h0]; rfl
        have hk0 : ¬ 0 < k := by omega
        clear h0
        rw [hpc] at htx
        go_wp2_with (go_at_call 114; refine (writeString w.heap.size w.heap.size _ _ _ hI1 (by rw [hbl, hz]; omega) hsz1).mono ?_)
        rintro e W2 ⟨rfl, hI2, hb2, hk2⟩
        go_wp2
        go_roundw
        case rel =>
          refine ⟨k + 1, by omega, by go_num, ?_, hb1.trans hb2⟩
          rw [htx, Lib.byteCells_append]
          rw [Lib.strCells_eq, hdat] at hI2
          exact .inr hI2
        case measure => simp [intOf]; omega
      · have hd : decide (0 < k) = true := decide_eq_true (by omega)
        rw [if_neg h0] at hl2
        have hpc : piece k a c = [44] ++ (a.data.toList ++ ([61] ++ c.data.toList)) := by unfold piece; rw [if_neg h0]
        clear h0
        rw [hpc] at htx
        go_wp2_with (go_at_call 114; refine (writeString w.heap.size w.heap.size _ ⟨#[44]⟩ _ hI1 (by rw [hbl]; show _ + 1 ≤ _; omega) hsz1).mono ?_)
        rintro e W2 ⟨rfl, hI2, hb2, hk2⟩
        have hbk : W2.heap[wr.heap.size]? = some (.cells #[.string a, .string c] 106 (0, 0)) := hk2 _ _ (heap_alloc_new wr _) (fun h => by injection h with h; have := hI.elim (·.lt) (·.lt); omega) (fun c fz h => by cases h)
        have q0 : W2.cell? ⟨wr.heap.size, 0, none⟩ = some (.string a) := by rw [Lib.cell_of_heap hbk]; rfl
        have q1 : W2.cell? ⟨wr.heap.size, 1, none⟩ = some (.string c) := by rw [Lib.cell_of_heap hbk]; rfl
        have hsz2 := (hb1.trans hb2).size
        have hbl2 : (Lib.byteCells (txk nm vl k) ++ Lib.strCells ⟨#[44]⟩).length = (txk nm vl k).length + 1 := by rw [List.length_append, hbl]; rfl
        go_wp2_with (go_at_call 114; refine (writeString w.heap.size w.heap.size _ _ _ (.inr hI2) (by rw [hbl2, hz]; omega) hsz2).mono ?_)
        rintro e W3 ⟨rfl, hI3, hb3, hk3⟩
        go_wp2
        go_roundw
        case rel =>
          refine ⟨k + 1, by omega, by go_num, ?_, (hb1.trans hb2).trans hb3⟩
          rw [htx, Lib.byteCells_append]
          rw [Lib.strCells_eq, Lib.strCells_eq, hdat] at hI3
          rw [Lib.byteCells_append, ← List.append_assoc]
          exact .inr hI3
        case measure => simp [intOf]; omega
    · have hkn : k = n := by omega
      subst hkn
      go_wp2_with (go_at_call 115; refine (builder_string w.heap.size w.heap.size _ _ hI hbw.size).mono ?_; rintro e W2 ⟨rfl, _, hb2, _⟩)
      go_wp2
      go_ret
      exact ⟨rfl, hbw.trans hb2⟩
end Go.Proofs.Ytmhmbmogodofeaa.T
