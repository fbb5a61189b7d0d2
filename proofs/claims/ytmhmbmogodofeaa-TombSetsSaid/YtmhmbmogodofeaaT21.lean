import Derived.Test.YtmhmbmogodofeaaFw
import Derived.ProofKit
import Derived.Test.YtmhmbmogodofeaaRows
set_option autoImplicit false
set_option linter.unusedVariables false
set_option maxRecDepth 100000
namespace Go.Proofs.Ytmhmbmogodofeaa.S
open Go.FS Go.RowKit
theorem u3 : Try.prog.underlying 3 = some (Go.TypeDesc.int Go.IntKind.i64) := by kernel_rfl
theorem z3 : sizeD Try.prog 3 = some 1 := by kernel_rfl
theorem a3 : aggD Try.prog 3 = some false := by kernel_rfl
theorem zr3 : zeroD Try.prog 3 = some [(Go.Value.int Go.IntKind.i64 0)] := by kernel_rfl
theorem zv3 : zeroV Try.prog 3 = some (Go.Value.int Go.IntKind.i64 0) := by kernel_rfl
theorem u4 : Try.prog.underlying 4 = some Go.TypeDesc.bool := by kernel_rfl
theorem z4 : sizeD Try.prog 4 = some 1 := by kernel_rfl
theorem a4 : aggD Try.prog 4 = some false := by kernel_rfl
theorem zr4 : zeroD Try.prog 4 = some [(Go.Value.bool false)] := by kernel_rfl
theorem zv4 : zeroV Try.prog 4 = some (Go.Value.bool false) := by kernel_rfl
theorem u26 : Try.prog.underlying 26 = some (Go.TypeDesc.int Go.IntKind.i64) := by kernel_rfl
theorem z26 : sizeD Try.prog 26 = some 1 := by kernel_rfl
theorem a26 : aggD Try.prog 26 = some false := by kernel_rfl
theorem zr26 : zeroD Try.prog 26 = some [(Go.Value.int Go.IntKind.i64 0)] := by kernel_rfl
theorem zv26 : zeroV Try.prog 26 = some (Go.Value.int Go.IntKind.i64 0) := by kernel_rfl
theorem u67 : Try.prog.underlying 67 = some (Go.TypeDesc.slice 70) := by kernel_rfl
theorem z67 : sizeD Try.prog 67 = some 1 := by kernel_rfl
theorem a67 : aggD Try.prog 67 = some false := by kernel_rfl
theorem zr67 : zeroD Try.prog 67 = some [(fzV 2 #[])] := by kernel_rfl
theorem zv67 : zeroV Try.prog 67 = some (fzV 2 #[]) := by kernel_rfl
theorem u69 : Try.prog.underlying 69 = some (Go.TypeDesc.struct #[{ name := "From", type := 3, offset := 0, embedded := false, tag := "", pkgPath := "", byteOffset := 0 }, { name := "To", type := 3, offset := 1, embedded := false, tag := "", pkgPath := "", byteOffset := 8 }]) := by kernel_rfl
theorem z69 : sizeD Try.prog 69 = some 2 := by kernel_rfl
theorem a69 : aggD Try.prog 69 = some true := by kernel_rfl
theorem zr69 : zeroD Try.prog 69 = some [(Go.Value.int Go.IntKind.i64 0), (Go.Value.int Go.IntKind.i64 0)] := by kernel_rfl
theorem zv69 : zeroV Try.prog 69 = some (.agg #[(Go.Value.int Go.IntKind.i64 0), (Go.Value.int Go.IntKind.i64 0)]) := by kernel_rfl
theorem u70 : Try.prog.underlying 70 = some (Go.TypeDesc.int Go.IntKind.u64) := by kernel_rfl
theorem z70 : sizeD Try.prog 70 = some 1 := by kernel_rfl
theorem a70 : aggD Try.prog 70 = some false := by kernel_rfl
theorem zr70 : zeroD Try.prog 70 = some [(Go.Value.int Go.IntKind.u64 0)] := by kernel_rfl
theorem zv70 : zeroV Try.prog 70 = some (Go.Value.int Go.IntKind.u64 0) := by kernel_rfl
theorem u80 : Try.prog.underlying 80 = some (Go.TypeDesc.slice 69) := by kernel_rfl
theorem z80 : sizeD Try.prog 80 = some 1 := by kernel_rfl
theorem a80 : aggD Try.prog 80 = some false := by kernel_rfl
theorem zr80 : zeroD Try.prog 80 = some [(fzV 2 #[])] := by kernel_rfl
theorem zv80 : zeroV Try.prog 80 = some (fzV 2 #[]) := by kernel_rfl
theorem u81 : Try.prog.underlying 81 = some (Go.TypeDesc.pointer 158) := by kernel_rfl
theorem z81 : sizeD Try.prog 81 = some 1 := by kernel_rfl
theorem a81 : aggD Try.prog 81 = some false := by kernel_rfl
theorem zr81 : zeroD Try.prog 81 = some [(Go.Value.pointer none)] := by kernel_rfl
theorem zv81 : zeroV Try.prog 81 = some (Go.Value.pointer none) := by kernel_rfl
theorem u156 : Try.prog.underlying 156 = some (Go.TypeDesc.map 70 160) := by kernel_rfl
theorem z156 : sizeD Try.prog 156 = some 1 := by kernel_rfl
theorem a156 : aggD Try.prog 156 = some false := by kernel_rfl
theorem zr156 : zeroD Try.prog 156 = some [(Go.Value.map none)] := by kernel_rfl
theorem zv156 : zeroV Try.prog 156 = some (Go.Value.map none) := by kernel_rfl
theorem u158 : Try.prog.underlying 158 = some (Go.TypeDesc.struct #[{ name := "l", type := 156, offset := 0, embedded := false, tag := "", pkgPath := "tidepole/tomb", byteOffset := 0 }]) := by kernel_rfl
theorem z158 : sizeD Try.prog 158 = some 1 := by kernel_rfl
theorem a158 : aggD Try.prog 158 = some true := by kernel_rfl
theorem zr158 : zeroD Try.prog 158 = some [(Go.Value.map none)] := by kernel_rfl
theorem zv158 : zeroV Try.prog 158 = some (.agg #[(Go.Value.map none)]) := by kernel_rfl
theorem u160 : Try.prog.underlying 160 = some (Go.TypeDesc.slice 163) := by kernel_rfl
theorem z160 : sizeD Try.prog 160 = some 1 := by kernel_rfl
theorem a160 : aggD Try.prog 160 = some false := by kernel_rfl
theorem zr160 : zeroD Try.prog 160 = some [(fzV 2 #[])] := by kernel_rfl
theorem zv160 : zeroV Try.prog 160 = some (fzV 2 #[]) := by kernel_rfl
theorem u163 : Try.prog.underlying 163 = some (Go.TypeDesc.struct #[{ name := "from", type := 3, offset := 0, embedded := false, tag := "", pkgPath := "tidepole/tomb", byteOffset := 0 }, { name := "to", type := 3, offset := 1, embedded := false, tag := "", pkgPath := "tidepole/tomb", byteOffset := 8 }]) := by kernel_rfl
theorem z163 : sizeD Try.prog 163 = some 2 := by kernel_rfl
theorem a163 : aggD Try.prog 163 = some true := by kernel_rfl
theorem zr163 : zeroD Try.prog 163 = some [(Go.Value.int Go.IntKind.i64 0), (Go.Value.int Go.IntKind.i64 0)] := by kernel_rfl
theorem zv163 : zeroV Try.prog 163 = some (.agg #[(Go.Value.int Go.IntKind.i64 0), (Go.Value.int Go.IntKind.i64 0)]) := by kernel_rfl
theorem ixs67 {α : Type} {enc : α → List Value} {m i : Nat} {k : IntKind} {xs : List α} (hl : ∀ x, (enc x).length = 1) (hi : i < xs.length) : indexAddrD Try.prog 67 (sl enc m xs) (.int k (i : Int)) = some (fpV (enc xs[i]).toArray 0) := index_sl u67 z70 hl hi
theorem apn67 {α : Type} {H : HeapI} {enc : α → List Value} {s : St H} {m m2 : Nat} {xs ys : List α} (hl : ∀ x, (enc x).length = 1) (hm : m = 1 ∨ m = 2) (hb : (xs.length + ys.length) * 8 ≤ 140737488355328) : appD Try.prog false s 67 67 (sl enc m xs) (sl enc m2 ys) = some (sl enc (s.n + 3) (xs ++ ys), newD s (.tok (xs.length + ys.length) 1)) :=
  app_new (i := Try.t70) u67 u67 (by kernel_rfl) zr70 rfl (by decide +kernel) hl hm hb (Nat.le_trans (Nat.le_mul_of_pos_right _ (by decide)) hb)
theorem apt67 {α : Type} {H : HeapI} {enc : α → List Value} {s : St H} {id m2 : Nat} {xs ys : List α} (hl : ∀ x, (enc x).length = 1) (ht : H.get s.h id = some (.tok xs.length 1)) (hb : (xs.length + ys.length) * 8 ≤ 140737488355328) : appD Try.prog false s 67 67 (sl enc (id + 3) xs) (sl enc m2 ys) = some (sl enc (id + 3) (xs ++ ys), putD s id (.tok (xs.length + ys.length) 1)) :=
  app_tok (i := Try.t70) u67 u67 (by kernel_rfl) zr70 rfl (by decide +kernel) hl ht hb (Nat.le_trans (Nat.le_mul_of_pos_right _ (by decide)) hb)
theorem fld69_0 (id : Nat) : fieldAddrD Try.prog 69 (.pointer (some ⟨id, 0, none⟩)) 0 = some (.pointer (some ⟨id, 0, none⟩)) := (field_own (n := 1) (fd := { name := "From", type := 3, offset := 0, embedded := false, tag := "", pkgPath := "", byteOffset := 0 }) u69 rfl z3 (by decide)).trans (by rw [Nat.zero_add])
theorem flf69_0 (cs : Array Value) : fieldAddrD Try.prog 69 (fpV cs 0) 0 = some (fpV cs 0) := (field_fp (n := 1) (fd := { name := "From", type := 3, offset := 0, embedded := false, tag := "", pkgPath := "", byteOffset := 0 }) u69 rfl z3 (by decide)).trans (by rw [Nat.zero_add])
theorem fld69_1 (id : Nat) : fieldAddrD Try.prog 69 (.pointer (some ⟨id, 0, none⟩)) 1 = some (.pointer (some ⟨id, 1, none⟩)) := (field_own (n := 1) (fd := { name := "To", type := 3, offset := 1, embedded := false, tag := "", pkgPath := "", byteOffset := 8 }) u69 rfl z3 (by decide)).trans (by rw [Nat.zero_add])
theorem flf69_1 (cs : Array Value) : fieldAddrD Try.prog 69 (fpV cs 0) 1 = some (fpV cs 1) := (field_fp (n := 1) (fd := { name := "To", type := 3, offset := 1, embedded := false, tag := "", pkgPath := "", byteOffset := 8 }) u69 rfl z3 (by decide)).trans (by rw [Nat.zero_add])
theorem ixs80 {α : Type} {enc : α → List Value} {m i : Nat} {k : IntKind} {xs : List α} (hl : ∀ x, (enc x).length = 2) (hi : i < xs.length) : indexAddrD Try.prog 80 (sl enc m xs) (.int k (i : Int)) = some (fpV (enc xs[i]).toArray 0) := index_sl u80 z69 hl hi
theorem apn80 {α : Type} {H : HeapI} {enc : α → List Value} {s : St H} {m m2 : Nat} {xs ys : List α} (hl : ∀ x, (enc x).length = 2) (hm : m = 1 ∨ m = 2) (hb : (xs.length + ys.length) * 16 ≤ 140737488355328) : appD Try.prog false s 80 80 (sl enc m xs) (sl enc m2 ys) = some (sl enc (s.n + 3) (xs ++ ys), newD s (.tok (xs.length + ys.length) 2)) :=
  app_new (i := Try.t69) u80 u80 (by kernel_rfl) zr69 rfl (by decide +kernel) hl hm hb (Nat.le_trans (Nat.le_mul_of_pos_right _ (by decide)) hb)
theorem apt80 {α : Type} {H : HeapI} {enc : α → List Value} {s : St H} {id m2 : Nat} {xs ys : List α} (hl : ∀ x, (enc x).length = 2) (ht : H.get s.h id = some (.tok xs.length 2)) (hb : (xs.length + ys.length) * 16 ≤ 140737488355328) : appD Try.prog false s 80 80 (sl enc (id + 3) xs) (sl enc m2 ys) = some (sl enc (id + 3) (xs ++ ys), putD s id (.tok (xs.length + ys.length) 2)) :=
  app_tok (i := Try.t69) u80 u80 (by kernel_rfl) zr69 rfl (by decide +kernel) hl ht hb (Nat.le_trans (Nat.le_mul_of_pos_right _ (by decide)) hb)
theorem fld158_0 (id : Nat) : fieldAddrD Try.prog 158 (.pointer (some ⟨id, 0, none⟩)) 0 = some (.pointer (some ⟨id, 0, none⟩)) := (field_own (n := 1) (fd := { name := "l", type := 156, offset := 0, embedded := false, tag := "", pkgPath := "tidepole/tomb", byteOffset := 0 }) u158 rfl z156 (by decide)).trans (by rw [Nat.zero_add])
theorem flf158_0 (cs : Array Value) : fieldAddrD Try.prog 158 (fpV cs 0) 0 = some (fpV cs 0) := (field_fp (n := 1) (fd := { name := "l", type := 156, offset := 0, embedded := false, tag := "", pkgPath := "tidepole/tomb", byteOffset := 0 }) u158 rfl z156 (by decide)).trans (by rw [Nat.zero_add])
theorem ixs160 {α : Type} {enc : α → List Value} {m i : Nat} {k : IntKind} {xs : List α} (hl : ∀ x, (enc x).length = 2) (hi : i < xs.length) : indexAddrD Try.prog 160 (sl enc m xs) (.int k (i : Int)) = some (fpV (enc xs[i]).toArray 0) := index_sl u160 z163 hl hi
theorem apn160 {α : Type} {H : HeapI} {enc : α → List Value} {s : St H} {m m2 : Nat} {xs ys : List α} (hl : ∀ x, (enc x).length = 2) (hm : m = 1 ∨ m = 2) (hb : (xs.length + ys.length) * 16 ≤ 140737488355328) : appD Try.prog false s 160 160 (sl enc m xs) (sl enc m2 ys) = some (sl enc (s.n + 3) (xs ++ ys), newD s (.tok (xs.length + ys.length) 2)) :=
  app_new (i := Try.t163) u160 u160 (by kernel_rfl) zr163 rfl (by decide +kernel) hl hm hb (Nat.le_trans (Nat.le_mul_of_pos_right _ (by decide)) hb)
theorem apt160 {α : Type} {H : HeapI} {enc : α → List Value} {s : St H} {id m2 : Nat} {xs ys : List α} (hl : ∀ x, (enc x).length = 2) (ht : H.get s.h id = some (.tok xs.length 2)) (hb : (xs.length + ys.length) * 16 ≤ 140737488355328) : appD Try.prog false s 160 160 (sl enc (id + 3) xs) (sl enc m2 ys) = some (sl enc (id + 3) (xs ++ ys), putD s id (.tok (xs.length + ys.length) 2)) :=
  app_tok (i := Try.t163) u160 u160 (by kernel_rfl) zr163 rfl (by decide +kernel) hl ht hb (Nat.le_trans (Nat.le_mul_of_pos_right _ (by decide)) hb)
theorem fld163_0 (id : Nat) : fieldAddrD Try.prog 163 (.pointer (some ⟨id, 0, none⟩)) 0 = some (.pointer (some ⟨id, 0, none⟩)) := (field_own (n := 1) (fd := { name := "from", type := 3, offset := 0, embedded := false, tag := "", pkgPath := "tidepole/tomb", byteOffset := 0 }) u163 rfl z3 (by decide)).trans (by rw [Nat.zero_add])
theorem flf163_0 (cs : Array Value) : fieldAddrD Try.prog 163 (fpV cs 0) 0 = some (fpV cs 0) := (field_fp (n := 1) (fd := { name := "from", type := 3, offset := 0, embedded := false, tag := "", pkgPath := "tidepole/tomb", byteOffset := 0 }) u163 rfl z3 (by decide)).trans (by rw [Nat.zero_add])
theorem fld163_1 (id : Nat) : fieldAddrD Try.prog 163 (.pointer (some ⟨id, 0, none⟩)) 1 = some (.pointer (some ⟨id, 1, none⟩)) := (field_own (n := 1) (fd := { name := "to", type := 3, offset := 1, embedded := false, tag := "", pkgPath := "tidepole/tomb", byteOffset := 8 }) u163 rfl z3 (by decide)).trans (by rw [Nat.zero_add])
theorem flf163_1 (cs : Array Value) : fieldAddrD Try.prog 163 (fpV cs 0) 1 = some (fpV cs 1) := (field_fp (n := 1) (fd := { name := "to", type := 3, offset := 1, embedded := false, tag := "", pkgPath := "tidepole/tomb", byteOffset := 8 }) u163 rfl z3 (by decide)).trans (by rw [Nat.zero_add])
end Go.Proofs.Ytmhmbmogodofeaa.S
