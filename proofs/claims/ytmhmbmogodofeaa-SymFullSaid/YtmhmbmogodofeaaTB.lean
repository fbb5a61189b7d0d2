import Derived.Test.YtmhmbmogodofeaaFw
import Derived.ProofKit
import Derived.Test.YtmhmbmogodofeaaRows
set_option autoImplicit false
set_option linter.unusedVariables false
set_option maxRecDepth 100000
namespace Go.Proofs.Ytmhmbmogodofeaa.S
open Go.FS Go.RowKit
theorem u3 : Try.prog.underlying 3 = some (Go.TypeDesc.int Go.IntKind.i64) := by kernel_rfl
theorem z3 : sizeD Try.prog 3 = some 1 := by kernel_rfl
theorem a3 : aggD Try.prog 3 = some false := by kernel_rfl
theorem zr3 : zeroD Try.prog 3 = some [(Go.Value.int Go.IntKind.i64 0)] := by kernel_rfl
theorem zv3 : zeroV Try.prog 3 = some (Go.Value.int Go.IntKind.i64 0) := by kernel_rfl
theorem u4 : Try.prog.underlying 4 = some Go.TypeDesc.bool := by kernel_rfl
theorem z4 : sizeD Try.prog 4 = some 1 := by kernel_rfl
theorem a4 : aggD Try.prog 4 = some false := by kernel_rfl
theorem zr4 : zeroD Try.prog 4 = some [(Go.Value.bool false)] := by kernel_rfl
theorem zv4 : zeroV Try.prog 4 = some (Go.Value.bool false) := by kernel_rfl
theorem u5 : Try.prog.underlying 5 = some (Go.TypeDesc.int Go.IntKind.u8) := by kernel_rfl
theorem z5 : sizeD Try.prog 5 = some 1 := by kernel_rfl
theorem a5 : aggD Try.prog 5 = some false := by kernel_rfl
theorem zr5 : zeroD Try.prog 5 = some [(Go.Value.int Go.IntKind.u8 0)] := by kernel_rfl
theorem zv5 : zeroV Try.prog 5 = some (Go.Value.int Go.IntKind.u8 0) := by kernel_rfl
theorem u9 : Try.prog.underlying 9 = some Go.TypeDesc.string := by kernel_rfl
theorem z9 : sizeD Try.prog 9 = some 1 := by kernel_rfl
theorem a9 : aggD Try.prog 9 = some false := by kernel_rfl
theorem zr9 : zeroD Try.prog 9 = some [(Go.Value.string { data := #[] })] := by kernel_rfl
theorem zv9 : zeroV Try.prog 9 = some (Go.Value.string { data := #[] }) := by kernel_rfl
theorem u26 : Try.prog.underlying 26 = some (Go.TypeDesc.int Go.IntKind.i64) := by kernel_rfl
theorem z26 : sizeD Try.prog 26 = some 1 := by kernel_rfl
theorem a26 : aggD Try.prog 26 = some false := by kernel_rfl
theorem zr26 : zeroD Try.prog 26 = some [(Go.Value.int Go.IntKind.i64 0)] := by kernel_rfl
theorem zv26 : zeroV Try.prog 26 = some (Go.Value.int Go.IntKind.i64 0) := by kernel_rfl
theorem u35 : Try.prog.underlying 35 = some (Go.TypeDesc.slice 5) := by kernel_rfl
theorem z35 : sizeD Try.prog 35 = some 1 := by kernel_rfl
theorem a35 : aggD Try.prog 35 = some false := by kernel_rfl
theorem zr35 : zeroD Try.prog 35 = some [(fzV 2 #[])] := by kernel_rfl
theorem zv35 : zeroV Try.prog 35 = some (fzV 2 #[]) := by kernel_rfl
theorem u45 : Try.prog.underlying 45 = some (Go.TypeDesc.slice 9) := by kernel_rfl
theorem z45 : sizeD Try.prog 45 = some 1 := by kernel_rfl
theorem a45 : aggD Try.prog 45 = some false := by kernel_rfl
theorem zr45 : zeroD Try.prog 45 = some [(fzV 2 #[])] := by kernel_rfl
theorem zv45 : zeroV Try.prog 45 = some (fzV 2 #[]) := by kernel_rfl
theorem u48 : Try.prog.underlying 48 = some (Go.TypeDesc.struct #[{ name := "l", type := 45, offset := 0, embedded := false, tag := "", pkgPath := "tidepole/sym", byteOffset := 0 }]) := by kernel_rfl
theorem z48 : sizeD Try.prog 48 = some 1 := by kernel_rfl
theorem a48 : aggD Try.prog 48 = some true := by kernel_rfl
theorem zr48 : zeroD Try.prog 48 = some [(fzV 2 #[])] := by kernel_rfl
theorem zv48 : zeroV Try.prog 48 = some (.agg #[(fzV 2 #[])]) := by kernel_rfl
theorem u49 : Try.prog.underlying 49 = some (Go.TypeDesc.struct #[{ name := "list", type := 48, offset := 0, embedded := true, tag := "", pkgPath := "tidepole/sym", byteOffset := 0 }]) := by kernel_rfl
theorem z49 : sizeD Try.prog 49 = some 1 := by kernel_rfl
theorem a49 : aggD Try.prog 49 = some true := by kernel_rfl
theorem zr49 : zeroD Try.prog 49 = some [(fzV 2 #[])] := by kernel_rfl
theorem zv49 : zeroV Try.prog 49 = some (.agg #[(fzV 2 #[])]) := by kernel_rfl
theorem u50 : Try.prog.underlying 50 = some (Go.TypeDesc.struct #[{ name := "list", type := 48, offset := 0, embedded := true, tag := "", pkgPath := "tidepole/sym", byteOffset := 0 }]) := by kernel_rfl
theorem z50 : sizeD Try.prog 50 = some 1 := by kernel_rfl
theorem a50 : aggD Try.prog 50 = some true := by kernel_rfl
theorem zr50 : zeroD Try.prog 50 = some [(fzV 2 #[])] := by kernel_rfl
theorem zv50 : zeroV Try.prog 50 = some (.agg #[(fzV 2 #[])]) := by kernel_rfl
theorem u70 : Try.prog.underlying 70 = some (Go.TypeDesc.int Go.IntKind.u64) := by kernel_rfl
theorem z70 : sizeD Try.prog 70 = some 1 := by kernel_rfl
theorem a70 : aggD Try.prog 70 = some false := by kernel_rfl
theorem zr70 : zeroD Try.prog 70 = some [(Go.Value.int Go.IntKind.u64 0)] := by kernel_rfl
theorem zv70 : zeroV Try.prog 70 = some (Go.Value.int Go.IntKind.u64 0) := by kernel_rfl
theorem u201 : Try.prog.underlying 201 = some (Go.TypeDesc.int Go.IntKind.u64) := by kernel_rfl
theorem z201 : sizeD Try.prog 201 = some 1 := by kernel_rfl
theorem a201 : aggD Try.prog 201 = some false := by kernel_rfl
theorem zr201 : zeroD Try.prog 201 = some [(Go.Value.int Go.IntKind.u64 0)] := by kernel_rfl
theorem zv201 : zeroV Try.prog 201 = some (Go.Value.int Go.IntKind.u64 0) := by kernel_rfl
theorem ixs35 {α : Type} {enc : α → List Value} {m i : Nat} {k : IntKind} {xs : List α} (hl : ∀ x, (enc x).length = 1) (hi : i < xs.length) : indexAddrD Try.prog 35 (sl enc m xs) (.int k (i : Int)) = some (fpV (enc xs[i]).toArray 0) := index_sl u35 z5 hl hi
theorem apn35 {α : Type} {H : HeapI} {enc : α → List Value} {s : St H} {m m2 : Nat} {xs ys : List α} (hl : ∀ x, (enc x).length = 1) (hm : m = 1 ∨ m = 2) (hb : (xs.length + ys.length) * 1 ≤ 140737488355328) : appD Try.prog false s 35 35 (sl enc m xs) (sl enc m2 ys) = some (sl enc (s.n + 3) (xs ++ ys), newD s (.tok (xs.length + ys.length) 1)) :=
  app_new (i := Try.t5) u35 u35 (by kernel_rfl) zr5 rfl (by decide +kernel) hl hm hb (Nat.le_trans (Nat.le_mul_of_pos_right _ (by decide)) hb)
theorem apt35 {α : Type} {H : HeapI} {enc : α → List Value} {s : St H} {id m2 : Nat} {xs ys : List α} (hl : ∀ x, (enc x).length = 1) (ht : H.get s.h id = some (.tok xs.length 1)) (hb : (xs.length + ys.length) * 1 ≤ 140737488355328) : appD Try.prog false s 35 35 (sl enc (id + 3) xs) (sl enc m2 ys) = some (sl enc (id + 3) (xs ++ ys), putD s id (.tok (xs.length + ys.length) 1)) :=
  app_tok (i := Try.t5) u35 u35 (by kernel_rfl) zr5 rfl (by decide +kernel) hl ht hb (Nat.le_trans (Nat.le_mul_of_pos_right _ (by decide)) hb)
theorem ixs45 {α : Type} {enc : α → List Value} {m i : Nat} {k : IntKind} {xs : List α} (hl : ∀ x, (enc x).length = 1) (hi : i < xs.length) : indexAddrD Try.prog 45 (sl enc m xs) (.int k (i : Int)) = some (fpV (enc xs[i]).toArray 0) := index_sl u45 z9 hl hi
theorem apn45 {α : Type} {H : HeapI} {enc : α → List Value} {s : St H} {m m2 : Nat} {xs ys : List α} (hl : ∀ x, (enc x).length = 1) (hm : m = 1 ∨ m = 2) (hb : (xs.length + ys.length) * 16 ≤ 140737488355328) : appD Try.prog false s 45 45 (sl enc m xs) (sl enc m2 ys) = some (sl enc (s.n + 3) (xs ++ ys), newD s (.tok (xs.length + ys.length) 1)) :=
  app_new (i := Try.t9) u45 u45 (by kernel_rfl) zr9 rfl (by decide +kernel) hl hm hb (Nat.le_trans (Nat.le_mul_of_pos_right _ (by decide)) hb)
theorem apt45 {α : Type} {H : HeapI} {enc : α → List Value} {s : St H} {id m2 : Nat} {xs ys : List α} (hl : ∀ x, (enc x).length = 1) (ht : H.get s.h id = some (.tok xs.length 1)) (hb : (xs.length + ys.length) * 16 ≤ 140737488355328) : appD Try.prog false s 45 45 (sl enc (id + 3) xs) (sl enc m2 ys) = some (sl enc (id + 3) (xs ++ ys), putD s id (.tok (xs.length + ys.length) 1)) :=
  app_tok (i := Try.t9) u45 u45 (by kernel_rfl) zr9 rfl (by decide +kernel) hl ht hb (Nat.le_trans (Nat.le_mul_of_pos_right _ (by decide)) hb)
theorem fld48_0 (id : Nat) : fieldAddrD Try.prog 48 (.pointer (some ⟨id, 0, none⟩)) 0 = some (.pointer (some ⟨id, 0, none⟩)) := (field_own (n := 1) (fd := { name := "l", type := 45, offset := 0, embedded := false, tag := "", pkgPath := "tidepole/sym", byteOffset := 0 }) u48 rfl z45 (by decide)).trans (by rw [Nat.zero_add])
theorem flf48_0 (cs : Array Value) : fieldAddrD Try.prog 48 (fpV cs 0) 0 = some (fpV cs 0) := (field_fp (n := 1) (fd := { name := "l", type := 45, offset := 0, embedded := false, tag := "", pkgPath := "tidepole/sym", byteOffset := 0 }) u48 rfl z45 (by decide)).trans (by rw [Nat.zero_add])
theorem fld49_0 (id : Nat) : fieldAddrD Try.prog 49 (.pointer (some ⟨id, 0, none⟩)) 0 = some (.pointer (some ⟨id, 0, none⟩)) := (field_own (n := 1) (fd := { name := "list", type := 48, offset := 0, embedded := true, tag := "", pkgPath := "tidepole/sym", byteOffset := 0 }) u49 rfl z48 (by decide)).trans (by rw [Nat.zero_add])
theorem flf49_0 (cs : Array Value) : fieldAddrD Try.prog 49 (fpV cs 0) 0 = some (fpV cs 0) := (field_fp (n := 1) (fd := { name := "list", type := 48, offset := 0, embedded := true, tag := "", pkgPath := "tidepole/sym", byteOffset := 0 }) u49 rfl z48 (by decide)).trans (by rw [Nat.zero_add])
theorem fld50_0 (id : Nat) : fieldAddrD Try.prog 50 (.pointer (some ⟨id, 0, none⟩)) 0 = some (.pointer (some ⟨id, 0, none⟩)) := (field_own (n := 1) (fd := { name := "list", type := 48, offset := 0, embedded := true, tag := "", pkgPath := "tidepole/sym", byteOffset := 0 }) u50 rfl z48 (by decide)).trans (by rw [Nat.zero_add])
theorem flf50_0 (cs : Array Value) : fieldAddrD Try.prog 50 (fpV cs 0) 0 = some (fpV cs 0) := (field_fp (n := 1) (fd := { name := "list", type := 48, offset := 0, embedded := true, tag := "", pkgPath := "tidepole/sym", byteOffset := 0 }) u50 rfl z48 (by decide)).trans (by rw [Nat.zero_add])
end Go.Proofs.Ytmhmbmogodofeaa.S
