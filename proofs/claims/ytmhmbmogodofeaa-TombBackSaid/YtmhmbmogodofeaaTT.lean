import Derived.Test.YtmhmbmogodofeaaTQ
set_option autoImplicit false
set_option linter.unusedVariables false
set_option maxRecDepth 100000
namespace Go.Proofs.Ytmhmbmogodofeaa.S
open Go.FS Go.RowKit
theorem z26:sizeD Try.prog 26=some 1:=by kernel_rfl
theorem a26:aggD Try.prog 26=some false:=by kernel_rfl
theorem u35:Try.prog.underlying 35=some (Go.TypeDesc.slice 5):=by kernel_rfl
theorem z35:sizeD Try.prog 35=some 1:=by kernel_rfl
theorem a35:aggD Try.prog 35=some false:=by kernel_rfl
theorem u69 : Try.prog.underlying 69 = some (Go.TypeDesc.struct #[{ name := "From", type := 3, offset := 0, embedded := false, tag := "", pkgPath := "", byteOffset := 0 }, { name := "To", type := 3, offset := 1, embedded := false, tag := "", pkgPath := "", byteOffset := 8 }]) := by kernel_rfl
theorem z69:sizeD Try.prog 69=some 2:=by kernel_rfl
theorem a69:aggD Try.prog 69=some true:=by kernel_rfl
theorem u81:Try.prog.underlying 81=some (Go.TypeDesc.pointer 158):=by kernel_rfl
theorem u88:Try.prog.underlying 88=some (Go.TypeDesc.slice 95):=by kernel_rfl
theorem u95 : Try.prog.underlying 95 = some (Go.TypeDesc.struct #[{ name := "Do", type := 3, offset := 0, embedded := false, tag := "", pkgPath := "", byteOffset := 0 }, { name := "R", type := 69, offset := 1, embedded := false, tag := "", pkgPath := "", byteOffset := 8 }, { name := "IDs", type := 67, offset := 3, embedded := false, tag := "", pkgPath := "", byteOffset := 24 }, { name := "ID", type := 70, offset := 4, embedded := false, tag := "", pkgPath := "", byteOffset := 48 }]) := by kernel_rfl
theorem z95:sizeD Try.prog 95=some 5:=by kernel_rfl
theorem u156:Try.prog.underlying 156=some (Go.TypeDesc.map 70 160):=by kernel_rfl
theorem z156:sizeD Try.prog 156=some 1:=by kernel_rfl
theorem a156:aggD Try.prog 156=some false:=by kernel_rfl
theorem u158 : Try.prog.underlying 158 = some (Go.TypeDesc.struct #[{ name := "l", type := 156, offset := 0, embedded := false, tag := "", pkgPath := "tidepole/tomb", byteOffset := 0 }]) := by kernel_rfl
theorem u160:Try.prog.underlying 160=some (Go.TypeDesc.slice 163):=by kernel_rfl
theorem zv160:zeroV Try.prog 160=some (fzV 2 #[]):=by kernel_rfl
theorem u163 : Try.prog.underlying 163 = some (Go.TypeDesc.struct #[{ name := "from", type := 3, offset := 0, embedded := false, tag := "", pkgPath := "tidepole/tomb", byteOffset := 0 }, { name := "to", type := 3, offset := 1, embedded := false, tag := "", pkgPath := "tidepole/tomb", byteOffset := 8 }]) := by kernel_rfl
theorem z163:sizeD Try.prog 163=some 2:=by kernel_rfl
theorem a163:aggD Try.prog 163=some true:=by kernel_rfl
theorem zr163:zeroD Try.prog 163=some [(Go.Value.int Go.IntKind.i64 0),(Go.Value.int Go.IntKind.i64 0)]:=by kernel_rfl
theorem u176 : Try.prog.underlying 176 = some (Go.TypeDesc.struct #[{ name := "b", type := 35, offset := 0, embedded := false, tag := "", pkgPath := "tidepole/tomb", byteOffset := 0 }, { name := "at", type := 3, offset := 1, embedded := false, tag := "", pkgPath := "tidepole/tomb", byteOffset := 24 }, { name := "e", type := 26, offset := 2, embedded := false, tag := "", pkgPath := "tidepole/tomb", byteOffset := 32 }]) := by kernel_rfl
theorem u224:Try.prog.underlying 224=some (Go.TypeDesc.array 2 70):=by kernel_rfl
theorem zr224:zeroD Try.prog 224=some [(Go.Value.int Go.IntKind.u64 0),(Go.Value.int Go.IntKind.u64 0)]:=by kernel_rfl
theorem ixs35 {α:Type} {enc:α→List Value} {m i:Nat} {k:IntKind} {xs:List α} (hl:∀ x,(enc x).length=1) (hi:i<xs.length):indexAddrD Try.prog 35 (sl enc m xs) (.int k (i:Int))=some (fpV (enc xs[i]).toArray 0):=index_sl u35 z5 hl hi
theorem fld69_0 (id : Nat) : fieldAddrD Try.prog 69 (.pointer (some ⟨id, 0, none⟩)) 0 = some (.pointer (some ⟨id, 0, none⟩)) := (field_own (n := 1) (fd := { name := "From", type := 3, offset := 0, embedded := false, tag := "", pkgPath := "", byteOffset := 0 }) u69 rfl z3 (by decide)).trans (by rw [Nat.zero_add])
theorem fld69_1 (id : Nat) : fieldAddrD Try.prog 69 (.pointer (some ⟨id, 0, none⟩)) 1 = some (.pointer (some ⟨id, 1, none⟩)) := (field_own (n := 1) (fd := { name := "To", type := 3, offset := 1, embedded := false, tag := "", pkgPath := "", byteOffset := 8 }) u69 rfl z3 (by decide)).trans (by rw [Nat.zero_add])
theorem ixs88 {α:Type} {enc:α→List Value} {m i:Nat} {k:IntKind} {xs:List α} (hl:∀ x,(enc x).length=5) (hi:i<xs.length):indexAddrD Try.prog 88 (sl enc m xs) (.int k (i:Int))=some (fpV (enc xs[i]).toArray 0):=index_sl u88 z95 hl hi
theorem flf95_1 (cs : Array Value) : fieldAddrD Try.prog 95 (fpV cs 0) 1 = some (fpV cs 1) := (field_fp (n := 2) (fd := { name := "R", type := 69, offset := 1, embedded := false, tag := "", pkgPath := "", byteOffset := 8 }) u95 rfl z69 (by decide)).trans (by rw [Nat.zero_add])
theorem flf95_2 (cs : Array Value) : fieldAddrD Try.prog 95 (fpV cs 0) 2 = some (fpV cs 3) := (field_fp (n := 1) (fd := { name := "IDs", type := 67, offset := 3, embedded := false, tag := "", pkgPath := "", byteOffset := 24 }) u95 rfl z67 (by decide)).trans (by rw [Nat.zero_add])
theorem fld158_0 (id : Nat) : fieldAddrD Try.prog 158 (.pointer (some ⟨id, 0, none⟩)) 0 = some (.pointer (some ⟨id, 0, none⟩)) := (field_own (n := 1) (fd := { name := "l", type := 156, offset := 0, embedded := false, tag := "", pkgPath := "tidepole/tomb", byteOffset := 0 }) u158 rfl z156 (by decide)).trans (by rw [Nat.zero_add])
theorem ixs160 {α:Type} {enc:α→List Value} {m i:Nat} {k:IntKind} {xs:List α} (hl:∀ x,(enc x).length=2) (hi:i<xs.length):indexAddrD Try.prog 160 (sl enc m xs) (.int k (i:Int))=some (fpV (enc xs[i]).toArray 0):=index_sl u160 z163 hl hi
theorem fld163_0 (id : Nat) : fieldAddrD Try.prog 163 (.pointer (some ⟨id, 0, none⟩)) 0 = some (.pointer (some ⟨id, 0, none⟩)) := (field_own (n := 1) (fd := { name := "from", type := 3, offset := 0, embedded := false, tag := "", pkgPath := "tidepole/tomb", byteOffset := 0 }) u163 rfl z3 (by decide)).trans (by rw [Nat.zero_add])
theorem fld163_1 (id : Nat) : fieldAddrD Try.prog 163 (.pointer (some ⟨id, 0, none⟩)) 1 = some (.pointer (some ⟨id, 1, none⟩)) := (field_own (n := 1) (fd := { name := "to", type := 3, offset := 1, embedded := false, tag := "", pkgPath := "tidepole/tomb", byteOffset := 8 }) u163 rfl z3 (by decide)).trans (by rw [Nat.zero_add])
theorem fld176_0 (id : Nat) : fieldAddrD Try.prog 176 (.pointer (some ⟨id, 0, none⟩)) 0 = some (.pointer (some ⟨id, 0, none⟩)) := (field_own (n := 1) (fd := { name := "b", type := 35, offset := 0, embedded := false, tag := "", pkgPath := "tidepole/tomb", byteOffset := 0 }) u176 rfl z35 (by decide)).trans (by rw [Nat.zero_add])
theorem fld176_1 (id : Nat) : fieldAddrD Try.prog 176 (.pointer (some ⟨id, 0, none⟩)) 1 = some (.pointer (some ⟨id, 1, none⟩)) := (field_own (n := 1) (fd := { name := "at", type := 3, offset := 1, embedded := false, tag := "", pkgPath := "tidepole/tomb", byteOffset := 24 }) u176 rfl z3 (by decide)).trans (by rw [Nat.zero_add])
theorem fld176_2 (id : Nat) : fieldAddrD Try.prog 176 (.pointer (some ⟨id, 0, none⟩)) 2 = some (.pointer (some ⟨id, 2, none⟩)) := (field_own (n := 1) (fd := { name := "e", type := 26, offset := 2, embedded := false, tag := "", pkgPath := "tidepole/tomb", byteOffset := 32 }) u176 rfl z26 (by decide)).trans (by rw [Nat.zero_add])
end Go.Proofs.Ytmhmbmogodofeaa.S
