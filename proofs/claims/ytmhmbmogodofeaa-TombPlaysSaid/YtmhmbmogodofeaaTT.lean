import Derived.Test.YtmhmbmogodofeaaTQ
set_option linter.unusedVariables false
set_option maxRecDepth 100000
namespace Go.Proofs.Ytmhmbmogodofeaa.S
open Go.FS Go.RowKit
open Go.Proofs.Try (prog)
theorem u35:prog.underlying 35=some (Go.TypeDesc.slice 5):=by kernel_rfl
theorem u69 : prog.underlying 69 = some (Go.TypeDesc.struct #[{ name := "From", type := 3, offset := 0, embedded := false, tag := "", pkgPath := "", byteOffset := 0 }, { name := "To", type := 3, offset := 1, embedded := false, tag := "", pkgPath := "", byteOffset := 8 }]) := by kernel_rfl
theorem z69:sizeD prog 69=some 2:=by kernel_rfl
theorem a69:aggD prog 69=some true:=by kernel_rfl
theorem zr69:zeroD prog 69=some [(Go.Value.int Go.IntKind.i64 0),(Go.Value.int Go.IntKind.i64 0)]:=by kernel_rfl
theorem u80:prog.underlying 80=some (Go.TypeDesc.slice 69):=by kernel_rfl
theorem z80:sizeD prog 80=some 1:=by kernel_rfl
theorem a80:aggD prog 80=some false:=by kernel_rfl
theorem u81:prog.underlying 81=some (Go.TypeDesc.pointer 158):=by kernel_rfl
theorem a81:aggD prog 81=some false:=by kernel_rfl
theorem u88:prog.underlying 88=some (Go.TypeDesc.slice 95):=by kernel_rfl
theorem u95 : prog.underlying 95 = some (Go.TypeDesc.struct #[{ name := "Do", type := 3, offset := 0, embedded := false, tag := "", pkgPath := "", byteOffset := 0 }, { name := "R", type := 69, offset := 1, embedded := false, tag := "", pkgPath := "", byteOffset := 8 }, { name := "IDs", type := 67, offset := 3, embedded := false, tag := "", pkgPath := "", byteOffset := 24 }, { name := "ID", type := 70, offset := 4, embedded := false, tag := "", pkgPath := "", byteOffset := 48 }]) := by kernel_rfl
theorem z95:sizeD prog 95=some 5:=by kernel_rfl
theorem a95:aggD prog 95=some true:=by kernel_rfl
theorem zr95:zeroD prog 95=some [(Go.Value.int Go.IntKind.i64 0),(Go.Value.int Go.IntKind.i64 0),(Go.Value.int Go.IntKind.i64 0),(fzV 2 #[]),(Go.Value.int Go.IntKind.u64 0)]:=by kernel_rfl
theorem u156:prog.underlying 156=some (Go.TypeDesc.map 70 160):=by kernel_rfl
theorem z156:sizeD prog 156=some 1:=by kernel_rfl
theorem a156:aggD prog 156=some false:=by kernel_rfl
theorem u158 : prog.underlying 158 = some (Go.TypeDesc.struct #[{ name := "l", type := 156, offset := 0, embedded := false, tag := "", pkgPath := "tidepole/tomb", byteOffset := 0 }]) := by kernel_rfl
theorem u160:prog.underlying 160=some (Go.TypeDesc.slice 163):=by kernel_rfl
theorem zv160:zeroV prog 160=some (fzV 2 #[]):=by kernel_rfl
theorem u163 : prog.underlying 163 = some (Go.TypeDesc.struct #[{ name := "from", type := 3, offset := 0, embedded := false, tag := "", pkgPath := "tidepole/tomb", byteOffset := 0 }, { name := "to", type := 3, offset := 1, embedded := false, tag := "", pkgPath := "tidepole/tomb", byteOffset := 8 }]) := by kernel_rfl
theorem z163:sizeD prog 163=some 2:=by kernel_rfl
theorem a163:aggD prog 163=some true:=by kernel_rfl
theorem zr163:zeroD prog 163=some [(Go.Value.int Go.IntKind.i64 0),(Go.Value.int Go.IntKind.i64 0)]:=by kernel_rfl
theorem fld69_0 (id : Nat) : fieldAddrD prog 69 (.pointer (some ⟨id, 0, none⟩)) 0 = some (.pointer (some ⟨id, 0, none⟩)) := (field_own (n := 1) (fd := { name := "From", type := 3, offset := 0, embedded := false, tag := "", pkgPath := "", byteOffset := 0 }) u69 rfl z3 (by decide)).trans (by rw [Nat.zero_add])
theorem flf69_0 (cs : Array Value) : fieldAddrD prog 69 (fpV cs 0) 0 = some (fpV cs 0) := (field_fp (n := 1) (fd := { name := "From", type := 3, offset := 0, embedded := false, tag := "", pkgPath := "", byteOffset := 0 }) u69 rfl z3 (by decide)).trans (by rw [Nat.zero_add])
theorem fld69_1 (id : Nat) : fieldAddrD prog 69 (.pointer (some ⟨id, 0, none⟩)) 1 = some (.pointer (some ⟨id, 1, none⟩)) := (field_own (n := 1) (fd := { name := "To", type := 3, offset := 1, embedded := false, tag := "", pkgPath := "", byteOffset := 8 }) u69 rfl z3 (by decide)).trans (by rw [Nat.zero_add])
theorem flf69_1 (cs : Array Value) : fieldAddrD prog 69 (fpV cs 0) 1 = some (fpV cs 1) := (field_fp (n := 1) (fd := { name := "To", type := 3, offset := 1, embedded := false, tag := "", pkgPath := "", byteOffset := 8 }) u69 rfl z3 (by decide)).trans (by rw [Nat.zero_add])
theorem ixs80 {α:Type} {enc:α→List Value} {m i:Nat} {k:IntKind} {xs:List α} (hl:∀ x,(enc x).length=2) (hi:i<xs.length):indexAddrD prog 80 (sl enc m xs) (.int k (i:Int))=some (fpV (enc xs[i]).toArray 0):=index_sl u80 z69 hl hi
theorem ixs88 {α:Type} {enc:α→List Value} {m i:Nat} {k:IntKind} {xs:List α} (hl:∀ x,(enc x).length=5) (hi:i<xs.length):indexAddrD prog 88 (sl enc m xs) (.int k (i:Int))=some (fpV (enc xs[i]).toArray 0):=index_sl u88 z95 hl hi
theorem fld95_0 (id : Nat) : fieldAddrD prog 95 (.pointer (some ⟨id, 0, none⟩)) 0 = some (.pointer (some ⟨id, 0, none⟩)) := (field_own (n := 1) (fd := { name := "Do", type := 3, offset := 0, embedded := false, tag := "", pkgPath := "", byteOffset := 0 }) u95 rfl z3 (by decide)).trans (by rw [Nat.zero_add])
theorem fld95_1 (id : Nat) : fieldAddrD prog 95 (.pointer (some ⟨id, 0, none⟩)) 1 = some (.pointer (some ⟨id, 1, none⟩)) := (field_own (n := 2) (fd := { name := "R", type := 69, offset := 1, embedded := false, tag := "", pkgPath := "", byteOffset := 8 }) u95 rfl z69 (by decide)).trans (by rw [Nat.zero_add])
theorem fld95_2 (id : Nat) : fieldAddrD prog 95 (.pointer (some ⟨id, 0, none⟩)) 2 = some (.pointer (some ⟨id, 3, none⟩)) := (field_own (n := 1) (fd := { name := "IDs", type := 67, offset := 3, embedded := false, tag := "", pkgPath := "", byteOffset := 24 }) u95 rfl z67 (by decide)).trans (by rw [Nat.zero_add])
theorem fld95_3 (id : Nat) : fieldAddrD prog 95 (.pointer (some ⟨id, 0, none⟩)) 3 = some (.pointer (some ⟨id, 4, none⟩)) := (field_own (n := 1) (fd := { name := "ID", type := 70, offset := 4, embedded := false, tag := "", pkgPath := "", byteOffset := 48 }) u95 rfl z70 (by decide)).trans (by rw [Nat.zero_add])
theorem fld158_0 (id : Nat) : fieldAddrD prog 158 (.pointer (some ⟨id, 0, none⟩)) 0 = some (.pointer (some ⟨id, 0, none⟩)) := (field_own (n := 1) (fd := { name := "l", type := 156, offset := 0, embedded := false, tag := "", pkgPath := "tidepole/tomb", byteOffset := 0 }) u158 rfl z156 (by decide)).trans (by rw [Nat.zero_add])
theorem ixs160 {α:Type} {enc:α→List Value} {m i:Nat} {k:IntKind} {xs:List α} (hl:∀ x,(enc x).length=2) (hi:i<xs.length):indexAddrD prog 160 (sl enc m xs) (.int k (i:Int))=some (fpV (enc xs[i]).toArray 0):=index_sl u160 z163 hl hi
theorem fld163_0 (id : Nat) : fieldAddrD prog 163 (.pointer (some ⟨id, 0, none⟩)) 0 = some (.pointer (some ⟨id, 0, none⟩)) := (field_own (n := 1) (fd := { name := "from", type := 3, offset := 0, embedded := false, tag := "", pkgPath := "tidepole/tomb", byteOffset := 0 }) u163 rfl z3 (by decide)).trans (by rw [Nat.zero_add])
theorem fld163_1 (id : Nat) : fieldAddrD prog 163 (.pointer (some ⟨id, 0, none⟩)) 1 = some (.pointer (some ⟨id, 1, none⟩)) := (field_own (n := 1) (fd := { name := "to", type := 3, offset := 1, embedded := false, tag := "", pkgPath := "tidepole/tomb", byteOffset := 8 }) u163 rfl z3 (by decide)).trans (by rw [Nat.zero_add])
end Go.Proofs.Ytmhmbmogodofeaa.S
