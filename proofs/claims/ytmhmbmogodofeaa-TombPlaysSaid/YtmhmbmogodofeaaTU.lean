import Derived.Test.YtmhmbmogodofeaaTT
set_option linter.unusedVariables false
set_option maxRecDepth 100000
namespace Go.Proofs.Ytmhmbmogodofeaa.S
open Go.FS Go.RowKit
open Go.Proofs.Try (prog)
theorem u89:prog.underlying 89=some (Go.TypeDesc.slice 140):=by kernel_rfl
theorem u91:prog.underlying 91=some (Go.TypeDesc.slice 171):=by kernel_rfl
theorem z91:sizeD prog 91=some 1:=by kernel_rfl
theorem a91:aggD prog 91=some false:=by kernel_rfl
theorem u93 : prog.underlying 93 = some (Go.TypeDesc.struct #[{ name := "L", type := 91, offset := 0, embedded := false, tag := "", pkgPath := "", byteOffset := 0 }]) := by kernel_rfl
theorem u140 : prog.underlying 140 = some (Go.TypeDesc.struct #[{ name := "T", type := 3, offset := 0, embedded := false, tag := "", pkgPath := "", byteOffset := 0 }, { name := "V", type := 70, offset := 1, embedded := false, tag := "", pkgPath := "", byteOffset := 8 }]) := by kernel_rfl
theorem z140:sizeD prog 140=some 2:=by kernel_rfl
theorem a140:aggD prog 140=some true:=by kernel_rfl
theorem zr140:zeroD prog 140=some [(Go.Value.int Go.IntKind.i64 0),(Go.Value.int Go.IntKind.u64 0)]:=by kernel_rfl
theorem u171 : prog.underlying 171 = some (Go.TypeDesc.struct #[{ name := "ID", type := 70, offset := 0, embedded := false, tag := "", pkgPath := "", byteOffset := 0 }, { name := "L", type := 80, offset := 1, embedded := false, tag := "", pkgPath := "", byteOffset := 8 }]) := by kernel_rfl
theorem z171:sizeD prog 171=some 2:=by kernel_rfl
theorem a171:aggD prog 171=some true:=by kernel_rfl
theorem zr171:zeroD prog 171=some [(Go.Value.int Go.IntKind.u64 0),(fzV 2 #[])]:=by kernel_rfl
theorem ixs89 {α:Type} {enc:α→List Value} {m i:Nat} {k:IntKind} {xs:List α} (hl:∀ x,(enc x).length=2) (hi:i<xs.length):indexAddrD prog 89 (sl enc m xs) (.int k (i:Int))=some (fpV (enc xs[i]).toArray 0):=index_sl u89 z140 hl hi
theorem ixs91 {α:Type} {enc:α→List Value} {m i:Nat} {k:IntKind} {xs:List α} (hl:∀ x,(enc x).length=2) (hi:i<xs.length):indexAddrD prog 91 (sl enc m xs) (.int k (i:Int))=some (fpV (enc xs[i]).toArray 0):=index_sl u91 z171 hl hi
theorem fld93_0 (id : Nat) : fieldAddrD prog 93 (.pointer (some ⟨id, 0, none⟩)) 0 = some (.pointer (some ⟨id, 0, none⟩)) := (field_own (n := 1) (fd := { name := "L", type := 91, offset := 0, embedded := false, tag := "", pkgPath := "", byteOffset := 0 }) u93 rfl z91 (by decide)).trans (by rw [Nat.zero_add])
theorem fld140_0 (id : Nat) : fieldAddrD prog 140 (.pointer (some ⟨id, 0, none⟩)) 0 = some (.pointer (some ⟨id, 0, none⟩)) := (field_own (n := 1) (fd := { name := "T", type := 3, offset := 0, embedded := false, tag := "", pkgPath := "", byteOffset := 0 }) u140 rfl z3 (by decide)).trans (by rw [Nat.zero_add])
theorem flf140_0 (cs : Array Value) : fieldAddrD prog 140 (fpV cs 0) 0 = some (fpV cs 0) := (field_fp (n := 1) (fd := { name := "T", type := 3, offset := 0, embedded := false, tag := "", pkgPath := "", byteOffset := 0 }) u140 rfl z3 (by decide)).trans (by rw [Nat.zero_add])
theorem fld171_0 (id : Nat) : fieldAddrD prog 171 (.pointer (some ⟨id, 0, none⟩)) 0 = some (.pointer (some ⟨id, 0, none⟩)) := (field_own (n := 1) (fd := { name := "ID", type := 70, offset := 0, embedded := false, tag := "", pkgPath := "", byteOffset := 0 }) u171 rfl z70 (by decide)).trans (by rw [Nat.zero_add])
theorem flf171_0 (cs : Array Value) : fieldAddrD prog 171 (fpV cs 0) 0 = some (fpV cs 0) := (field_fp (n := 1) (fd := { name := "ID", type := 70, offset := 0, embedded := false, tag := "", pkgPath := "", byteOffset := 0 }) u171 rfl z70 (by decide)).trans (by rw [Nat.zero_add])
theorem flf171_1 (cs : Array Value) : fieldAddrD prog 171 (fpV cs 0) 1 = some (fpV cs 1) := (field_fp (n := 1) (fd := { name := "L", type := 80, offset := 1, embedded := false, tag := "", pkgPath := "", byteOffset := 8 }) u171 rfl z80 (by decide)).trans (by rw [Nat.zero_add])
end Go.Proofs.Ytmhmbmogodofeaa.S
