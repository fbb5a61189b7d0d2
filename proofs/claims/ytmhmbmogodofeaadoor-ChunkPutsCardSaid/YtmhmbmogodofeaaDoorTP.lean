import Derived.Test.YtmhmbmogodofeaaDoorFw
import Derived.ProofKit
import Derived.Test.YtmhmbmogodofeaaDoorRows
import Derived.Test.YtmhmbmogodofeaaDoorTR
set_option autoImplicit false
set_option linter.unusedVariables false
set_option maxRecDepth 100000
namespace Go.Proofs.YtmhmbmogodofeaaDoor.S
open Go.FS Go.RowKit
theorem u90 : Tryd.prog.underlying 90 = some (Go.TypeDesc.slice 4) := by kernel_rfl
theorem z90 : sizeD Tryd.prog 90 = some 1 := by kernel_rfl
theorem a90 : aggD Tryd.prog 90 = some false := by kernel_rfl
theorem u92 : Tryd.prog.underlying 92 = some (Go.TypeDesc.struct #[{ name := "L", type := 90, offset := 0, embedded := false, tag := "", pkgPath := "", byteOffset := 0 }]) := by kernel_rfl
theorem fld92_0 (id : Nat) : fieldAddrD Tryd.prog 92 (.pointer (some ⟨id, 0, none⟩)) 0 = some (.pointer (some ⟨id, 0, none⟩)) := (field_own (n := 1) (fd := { name := "L", type := 90, offset := 0, embedded := false, tag := "", pkgPath := "", byteOffset := 0 }) u92 rfl z90 (by decide)).trans (by rw [Nat.zero_add])
end Go.Proofs.YtmhmbmogodofeaaDoor.S
