import Derived.Test.YtmhmbmogodofeaaDoorFw
import Derived.ProofKit
import Derived.Test.YtmhmbmogodofeaaDoorRows
import Derived.Test.YtmhmbmogodofeaaDoorTD
set_option autoImplicit false
set_option linter.unusedVariables false
set_option maxRecDepth 100000
namespace Go.Proofs.YtmhmbmogodofeaaDoor.S
open Go.FS Go.RowKit
theorem u79 : Tryd.prog.underlying 79 = some (Go.TypeDesc.struct #[{ name := "N", type := 3, offset := 0, embedded := false, tag := "", pkgPath := "", byteOffset := 0 }, { name := "Last", type := 3, offset := 1, embedded := false, tag := "", pkgPath := "", byteOffset := 8 }, { name := "Delta", type := 3, offset := 2, embedded := false, tag := "", pkgPath := "", byteOffset := 16 }]) := by kernel_rfl
theorem z79 : sizeD Tryd.prog 79 = some 3 := by kernel_rfl
theorem a79 : aggD Tryd.prog 79 = some true := by kernel_rfl
theorem zr79 : zeroD Tryd.prog 79 = some [(Go.Value.int Go.IntKind.i64 0), (Go.Value.int Go.IntKind.i64 0), (Go.Value.int Go.IntKind.i64 0)] := by kernel_rfl
theorem u81 : Tryd.prog.underlying 81 = some (Go.TypeDesc.struct #[{ name := "N", type := 3, offset := 0, embedded := false, tag := "", pkgPath := "", byteOffset := 0 }, { name := "Last", type := 38, offset := 1, embedded := false, tag := "", pkgPath := "", byteOffset := 8 }, { name := "Lead", type := 3, offset := 2, embedded := false, tag := "", pkgPath := "", byteOffset := 16 }, { name := "Trail", type := 3, offset := 3, embedded := false, tag := "", pkgPath := "", byteOffset := 24 }]) := by kernel_rfl
theorem z81 : sizeD Tryd.prog 81 = some 4 := by kernel_rfl
theorem a81 : aggD Tryd.prog 81 = some true := by kernel_rfl
theorem zr81 : zeroD Tryd.prog 81 = some [(Go.Value.int Go.IntKind.i64 0), (Go.Value.int Go.IntKind.u64 0), (Go.Value.int Go.IntKind.i64 0), (Go.Value.int Go.IntKind.i64 0)] := by kernel_rfl
theorem fld79_0 (id : Nat) : fieldAddrD Tryd.prog 79 (.pointer (some ⟨id, 0, none⟩)) 0 = some (.pointer (some ⟨id, 0, none⟩)) := (field_own (n := 1) (fd := { name := "N", type := 3, offset := 0, embedded := false, tag := "", pkgPath := "", byteOffset := 0 }) u79 rfl z3 (by decide)).trans (by rw [Nat.zero_add])
theorem fld79_1 (id : Nat) : fieldAddrD Tryd.prog 79 (.pointer (some ⟨id, 0, none⟩)) 1 = some (.pointer (some ⟨id, 1, none⟩)) := (field_own (n := 1) (fd := { name := "Last", type := 3, offset := 1, embedded := false, tag := "", pkgPath := "", byteOffset := 8 }) u79 rfl z3 (by decide)).trans (by rw [Nat.zero_add])
theorem fld79_2 (id : Nat) : fieldAddrD Tryd.prog 79 (.pointer (some ⟨id, 0, none⟩)) 2 = some (.pointer (some ⟨id, 2, none⟩)) := (field_own (n := 1) (fd := { name := "Delta", type := 3, offset := 2, embedded := false, tag := "", pkgPath := "", byteOffset := 16 }) u79 rfl z3 (by decide)).trans (by rw [Nat.zero_add])
theorem fld81_0 (id : Nat) : fieldAddrD Tryd.prog 81 (.pointer (some ⟨id, 0, none⟩)) 0 = some (.pointer (some ⟨id, 0, none⟩)) := (field_own (n := 1) (fd := { name := "N", type := 3, offset := 0, embedded := false, tag := "", pkgPath := "", byteOffset := 0 }) u81 rfl z3 (by decide)).trans (by rw [Nat.zero_add])
theorem fld81_1 (id : Nat) : fieldAddrD Tryd.prog 81 (.pointer (some ⟨id, 0, none⟩)) 1 = some (.pointer (some ⟨id, 1, none⟩)) := (field_own (n := 1) (fd := { name := "Last", type := 38, offset := 1, embedded := false, tag := "", pkgPath := "", byteOffset := 8 }) u81 rfl z38 (by decide)).trans (by rw [Nat.zero_add])
theorem fld81_2 (id : Nat) : fieldAddrD Tryd.prog 81 (.pointer (some ⟨id, 0, none⟩)) 2 = some (.pointer (some ⟨id, 2, none⟩)) := (field_own (n := 1) (fd := { name := "Lead", type := 3, offset := 2, embedded := false, tag := "", pkgPath := "", byteOffset := 16 }) u81 rfl z3 (by decide)).trans (by rw [Nat.zero_add])
theorem fld81_3 (id : Nat) : fieldAddrD Tryd.prog 81 (.pointer (some ⟨id, 0, none⟩)) 3 = some (.pointer (some ⟨id, 3, none⟩)) := (field_own (n := 1) (fd := { name := "Trail", type := 3, offset := 3, embedded := false, tag := "", pkgPath := "", byteOffset := 24 }) u81 rfl z3 (by decide)).trans (by rw [Nat.zero_add])
end Go.Proofs.YtmhmbmogodofeaaDoor.S
