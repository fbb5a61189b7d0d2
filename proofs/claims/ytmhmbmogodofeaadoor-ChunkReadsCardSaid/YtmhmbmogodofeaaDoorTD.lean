import Derived.Test.YtmhmbmogodofeaaDoorFw
import Derived.ProofKit
import Derived.Test.YtmhmbmogodofeaaDoorRows
set_option autoImplicit false
set_option linter.unusedVariables false
set_option maxRecDepth 100000
namespace Go.Proofs.YtmhmbmogodofeaaDoor.S
open Go.FS Go.RowKit
theorem u3 : Tryd.prog.underlying 3 = some (Go.TypeDesc.int Go.IntKind.i64) := by kernel_rfl
theorem z3 : sizeD Tryd.prog 3 = some 1 := by kernel_rfl
theorem a3 : aggD Tryd.prog 3 = some false := by kernel_rfl
theorem u4 : Tryd.prog.underlying 4 = some Go.TypeDesc.bool := by kernel_rfl
theorem z4 : sizeD Tryd.prog 4 = some 1 := by kernel_rfl
theorem a4 : aggD Tryd.prog 4 = some false := by kernel_rfl
theorem u5 : Tryd.prog.underlying 5 = some (Go.TypeDesc.int Go.IntKind.u8) := by kernel_rfl
theorem z5 : sizeD Tryd.prog 5 = some 1 := by kernel_rfl
theorem a5 : aggD Tryd.prog 5 = some false := by kernel_rfl
theorem zr5 : zeroD Tryd.prog 5 = some [(Go.Value.int Go.IntKind.u8 0)] := by kernel_rfl
theorem u9 : Tryd.prog.underlying 9 = some Go.TypeDesc.string := by kernel_rfl
theorem u22 : Tryd.prog.underlying 22 = some (Go.TypeDesc.slice 5) := by kernel_rfl
theorem z22 : sizeD Tryd.prog 22 = some 1 := by kernel_rfl
theorem a22 : aggD Tryd.prog 22 = some false := by kernel_rfl
theorem u24 : Tryd.prog.underlying 24 = some (Go.TypeDesc.slice 40) := by kernel_rfl
theorem z24 : sizeD Tryd.prog 24 = some 1 := by kernel_rfl
theorem a24 : aggD Tryd.prog 24 = some false := by kernel_rfl
theorem u38 : Tryd.prog.underlying 38 = some (Go.TypeDesc.int Go.IntKind.u64) := by kernel_rfl
theorem z38 : sizeD Tryd.prog 38 = some 1 := by kernel_rfl
theorem a38 : aggD Tryd.prog 38 = some false := by kernel_rfl
theorem zr38 : zeroD Tryd.prog 38 = some [(Go.Value.int Go.IntKind.u64 0)] := by kernel_rfl
theorem z40 : sizeD Tryd.prog 40 = some 2 := by kernel_rfl
theorem a40 : aggD Tryd.prog 40 = some true := by kernel_rfl
theorem zr40 : zeroD Tryd.prog 40 = some [(Go.Value.int Go.IntKind.i64 0), (Go.Value.int Go.IntKind.u64 0)] := by kernel_rfl
theorem u45 : Tryd.prog.underlying 45 = some (Go.TypeDesc.slice 3) := by kernel_rfl
theorem u46 : Tryd.prog.underlying 46 = some (Go.TypeDesc.slice 38) := by kernel_rfl
theorem u61 : Tryd.prog.underlying 61 = some (Go.TypeDesc.struct #[{ name := "many", type := 3, offset := 0, embedded := false, tag := "", pkgPath := "tidepole/chunk", byteOffset := 0 }, { name := "from", type := 3, offset := 1, embedded := false, tag := "", pkgPath := "tidepole/chunk", byteOffset := 8 }, { name := "end", type := 3, offset := 2, embedded := false, tag := "", pkgPath := "tidepole/chunk", byteOffset := 16 }]) := by kernel_rfl
theorem z61 : sizeD Tryd.prog 61 = some 3 := by kernel_rfl
theorem a61 : aggD Tryd.prog 61 = some true := by kernel_rfl
theorem zr61 : zeroD Tryd.prog 61 = some [(Go.Value.int Go.IntKind.i64 0), (Go.Value.int Go.IntKind.i64 0), (Go.Value.int Go.IntKind.i64 0)] := by kernel_rfl
theorem u64 : Tryd.prog.underlying 64 = some (Go.TypeDesc.pointer 120) := by kernel_rfl
theorem a64 : aggD Tryd.prog 64 = some false := by kernel_rfl
theorem u100 : Tryd.prog.underlying 100 = some (Go.TypeDesc.struct #[{ name := "N", type := 3, offset := 0, embedded := false, tag := "", pkgPath := "", byteOffset := 0 }, { name := "Last", type := 38, offset := 1, embedded := false, tag := "", pkgPath := "", byteOffset := 8 }, { name := "Lead", type := 3, offset := 2, embedded := false, tag := "", pkgPath := "", byteOffset := 16 }, { name := "Trail", type := 3, offset := 3, embedded := false, tag := "", pkgPath := "", byteOffset := 24 }]) := by kernel_rfl
theorem z100 : sizeD Tryd.prog 100 = some 4 := by kernel_rfl
theorem a100 : aggD Tryd.prog 100 = some true := by kernel_rfl
theorem zr100 : zeroD Tryd.prog 100 = some [(Go.Value.int Go.IntKind.i64 0), (Go.Value.int Go.IntKind.u64 0), (Go.Value.int Go.IntKind.i64 0), (Go.Value.int Go.IntKind.i64 0)] := by kernel_rfl
theorem u102 : Tryd.prog.underlying 102 = some (Go.TypeDesc.struct #[{ name := "N", type := 3, offset := 0, embedded := false, tag := "", pkgPath := "", byteOffset := 0 }, { name := "Last", type := 3, offset := 1, embedded := false, tag := "", pkgPath := "", byteOffset := 8 }, { name := "Delta", type := 3, offset := 2, embedded := false, tag := "", pkgPath := "", byteOffset := 16 }]) := by kernel_rfl
theorem z102 : sizeD Tryd.prog 102 = some 3 := by kernel_rfl
theorem a102 : aggD Tryd.prog 102 = some true := by kernel_rfl
theorem zr102 : zeroD Tryd.prog 102 = some [(Go.Value.int Go.IntKind.i64 0), (Go.Value.int Go.IntKind.i64 0), (Go.Value.int Go.IntKind.i64 0)] := by kernel_rfl
theorem u104 : Tryd.prog.underlying 104 = some (Go.TypeDesc.struct #[{ name := "times", type := 102, offset := 0, embedded := false, tag := "", pkgPath := "tidepole/chunk", byteOffset := 0 }, { name := "values", type := 100, offset := 3, embedded := false, tag := "", pkgPath := "tidepole/chunk", byteOffset := 24 }]) := by kernel_rfl
theorem z104 : sizeD Tryd.prog 104 = some 7 := by kernel_rfl
theorem zr104 : zeroD Tryd.prog 104 = some [(Go.Value.int Go.IntKind.i64 0), (Go.Value.int Go.IntKind.i64 0), (Go.Value.int Go.IntKind.i64 0), (Go.Value.int Go.IntKind.i64 0), (Go.Value.int Go.IntKind.u64 0), (Go.Value.int Go.IntKind.i64 0), (Go.Value.int Go.IntKind.i64 0)] := by kernel_rfl
theorem u120 : Tryd.prog.underlying 120 = some (Go.TypeDesc.struct #[{ name := "bytes", type := 22, offset := 0, embedded := false, tag := "", pkgPath := "tidepole/bits", byteOffset := 0 }, { name := "at", type := 3, offset := 1, embedded := false, tag := "", pkgPath := "tidepole/bits", byteOffset := 24 }, { name := "made", type := 4, offset := 2, embedded := false, tag := "", pkgPath := "tidepole/bits", byteOffset := 32 }]) := by kernel_rfl
theorem u127 : Tryd.prog.underlying 127 = some (Go.TypeDesc.int Go.IntKind.u32) := by kernel_rfl
theorem z127 : sizeD Tryd.prog 127 = some 1 := by kernel_rfl
theorem a127 : aggD Tryd.prog 127 = some false := by kernel_rfl
theorem u147 : Tryd.prog.underlying 147 = some (Go.TypeDesc.struct #[{ name := "ones", type := 3, offset := 0, embedded := false, tag := "", pkgPath := "tidepole/stamp", byteOffset := 0 }, { name := "end", type := 3, offset := 1, embedded := false, tag := "", pkgPath := "tidepole/stamp", byteOffset := 8 }, { name := "bits", type := 3, offset := 2, embedded := false, tag := "", pkgPath := "tidepole/stamp", byteOffset := 16 }]) := by kernel_rfl
theorem z147 : sizeD Tryd.prog 147 = some 3 := by kernel_rfl
theorem a147 : aggD Tryd.prog 147 = some true := by kernel_rfl
theorem zr147 : zeroD Tryd.prog 147 = some [(Go.Value.int Go.IntKind.i64 0), (Go.Value.int Go.IntKind.i64 0), (Go.Value.int Go.IntKind.i64 0)] := by kernel_rfl
theorem u151 : Tryd.prog.underlying 151 = some (Go.TypeDesc.struct #[{ name := "lead", type := 3, offset := 0, embedded := false, tag := "", pkgPath := "tidepole/xor", byteOffset := 0 }, { name := "trail", type := 3, offset := 1, embedded := false, tag := "", pkgPath := "tidepole/xor", byteOffset := 8 }]) := by kernel_rfl
theorem z151 : sizeD Tryd.prog 151 = some 2 := by kernel_rfl
theorem a151 : aggD Tryd.prog 151 = some true := by kernel_rfl
theorem zr151 : zeroD Tryd.prog 151 = some [(Go.Value.int Go.IntKind.i64 0), (Go.Value.int Go.IntKind.i64 0)] := by kernel_rfl
theorem u176 : Tryd.prog.underlying 176 = some (Go.TypeDesc.array 64 5) := by kernel_rfl
theorem ixs22 {α : Type} {enc : α → List Value} {m i : Nat} {k : IntKind} {xs : List α} (hl : ∀ x, (enc x).length = 1) (hi : i < xs.length) : indexAddrD Tryd.prog 22 (sl enc m xs) (.int k (i : Int)) = some (fpV (enc xs[i]).toArray 0) := index_sl u22 z5 hl hi
theorem ixs24 {α : Type} {enc : α → List Value} {m i : Nat} {k : IntKind} {xs : List α} (hl : ∀ x, (enc x).length = 2) (hi : i < xs.length) : indexAddrD Tryd.prog 24 (sl enc m xs) (.int k (i : Int)) = some (fpV (enc xs[i]).toArray 0) := index_sl u24 z40 hl hi
theorem ixs45 {α : Type} {enc : α → List Value} {m i : Nat} {k : IntKind} {xs : List α} (hl : ∀ x, (enc x).length = 1) (hi : i < xs.length) : indexAddrD Tryd.prog 45 (sl enc m xs) (.int k (i : Int)) = some (fpV (enc xs[i]).toArray 0) := index_sl u45 z3 hl hi
theorem ixs46 {α : Type} {enc : α → List Value} {m i : Nat} {k : IntKind} {xs : List α} (hl : ∀ x, (enc x).length = 1) (hi : i < xs.length) : indexAddrD Tryd.prog 46 (sl enc m xs) (.int k (i : Int)) = some (fpV (enc xs[i]).toArray 0) := index_sl u46 z38 hl hi
theorem fld61_0 (id : Nat) : fieldAddrD Tryd.prog 61 (.pointer (some ⟨id, 0, none⟩)) 0 = some (.pointer (some ⟨id, 0, none⟩)) := (field_own (n := 1) (fd := { name := "many", type := 3, offset := 0, embedded := false, tag := "", pkgPath := "tidepole/chunk", byteOffset := 0 }) u61 rfl z3 (by decide)).trans (by rw [Nat.zero_add])
theorem fld61_1 (id : Nat) : fieldAddrD Tryd.prog 61 (.pointer (some ⟨id, 0, none⟩)) 1 = some (.pointer (some ⟨id, 1, none⟩)) := (field_own (n := 1) (fd := { name := "from", type := 3, offset := 1, embedded := false, tag := "", pkgPath := "tidepole/chunk", byteOffset := 8 }) u61 rfl z3 (by decide)).trans (by rw [Nat.zero_add])
theorem fld61_2 (id : Nat) : fieldAddrD Tryd.prog 61 (.pointer (some ⟨id, 0, none⟩)) 2 = some (.pointer (some ⟨id, 2, none⟩)) := (field_own (n := 1) (fd := { name := "end", type := 3, offset := 2, embedded := false, tag := "", pkgPath := "tidepole/chunk", byteOffset := 16 }) u61 rfl z3 (by decide)).trans (by rw [Nat.zero_add])
theorem fld100_0 (id : Nat) : fieldAddrD Tryd.prog 100 (.pointer (some ⟨id, 0, none⟩)) 0 = some (.pointer (some ⟨id, 0, none⟩)) := (field_own (n := 1) (fd := { name := "N", type := 3, offset := 0, embedded := false, tag := "", pkgPath := "", byteOffset := 0 }) u100 rfl z3 (by decide)).trans (by rw [Nat.zero_add])
theorem fld100_1 (id : Nat) : fieldAddrD Tryd.prog 100 (.pointer (some ⟨id, 0, none⟩)) 1 = some (.pointer (some ⟨id, 1, none⟩)) := (field_own (n := 1) (fd := { name := "Last", type := 38, offset := 1, embedded := false, tag := "", pkgPath := "", byteOffset := 8 }) u100 rfl z38 (by decide)).trans (by rw [Nat.zero_add])
theorem fld100_2 (id : Nat) : fieldAddrD Tryd.prog 100 (.pointer (some ⟨id, 0, none⟩)) 2 = some (.pointer (some ⟨id, 2, none⟩)) := (field_own (n := 1) (fd := { name := "Lead", type := 3, offset := 2, embedded := false, tag := "", pkgPath := "", byteOffset := 16 }) u100 rfl z3 (by decide)).trans (by rw [Nat.zero_add])
theorem fld100_3 (id : Nat) : fieldAddrD Tryd.prog 100 (.pointer (some ⟨id, 0, none⟩)) 3 = some (.pointer (some ⟨id, 3, none⟩)) := (field_own (n := 1) (fd := { name := "Trail", type := 3, offset := 3, embedded := false, tag := "", pkgPath := "", byteOffset := 24 }) u100 rfl z3 (by decide)).trans (by rw [Nat.zero_add])
theorem fld102_0 (id : Nat) : fieldAddrD Tryd.prog 102 (.pointer (some ⟨id, 0, none⟩)) 0 = some (.pointer (some ⟨id, 0, none⟩)) := (field_own (n := 1) (fd := { name := "N", type := 3, offset := 0, embedded := false, tag := "", pkgPath := "", byteOffset := 0 }) u102 rfl z3 (by decide)).trans (by rw [Nat.zero_add])
theorem fld102_1 (id : Nat) : fieldAddrD Tryd.prog 102 (.pointer (some ⟨id, 0, none⟩)) 1 = some (.pointer (some ⟨id, 1, none⟩)) := (field_own (n := 1) (fd := { name := "Last", type := 3, offset := 1, embedded := false, tag := "", pkgPath := "", byteOffset := 8 }) u102 rfl z3 (by decide)).trans (by rw [Nat.zero_add])
theorem fld102_2 (id : Nat) : fieldAddrD Tryd.prog 102 (.pointer (some ⟨id, 0, none⟩)) 2 = some (.pointer (some ⟨id, 2, none⟩)) := (field_own (n := 1) (fd := { name := "Delta", type := 3, offset := 2, embedded := false, tag := "", pkgPath := "", byteOffset := 16 }) u102 rfl z3 (by decide)).trans (by rw [Nat.zero_add])
theorem fld104_0 (id : Nat) : fieldAddrD Tryd.prog 104 (.pointer (some ⟨id, 0, none⟩)) 0 = some (.pointer (some ⟨id, 0, none⟩)) := (field_own (n := 3) (fd := { name := "times", type := 102, offset := 0, embedded := false, tag := "", pkgPath := "tidepole/chunk", byteOffset := 0 }) u104 rfl z102 (by decide)).trans (by rw [Nat.zero_add])
theorem fld104_1 (id : Nat) : fieldAddrD Tryd.prog 104 (.pointer (some ⟨id, 0, none⟩)) 1 = some (.pointer (some ⟨id, 3, none⟩)) := (field_own (n := 4) (fd := { name := "values", type := 100, offset := 3, embedded := false, tag := "", pkgPath := "tidepole/chunk", byteOffset := 24 }) u104 rfl z100 (by decide)).trans (by rw [Nat.zero_add])
theorem fld120_0 (id : Nat) : fieldAddrD Tryd.prog 120 (.pointer (some ⟨id, 0, none⟩)) 0 = some (.pointer (some ⟨id, 0, none⟩)) := (field_own (n := 1) (fd := { name := "bytes", type := 22, offset := 0, embedded := false, tag := "", pkgPath := "tidepole/bits", byteOffset := 0 }) u120 rfl z22 (by decide)).trans (by rw [Nat.zero_add])
theorem fld120_1 (id : Nat) : fieldAddrD Tryd.prog 120 (.pointer (some ⟨id, 0, none⟩)) 1 = some (.pointer (some ⟨id, 1, none⟩)) := (field_own (n := 1) (fd := { name := "at", type := 3, offset := 1, embedded := false, tag := "", pkgPath := "tidepole/bits", byteOffset := 24 }) u120 rfl z3 (by decide)).trans (by rw [Nat.zero_add])
theorem fld120_2 (id : Nat) : fieldAddrD Tryd.prog 120 (.pointer (some ⟨id, 0, none⟩)) 2 = some (.pointer (some ⟨id, 2, none⟩)) := (field_own (n := 1) (fd := { name := "made", type := 4, offset := 2, embedded := false, tag := "", pkgPath := "tidepole/bits", byteOffset := 32 }) u120 rfl z4 (by decide)).trans (by rw [Nat.zero_add])
theorem fld147_2 (id : Nat) : fieldAddrD Tryd.prog 147 (.pointer (some ⟨id, 0, none⟩)) 2 = some (.pointer (some ⟨id, 2, none⟩)) := (field_own (n := 1) (fd := { name := "bits", type := 3, offset := 2, embedded := false, tag := "", pkgPath := "tidepole/stamp", byteOffset := 16 }) u147 rfl z3 (by decide)).trans (by rw [Nat.zero_add])
theorem fld151_0 (id : Nat) : fieldAddrD Tryd.prog 151 (.pointer (some ⟨id, 0, none⟩)) 0 = some (.pointer (some ⟨id, 0, none⟩)) := (field_own (n := 1) (fd := { name := "lead", type := 3, offset := 0, embedded := false, tag := "", pkgPath := "tidepole/xor", byteOffset := 0 }) u151 rfl z3 (by decide)).trans (by rw [Nat.zero_add])
theorem fld151_1 (id : Nat) : fieldAddrD Tryd.prog 151 (.pointer (some ⟨id, 0, none⟩)) 1 = some (.pointer (some ⟨id, 1, none⟩)) := (field_own (n := 1) (fd := { name := "trail", type := 3, offset := 1, embedded := false, tag := "", pkgPath := "tidepole/xor", byteOffset := 8 }) u151 rfl z3 (by decide)).trans (by rw [Nat.zero_add])
end Go.Proofs.YtmhmbmogodofeaaDoor.S
