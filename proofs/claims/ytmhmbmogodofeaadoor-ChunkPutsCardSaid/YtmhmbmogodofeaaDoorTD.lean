import Derived.Test.YtmhmbmogodofeaaDoorFw
import Derived.ProofKit
import Derived.Test.YtmhmbmogodofeaaDoorRows
set_option autoImplicit false
set_option linter.unusedVariables false
set_option maxRecDepth 100000
namespace Go.Proofs.YtmhmbmogodofeaaDoor.S
open Go.FS Go.RowKit
theorem u3 : Tryd.prog.underlying 3 = some (Go.TypeDesc.int Go.IntKind.i64) := by kernel_rfl
theorem z3 : sizeD Tryd.prog 3 = some 1 := by kernel_rfl
theorem a3 : aggD Tryd.prog 3 = some false := by kernel_rfl
theorem u4 : Tryd.prog.underlying 4 = some Go.TypeDesc.bool := by kernel_rfl
theorem z4 : sizeD Tryd.prog 4 = some 1 := by kernel_rfl
theorem a4 : aggD Tryd.prog 4 = some false := by kernel_rfl
theorem zr4 : zeroD Tryd.prog 4 = some [(Go.Value.bool false)] := by kernel_rfl
theorem u5 : Tryd.prog.underlying 5 = some (Go.TypeDesc.int Go.IntKind.u8) := by kernel_rfl
theorem z5 : sizeD Tryd.prog 5 = some 1 := by kernel_rfl
theorem a5 : aggD Tryd.prog 5 = some false := by kernel_rfl
theorem zr5 : zeroD Tryd.prog 5 = some [(Go.Value.int Go.IntKind.u8 0)] := by kernel_rfl
theorem u9 : Tryd.prog.underlying 9 = some Go.TypeDesc.string := by kernel_rfl
theorem u22 : Tryd.prog.underlying 22 = some (Go.TypeDesc.slice 5) := by kernel_rfl
theorem z22 : sizeD Tryd.prog 22 = some 1 := by kernel_rfl
theorem a22 : aggD Tryd.prog 22 = some false := by kernel_rfl
theorem u24 : Tryd.prog.underlying 24 = some (Go.TypeDesc.slice 40) := by kernel_rfl
theorem u36 : Tryd.prog.underlying 36 = some (Go.TypeDesc.pointer 108) := by kernel_rfl
theorem u38 : Tryd.prog.underlying 38 = some (Go.TypeDesc.int Go.IntKind.u64) := by kernel_rfl
theorem z38 : sizeD Tryd.prog 38 = some 1 := by kernel_rfl
theorem a38 : aggD Tryd.prog 38 = some false := by kernel_rfl
theorem u40 : Tryd.prog.underlying 40 = some (Go.TypeDesc.struct #[{ name := "T", type := 3, offset := 0, embedded := false, tag := "", pkgPath := "", byteOffset := 0 }, { name := "V", type := 38, offset := 1, embedded := false, tag := "", pkgPath := "", byteOffset := 8 }]) := by kernel_rfl
theorem z40 : sizeD Tryd.prog 40 = some 2 := by kernel_rfl
theorem a40 : aggD Tryd.prog 40 = some true := by kernel_rfl
theorem zr40 : zeroD Tryd.prog 40 = some [(Go.Value.int Go.IntKind.i64 0), (Go.Value.int Go.IntKind.u64 0)] := by kernel_rfl
theorem u64 : Tryd.prog.underlying 64 = some (Go.TypeDesc.pointer 120) := by kernel_rfl
theorem u100 : Tryd.prog.underlying 100 = some (Go.TypeDesc.struct #[{ name := "N", type := 3, offset := 0, embedded := false, tag := "", pkgPath := "", byteOffset := 0 }, { name := "Last", type := 38, offset := 1, embedded := false, tag := "", pkgPath := "", byteOffset := 8 }, { name := "Lead", type := 3, offset := 2, embedded := false, tag := "", pkgPath := "", byteOffset := 16 }, { name := "Trail", type := 3, offset := 3, embedded := false, tag := "", pkgPath := "", byteOffset := 24 }]) := by kernel_rfl
theorem z100 : sizeD Tryd.prog 100 = some 4 := by kernel_rfl
theorem a100 : aggD Tryd.prog 100 = some true := by kernel_rfl
theorem zr100 : zeroD Tryd.prog 100 = some [(Go.Value.int Go.IntKind.i64 0), (Go.Value.int Go.IntKind.u64 0), (Go.Value.int Go.IntKind.i64 0), (Go.Value.int Go.IntKind.i64 0)] := by kernel_rfl
theorem u102 : Tryd.prog.underlying 102 = some (Go.TypeDesc.struct #[{ name := "N", type := 3, offset := 0, embedded := false, tag := "", pkgPath := "", byteOffset := 0 }, { name := "Last", type := 3, offset := 1, embedded := false, tag := "", pkgPath := "", byteOffset := 8 }, { name := "Delta", type := 3, offset := 2, embedded := false, tag := "", pkgPath := "", byteOffset := 16 }]) := by kernel_rfl
theorem z102 : sizeD Tryd.prog 102 = some 3 := by kernel_rfl
theorem a102 : aggD Tryd.prog 102 = some true := by kernel_rfl
theorem zr102 : zeroD Tryd.prog 102 = some [(Go.Value.int Go.IntKind.i64 0), (Go.Value.int Go.IntKind.i64 0), (Go.Value.int Go.IntKind.i64 0)] := by kernel_rfl
theorem u104 : Tryd.prog.underlying 104 = some (Go.TypeDesc.struct #[{ name := "times", type := 102, offset := 0, embedded := false, tag := "", pkgPath := "tidepole/chunk", byteOffset := 0 }, { name := "values", type := 100, offset := 3, embedded := false, tag := "", pkgPath := "tidepole/chunk", byteOffset := 24 }]) := by kernel_rfl
theorem z104 : sizeD Tryd.prog 104 = some 7 := by kernel_rfl
theorem u105 : Tryd.prog.underlying 105 = some (Go.TypeDesc.pointer 140) := by kernel_rfl
theorem z105 : sizeD Tryd.prog 105 = some 1 := by kernel_rfl
theorem a105 : aggD Tryd.prog 105 = some false := by kernel_rfl
theorem u108 : Tryd.prog.underlying 108 = some (Go.TypeDesc.struct #[{ name := "states", type := 104, offset := 0, embedded := true, tag := "", pkgPath := "tidepole/chunk", byteOffset := 0 }, { name := "w", type := 105, offset := 7, embedded := false, tag := "", pkgPath := "tidepole/chunk", byteOffset := 56 }]) := by kernel_rfl
theorem u127 : Tryd.prog.underlying 127 = some (Go.TypeDesc.int Go.IntKind.u32) := by kernel_rfl
theorem z127 : sizeD Tryd.prog 127 = some 1 := by kernel_rfl
theorem a127 : aggD Tryd.prog 127 = some false := by kernel_rfl
theorem u138 : Tryd.prog.underlying 138 = some (Go.TypeDesc.struct #[{ name := "bytes", type := 22, offset := 0, embedded := false, tag := "", pkgPath := "tidepole/bits", byteOffset := 0 }, { name := "used", type := 3, offset := 1, embedded := false, tag := "", pkgPath := "tidepole/bits", byteOffset := 24 }, { name := "made", type := 4, offset := 2, embedded := false, tag := "", pkgPath := "tidepole/bits", byteOffset := 32 }]) := by kernel_rfl
theorem z138 : sizeD Tryd.prog 138 = some 3 := by kernel_rfl
theorem u140 : Tryd.prog.underlying 140 = some (Go.TypeDesc.struct #[{ name := "buffer", type := 138, offset := 0, embedded := true, tag := "", pkgPath := "tidepole/bits", byteOffset := 0 }]) := by kernel_rfl
theorem u147 : Tryd.prog.underlying 147 = some (Go.TypeDesc.struct #[{ name := "ones", type := 3, offset := 0, embedded := false, tag := "", pkgPath := "tidepole/stamp", byteOffset := 0 }, { name := "end", type := 3, offset := 1, embedded := false, tag := "", pkgPath := "tidepole/stamp", byteOffset := 8 }, { name := "bits", type := 3, offset := 2, embedded := false, tag := "", pkgPath := "tidepole/stamp", byteOffset := 16 }]) := by kernel_rfl
theorem z147 : sizeD Tryd.prog 147 = some 3 := by kernel_rfl
theorem a147 : aggD Tryd.prog 147 = some true := by kernel_rfl
theorem zr147 : zeroD Tryd.prog 147 = some [(Go.Value.int Go.IntKind.i64 0), (Go.Value.int Go.IntKind.i64 0), (Go.Value.int Go.IntKind.i64 0)] := by kernel_rfl
theorem u151 : Tryd.prog.underlying 151 = some (Go.TypeDesc.struct #[{ name := "lead", type := 3, offset := 0, embedded := false, tag := "", pkgPath := "tidepole/xor", byteOffset := 0 }, { name := "trail", type := 3, offset := 1, embedded := false, tag := "", pkgPath := "tidepole/xor", byteOffset := 8 }]) := by kernel_rfl
theorem z151 : sizeD Tryd.prog 151 = some 2 := by kernel_rfl
theorem a151 : aggD Tryd.prog 151 = some true := by kernel_rfl
theorem zr151 : zeroD Tryd.prog 151 = some [(Go.Value.int Go.IntKind.i64 0), (Go.Value.int Go.IntKind.i64 0)] := by kernel_rfl
theorem u155 : Tryd.prog.underlying 155 = some (Go.TypeDesc.struct #[{ name := "x", type := 38, offset := 0, embedded := false, tag := "", pkgPath := "tidepole/xor", byteOffset := 0 }, { name := "n", type := 3, offset := 1, embedded := false, tag := "", pkgPath := "tidepole/xor", byteOffset := 8 }]) := by kernel_rfl
theorem z155 : sizeD Tryd.prog 155 = some 2 := by kernel_rfl
theorem a155 : aggD Tryd.prog 155 = some true := by kernel_rfl
theorem zr155 : zeroD Tryd.prog 155 = some [(Go.Value.int Go.IntKind.u64 0), (Go.Value.int Go.IntKind.i64 0)] := by kernel_rfl
theorem u170 : Tryd.prog.underlying 170 = some (Go.TypeDesc.slice 155) := by kernel_rfl
theorem u176 : Tryd.prog.underlying 176 = some (Go.TypeDesc.array 64 5) := by kernel_rfl
theorem ixs22 {α : Type} {enc : α → List Value} {m i : Nat} {k : IntKind} {xs : List α} (hl : ∀ x, (enc x).length = 1) (hi : i < xs.length) : indexAddrD Tryd.prog 22 (sl enc m xs) (.int k (i : Int)) = some (fpV (enc xs[i]).toArray 0) := index_sl u22 z5 hl hi
theorem ixs24 {α : Type} {enc : α → List Value} {m i : Nat} {k : IntKind} {xs : List α} (hl : ∀ x, (enc x).length = 2) (hi : i < xs.length) : indexAddrD Tryd.prog 24 (sl enc m xs) (.int k (i : Int)) = some (fpV (enc xs[i]).toArray 0) := index_sl u24 z40 hl hi
theorem fld40_0 (id : Nat) : fieldAddrD Tryd.prog 40 (.pointer (some ⟨id, 0, none⟩)) 0 = some (.pointer (some ⟨id, 0, none⟩)) := (field_own (n := 1) (fd := { name := "T", type := 3, offset := 0, embedded := false, tag := "", pkgPath := "", byteOffset := 0 }) u40 rfl z3 (by decide)).trans (by rw [Nat.zero_add])
theorem flf40_0 (cs : Array Value) : fieldAddrD Tryd.prog 40 (fpV cs 0) 0 = some (fpV cs 0) := (field_fp (n := 1) (fd := { name := "T", type := 3, offset := 0, embedded := false, tag := "", pkgPath := "", byteOffset := 0 }) u40 rfl z3 (by decide)).trans (by rw [Nat.zero_add])
theorem fld40_1 (id : Nat) : fieldAddrD Tryd.prog 40 (.pointer (some ⟨id, 0, none⟩)) 1 = some (.pointer (some ⟨id, 1, none⟩)) := (field_own (n := 1) (fd := { name := "V", type := 38, offset := 1, embedded := false, tag := "", pkgPath := "", byteOffset := 8 }) u40 rfl z38 (by decide)).trans (by rw [Nat.zero_add])
theorem flf40_1 (cs : Array Value) : fieldAddrD Tryd.prog 40 (fpV cs 0) 1 = some (fpV cs 1) := (field_fp (n := 1) (fd := { name := "V", type := 38, offset := 1, embedded := false, tag := "", pkgPath := "", byteOffset := 8 }) u40 rfl z38 (by decide)).trans (by rw [Nat.zero_add])
theorem fld100_0 (id : Nat) : fieldAddrD Tryd.prog 100 (.pointer (some ⟨id, 0, none⟩)) 0 = some (.pointer (some ⟨id, 0, none⟩)) := (field_own (n := 1) (fd := { name := "N", type := 3, offset := 0, embedded := false, tag := "", pkgPath := "", byteOffset := 0 }) u100 rfl z3 (by decide)).trans (by rw [Nat.zero_add])
theorem fld100_1 (id : Nat) : fieldAddrD Tryd.prog 100 (.pointer (some ⟨id, 0, none⟩)) 1 = some (.pointer (some ⟨id, 1, none⟩)) := (field_own (n := 1) (fd := { name := "Last", type := 38, offset := 1, embedded := false, tag := "", pkgPath := "", byteOffset := 8 }) u100 rfl z38 (by decide)).trans (by rw [Nat.zero_add])
theorem fld100_2 (id : Nat) : fieldAddrD Tryd.prog 100 (.pointer (some ⟨id, 0, none⟩)) 2 = some (.pointer (some ⟨id, 2, none⟩)) := (field_own (n := 1) (fd := { name := "Lead", type := 3, offset := 2, embedded := false, tag := "", pkgPath := "", byteOffset := 16 }) u100 rfl z3 (by decide)).trans (by rw [Nat.zero_add])
theorem fld100_3 (id : Nat) : fieldAddrD Tryd.prog 100 (.pointer (some ⟨id, 0, none⟩)) 3 = some (.pointer (some ⟨id, 3, none⟩)) := (field_own (n := 1) (fd := { name := "Trail", type := 3, offset := 3, embedded := false, tag := "", pkgPath := "", byteOffset := 24 }) u100 rfl z3 (by decide)).trans (by rw [Nat.zero_add])
theorem fld102_0 (id : Nat) : fieldAddrD Tryd.prog 102 (.pointer (some ⟨id, 0, none⟩)) 0 = some (.pointer (some ⟨id, 0, none⟩)) := (field_own (n := 1) (fd := { name := "N", type := 3, offset := 0, embedded := false, tag := "", pkgPath := "", byteOffset := 0 }) u102 rfl z3 (by decide)).trans (by rw [Nat.zero_add])
theorem fld102_1 (id : Nat) : fieldAddrD Tryd.prog 102 (.pointer (some ⟨id, 0, none⟩)) 1 = some (.pointer (some ⟨id, 1, none⟩)) := (field_own (n := 1) (fd := { name := "Last", type := 3, offset := 1, embedded := false, tag := "", pkgPath := "", byteOffset := 8 }) u102 rfl z3 (by decide)).trans (by rw [Nat.zero_add])
theorem fld102_2 (id : Nat) : fieldAddrD Tryd.prog 102 (.pointer (some ⟨id, 0, none⟩)) 2 = some (.pointer (some ⟨id, 2, none⟩)) := (field_own (n := 1) (fd := { name := "Delta", type := 3, offset := 2, embedded := false, tag := "", pkgPath := "", byteOffset := 16 }) u102 rfl z3 (by decide)).trans (by rw [Nat.zero_add])
theorem fld104_0 (id : Nat) : fieldAddrD Tryd.prog 104 (.pointer (some ⟨id, 0, none⟩)) 0 = some (.pointer (some ⟨id, 0, none⟩)) := (field_own (n := 3) (fd := { name := "times", type := 102, offset := 0, embedded := false, tag := "", pkgPath := "tidepole/chunk", byteOffset := 0 }) u104 rfl z102 (by decide)).trans (by rw [Nat.zero_add])
theorem fld104_1 (id : Nat) : fieldAddrD Tryd.prog 104 (.pointer (some ⟨id, 0, none⟩)) 1 = some (.pointer (some ⟨id, 3, none⟩)) := (field_own (n := 4) (fd := { name := "values", type := 100, offset := 3, embedded := false, tag := "", pkgPath := "tidepole/chunk", byteOffset := 24 }) u104 rfl z100 (by decide)).trans (by rw [Nat.zero_add])
theorem fld108_0 (id : Nat) : fieldAddrD Tryd.prog 108 (.pointer (some ⟨id, 0, none⟩)) 0 = some (.pointer (some ⟨id, 0, none⟩)) := (field_own (n := 7) (fd := { name := "states", type := 104, offset := 0, embedded := true, tag := "", pkgPath := "tidepole/chunk", byteOffset := 0 }) u108 rfl z104 (by decide)).trans (by rw [Nat.zero_add])
theorem fld108_1 (id : Nat) : fieldAddrD Tryd.prog 108 (.pointer (some ⟨id, 0, none⟩)) 1 = some (.pointer (some ⟨id, 7, none⟩)) := (field_own (n := 1) (fd := { name := "w", type := 105, offset := 7, embedded := false, tag := "", pkgPath := "tidepole/chunk", byteOffset := 56 }) u108 rfl z105 (by decide)).trans (by rw [Nat.zero_add])
theorem fld138_0 (id : Nat) : fieldAddrD Tryd.prog 138 (.pointer (some ⟨id, 0, none⟩)) 0 = some (.pointer (some ⟨id, 0, none⟩)) := (field_own (n := 1) (fd := { name := "bytes", type := 22, offset := 0, embedded := false, tag := "", pkgPath := "tidepole/bits", byteOffset := 0 }) u138 rfl z22 (by decide)).trans (by rw [Nat.zero_add])
theorem fld138_1 (id : Nat) : fieldAddrD Tryd.prog 138 (.pointer (some ⟨id, 0, none⟩)) 1 = some (.pointer (some ⟨id, 1, none⟩)) := (field_own (n := 1) (fd := { name := "used", type := 3, offset := 1, embedded := false, tag := "", pkgPath := "tidepole/bits", byteOffset := 24 }) u138 rfl z3 (by decide)).trans (by rw [Nat.zero_add])
theorem fld138_2 (id : Nat) : fieldAddrD Tryd.prog 138 (.pointer (some ⟨id, 0, none⟩)) 2 = some (.pointer (some ⟨id, 2, none⟩)) := (field_own (n := 1) (fd := { name := "made", type := 4, offset := 2, embedded := false, tag := "", pkgPath := "tidepole/bits", byteOffset := 32 }) u138 rfl z4 (by decide)).trans (by rw [Nat.zero_add])
theorem fld140_0 (id : Nat) : fieldAddrD Tryd.prog 140 (.pointer (some ⟨id, 0, none⟩)) 0 = some (.pointer (some ⟨id, 0, none⟩)) := (field_own (n := 3) (fd := { name := "buffer", type := 138, offset := 0, embedded := true, tag := "", pkgPath := "tidepole/bits", byteOffset := 0 }) u140 rfl z138 (by decide)).trans (by rw [Nat.zero_add])
theorem fld147_0 (id : Nat) : fieldAddrD Tryd.prog 147 (.pointer (some ⟨id, 0, none⟩)) 0 = some (.pointer (some ⟨id, 0, none⟩)) := (field_own (n := 1) (fd := { name := "ones", type := 3, offset := 0, embedded := false, tag := "", pkgPath := "tidepole/stamp", byteOffset := 0 }) u147 rfl z3 (by decide)).trans (by rw [Nat.zero_add])
theorem fld147_1 (id : Nat) : fieldAddrD Tryd.prog 147 (.pointer (some ⟨id, 0, none⟩)) 1 = some (.pointer (some ⟨id, 1, none⟩)) := (field_own (n := 1) (fd := { name := "end", type := 3, offset := 1, embedded := false, tag := "", pkgPath := "tidepole/stamp", byteOffset := 8 }) u147 rfl z3 (by decide)).trans (by rw [Nat.zero_add])
theorem fld147_2 (id : Nat) : fieldAddrD Tryd.prog 147 (.pointer (some ⟨id, 0, none⟩)) 2 = some (.pointer (some ⟨id, 2, none⟩)) := (field_own (n := 1) (fd := { name := "bits", type := 3, offset := 2, embedded := false, tag := "", pkgPath := "tidepole/stamp", byteOffset := 16 }) u147 rfl z3 (by decide)).trans (by rw [Nat.zero_add])
theorem fld151_0 (id : Nat) : fieldAddrD Tryd.prog 151 (.pointer (some ⟨id, 0, none⟩)) 0 = some (.pointer (some ⟨id, 0, none⟩)) := (field_own (n := 1) (fd := { name := "lead", type := 3, offset := 0, embedded := false, tag := "", pkgPath := "tidepole/xor", byteOffset := 0 }) u151 rfl z3 (by decide)).trans (by rw [Nat.zero_add])
theorem fld151_1 (id : Nat) : fieldAddrD Tryd.prog 151 (.pointer (some ⟨id, 0, none⟩)) 1 = some (.pointer (some ⟨id, 1, none⟩)) := (field_own (n := 1) (fd := { name := "trail", type := 3, offset := 1, embedded := false, tag := "", pkgPath := "tidepole/xor", byteOffset := 8 }) u151 rfl z3 (by decide)).trans (by rw [Nat.zero_add])
theorem fld155_0 (id : Nat) : fieldAddrD Tryd.prog 155 (.pointer (some ⟨id, 0, none⟩)) 0 = some (.pointer (some ⟨id, 0, none⟩)) := (field_own (n := 1) (fd := { name := "x", type := 38, offset := 0, embedded := false, tag := "", pkgPath := "tidepole/xor", byteOffset := 0 }) u155 rfl z38 (by decide)).trans (by rw [Nat.zero_add])
theorem fld155_1 (id : Nat) : fieldAddrD Tryd.prog 155 (.pointer (some ⟨id, 0, none⟩)) 1 = some (.pointer (some ⟨id, 1, none⟩)) := (field_own (n := 1) (fd := { name := "n", type := 3, offset := 1, embedded := false, tag := "", pkgPath := "tidepole/xor", byteOffset := 8 }) u155 rfl z3 (by decide)).trans (by rw [Nat.zero_add])
theorem ixs170 {α : Type} {enc : α → List Value} {m i : Nat} {k : IntKind} {xs : List α} (hl : ∀ x, (enc x).length = 2) (hi : i < xs.length) : indexAddrD Tryd.prog 170 (sl enc m xs) (.int k (i : Int)) = some (fpV (enc xs[i]).toArray 0) := index_sl u170 z155 hl hi
end Go.Proofs.YtmhmbmogodofeaaDoor.S
