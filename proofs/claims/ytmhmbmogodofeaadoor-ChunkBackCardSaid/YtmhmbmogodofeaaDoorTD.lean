import Derived.Test.YtmhmbmogodofeaaDoorFw
import Derived.ProofKit
import Derived.Test.YtmhmbmogodofeaaDoorRows
set_option autoImplicit false
set_option linter.unusedVariables false
set_option maxRecDepth 100000
namespace Go.Proofs.YtmhmbmogodofeaaDoor.S
open Go.FS Go.RowKit
theorem u3 : Tryd.prog.underlying 3 = some (Go.TypeDesc.int Go.IntKind.i64) := by kernel_rfl
theorem z3 : sizeD Tryd.prog 3 = some 1 := by kernel_rfl
theorem a3 : aggD Tryd.prog 3 = some false := by kernel_rfl
theorem zr3 : zeroD Tryd.prog 3 = some [(Go.Value.int Go.IntKind.i64 0)] := by kernel_rfl
theorem zv3 : zeroV Tryd.prog 3 = some (Go.Value.int Go.IntKind.i64 0) := by kernel_rfl
theorem u4 : Tryd.prog.underlying 4 = some Go.TypeDesc.bool := by kernel_rfl
theorem z4 : sizeD Tryd.prog 4 = some 1 := by kernel_rfl
theorem a4 : aggD Tryd.prog 4 = some false := by kernel_rfl
theorem zr4 : zeroD Tryd.prog 4 = some [(Go.Value.bool false)] := by kernel_rfl
theorem zv4 : zeroV Tryd.prog 4 = some (Go.Value.bool false) := by kernel_rfl
theorem u5 : Tryd.prog.underlying 5 = some (Go.TypeDesc.int Go.IntKind.u8) := by kernel_rfl
theorem z5 : sizeD Tryd.prog 5 = some 1 := by kernel_rfl
theorem a5 : aggD Tryd.prog 5 = some false := by kernel_rfl
theorem zr5 : zeroD Tryd.prog 5 = some [(Go.Value.int Go.IntKind.u8 0)] := by kernel_rfl
theorem zv5 : zeroV Tryd.prog 5 = some (Go.Value.int Go.IntKind.u8 0) := by kernel_rfl
theorem u9 : Tryd.prog.underlying 9 = some Go.TypeDesc.string := by kernel_rfl
theorem z9 : sizeD Tryd.prog 9 = some 1 := by kernel_rfl
theorem a9 : aggD Tryd.prog 9 = some false := by kernel_rfl
theorem zr9 : zeroD Tryd.prog 9 = some [(Go.Value.string { data := #[] })] := by kernel_rfl
theorem zv9 : zeroV Tryd.prog 9 = some (Go.Value.string { data := #[] }) := by kernel_rfl
theorem u22 : Tryd.prog.underlying 22 = some (Go.TypeDesc.slice 5) := by kernel_rfl
theorem z22 : sizeD Tryd.prog 22 = some 1 := by kernel_rfl
theorem a22 : aggD Tryd.prog 22 = some false := by kernel_rfl
theorem zr22 : zeroD Tryd.prog 22 = some [(fzV 2 #[])] := by kernel_rfl
theorem zv22 : zeroV Tryd.prog 22 = some (fzV 2 #[]) := by kernel_rfl
theorem u24 : Tryd.prog.underlying 24 = some (Go.TypeDesc.slice 40) := by kernel_rfl
theorem z24 : sizeD Tryd.prog 24 = some 1 := by kernel_rfl
theorem a24 : aggD Tryd.prog 24 = some false := by kernel_rfl
theorem zr24 : zeroD Tryd.prog 24 = some [(fzV 2 #[])] := by kernel_rfl
theorem zv24 : zeroV Tryd.prog 24 = some (fzV 2 #[]) := by kernel_rfl
theorem u25 : Tryd.prog.underlying 25 = some (Go.TypeDesc.int Go.IntKind.i64) := by kernel_rfl
theorem z25 : sizeD Tryd.prog 25 = some 1 := by kernel_rfl
theorem a25 : aggD Tryd.prog 25 = some false := by kernel_rfl
theorem zr25 : zeroD Tryd.prog 25 = some [(Go.Value.int Go.IntKind.i64 0)] := by kernel_rfl
theorem zv25 : zeroV Tryd.prog 25 = some (Go.Value.int Go.IntKind.i64 0) := by kernel_rfl
theorem u36 : Tryd.prog.underlying 36 = some (Go.TypeDesc.pointer 108) := by kernel_rfl
theorem z36 : sizeD Tryd.prog 36 = some 1 := by kernel_rfl
theorem a36 : aggD Tryd.prog 36 = some false := by kernel_rfl
theorem zr36 : zeroD Tryd.prog 36 = some [(Go.Value.pointer none)] := by kernel_rfl
theorem zv36 : zeroV Tryd.prog 36 = some (Go.Value.pointer none) := by kernel_rfl
theorem u38 : Tryd.prog.underlying 38 = some (Go.TypeDesc.int Go.IntKind.u64) := by kernel_rfl
theorem z38 : sizeD Tryd.prog 38 = some 1 := by kernel_rfl
theorem a38 : aggD Tryd.prog 38 = some false := by kernel_rfl
theorem zr38 : zeroD Tryd.prog 38 = some [(Go.Value.int Go.IntKind.u64 0)] := by kernel_rfl
theorem zv38 : zeroV Tryd.prog 38 = some (Go.Value.int Go.IntKind.u64 0) := by kernel_rfl
theorem u40 : Tryd.prog.underlying 40 = some (Go.TypeDesc.struct #[{ name := "T", type := 3, offset := 0, embedded := false, tag := "", pkgPath := "", byteOffset := 0 }, { name := "V", type := 38, offset := 1, embedded := false, tag := "", pkgPath := "", byteOffset := 8 }]) := by kernel_rfl
theorem z40 : sizeD Tryd.prog 40 = some 2 := by kernel_rfl
theorem a40 : aggD Tryd.prog 40 = some true := by kernel_rfl
theorem zr40 : zeroD Tryd.prog 40 = some [(Go.Value.int Go.IntKind.i64 0), (Go.Value.int Go.IntKind.u64 0)] := by kernel_rfl
theorem zv40 : zeroV Tryd.prog 40 = some (.agg #[(Go.Value.int Go.IntKind.i64 0), (Go.Value.int Go.IntKind.u64 0)]) := by kernel_rfl
theorem u45 : Tryd.prog.underlying 45 = some (Go.TypeDesc.slice 3) := by kernel_rfl
theorem z45 : sizeD Tryd.prog 45 = some 1 := by kernel_rfl
theorem a45 : aggD Tryd.prog 45 = some false := by kernel_rfl
theorem zr45 : zeroD Tryd.prog 45 = some [(fzV 2 #[])] := by kernel_rfl
theorem zv45 : zeroV Tryd.prog 45 = some (fzV 2 #[]) := by kernel_rfl
theorem u46 : Tryd.prog.underlying 46 = some (Go.TypeDesc.slice 38) := by kernel_rfl
theorem z46 : sizeD Tryd.prog 46 = some 1 := by kernel_rfl
theorem a46 : aggD Tryd.prog 46 = some false := by kernel_rfl
theorem zr46 : zeroD Tryd.prog 46 = some [(fzV 2 #[])] := by kernel_rfl
theorem zv46 : zeroV Tryd.prog 46 = some (fzV 2 #[]) := by kernel_rfl
theorem u48 : Tryd.prog.underlying 48 = some (Go.TypeDesc.slice 22) := by kernel_rfl
theorem z48 : sizeD Tryd.prog 48 = some 1 := by kernel_rfl
theorem a48 : aggD Tryd.prog 48 = some false := by kernel_rfl
theorem zr48 : zeroD Tryd.prog 48 = some [(fzV 2 #[])] := by kernel_rfl
theorem zv48 : zeroV Tryd.prog 48 = some (fzV 2 #[]) := by kernel_rfl
theorem u61 : Tryd.prog.underlying 61 = some (Go.TypeDesc.struct #[{ name := "many", type := 3, offset := 0, embedded := false, tag := "", pkgPath := "tidepole/chunk", byteOffset := 0 }, { name := "from", type := 3, offset := 1, embedded := false, tag := "", pkgPath := "tidepole/chunk", byteOffset := 8 }, { name := "end", type := 3, offset := 2, embedded := false, tag := "", pkgPath := "tidepole/chunk", byteOffset := 16 }]) := by kernel_rfl
theorem z61 : sizeD Tryd.prog 61 = some 3 := by kernel_rfl
theorem a61 : aggD Tryd.prog 61 = some true := by kernel_rfl
theorem zr61 : zeroD Tryd.prog 61 = some [(Go.Value.int Go.IntKind.i64 0), (Go.Value.int Go.IntKind.i64 0), (Go.Value.int Go.IntKind.i64 0)] := by kernel_rfl
theorem zv61 : zeroV Tryd.prog 61 = some (.agg #[(Go.Value.int Go.IntKind.i64 0), (Go.Value.int Go.IntKind.i64 0), (Go.Value.int Go.IntKind.i64 0)]) := by kernel_rfl
theorem u64 : Tryd.prog.underlying 64 = some (Go.TypeDesc.pointer 120) := by kernel_rfl
theorem z64 : sizeD Tryd.prog 64 = some 1 := by kernel_rfl
theorem a64 : aggD Tryd.prog 64 = some false := by kernel_rfl
theorem zr64 : zeroD Tryd.prog 64 = some [(Go.Value.pointer none)] := by kernel_rfl
theorem zv64 : zeroV Tryd.prog 64 = some (Go.Value.pointer none) := by kernel_rfl
theorem u100 : Tryd.prog.underlying 100 = some (Go.TypeDesc.struct #[{ name := "N", type := 3, offset := 0, embedded := false, tag := "", pkgPath := "", byteOffset := 0 }, { name := "Last", type := 38, offset := 1, embedded := false, tag := "", pkgPath := "", byteOffset := 8 }, { name := "Lead", type := 3, offset := 2, embedded := false, tag := "", pkgPath := "", byteOffset := 16 }, { name := "Trail", type := 3, offset := 3, embedded := false, tag := "", pkgPath := "", byteOffset := 24 }]) := by kernel_rfl
theorem z100 : sizeD Tryd.prog 100 = some 4 := by kernel_rfl
theorem a100 : aggD Tryd.prog 100 = some true := by kernel_rfl
theorem zr100 : zeroD Tryd.prog 100 = some [(Go.Value.int Go.IntKind.i64 0), (Go.Value.int Go.IntKind.u64 0), (Go.Value.int Go.IntKind.i64 0), (Go.Value.int Go.IntKind.i64 0)] := by kernel_rfl
theorem zv100 : zeroV Tryd.prog 100 = some (.agg #[(Go.Value.int Go.IntKind.i64 0), (Go.Value.int Go.IntKind.u64 0), (Go.Value.int Go.IntKind.i64 0), (Go.Value.int Go.IntKind.i64 0)]) := by kernel_rfl
theorem u102 : Tryd.prog.underlying 102 = some (Go.TypeDesc.struct #[{ name := "N", type := 3, offset := 0, embedded := false, tag := "", pkgPath := "", byteOffset := 0 }, { name := "Last", type := 3, offset := 1, embedded := false, tag := "", pkgPath := "", byteOffset := 8 }, { name := "Delta", type := 3, offset := 2, embedded := false, tag := "", pkgPath := "", byteOffset := 16 }]) := by kernel_rfl
theorem z102 : sizeD Tryd.prog 102 = some 3 := by kernel_rfl
theorem a102 : aggD Tryd.prog 102 = some true := by kernel_rfl
theorem zr102 : zeroD Tryd.prog 102 = some [(Go.Value.int Go.IntKind.i64 0), (Go.Value.int Go.IntKind.i64 0), (Go.Value.int Go.IntKind.i64 0)] := by kernel_rfl
theorem zv102 : zeroV Tryd.prog 102 = some (.agg #[(Go.Value.int Go.IntKind.i64 0), (Go.Value.int Go.IntKind.i64 0), (Go.Value.int Go.IntKind.i64 0)]) := by kernel_rfl
theorem u104 : Tryd.prog.underlying 104 = some (Go.TypeDesc.struct #[{ name := "times", type := 102, offset := 0, embedded := false, tag := "", pkgPath := "tidepole/chunk", byteOffset := 0 }, { name := "values", type := 100, offset := 3, embedded := false, tag := "", pkgPath := "tidepole/chunk", byteOffset := 24 }]) := by kernel_rfl
theorem z104 : sizeD Tryd.prog 104 = some 7 := by kernel_rfl
theorem a104 : aggD Tryd.prog 104 = some true := by kernel_rfl
theorem zr104 : zeroD Tryd.prog 104 = some [(Go.Value.int Go.IntKind.i64 0), (Go.Value.int Go.IntKind.i64 0), (Go.Value.int Go.IntKind.i64 0), (Go.Value.int Go.IntKind.i64 0), (Go.Value.int Go.IntKind.u64 0), (Go.Value.int Go.IntKind.i64 0), (Go.Value.int Go.IntKind.i64 0)] := by kernel_rfl
theorem zv104 : zeroV Tryd.prog 104 = some (.agg #[(Go.Value.int Go.IntKind.i64 0), (Go.Value.int Go.IntKind.i64 0), (Go.Value.int Go.IntKind.i64 0), (Go.Value.int Go.IntKind.i64 0), (Go.Value.int Go.IntKind.u64 0), (Go.Value.int Go.IntKind.i64 0), (Go.Value.int Go.IntKind.i64 0)]) := by kernel_rfl
theorem u105 : Tryd.prog.underlying 105 = some (Go.TypeDesc.pointer 140) := by kernel_rfl
theorem z105 : sizeD Tryd.prog 105 = some 1 := by kernel_rfl
theorem a105 : aggD Tryd.prog 105 = some false := by kernel_rfl
theorem zr105 : zeroD Tryd.prog 105 = some [(Go.Value.pointer none)] := by kernel_rfl
theorem zv105 : zeroV Tryd.prog 105 = some (Go.Value.pointer none) := by kernel_rfl
theorem u108 : Tryd.prog.underlying 108 = some (Go.TypeDesc.struct #[{ name := "states", type := 104, offset := 0, embedded := true, tag := "", pkgPath := "tidepole/chunk", byteOffset := 0 }, { name := "w", type := 105, offset := 7, embedded := false, tag := "", pkgPath := "tidepole/chunk", byteOffset := 56 }]) := by kernel_rfl
theorem z108 : sizeD Tryd.prog 108 = some 8 := by kernel_rfl
theorem a108 : aggD Tryd.prog 108 = some true := by kernel_rfl
theorem zr108 : zeroD Tryd.prog 108 = some [(Go.Value.int Go.IntKind.i64 0), (Go.Value.int Go.IntKind.i64 0), (Go.Value.int Go.IntKind.i64 0), (Go.Value.int Go.IntKind.i64 0), (Go.Value.int Go.IntKind.u64 0), (Go.Value.int Go.IntKind.i64 0), (Go.Value.int Go.IntKind.i64 0), (Go.Value.pointer none)] := by kernel_rfl
theorem zv108 : zeroV Tryd.prog 108 = some (.agg #[(Go.Value.int Go.IntKind.i64 0), (Go.Value.int Go.IntKind.i64 0), (Go.Value.int Go.IntKind.i64 0), (Go.Value.int Go.IntKind.i64 0), (Go.Value.int Go.IntKind.u64 0), (Go.Value.int Go.IntKind.i64 0), (Go.Value.int Go.IntKind.i64 0), (Go.Value.pointer none)]) := by kernel_rfl
theorem u120 : Tryd.prog.underlying 120 = some (Go.TypeDesc.struct #[{ name := "bytes", type := 22, offset := 0, embedded := false, tag := "", pkgPath := "tidepole/bits", byteOffset := 0 }, { name := "at", type := 3, offset := 1, embedded := false, tag := "", pkgPath := "tidepole/bits", byteOffset := 24 }, { name := "made", type := 4, offset := 2, embedded := false, tag := "", pkgPath := "tidepole/bits", byteOffset := 32 }]) := by kernel_rfl
theorem z120 : sizeD Tryd.prog 120 = some 3 := by kernel_rfl
theorem a120 : aggD Tryd.prog 120 = some true := by kernel_rfl
theorem zr120 : zeroD Tryd.prog 120 = some [(fzV 2 #[]), (Go.Value.int Go.IntKind.i64 0), (Go.Value.bool false)] := by kernel_rfl
theorem zv120 : zeroV Tryd.prog 120 = some (.agg #[(fzV 2 #[]), (Go.Value.int Go.IntKind.i64 0), (Go.Value.bool false)]) := by kernel_rfl
theorem u127 : Tryd.prog.underlying 127 = some (Go.TypeDesc.int Go.IntKind.u32) := by kernel_rfl
theorem z127 : sizeD Tryd.prog 127 = some 1 := by kernel_rfl
theorem a127 : aggD Tryd.prog 127 = some false := by kernel_rfl
theorem zr127 : zeroD Tryd.prog 127 = some [(Go.Value.int Go.IntKind.u32 0)] := by kernel_rfl
theorem zv127 : zeroV Tryd.prog 127 = some (Go.Value.int Go.IntKind.u32 0) := by kernel_rfl
theorem u138 : Tryd.prog.underlying 138 = some (Go.TypeDesc.struct #[{ name := "bytes", type := 22, offset := 0, embedded := false, tag := "", pkgPath := "tidepole/bits", byteOffset := 0 }, { name := "used", type := 3, offset := 1, embedded := false, tag := "", pkgPath := "tidepole/bits", byteOffset := 24 }, { name := "made", type := 4, offset := 2, embedded := false, tag := "", pkgPath := "tidepole/bits", byteOffset := 32 }]) := by kernel_rfl
theorem z138 : sizeD Tryd.prog 138 = some 3 := by kernel_rfl
theorem a138 : aggD Tryd.prog 138 = some true := by kernel_rfl
theorem zr138 : zeroD Tryd.prog 138 = some [(fzV 2 #[]), (Go.Value.int Go.IntKind.i64 0), (Go.Value.bool false)] := by kernel_rfl
theorem zv138 : zeroV Tryd.prog 138 = some (.agg #[(fzV 2 #[]), (Go.Value.int Go.IntKind.i64 0), (Go.Value.bool false)]) := by kernel_rfl
theorem u140 : Tryd.prog.underlying 140 = some (Go.TypeDesc.struct #[{ name := "buffer", type := 138, offset := 0, embedded := true, tag := "", pkgPath := "tidepole/bits", byteOffset := 0 }]) := by kernel_rfl
theorem z140 : sizeD Tryd.prog 140 = some 3 := by kernel_rfl
theorem a140 : aggD Tryd.prog 140 = some true := by kernel_rfl
theorem zr140 : zeroD Tryd.prog 140 = some [(fzV 2 #[]), (Go.Value.int Go.IntKind.i64 0), (Go.Value.bool false)] := by kernel_rfl
theorem zv140 : zeroV Tryd.prog 140 = some (.agg #[(fzV 2 #[]), (Go.Value.int Go.IntKind.i64 0), (Go.Value.bool false)]) := by kernel_rfl
theorem u147 : Tryd.prog.underlying 147 = some (Go.TypeDesc.struct #[{ name := "ones", type := 3, offset := 0, embedded := false, tag := "", pkgPath := "tidepole/stamp", byteOffset := 0 }, { name := "end", type := 3, offset := 1, embedded := false, tag := "", pkgPath := "tidepole/stamp", byteOffset := 8 }, { name := "bits", type := 3, offset := 2, embedded := false, tag := "", pkgPath := "tidepole/stamp", byteOffset := 16 }]) := by kernel_rfl
theorem z147 : sizeD Tryd.prog 147 = some 3 := by kernel_rfl
theorem a147 : aggD Tryd.prog 147 = some true := by kernel_rfl
theorem zr147 : zeroD Tryd.prog 147 = some [(Go.Value.int Go.IntKind.i64 0), (Go.Value.int Go.IntKind.i64 0), (Go.Value.int Go.IntKind.i64 0)] := by kernel_rfl
theorem zv147 : zeroV Tryd.prog 147 = some (.agg #[(Go.Value.int Go.IntKind.i64 0), (Go.Value.int Go.IntKind.i64 0), (Go.Value.int Go.IntKind.i64 0)]) := by kernel_rfl
theorem u148 : Tryd.prog.underlying 148 = some (Go.TypeDesc.array 5 147) := by kernel_rfl
theorem z148 : sizeD Tryd.prog 148 = some 15 := by kernel_rfl
theorem a148 : aggD Tryd.prog 148 = some true := by kernel_rfl
theorem zr148 : zeroD Tryd.prog 148 = some [(Go.Value.int Go.IntKind.i64 0), (Go.Value.int Go.IntKind.i64 0), (Go.Value.int Go.IntKind.i64 0), (Go.Value.int Go.IntKind.i64 0), (Go.Value.int Go.IntKind.i64 0), (Go.Value.int Go.IntKind.i64 0), (Go.Value.int Go.IntKind.i64 0), (Go.Value.int Go.IntKind.i64 0), (Go.Value.int Go.IntKind.i64 0), (Go.Value.int Go.IntKind.i64 0), (Go.Value.int Go.IntKind.i64 0), (Go.Value.int Go.IntKind.i64 0), (Go.Value.int Go.IntKind.i64 0), (Go.Value.int Go.IntKind.i64 0), (Go.Value.int Go.IntKind.i64 0)] := by kernel_rfl
theorem zv148 : zeroV Tryd.prog 148 = some (.agg #[(Go.Value.int Go.IntKind.i64 0), (Go.Value.int Go.IntKind.i64 0), (Go.Value.int Go.IntKind.i64 0), (Go.Value.int Go.IntKind.i64 0), (Go.Value.int Go.IntKind.i64 0), (Go.Value.int Go.IntKind.i64 0), (Go.Value.int Go.IntKind.i64 0), (Go.Value.int Go.IntKind.i64 0), (Go.Value.int Go.IntKind.i64 0), (Go.Value.int Go.IntKind.i64 0), (Go.Value.int Go.IntKind.i64 0), (Go.Value.int Go.IntKind.i64 0), (Go.Value.int Go.IntKind.i64 0), (Go.Value.int Go.IntKind.i64 0), (Go.Value.int Go.IntKind.i64 0)]) := by kernel_rfl
theorem u151 : Tryd.prog.underlying 151 = some (Go.TypeDesc.struct #[{ name := "lead", type := 3, offset := 0, embedded := false, tag := "", pkgPath := "tidepole/xor", byteOffset := 0 }, { name := "trail", type := 3, offset := 1, embedded := false, tag := "", pkgPath := "tidepole/xor", byteOffset := 8 }]) := by kernel_rfl
theorem z151 : sizeD Tryd.prog 151 = some 2 := by kernel_rfl
theorem a151 : aggD Tryd.prog 151 = some true := by kernel_rfl
theorem zr151 : zeroD Tryd.prog 151 = some [(Go.Value.int Go.IntKind.i64 0), (Go.Value.int Go.IntKind.i64 0)] := by kernel_rfl
theorem zv151 : zeroV Tryd.prog 151 = some (.agg #[(Go.Value.int Go.IntKind.i64 0), (Go.Value.int Go.IntKind.i64 0)]) := by kernel_rfl
theorem u155 : Tryd.prog.underlying 155 = some (Go.TypeDesc.struct #[{ name := "x", type := 38, offset := 0, embedded := false, tag := "", pkgPath := "tidepole/xor", byteOffset := 0 }, { name := "n", type := 3, offset := 1, embedded := false, tag := "", pkgPath := "tidepole/xor", byteOffset := 8 }]) := by kernel_rfl
theorem z155 : sizeD Tryd.prog 155 = some 2 := by kernel_rfl
theorem a155 : aggD Tryd.prog 155 = some true := by kernel_rfl
theorem zr155 : zeroD Tryd.prog 155 = some [(Go.Value.int Go.IntKind.u64 0), (Go.Value.int Go.IntKind.i64 0)] := by kernel_rfl
theorem zv155 : zeroV Tryd.prog 155 = some (.agg #[(Go.Value.int Go.IntKind.u64 0), (Go.Value.int Go.IntKind.i64 0)]) := by kernel_rfl
theorem u170 : Tryd.prog.underlying 170 = some (Go.TypeDesc.slice 155) := by kernel_rfl
theorem z170 : sizeD Tryd.prog 170 = some 1 := by kernel_rfl
theorem a170 : aggD Tryd.prog 170 = some false := by kernel_rfl
theorem zr170 : zeroD Tryd.prog 170 = some [(fzV 2 #[])] := by kernel_rfl
theorem zv170 : zeroV Tryd.prog 170 = some (fzV 2 #[]) := by kernel_rfl
theorem u176 : Tryd.prog.underlying 176 = some (Go.TypeDesc.array 64 5) := by kernel_rfl
theorem z176 : sizeD Tryd.prog 176 = some 64 := by kernel_rfl
theorem a176 : aggD Tryd.prog 176 = some true := by kernel_rfl
theorem ixs22 {α : Type} {enc : α → List Value} {m i : Nat} {k : IntKind} {xs : List α} (hl : ∀ x, (enc x).length = 1) (hi : i < xs.length) : indexAddrD Tryd.prog 22 (sl enc m xs) (.int k (i : Int)) = some (fpV (enc xs[i]).toArray 0) := index_sl u22 z5 hl hi
theorem apn22 {α : Type} {H : HeapI} {enc : α → List Value} {s : St H} {m m2 : Nat} {xs ys : List α} (hl : ∀ x, (enc x).length = 1) (hm : m = 1 ∨ m = 2) (hb : (xs.length + ys.length) * 1 ≤ 140737488355328) : appD Tryd.prog false s 22 22 (sl enc m xs) (sl enc m2 ys) = some (sl enc (s.n + 3) (xs ++ ys), newD s (.tok (xs.length + ys.length) 1)) :=
  app_new (i := Tryd.t5) u22 u22 (by kernel_rfl) zr5 rfl (by decide +kernel) hl hm hb (Nat.le_trans (Nat.le_mul_of_pos_right _ (by decide)) hb)
theorem apt22 {α : Type} {H : HeapI} {enc : α → List Value} {s : St H} {id m2 : Nat} {xs ys : List α} (hl : ∀ x, (enc x).length = 1) (ht : H.get s.h id = some (.tok xs.length 1)) (hb : (xs.length + ys.length) * 1 ≤ 140737488355328) : appD Tryd.prog false s 22 22 (sl enc (id + 3) xs) (sl enc m2 ys) = some (sl enc (id + 3) (xs ++ ys), putD s id (.tok (xs.length + ys.length) 1)) :=
  app_tok (i := Tryd.t5) u22 u22 (by kernel_rfl) zr5 rfl (by decide +kernel) hl ht hb (Nat.le_trans (Nat.le_mul_of_pos_right _ (by decide)) hb)
theorem ixs24 {α : Type} {enc : α → List Value} {m i : Nat} {k : IntKind} {xs : List α} (hl : ∀ x, (enc x).length = 2) (hi : i < xs.length) : indexAddrD Tryd.prog 24 (sl enc m xs) (.int k (i : Int)) = some (fpV (enc xs[i]).toArray 0) := index_sl u24 z40 hl hi
theorem apn24 {α : Type} {H : HeapI} {enc : α → List Value} {s : St H} {m m2 : Nat} {xs ys : List α} (hl : ∀ x, (enc x).length = 2) (hm : m = 1 ∨ m = 2) (hb : (xs.length + ys.length) * 16 ≤ 140737488355328) : appD Tryd.prog false s 24 24 (sl enc m xs) (sl enc m2 ys) = some (sl enc (s.n + 3) (xs ++ ys), newD s (.tok (xs.length + ys.length) 2)) :=
  app_new (i := Tryd.t40) u24 u24 (by kernel_rfl) zr40 rfl (by decide +kernel) hl hm hb (Nat.le_trans (Nat.le_mul_of_pos_right _ (by decide)) hb)
theorem apt24 {α : Type} {H : HeapI} {enc : α → List Value} {s : St H} {id m2 : Nat} {xs ys : List α} (hl : ∀ x, (enc x).length = 2) (ht : H.get s.h id = some (.tok xs.length 2)) (hb : (xs.length + ys.length) * 16 ≤ 140737488355328) : appD Tryd.prog false s 24 24 (sl enc (id + 3) xs) (sl enc m2 ys) = some (sl enc (id + 3) (xs ++ ys), putD s id (.tok (xs.length + ys.length) 2)) :=
  app_tok (i := Tryd.t40) u24 u24 (by kernel_rfl) zr40 rfl (by decide +kernel) hl ht hb (Nat.le_trans (Nat.le_mul_of_pos_right _ (by decide)) hb)
theorem fld40_0 (id : Nat) : fieldAddrD Tryd.prog 40 (.pointer (some ⟨id, 0, none⟩)) 0 = some (.pointer (some ⟨id, 0, none⟩)) := (field_own (n := 1) (fd := { name := "T", type := 3, offset := 0, embedded := false, tag := "", pkgPath := "", byteOffset := 0 }) u40 rfl z3 (by decide)).trans (by rw [Nat.zero_add])
theorem flf40_0 (cs : Array Value) : fieldAddrD Tryd.prog 40 (fpV cs 0) 0 = some (fpV cs 0) := (field_fp (n := 1) (fd := { name := "T", type := 3, offset := 0, embedded := false, tag := "", pkgPath := "", byteOffset := 0 }) u40 rfl z3 (by decide)).trans (by rw [Nat.zero_add])
theorem fld40_1 (id : Nat) : fieldAddrD Tryd.prog 40 (.pointer (some ⟨id, 0, none⟩)) 1 = some (.pointer (some ⟨id, 1, none⟩)) := (field_own (n := 1) (fd := { name := "V", type := 38, offset := 1, embedded := false, tag := "", pkgPath := "", byteOffset := 8 }) u40 rfl z38 (by decide)).trans (by rw [Nat.zero_add])
theorem flf40_1 (cs : Array Value) : fieldAddrD Tryd.prog 40 (fpV cs 0) 1 = some (fpV cs 1) := (field_fp (n := 1) (fd := { name := "V", type := 38, offset := 1, embedded := false, tag := "", pkgPath := "", byteOffset := 8 }) u40 rfl z38 (by decide)).trans (by rw [Nat.zero_add])
theorem ixs45 {α : Type} {enc : α → List Value} {m i : Nat} {k : IntKind} {xs : List α} (hl : ∀ x, (enc x).length = 1) (hi : i < xs.length) : indexAddrD Tryd.prog 45 (sl enc m xs) (.int k (i : Int)) = some (fpV (enc xs[i]).toArray 0) := index_sl u45 z3 hl hi
theorem apn45 {α : Type} {H : HeapI} {enc : α → List Value} {s : St H} {m m2 : Nat} {xs ys : List α} (hl : ∀ x, (enc x).length = 1) (hm : m = 1 ∨ m = 2) (hb : (xs.length + ys.length) * 8 ≤ 140737488355328) : appD Tryd.prog false s 45 45 (sl enc m xs) (sl enc m2 ys) = some (sl enc (s.n + 3) (xs ++ ys), newD s (.tok (xs.length + ys.length) 1)) :=
  app_new (i := Tryd.t3) u45 u45 (by kernel_rfl) zr3 rfl (by decide +kernel) hl hm hb (Nat.le_trans (Nat.le_mul_of_pos_right _ (by decide)) hb)
theorem apt45 {α : Type} {H : HeapI} {enc : α → List Value} {s : St H} {id m2 : Nat} {xs ys : List α} (hl : ∀ x, (enc x).length = 1) (ht : H.get s.h id = some (.tok xs.length 1)) (hb : (xs.length + ys.length) * 8 ≤ 140737488355328) : appD Tryd.prog false s 45 45 (sl enc (id + 3) xs) (sl enc m2 ys) = some (sl enc (id + 3) (xs ++ ys), putD s id (.tok (xs.length + ys.length) 1)) :=
  app_tok (i := Tryd.t3) u45 u45 (by kernel_rfl) zr3 rfl (by decide +kernel) hl ht hb (Nat.le_trans (Nat.le_mul_of_pos_right _ (by decide)) hb)
theorem ixs46 {α : Type} {enc : α → List Value} {m i : Nat} {k : IntKind} {xs : List α} (hl : ∀ x, (enc x).length = 1) (hi : i < xs.length) : indexAddrD Tryd.prog 46 (sl enc m xs) (.int k (i : Int)) = some (fpV (enc xs[i]).toArray 0) := index_sl u46 z38 hl hi
theorem apn46 {α : Type} {H : HeapI} {enc : α → List Value} {s : St H} {m m2 : Nat} {xs ys : List α} (hl : ∀ x, (enc x).length = 1) (hm : m = 1 ∨ m = 2) (hb : (xs.length + ys.length) * 8 ≤ 140737488355328) : appD Tryd.prog false s 46 46 (sl enc m xs) (sl enc m2 ys) = some (sl enc (s.n + 3) (xs ++ ys), newD s (.tok (xs.length + ys.length) 1)) :=
  app_new (i := Tryd.t38) u46 u46 (by kernel_rfl) zr38 rfl (by decide +kernel) hl hm hb (Nat.le_trans (Nat.le_mul_of_pos_right _ (by decide)) hb)
theorem apt46 {α : Type} {H : HeapI} {enc : α → List Value} {s : St H} {id m2 : Nat} {xs ys : List α} (hl : ∀ x, (enc x).length = 1) (ht : H.get s.h id = some (.tok xs.length 1)) (hb : (xs.length + ys.length) * 8 ≤ 140737488355328) : appD Tryd.prog false s 46 46 (sl enc (id + 3) xs) (sl enc m2 ys) = some (sl enc (id + 3) (xs ++ ys), putD s id (.tok (xs.length + ys.length) 1)) :=
  app_tok (i := Tryd.t38) u46 u46 (by kernel_rfl) zr38 rfl (by decide +kernel) hl ht hb (Nat.le_trans (Nat.le_mul_of_pos_right _ (by decide)) hb)
theorem ixs48 {α : Type} {enc : α → List Value} {m i : Nat} {k : IntKind} {xs : List α} (hl : ∀ x, (enc x).length = 1) (hi : i < xs.length) : indexAddrD Tryd.prog 48 (sl enc m xs) (.int k (i : Int)) = some (fpV (enc xs[i]).toArray 0) := index_sl u48 z22 hl hi
theorem apn48 {α : Type} {H : HeapI} {enc : α → List Value} {s : St H} {m m2 : Nat} {xs ys : List α} (hl : ∀ x, (enc x).length = 1) (hm : m = 1 ∨ m = 2) (hb : (xs.length + ys.length) * 24 ≤ 140737488355328) : appD Tryd.prog false s 48 48 (sl enc m xs) (sl enc m2 ys) = some (sl enc (s.n + 3) (xs ++ ys), newD s (.tok (xs.length + ys.length) 1)) :=
  app_new (i := Tryd.t22) u48 u48 (by kernel_rfl) zr22 rfl (by decide +kernel) hl hm hb (Nat.le_trans (Nat.le_mul_of_pos_right _ (by decide)) hb)
theorem apt48 {α : Type} {H : HeapI} {enc : α → List Value} {s : St H} {id m2 : Nat} {xs ys : List α} (hl : ∀ x, (enc x).length = 1) (ht : H.get s.h id = some (.tok xs.length 1)) (hb : (xs.length + ys.length) * 24 ≤ 140737488355328) : appD Tryd.prog false s 48 48 (sl enc (id + 3) xs) (sl enc m2 ys) = some (sl enc (id + 3) (xs ++ ys), putD s id (.tok (xs.length + ys.length) 1)) :=
  app_tok (i := Tryd.t22) u48 u48 (by kernel_rfl) zr22 rfl (by decide +kernel) hl ht hb (Nat.le_trans (Nat.le_mul_of_pos_right _ (by decide)) hb)
theorem fld61_0 (id : Nat) : fieldAddrD Tryd.prog 61 (.pointer (some ⟨id, 0, none⟩)) 0 = some (.pointer (some ⟨id, 0, none⟩)) := (field_own (n := 1) (fd := { name := "many", type := 3, offset := 0, embedded := false, tag := "", pkgPath := "tidepole/chunk", byteOffset := 0 }) u61 rfl z3 (by decide)).trans (by rw [Nat.zero_add])
theorem flf61_0 (cs : Array Value) : fieldAddrD Tryd.prog 61 (fpV cs 0) 0 = some (fpV cs 0) := (field_fp (n := 1) (fd := { name := "many", type := 3, offset := 0, embedded := false, tag := "", pkgPath := "tidepole/chunk", byteOffset := 0 }) u61 rfl z3 (by decide)).trans (by rw [Nat.zero_add])
theorem fld61_1 (id : Nat) : fieldAddrD Tryd.prog 61 (.pointer (some ⟨id, 0, none⟩)) 1 = some (.pointer (some ⟨id, 1, none⟩)) := (field_own (n := 1) (fd := { name := "from", type := 3, offset := 1, embedded := false, tag := "", pkgPath := "tidepole/chunk", byteOffset := 8 }) u61 rfl z3 (by decide)).trans (by rw [Nat.zero_add])
theorem flf61_1 (cs : Array Value) : fieldAddrD Tryd.prog 61 (fpV cs 0) 1 = some (fpV cs 1) := (field_fp (n := 1) (fd := { name := "from", type := 3, offset := 1, embedded := false, tag := "", pkgPath := "tidepole/chunk", byteOffset := 8 }) u61 rfl z3 (by decide)).trans (by rw [Nat.zero_add])
theorem fld61_2 (id : Nat) : fieldAddrD Tryd.prog 61 (.pointer (some ⟨id, 0, none⟩)) 2 = some (.pointer (some ⟨id, 2, none⟩)) := (field_own (n := 1) (fd := { name := "end", type := 3, offset := 2, embedded := false, tag := "", pkgPath := "tidepole/chunk", byteOffset := 16 }) u61 rfl z3 (by decide)).trans (by rw [Nat.zero_add])
theorem flf61_2 (cs : Array Value) : fieldAddrD Tryd.prog 61 (fpV cs 0) 2 = some (fpV cs 2) := (field_fp (n := 1) (fd := { name := "end", type := 3, offset := 2, embedded := false, tag := "", pkgPath := "tidepole/chunk", byteOffset := 16 }) u61 rfl z3 (by decide)).trans (by rw [Nat.zero_add])
theorem fld100_0 (id : Nat) : fieldAddrD Tryd.prog 100 (.pointer (some ⟨id, 0, none⟩)) 0 = some (.pointer (some ⟨id, 0, none⟩)) := (field_own (n := 1) (fd := { name := "N", type := 3, offset := 0, embedded := false, tag := "", pkgPath := "", byteOffset := 0 }) u100 rfl z3 (by decide)).trans (by rw [Nat.zero_add])
theorem flf100_0 (cs : Array Value) : fieldAddrD Tryd.prog 100 (fpV cs 0) 0 = some (fpV cs 0) := (field_fp (n := 1) (fd := { name := "N", type := 3, offset := 0, embedded := false, tag := "", pkgPath := "", byteOffset := 0 }) u100 rfl z3 (by decide)).trans (by rw [Nat.zero_add])
theorem fld100_1 (id : Nat) : fieldAddrD Tryd.prog 100 (.pointer (some ⟨id, 0, none⟩)) 1 = some (.pointer (some ⟨id, 1, none⟩)) := (field_own (n := 1) (fd := { name := "Last", type := 38, offset := 1, embedded := false, tag := "", pkgPath := "", byteOffset := 8 }) u100 rfl z38 (by decide)).trans (by rw [Nat.zero_add])
theorem flf100_1 (cs : Array Value) : fieldAddrD Tryd.prog 100 (fpV cs 0) 1 = some (fpV cs 1) := (field_fp (n := 1) (fd := { name := "Last", type := 38, offset := 1, embedded := false, tag := "", pkgPath := "", byteOffset := 8 }) u100 rfl z38 (by decide)).trans (by rw [Nat.zero_add])
theorem fld100_2 (id : Nat) : fieldAddrD Tryd.prog 100 (.pointer (some ⟨id, 0, none⟩)) 2 = some (.pointer (some ⟨id, 2, none⟩)) := (field_own (n := 1) (fd := { name := "Lead", type := 3, offset := 2, embedded := false, tag := "", pkgPath := "", byteOffset := 16 }) u100 rfl z3 (by decide)).trans (by rw [Nat.zero_add])
theorem flf100_2 (cs : Array Value) : fieldAddrD Tryd.prog 100 (fpV cs 0) 2 = some (fpV cs 2) := (field_fp (n := 1) (fd := { name := "Lead", type := 3, offset := 2, embedded := false, tag := "", pkgPath := "", byteOffset := 16 }) u100 rfl z3 (by decide)).trans (by rw [Nat.zero_add])
theorem fld100_3 (id : Nat) : fieldAddrD Tryd.prog 100 (.pointer (some ⟨id, 0, none⟩)) 3 = some (.pointer (some ⟨id, 3, none⟩)) := (field_own (n := 1) (fd := { name := "Trail", type := 3, offset := 3, embedded := false, tag := "", pkgPath := "", byteOffset := 24 }) u100 rfl z3 (by decide)).trans (by rw [Nat.zero_add])
theorem flf100_3 (cs : Array Value) : fieldAddrD Tryd.prog 100 (fpV cs 0) 3 = some (fpV cs 3) := (field_fp (n := 1) (fd := { name := "Trail", type := 3, offset := 3, embedded := false, tag := "", pkgPath := "", byteOffset := 24 }) u100 rfl z3 (by decide)).trans (by rw [Nat.zero_add])
theorem fld102_0 (id : Nat) : fieldAddrD Tryd.prog 102 (.pointer (some ⟨id, 0, none⟩)) 0 = some (.pointer (some ⟨id, 0, none⟩)) := (field_own (n := 1) (fd := { name := "N", type := 3, offset := 0, embedded := false, tag := "", pkgPath := "", byteOffset := 0 }) u102 rfl z3 (by decide)).trans (by rw [Nat.zero_add])
theorem flf102_0 (cs : Array Value) : fieldAddrD Tryd.prog 102 (fpV cs 0) 0 = some (fpV cs 0) := (field_fp (n := 1) (fd := { name := "N", type := 3, offset := 0, embedded := false, tag := "", pkgPath := "", byteOffset := 0 }) u102 rfl z3 (by decide)).trans (by rw [Nat.zero_add])
theorem fld102_1 (id : Nat) : fieldAddrD Tryd.prog 102 (.pointer (some ⟨id, 0, none⟩)) 1 = some (.pointer (some ⟨id, 1, none⟩)) := (field_own (n := 1) (fd := { name := "Last", type := 3, offset := 1, embedded := false, tag := "", pkgPath := "", byteOffset := 8 }) u102 rfl z3 (by decide)).trans (by rw [Nat.zero_add])
theorem flf102_1 (cs : Array Value) : fieldAddrD Tryd.prog 102 (fpV cs 0) 1 = some (fpV cs 1) := (field_fp (n := 1) (fd := { name := "Last", type := 3, offset := 1, embedded := false, tag := "", pkgPath := "", byteOffset := 8 }) u102 rfl z3 (by decide)).trans (by rw [Nat.zero_add])
theorem fld102_2 (id : Nat) : fieldAddrD Tryd.prog 102 (.pointer (some ⟨id, 0, none⟩)) 2 = some (.pointer (some ⟨id, 2, none⟩)) := (field_own (n := 1) (fd := { name := "Delta", type := 3, offset := 2, embedded := false, tag := "", pkgPath := "", byteOffset := 16 }) u102 rfl z3 (by decide)).trans (by rw [Nat.zero_add])
theorem flf102_2 (cs : Array Value) : fieldAddrD Tryd.prog 102 (fpV cs 0) 2 = some (fpV cs 2) := (field_fp (n := 1) (fd := { name := "Delta", type := 3, offset := 2, embedded := false, tag := "", pkgPath := "", byteOffset := 16 }) u102 rfl z3 (by decide)).trans (by rw [Nat.zero_add])
theorem fld104_0 (id : Nat) : fieldAddrD Tryd.prog 104 (.pointer (some ⟨id, 0, none⟩)) 0 = some (.pointer (some ⟨id, 0, none⟩)) := (field_own (n := 3) (fd := { name := "times", type := 102, offset := 0, embedded := false, tag := "", pkgPath := "tidepole/chunk", byteOffset := 0 }) u104 rfl z102 (by decide)).trans (by rw [Nat.zero_add])
theorem flf104_0 (cs : Array Value) : fieldAddrD Tryd.prog 104 (fpV cs 0) 0 = some (fpV cs 0) := (field_fp (n := 3) (fd := { name := "times", type := 102, offset := 0, embedded := false, tag := "", pkgPath := "tidepole/chunk", byteOffset := 0 }) u104 rfl z102 (by decide)).trans (by rw [Nat.zero_add])
theorem fld104_1 (id : Nat) : fieldAddrD Tryd.prog 104 (.pointer (some ⟨id, 0, none⟩)) 1 = some (.pointer (some ⟨id, 3, none⟩)) := (field_own (n := 4) (fd := { name := "values", type := 100, offset := 3, embedded := false, tag := "", pkgPath := "tidepole/chunk", byteOffset := 24 }) u104 rfl z100 (by decide)).trans (by rw [Nat.zero_add])
theorem flf104_1 (cs : Array Value) : fieldAddrD Tryd.prog 104 (fpV cs 0) 1 = some (fpV cs 3) := (field_fp (n := 4) (fd := { name := "values", type := 100, offset := 3, embedded := false, tag := "", pkgPath := "tidepole/chunk", byteOffset := 24 }) u104 rfl z100 (by decide)).trans (by rw [Nat.zero_add])
theorem fld108_0 (id : Nat) : fieldAddrD Tryd.prog 108 (.pointer (some ⟨id, 0, none⟩)) 0 = some (.pointer (some ⟨id, 0, none⟩)) := (field_own (n := 7) (fd := { name := "states", type := 104, offset := 0, embedded := true, tag := "", pkgPath := "tidepole/chunk", byteOffset := 0 }) u108 rfl z104 (by decide)).trans (by rw [Nat.zero_add])
theorem flf108_0 (cs : Array Value) : fieldAddrD Tryd.prog 108 (fpV cs 0) 0 = some (fpV cs 0) := (field_fp (n := 7) (fd := { name := "states", type := 104, offset := 0, embedded := true, tag := "", pkgPath := "tidepole/chunk", byteOffset := 0 }) u108 rfl z104 (by decide)).trans (by rw [Nat.zero_add])
theorem fld108_1 (id : Nat) : fieldAddrD Tryd.prog 108 (.pointer (some ⟨id, 0, none⟩)) 1 = some (.pointer (some ⟨id, 7, none⟩)) := (field_own (n := 1) (fd := { name := "w", type := 105, offset := 7, embedded := false, tag := "", pkgPath := "tidepole/chunk", byteOffset := 56 }) u108 rfl z105 (by decide)).trans (by rw [Nat.zero_add])
theorem flf108_1 (cs : Array Value) : fieldAddrD Tryd.prog 108 (fpV cs 0) 1 = some (fpV cs 7) := (field_fp (n := 1) (fd := { name := "w", type := 105, offset := 7, embedded := false, tag := "", pkgPath := "tidepole/chunk", byteOffset := 56 }) u108 rfl z105 (by decide)).trans (by rw [Nat.zero_add])
theorem fld120_0 (id : Nat) : fieldAddrD Tryd.prog 120 (.pointer (some ⟨id, 0, none⟩)) 0 = some (.pointer (some ⟨id, 0, none⟩)) := (field_own (n := 1) (fd := { name := "bytes", type := 22, offset := 0, embedded := false, tag := "", pkgPath := "tidepole/bits", byteOffset := 0 }) u120 rfl z22 (by decide)).trans (by rw [Nat.zero_add])
theorem flf120_0 (cs : Array Value) : fieldAddrD Tryd.prog 120 (fpV cs 0) 0 = some (fpV cs 0) := (field_fp (n := 1) (fd := { name := "bytes", type := 22, offset := 0, embedded := false, tag := "", pkgPath := "tidepole/bits", byteOffset := 0 }) u120 rfl z22 (by decide)).trans (by rw [Nat.zero_add])
theorem fld120_1 (id : Nat) : fieldAddrD Tryd.prog 120 (.pointer (some ⟨id, 0, none⟩)) 1 = some (.pointer (some ⟨id, 1, none⟩)) := (field_own (n := 1) (fd := { name := "at", type := 3, offset := 1, embedded := false, tag := "", pkgPath := "tidepole/bits", byteOffset := 24 }) u120 rfl z3 (by decide)).trans (by rw [Nat.zero_add])
theorem flf120_1 (cs : Array Value) : fieldAddrD Tryd.prog 120 (fpV cs 0) 1 = some (fpV cs 1) := (field_fp (n := 1) (fd := { name := "at", type := 3, offset := 1, embedded := false, tag := "", pkgPath := "tidepole/bits", byteOffset := 24 }) u120 rfl z3 (by decide)).trans (by rw [Nat.zero_add])
theorem fld120_2 (id : Nat) : fieldAddrD Tryd.prog 120 (.pointer (some ⟨id, 0, none⟩)) 2 = some (.pointer (some ⟨id, 2, none⟩)) := (field_own (n := 1) (fd := { name := "made", type := 4, offset := 2, embedded := false, tag := "", pkgPath := "tidepole/bits", byteOffset := 32 }) u120 rfl z4 (by decide)).trans (by rw [Nat.zero_add])
theorem flf120_2 (cs : Array Value) : fieldAddrD Tryd.prog 120 (fpV cs 0) 2 = some (fpV cs 2) := (field_fp (n := 1) (fd := { name := "made", type := 4, offset := 2, embedded := false, tag := "", pkgPath := "tidepole/bits", byteOffset := 32 }) u120 rfl z4 (by decide)).trans (by rw [Nat.zero_add])
theorem fld138_0 (id : Nat) : fieldAddrD Tryd.prog 138 (.pointer (some ⟨id, 0, none⟩)) 0 = some (.pointer (some ⟨id, 0, none⟩)) := (field_own (n := 1) (fd := { name := "bytes", type := 22, offset := 0, embedded := false, tag := "", pkgPath := "tidepole/bits", byteOffset := 0 }) u138 rfl z22 (by decide)).trans (by rw [Nat.zero_add])
theorem flf138_0 (cs : Array Value) : fieldAddrD Tryd.prog 138 (fpV cs 0) 0 = some (fpV cs 0) := (field_fp (n := 1) (fd := { name := "bytes", type := 22, offset := 0, embedded := false, tag := "", pkgPath := "tidepole/bits", byteOffset := 0 }) u138 rfl z22 (by decide)).trans (by rw [Nat.zero_add])
theorem fld138_1 (id : Nat) : fieldAddrD Tryd.prog 138 (.pointer (some ⟨id, 0, none⟩)) 1 = some (.pointer (some ⟨id, 1, none⟩)) := (field_own (n := 1) (fd := { name := "used", type := 3, offset := 1, embedded := false, tag := "", pkgPath := "tidepole/bits", byteOffset := 24 }) u138 rfl z3 (by decide)).trans (by rw [Nat.zero_add])
theorem flf138_1 (cs : Array Value) : fieldAddrD Tryd.prog 138 (fpV cs 0) 1 = some (fpV cs 1) := (field_fp (n := 1) (fd := { name := "used", type := 3, offset := 1, embedded := false, tag := "", pkgPath := "tidepole/bits", byteOffset := 24 }) u138 rfl z3 (by decide)).trans (by rw [Nat.zero_add])
theorem fld138_2 (id : Nat) : fieldAddrD Tryd.prog 138 (.pointer (some ⟨id, 0, none⟩)) 2 = some (.pointer (some ⟨id, 2, none⟩)) := (field_own (n := 1) (fd := { name := "made", type := 4, offset := 2, embedded := false, tag := "", pkgPath := "tidepole/bits", byteOffset := 32 }) u138 rfl z4 (by decide)).trans (by rw [Nat.zero_add])
theorem flf138_2 (cs : Array Value) : fieldAddrD Tryd.prog 138 (fpV cs 0) 2 = some (fpV cs 2) := (field_fp (n := 1) (fd := { name := "made", type := 4, offset := 2, embedded := false, tag := "", pkgPath := "tidepole/bits", byteOffset := 32 }) u138 rfl z4 (by decide)).trans (by rw [Nat.zero_add])
theorem fld140_0 (id : Nat) : fieldAddrD Tryd.prog 140 (.pointer (some ⟨id, 0, none⟩)) 0 = some (.pointer (some ⟨id, 0, none⟩)) := (field_own (n := 3) (fd := { name := "buffer", type := 138, offset := 0, embedded := true, tag := "", pkgPath := "tidepole/bits", byteOffset := 0 }) u140 rfl z138 (by decide)).trans (by rw [Nat.zero_add])
theorem flf140_0 (cs : Array Value) : fieldAddrD Tryd.prog 140 (fpV cs 0) 0 = some (fpV cs 0) := (field_fp (n := 3) (fd := { name := "buffer", type := 138, offset := 0, embedded := true, tag := "", pkgPath := "tidepole/bits", byteOffset := 0 }) u140 rfl z138 (by decide)).trans (by rw [Nat.zero_add])
theorem fld147_0 (id : Nat) : fieldAddrD Tryd.prog 147 (.pointer (some ⟨id, 0, none⟩)) 0 = some (.pointer (some ⟨id, 0, none⟩)) := (field_own (n := 1) (fd := { name := "ones", type := 3, offset := 0, embedded := false, tag := "", pkgPath := "tidepole/stamp", byteOffset := 0 }) u147 rfl z3 (by decide)).trans (by rw [Nat.zero_add])
theorem flf147_0 (cs : Array Value) : fieldAddrD Tryd.prog 147 (fpV cs 0) 0 = some (fpV cs 0) := (field_fp (n := 1) (fd := { name := "ones", type := 3, offset := 0, embedded := false, tag := "", pkgPath := "tidepole/stamp", byteOffset := 0 }) u147 rfl z3 (by decide)).trans (by rw [Nat.zero_add])
theorem fld147_1 (id : Nat) : fieldAddrD Tryd.prog 147 (.pointer (some ⟨id, 0, none⟩)) 1 = some (.pointer (some ⟨id, 1, none⟩)) := (field_own (n := 1) (fd := { name := "end", type := 3, offset := 1, embedded := false, tag := "", pkgPath := "tidepole/stamp", byteOffset := 8 }) u147 rfl z3 (by decide)).trans (by rw [Nat.zero_add])
theorem flf147_1 (cs : Array Value) : fieldAddrD Tryd.prog 147 (fpV cs 0) 1 = some (fpV cs 1) := (field_fp (n := 1) (fd := { name := "end", type := 3, offset := 1, embedded := false, tag := "", pkgPath := "tidepole/stamp", byteOffset := 8 }) u147 rfl z3 (by decide)).trans (by rw [Nat.zero_add])
theorem fld147_2 (id : Nat) : fieldAddrD Tryd.prog 147 (.pointer (some ⟨id, 0, none⟩)) 2 = some (.pointer (some ⟨id, 2, none⟩)) := (field_own (n := 1) (fd := { name := "bits", type := 3, offset := 2, embedded := false, tag := "", pkgPath := "tidepole/stamp", byteOffset := 16 }) u147 rfl z3 (by decide)).trans (by rw [Nat.zero_add])
theorem flf147_2 (cs : Array Value) : fieldAddrD Tryd.prog 147 (fpV cs 0) 2 = some (fpV cs 2) := (field_fp (n := 1) (fd := { name := "bits", type := 3, offset := 2, embedded := false, tag := "", pkgPath := "tidepole/stamp", byteOffset := 16 }) u147 rfl z3 (by decide)).trans (by rw [Nat.zero_add])
theorem fld151_0 (id : Nat) : fieldAddrD Tryd.prog 151 (.pointer (some ⟨id, 0, none⟩)) 0 = some (.pointer (some ⟨id, 0, none⟩)) := (field_own (n := 1) (fd := { name := "lead", type := 3, offset := 0, embedded := false, tag := "", pkgPath := "tidepole/xor", byteOffset := 0 }) u151 rfl z3 (by decide)).trans (by rw [Nat.zero_add])
theorem flf151_0 (cs : Array Value) : fieldAddrD Tryd.prog 151 (fpV cs 0) 0 = some (fpV cs 0) := (field_fp (n := 1) (fd := { name := "lead", type := 3, offset := 0, embedded := false, tag := "", pkgPath := "tidepole/xor", byteOffset := 0 }) u151 rfl z3 (by decide)).trans (by rw [Nat.zero_add])
theorem fld151_1 (id : Nat) : fieldAddrD Tryd.prog 151 (.pointer (some ⟨id, 0, none⟩)) 1 = some (.pointer (some ⟨id, 1, none⟩)) := (field_own (n := 1) (fd := { name := "trail", type := 3, offset := 1, embedded := false, tag := "", pkgPath := "tidepole/xor", byteOffset := 8 }) u151 rfl z3 (by decide)).trans (by rw [Nat.zero_add])
theorem flf151_1 (cs : Array Value) : fieldAddrD Tryd.prog 151 (fpV cs 0) 1 = some (fpV cs 1) := (field_fp (n := 1) (fd := { name := "trail", type := 3, offset := 1, embedded := false, tag := "", pkgPath := "tidepole/xor", byteOffset := 8 }) u151 rfl z3 (by decide)).trans (by rw [Nat.zero_add])
theorem fld155_0 (id : Nat) : fieldAddrD Tryd.prog 155 (.pointer (some ⟨id, 0, none⟩)) 0 = some (.pointer (some ⟨id, 0, none⟩)) := (field_own (n := 1) (fd := { name := "x", type := 38, offset := 0, embedded := false, tag := "", pkgPath := "tidepole/xor", byteOffset := 0 }) u155 rfl z38 (by decide)).trans (by rw [Nat.zero_add])
theorem flf155_0 (cs : Array Value) : fieldAddrD Tryd.prog 155 (fpV cs 0) 0 = some (fpV cs 0) := (field_fp (n := 1) (fd := { name := "x", type := 38, offset := 0, embedded := false, tag := "", pkgPath := "tidepole/xor", byteOffset := 0 }) u155 rfl z38 (by decide)).trans (by rw [Nat.zero_add])
theorem fld155_1 (id : Nat) : fieldAddrD Tryd.prog 155 (.pointer (some ⟨id, 0, none⟩)) 1 = some (.pointer (some ⟨id, 1, none⟩)) := (field_own (n := 1) (fd := { name := "n", type := 3, offset := 1, embedded := false, tag := "", pkgPath := "tidepole/xor", byteOffset := 8 }) u155 rfl z3 (by decide)).trans (by rw [Nat.zero_add])
theorem flf155_1 (cs : Array Value) : fieldAddrD Tryd.prog 155 (fpV cs 0) 1 = some (fpV cs 1) := (field_fp (n := 1) (fd := { name := "n", type := 3, offset := 1, embedded := false, tag := "", pkgPath := "tidepole/xor", byteOffset := 8 }) u155 rfl z3 (by decide)).trans (by rw [Nat.zero_add])
theorem ixs170 {α : Type} {enc : α → List Value} {m i : Nat} {k : IntKind} {xs : List α} (hl : ∀ x, (enc x).length = 2) (hi : i < xs.length) : indexAddrD Tryd.prog 170 (sl enc m xs) (.int k (i : Int)) = some (fpV (enc xs[i]).toArray 0) := index_sl u170 z155 hl hi
theorem apn170 {α : Type} {H : HeapI} {enc : α → List Value} {s : St H} {m m2 : Nat} {xs ys : List α} (hl : ∀ x, (enc x).length = 2) (hm : m = 1 ∨ m = 2) (hb : (xs.length + ys.length) * 16 ≤ 140737488355328) : appD Tryd.prog false s 170 170 (sl enc m xs) (sl enc m2 ys) = some (sl enc (s.n + 3) (xs ++ ys), newD s (.tok (xs.length + ys.length) 2)) :=
  app_new (i := Tryd.t155) u170 u170 (by kernel_rfl) zr155 rfl (by decide +kernel) hl hm hb (Nat.le_trans (Nat.le_mul_of_pos_right _ (by decide)) hb)
theorem apt170 {α : Type} {H : HeapI} {enc : α → List Value} {s : St H} {id m2 : Nat} {xs ys : List α} (hl : ∀ x, (enc x).length = 2) (ht : H.get s.h id = some (.tok xs.length 2)) (hb : (xs.length + ys.length) * 16 ≤ 140737488355328) : appD Tryd.prog false s 170 170 (sl enc (id + 3) xs) (sl enc m2 ys) = some (sl enc (id + 3) (xs ++ ys), putD s id (.tok (xs.length + ys.length) 2)) :=
  app_tok (i := Tryd.t155) u170 u170 (by kernel_rfl) zr155 rfl (by decide +kernel) hl ht hb (Nat.le_trans (Nat.le_mul_of_pos_right _ (by decide)) hb)
end Go.Proofs.YtmhmbmogodofeaaDoor.S
