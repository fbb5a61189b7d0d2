import Derived.Test.YtmhmbmogodofeaaFw
import Derived.ProofKit
import Derived.Test.YtmhmbmogodofeaaRows
set_option autoImplicit false
set_option linter.unusedVariables false
set_option maxRecDepth 100000
namespace Go.Proofs.Ytmhmbmogodofeaa.S
open Go.FS Go.RowKit
theorem u3 : Try.prog.underlying 3 = some (Go.TypeDesc.int Go.IntKind.i64) := by kernel_rfl
theorem z3 : sizeD Try.prog 3 = some 1 := by kernel_rfl
theorem a3 : aggD Try.prog 3 = some false := by kernel_rfl
theorem zr3 : zeroD Try.prog 3 = some [(Go.Value.int Go.IntKind.i64 0)] := by kernel_rfl
theorem zv3 : zeroV Try.prog 3 = some (Go.Value.int Go.IntKind.i64 0) := by kernel_rfl
theorem u4 : Try.prog.underlying 4 = some Go.TypeDesc.bool := by kernel_rfl
theorem z4 : sizeD Try.prog 4 = some 1 := by kernel_rfl
theorem a4 : aggD Try.prog 4 = some false := by kernel_rfl
theorem zr4 : zeroD Try.prog 4 = some [(Go.Value.bool false)] := by kernel_rfl
theorem zv4 : zeroV Try.prog 4 = some (Go.Value.bool false) := by kernel_rfl
theorem u5 : Try.prog.underlying 5 = some (Go.TypeDesc.int Go.IntKind.u8) := by kernel_rfl
theorem z5 : sizeD Try.prog 5 = some 1 := by kernel_rfl
theorem a5 : aggD Try.prog 5 = some false := by kernel_rfl
theorem zr5 : zeroD Try.prog 5 = some [(Go.Value.int Go.IntKind.u8 0)] := by kernel_rfl
theorem zv5 : zeroV Try.prog 5 = some (Go.Value.int Go.IntKind.u8 0) := by kernel_rfl
theorem u9 : Try.prog.underlying 9 = some Go.TypeDesc.string := by kernel_rfl
theorem z9 : sizeD Try.prog 9 = some 1 := by kernel_rfl
theorem a9 : aggD Try.prog 9 = some false := by kernel_rfl
theorem zr9 : zeroD Try.prog 9 = some [(Go.Value.string { data := #[] })] := by kernel_rfl
theorem zv9 : zeroV Try.prog 9 = some (Go.Value.string { data := #[] }) := by kernel_rfl
theorem u23 : Try.prog.underlying 23 = some (Go.TypeDesc.slice 106) := by kernel_rfl
theorem z23 : sizeD Try.prog 23 = some 1 := by kernel_rfl
theorem a23 : aggD Try.prog 23 = some false := by kernel_rfl
theorem zr23 : zeroD Try.prog 23 = some [(fzV 2 #[])] := by kernel_rfl
theorem zv23 : zeroV Try.prog 23 = some (fzV 2 #[]) := by kernel_rfl
theorem u26 : Try.prog.underlying 26 = some (Go.TypeDesc.int Go.IntKind.i64) := by kernel_rfl
theorem z26 : sizeD Try.prog 26 = some 1 := by kernel_rfl
theorem a26 : aggD Try.prog 26 = some false := by kernel_rfl
theorem zr26 : zeroD Try.prog 26 = some [(Go.Value.int Go.IntKind.i64 0)] := by kernel_rfl
theorem zv26 : zeroV Try.prog 26 = some (Go.Value.int Go.IntKind.i64 0) := by kernel_rfl
theorem u35 : Try.prog.underlying 35 = some (Go.TypeDesc.slice 5) := by kernel_rfl
theorem z35 : sizeD Try.prog 35 = some 1 := by kernel_rfl
theorem a35 : aggD Try.prog 35 = some false := by kernel_rfl
theorem zr35 : zeroD Try.prog 35 = some [(fzV 2 #[])] := by kernel_rfl
theorem zv35 : zeroV Try.prog 35 = some (fzV 2 #[]) := by kernel_rfl
theorem u65 : Try.prog.underlying 65 = some (Go.TypeDesc.slice 135) := by kernel_rfl
theorem z65 : sizeD Try.prog 65 = some 1 := by kernel_rfl
theorem a65 : aggD Try.prog 65 = some false := by kernel_rfl
theorem zr65 : zeroD Try.prog 65 = some [(fzV 2 #[])] := by kernel_rfl
theorem zv65 : zeroV Try.prog 65 = some (fzV 2 #[]) := by kernel_rfl
theorem u66 : Try.prog.underlying 66 = some (Go.TypeDesc.slice 142) := by kernel_rfl
theorem z66 : sizeD Try.prog 66 = some 1 := by kernel_rfl
theorem a66 : aggD Try.prog 66 = some false := by kernel_rfl
theorem zr66 : zeroD Try.prog 66 = some [(fzV 2 #[])] := by kernel_rfl
theorem zv66 : zeroV Try.prog 66 = some (fzV 2 #[]) := by kernel_rfl
theorem u67 : Try.prog.underlying 67 = some (Go.TypeDesc.slice 70) := by kernel_rfl
theorem z67 : sizeD Try.prog 67 = some 1 := by kernel_rfl
theorem a67 : aggD Try.prog 67 = some false := by kernel_rfl
theorem zr67 : zeroD Try.prog 67 = some [(fzV 2 #[])] := by kernel_rfl
theorem zv67 : zeroV Try.prog 67 = some (fzV 2 #[]) := by kernel_rfl
theorem u69 : Try.prog.underlying 69 = some (Go.TypeDesc.struct #[{ name := "From", type := 3, offset := 0, embedded := false, tag := "", pkgPath := "", byteOffset := 0 }, { name := "To", type := 3, offset := 1, embedded := false, tag := "", pkgPath := "", byteOffset := 8 }]) := by kernel_rfl
theorem z69 : sizeD Try.prog 69 = some 2 := by kernel_rfl
theorem a69 : aggD Try.prog 69 = some true := by kernel_rfl
theorem zr69 : zeroD Try.prog 69 = some [(Go.Value.int Go.IntKind.i64 0), (Go.Value.int Go.IntKind.i64 0)] := by kernel_rfl
theorem zv69 : zeroV Try.prog 69 = some (.agg #[(Go.Value.int Go.IntKind.i64 0), (Go.Value.int Go.IntKind.i64 0)]) := by kernel_rfl
theorem u70 : Try.prog.underlying 70 = some (Go.TypeDesc.int Go.IntKind.u64) := by kernel_rfl
theorem z70 : sizeD Try.prog 70 = some 1 := by kernel_rfl
theorem a70 : aggD Try.prog 70 = some false := by kernel_rfl
theorem zr70 : zeroD Try.prog 70 = some [(Go.Value.int Go.IntKind.u64 0)] := by kernel_rfl
theorem zv70 : zeroV Try.prog 70 = some (Go.Value.int Go.IntKind.u64 0) := by kernel_rfl
theorem u72 : Try.prog.underlying 72 = some (Go.TypeDesc.struct #[{ name := "Kind", type := 3, offset := 0, embedded := false, tag := "", pkgPath := "", byteOffset := 0 }, { name := "New", type := 65, offset := 1, embedded := false, tag := "", pkgPath := "", byteOffset := 8 }, { name := "Points", type := 66, offset := 2, embedded := false, tag := "", pkgPath := "", byteOffset := 32 }, { name := "IDs", type := 67, offset := 3, embedded := false, tag := "", pkgPath := "", byteOffset := 56 }, { name := "Range", type := 69, offset := 4, embedded := false, tag := "", pkgPath := "", byteOffset := 80 }, { name := "N", type := 70, offset := 6, embedded := false, tag := "", pkgPath := "", byteOffset := 96 }]) := by kernel_rfl
theorem z72 : sizeD Try.prog 72 = some 7 := by kernel_rfl
theorem a72 : aggD Try.prog 72 = some true := by kernel_rfl
theorem zr72 : zeroD Try.prog 72 = some [(Go.Value.int Go.IntKind.i64 0), (fzV 2 #[]), (fzV 2 #[]), (fzV 2 #[]), (Go.Value.int Go.IntKind.i64 0), (Go.Value.int Go.IntKind.i64 0), (Go.Value.int Go.IntKind.u64 0)] := by kernel_rfl
theorem zv72 : zeroV Try.prog 72 = some (.agg #[(Go.Value.int Go.IntKind.i64 0), (fzV 2 #[]), (fzV 2 #[]), (fzV 2 #[]), (Go.Value.int Go.IntKind.i64 0), (Go.Value.int Go.IntKind.i64 0), (Go.Value.int Go.IntKind.u64 0)]) := by kernel_rfl
theorem u106 : Try.prog.underlying 106 = some (Go.TypeDesc.struct #[{ name := "Name", type := 9, offset := 0, embedded := false, tag := "", pkgPath := "", byteOffset := 0 }, { name := "Value", type := 9, offset := 1, embedded := false, tag := "", pkgPath := "", byteOffset := 16 }]) := by kernel_rfl
theorem z106 : sizeD Try.prog 106 = some 2 := by kernel_rfl
theorem a106 : aggD Try.prog 106 = some true := by kernel_rfl
theorem zr106 : zeroD Try.prog 106 = some [(Go.Value.string { data := #[] }), (Go.Value.string { data := #[] })] := by kernel_rfl
theorem zv106 : zeroV Try.prog 106 = some (.agg #[(Go.Value.string { data := #[] }), (Go.Value.string { data := #[] })]) := by kernel_rfl
theorem u135 : Try.prog.underlying 135 = some (Go.TypeDesc.struct #[{ name := "ID", type := 70, offset := 0, embedded := false, tag := "", pkgPath := "", byteOffset := 0 }, { name := "Labels", type := 23, offset := 1, embedded := false, tag := "", pkgPath := "", byteOffset := 8 }]) := by kernel_rfl
theorem z135 : sizeD Try.prog 135 = some 2 := by kernel_rfl
theorem a135 : aggD Try.prog 135 = some true := by kernel_rfl
theorem zr135 : zeroD Try.prog 135 = some [(Go.Value.int Go.IntKind.u64 0), (fzV 2 #[])] := by kernel_rfl
theorem zv135 : zeroV Try.prog 135 = some (.agg #[(Go.Value.int Go.IntKind.u64 0), (fzV 2 #[])]) := by kernel_rfl
theorem u140 : Try.prog.underlying 140 = some (Go.TypeDesc.struct #[{ name := "T", type := 3, offset := 0, embedded := false, tag := "", pkgPath := "", byteOffset := 0 }, { name := "V", type := 70, offset := 1, embedded := false, tag := "", pkgPath := "", byteOffset := 8 }]) := by kernel_rfl
theorem z140 : sizeD Try.prog 140 = some 2 := by kernel_rfl
theorem a140 : aggD Try.prog 140 = some true := by kernel_rfl
theorem zr140 : zeroD Try.prog 140 = some [(Go.Value.int Go.IntKind.i64 0), (Go.Value.int Go.IntKind.u64 0)] := by kernel_rfl
theorem zv140 : zeroV Try.prog 140 = some (.agg #[(Go.Value.int Go.IntKind.i64 0), (Go.Value.int Go.IntKind.u64 0)]) := by kernel_rfl
theorem u142 : Try.prog.underlying 142 = some (Go.TypeDesc.struct #[{ name := "ID", type := 70, offset := 0, embedded := false, tag := "", pkgPath := "", byteOffset := 0 }, { name := "Sample", type := 140, offset := 1, embedded := false, tag := "", pkgPath := "", byteOffset := 8 }]) := by kernel_rfl
theorem z142 : sizeD Try.prog 142 = some 3 := by kernel_rfl
theorem a142 : aggD Try.prog 142 = some true := by kernel_rfl
theorem zr142 : zeroD Try.prog 142 = some [(Go.Value.int Go.IntKind.u64 0), (Go.Value.int Go.IntKind.i64 0), (Go.Value.int Go.IntKind.u64 0)] := by kernel_rfl
theorem zv142 : zeroV Try.prog 142 = some (.agg #[(Go.Value.int Go.IntKind.u64 0), (Go.Value.int Go.IntKind.i64 0), (Go.Value.int Go.IntKind.u64 0)]) := by kernel_rfl
theorem u145 : Try.prog.underlying 145 = some (Go.TypeDesc.pointer 147) := by kernel_rfl
theorem z145 : sizeD Try.prog 145 = some 1 := by kernel_rfl
theorem a145 : aggD Try.prog 145 = some false := by kernel_rfl
theorem zr145 : zeroD Try.prog 145 = some [(Go.Value.pointer none)] := by kernel_rfl
theorem zv145 : zeroV Try.prog 145 = some (Go.Value.pointer none) := by kernel_rfl
theorem u147 : Try.prog.underlying 147 = some (Go.TypeDesc.struct #[{ name := "b", type := 35, offset := 0, embedded := false, tag := "", pkgPath := "tidepole/rec", byteOffset := 0 }]) := by kernel_rfl
theorem z147 : sizeD Try.prog 147 = some 1 := by kernel_rfl
theorem a147 : aggD Try.prog 147 = some true := by kernel_rfl
theorem zr147 : zeroD Try.prog 147 = some [(fzV 2 #[])] := by kernel_rfl
theorem zv147 : zeroV Try.prog 147 = some (.agg #[(fzV 2 #[])]) := by kernel_rfl
theorem u151 : Try.prog.underlying 151 = some (Go.TypeDesc.pointer 153) := by kernel_rfl
theorem z151 : sizeD Try.prog 151 = some 1 := by kernel_rfl
theorem a151 : aggD Try.prog 151 = some false := by kernel_rfl
theorem zr151 : zeroD Try.prog 151 = some [(Go.Value.pointer none)] := by kernel_rfl
theorem zv151 : zeroV Try.prog 151 = some (Go.Value.pointer none) := by kernel_rfl
theorem u153 : Try.prog.underlying 153 = some (Go.TypeDesc.struct #[{ name := "b", type := 35, offset := 0, embedded := false, tag := "", pkgPath := "tidepole/rec", byteOffset := 0 }, { name := "at", type := 3, offset := 1, embedded := false, tag := "", pkgPath := "tidepole/rec", byteOffset := 24 }, { name := "e", type := 26, offset := 2, embedded := false, tag := "", pkgPath := "tidepole/rec", byteOffset := 32 }]) := by kernel_rfl
theorem z153 : sizeD Try.prog 153 = some 3 := by kernel_rfl
theorem a153 : aggD Try.prog 153 = some true := by kernel_rfl
theorem zr153 : zeroD Try.prog 153 = some [(fzV 2 #[]), (Go.Value.int Go.IntKind.i64 0), (Go.Value.int Go.IntKind.i64 0)] := by kernel_rfl
theorem zv153 : zeroV Try.prog 153 = some (.agg #[(fzV 2 #[]), (Go.Value.int Go.IntKind.i64 0), (Go.Value.int Go.IntKind.i64 0)]) := by kernel_rfl
theorem u228 : Try.prog.underlying 228 = some (Go.TypeDesc.slice 3) := by kernel_rfl
theorem z228 : sizeD Try.prog 228 = some 1 := by kernel_rfl
theorem a228 : aggD Try.prog 228 = some false := by kernel_rfl
theorem zr228 : zeroD Try.prog 228 = some [(fzV 2 #[])] := by kernel_rfl
theorem zv228 : zeroV Try.prog 228 = some (fzV 2 #[]) := by kernel_rfl
theorem u240 : Try.prog.underlying 240 = some (Go.TypeDesc.struct #[{ name := "news", type := 4, offset := 0, embedded := false, tag := "", pkgPath := "tidepole/rec", byteOffset := 0 }, { name := "points", type := 4, offset := 1, embedded := false, tag := "", pkgPath := "tidepole/rec", byteOffset := 1 }, { name := "ids", type := 4, offset := 2, embedded := false, tag := "", pkgPath := "tidepole/rec", byteOffset := 2 }, { name := "span", type := 4, offset := 3, embedded := false, tag := "", pkgPath := "tidepole/rec", byteOffset := 3 }, { name := "n", type := 4, offset := 4, embedded := false, tag := "", pkgPath := "tidepole/rec", byteOffset := 4 }]) := by kernel_rfl
theorem z240 : sizeD Try.prog 240 = some 5 := by kernel_rfl
theorem a240 : aggD Try.prog 240 = some true := by kernel_rfl
theorem zr240 : zeroD Try.prog 240 = some [(Go.Value.bool false), (Go.Value.bool false), (Go.Value.bool false), (Go.Value.bool false), (Go.Value.bool false)] := by kernel_rfl
theorem zv240 : zeroV Try.prog 240 = some (.agg #[(Go.Value.bool false), (Go.Value.bool false), (Go.Value.bool false), (Go.Value.bool false), (Go.Value.bool false)]) := by kernel_rfl
theorem ixs23 {α : Type} {enc : α → List Value} {m i : Nat} {k : IntKind} {xs : List α} (hl : ∀ x, (enc x).length = 2) (hi : i < xs.length) : indexAddrD Try.prog 23 (sl enc m xs) (.int k (i : Int)) = some (fpV (enc xs[i]).toArray 0) := index_sl u23 z106 hl hi
theorem apn23 {α : Type} {H : HeapI} {enc : α → List Value} {s : St H} {m m2 : Nat} {xs ys : List α} (hl : ∀ x, (enc x).length = 2) (hm : m = 1 ∨ m = 2) (hb : (xs.length + ys.length) * 32 ≤ 140737488355328) : appD Try.prog false s 23 23 (sl enc m xs) (sl enc m2 ys) = some (sl enc (s.n + 3) (xs ++ ys), newD s (.tok (xs.length + ys.length) 2)) :=
  app_new (i := Try.t106) u23 u23 (by kernel_rfl) zr106 rfl (by decide +kernel) hl hm hb (Nat.le_trans (Nat.le_mul_of_pos_right _ (by decide)) hb)
theorem apt23 {α : Type} {H : HeapI} {enc : α → List Value} {s : St H} {id m2 : Nat} {xs ys : List α} (hl : ∀ x, (enc x).length = 2) (ht : H.get s.h id = some (.tok xs.length 2)) (hb : (xs.length + ys.length) * 32 ≤ 140737488355328) : appD Try.prog false s 23 23 (sl enc (id + 3) xs) (sl enc m2 ys) = some (sl enc (id + 3) (xs ++ ys), putD s id (.tok (xs.length + ys.length) 2)) :=
  app_tok (i := Try.t106) u23 u23 (by kernel_rfl) zr106 rfl (by decide +kernel) hl ht hb (Nat.le_trans (Nat.le_mul_of_pos_right _ (by decide)) hb)
theorem ixs35 {α : Type} {enc : α → List Value} {m i : Nat} {k : IntKind} {xs : List α} (hl : ∀ x, (enc x).length = 1) (hi : i < xs.length) : indexAddrD Try.prog 35 (sl enc m xs) (.int k (i : Int)) = some (fpV (enc xs[i]).toArray 0) := index_sl u35 z5 hl hi
theorem apn35 {α : Type} {H : HeapI} {enc : α → List Value} {s : St H} {m m2 : Nat} {xs ys : List α} (hl : ∀ x, (enc x).length = 1) (hm : m = 1 ∨ m = 2) (hb : (xs.length + ys.length) * 1 ≤ 140737488355328) : appD Try.prog false s 35 35 (sl enc m xs) (sl enc m2 ys) = some (sl enc (s.n + 3) (xs ++ ys), newD s (.tok (xs.length + ys.length) 1)) :=
  app_new (i := Try.t5) u35 u35 (by kernel_rfl) zr5 rfl (by decide +kernel) hl hm hb (Nat.le_trans (Nat.le_mul_of_pos_right _ (by decide)) hb)
theorem apt35 {α : Type} {H : HeapI} {enc : α → List Value} {s : St H} {id m2 : Nat} {xs ys : List α} (hl : ∀ x, (enc x).length = 1) (ht : H.get s.h id = some (.tok xs.length 1)) (hb : (xs.length + ys.length) * 1 ≤ 140737488355328) : appD Try.prog false s 35 35 (sl enc (id + 3) xs) (sl enc m2 ys) = some (sl enc (id + 3) (xs ++ ys), putD s id (.tok (xs.length + ys.length) 1)) :=
  app_tok (i := Try.t5) u35 u35 (by kernel_rfl) zr5 rfl (by decide +kernel) hl ht hb (Nat.le_trans (Nat.le_mul_of_pos_right _ (by decide)) hb)
theorem ixs65 {α : Type} {enc : α → List Value} {m i : Nat} {k : IntKind} {xs : List α} (hl : ∀ x, (enc x).length = 2) (hi : i < xs.length) : indexAddrD Try.prog 65 (sl enc m xs) (.int k (i : Int)) = some (fpV (enc xs[i]).toArray 0) := index_sl u65 z135 hl hi
theorem apn65 {α : Type} {H : HeapI} {enc : α → List Value} {s : St H} {m m2 : Nat} {xs ys : List α} (hl : ∀ x, (enc x).length = 2) (hm : m = 1 ∨ m = 2) (hb : (xs.length + ys.length) * 32 ≤ 140737488355328) : appD Try.prog false s 65 65 (sl enc m xs) (sl enc m2 ys) = some (sl enc (s.n + 3) (xs ++ ys), newD s (.tok (xs.length + ys.length) 2)) :=
  app_new (i := Try.t135) u65 u65 (by kernel_rfl) zr135 rfl (by decide +kernel) hl hm hb (Nat.le_trans (Nat.le_mul_of_pos_right _ (by decide)) hb)
theorem apt65 {α : Type} {H : HeapI} {enc : α → List Value} {s : St H} {id m2 : Nat} {xs ys : List α} (hl : ∀ x, (enc x).length = 2) (ht : H.get s.h id = some (.tok xs.length 2)) (hb : (xs.length + ys.length) * 32 ≤ 140737488355328) : appD Try.prog false s 65 65 (sl enc (id + 3) xs) (sl enc m2 ys) = some (sl enc (id + 3) (xs ++ ys), putD s id (.tok (xs.length + ys.length) 2)) :=
  app_tok (i := Try.t135) u65 u65 (by kernel_rfl) zr135 rfl (by decide +kernel) hl ht hb (Nat.le_trans (Nat.le_mul_of_pos_right _ (by decide)) hb)
theorem ixs66 {α : Type} {enc : α → List Value} {m i : Nat} {k : IntKind} {xs : List α} (hl : ∀ x, (enc x).length = 3) (hi : i < xs.length) : indexAddrD Try.prog 66 (sl enc m xs) (.int k (i : Int)) = some (fpV (enc xs[i]).toArray 0) := index_sl u66 z142 hl hi
theorem apn66 {α : Type} {H : HeapI} {enc : α → List Value} {s : St H} {m m2 : Nat} {xs ys : List α} (hl : ∀ x, (enc x).length = 3) (hm : m = 1 ∨ m = 2) (hb : (xs.length + ys.length) * 24 ≤ 140737488355328) : appD Try.prog false s 66 66 (sl enc m xs) (sl enc m2 ys) = some (sl enc (s.n + 3) (xs ++ ys), newD s (.tok (xs.length + ys.length) 3)) :=
  app_new (i := Try.t142) u66 u66 (by kernel_rfl) zr142 rfl (by decide +kernel) hl hm hb (Nat.le_trans (Nat.le_mul_of_pos_right _ (by decide)) hb)
theorem apt66 {α : Type} {H : HeapI} {enc : α → List Value} {s : St H} {id m2 : Nat} {xs ys : List α} (hl : ∀ x, (enc x).length = 3) (ht : H.get s.h id = some (.tok xs.length 3)) (hb : (xs.length + ys.length) * 24 ≤ 140737488355328) : appD Try.prog false s 66 66 (sl enc (id + 3) xs) (sl enc m2 ys) = some (sl enc (id + 3) (xs ++ ys), putD s id (.tok (xs.length + ys.length) 3)) :=
  app_tok (i := Try.t142) u66 u66 (by kernel_rfl) zr142 rfl (by decide +kernel) hl ht hb (Nat.le_trans (Nat.le_mul_of_pos_right _ (by decide)) hb)
theorem ixs67 {α : Type} {enc : α → List Value} {m i : Nat} {k : IntKind} {xs : List α} (hl : ∀ x, (enc x).length = 1) (hi : i < xs.length) : indexAddrD Try.prog 67 (sl enc m xs) (.int k (i : Int)) = some (fpV (enc xs[i]).toArray 0) := index_sl u67 z70 hl hi
theorem apn67 {α : Type} {H : HeapI} {enc : α → List Value} {s : St H} {m m2 : Nat} {xs ys : List α} (hl : ∀ x, (enc x).length = 1) (hm : m = 1 ∨ m = 2) (hb : (xs.length + ys.length) * 8 ≤ 140737488355328) : appD Try.prog false s 67 67 (sl enc m xs) (sl enc m2 ys) = some (sl enc (s.n + 3) (xs ++ ys), newD s (.tok (xs.length + ys.length) 1)) :=
  app_new (i := Try.t70) u67 u67 (by kernel_rfl) zr70 rfl (by decide +kernel) hl hm hb (Nat.le_trans (Nat.le_mul_of_pos_right _ (by decide)) hb)
theorem apt67 {α : Type} {H : HeapI} {enc : α → List Value} {s : St H} {id m2 : Nat} {xs ys : List α} (hl : ∀ x, (enc x).length = 1) (ht : H.get s.h id = some (.tok xs.length 1)) (hb : (xs.length + ys.length) * 8 ≤ 140737488355328) : appD Try.prog false s 67 67 (sl enc (id + 3) xs) (sl enc m2 ys) = some (sl enc (id + 3) (xs ++ ys), putD s id (.tok (xs.length + ys.length) 1)) :=
  app_tok (i := Try.t70) u67 u67 (by kernel_rfl) zr70 rfl (by decide +kernel) hl ht hb (Nat.le_trans (Nat.le_mul_of_pos_right _ (by decide)) hb)
theorem fld69_0 (id : Nat) : fieldAddrD Try.prog 69 (.pointer (some ⟨id, 0, none⟩)) 0 = some (.pointer (some ⟨id, 0, none⟩)) := (field_own (n := 1) (fd := { name := "From", type := 3, offset := 0, embedded := false, tag := "", pkgPath := "", byteOffset := 0 }) u69 rfl z3 (by decide)).trans (by rw [Nat.zero_add])
theorem flf69_0 (cs : Array Value) : fieldAddrD Try.prog 69 (fpV cs 0) 0 = some (fpV cs 0) := (field_fp (n := 1) (fd := { name := "From", type := 3, offset := 0, embedded := false, tag := "", pkgPath := "", byteOffset := 0 }) u69 rfl z3 (by decide)).trans (by rw [Nat.zero_add])
theorem fld69_1 (id : Nat) : fieldAddrD Try.prog 69 (.pointer (some ⟨id, 0, none⟩)) 1 = some (.pointer (some ⟨id, 1, none⟩)) := (field_own (n := 1) (fd := { name := "To", type := 3, offset := 1, embedded := false, tag := "", pkgPath := "", byteOffset := 8 }) u69 rfl z3 (by decide)).trans (by rw [Nat.zero_add])
theorem flf69_1 (cs : Array Value) : fieldAddrD Try.prog 69 (fpV cs 0) 1 = some (fpV cs 1) := (field_fp (n := 1) (fd := { name := "To", type := 3, offset := 1, embedded := false, tag := "", pkgPath := "", byteOffset := 8 }) u69 rfl z3 (by decide)).trans (by rw [Nat.zero_add])
theorem fld72_0 (id : Nat) : fieldAddrD Try.prog 72 (.pointer (some ⟨id, 0, none⟩)) 0 = some (.pointer (some ⟨id, 0, none⟩)) := (field_own (n := 1) (fd := { name := "Kind", type := 3, offset := 0, embedded := false, tag := "", pkgPath := "", byteOffset := 0 }) u72 rfl z3 (by decide)).trans (by rw [Nat.zero_add])
theorem flf72_0 (cs : Array Value) : fieldAddrD Try.prog 72 (fpV cs 0) 0 = some (fpV cs 0) := (field_fp (n := 1) (fd := { name := "Kind", type := 3, offset := 0, embedded := false, tag := "", pkgPath := "", byteOffset := 0 }) u72 rfl z3 (by decide)).trans (by rw [Nat.zero_add])
theorem fld72_1 (id : Nat) : fieldAddrD Try.prog 72 (.pointer (some ⟨id, 0, none⟩)) 1 = some (.pointer (some ⟨id, 1, none⟩)) := (field_own (n := 1) (fd := { name := "New", type := 65, offset := 1, embedded := false, tag := "", pkgPath := "", byteOffset := 8 }) u72 rfl z65 (by decide)).trans (by rw [Nat.zero_add])
theorem flf72_1 (cs : Array Value) : fieldAddrD Try.prog 72 (fpV cs 0) 1 = some (fpV cs 1) := (field_fp (n := 1) (fd := { name := "New", type := 65, offset := 1, embedded := false, tag := "", pkgPath := "", byteOffset := 8 }) u72 rfl z65 (by decide)).trans (by rw [Nat.zero_add])
theorem fld72_2 (id : Nat) : fieldAddrD Try.prog 72 (.pointer (some ⟨id, 0, none⟩)) 2 = some (.pointer (some ⟨id, 2, none⟩)) := (field_own (n := 1) (fd := { name := "Points", type := 66, offset := 2, embedded := false, tag := "", pkgPath := "", byteOffset := 32 }) u72 rfl z66 (by decide)).trans (by rw [Nat.zero_add])
theorem flf72_2 (cs : Array Value) : fieldAddrD Try.prog 72 (fpV cs 0) 2 = some (fpV cs 2) := (field_fp (n := 1) (fd := { name := "Points", type := 66, offset := 2, embedded := false, tag := "", pkgPath := "", byteOffset := 32 }) u72 rfl z66 (by decide)).trans (by rw [Nat.zero_add])
theorem fld72_3 (id : Nat) : fieldAddrD Try.prog 72 (.pointer (some ⟨id, 0, none⟩)) 3 = some (.pointer (some ⟨id, 3, none⟩)) := (field_own (n := 1) (fd := { name := "IDs", type := 67, offset := 3, embedded := false, tag := "", pkgPath := "", byteOffset := 56 }) u72 rfl z67 (by decide)).trans (by rw [Nat.zero_add])
theorem flf72_3 (cs : Array Value) : fieldAddrD Try.prog 72 (fpV cs 0) 3 = some (fpV cs 3) := (field_fp (n := 1) (fd := { name := "IDs", type := 67, offset := 3, embedded := false, tag := "", pkgPath := "", byteOffset := 56 }) u72 rfl z67 (by decide)).trans (by rw [Nat.zero_add])
theorem fld72_4 (id : Nat) : fieldAddrD Try.prog 72 (.pointer (some ⟨id, 0, none⟩)) 4 = some (.pointer (some ⟨id, 4, none⟩)) := (field_own (n := 2) (fd := { name := "Range", type := 69, offset := 4, embedded := false, tag := "", pkgPath := "", byteOffset := 80 }) u72 rfl z69 (by decide)).trans (by rw [Nat.zero_add])
theorem flf72_4 (cs : Array Value) : fieldAddrD Try.prog 72 (fpV cs 0) 4 = some (fpV cs 4) := (field_fp (n := 2) (fd := { name := "Range", type := 69, offset := 4, embedded := false, tag := "", pkgPath := "", byteOffset := 80 }) u72 rfl z69 (by decide)).trans (by rw [Nat.zero_add])
theorem fld72_5 (id : Nat) : fieldAddrD Try.prog 72 (.pointer (some ⟨id, 0, none⟩)) 5 = some (.pointer (some ⟨id, 6, none⟩)) := (field_own (n := 1) (fd := { name := "N", type := 70, offset := 6, embedded := false, tag := "", pkgPath := "", byteOffset := 96 }) u72 rfl z70 (by decide)).trans (by rw [Nat.zero_add])
theorem flf72_5 (cs : Array Value) : fieldAddrD Try.prog 72 (fpV cs 0) 5 = some (fpV cs 6) := (field_fp (n := 1) (fd := { name := "N", type := 70, offset := 6, embedded := false, tag := "", pkgPath := "", byteOffset := 96 }) u72 rfl z70 (by decide)).trans (by rw [Nat.zero_add])
theorem fld106_0 (id : Nat) : fieldAddrD Try.prog 106 (.pointer (some ⟨id, 0, none⟩)) 0 = some (.pointer (some ⟨id, 0, none⟩)) := (field_own (n := 1) (fd := { name := "Name", type := 9, offset := 0, embedded := false, tag := "", pkgPath := "", byteOffset := 0 }) u106 rfl z9 (by decide)).trans (by rw [Nat.zero_add])
theorem flf106_0 (cs : Array Value) : fieldAddrD Try.prog 106 (fpV cs 0) 0 = some (fpV cs 0) := (field_fp (n := 1) (fd := { name := "Name", type := 9, offset := 0, embedded := false, tag := "", pkgPath := "", byteOffset := 0 }) u106 rfl z9 (by decide)).trans (by rw [Nat.zero_add])
theorem fld106_1 (id : Nat) : fieldAddrD Try.prog 106 (.pointer (some ⟨id, 0, none⟩)) 1 = some (.pointer (some ⟨id, 1, none⟩)) := (field_own (n := 1) (fd := { name := "Value", type := 9, offset := 1, embedded := false, tag := "", pkgPath := "", byteOffset := 16 }) u106 rfl z9 (by decide)).trans (by rw [Nat.zero_add])
theorem flf106_1 (cs : Array Value) : fieldAddrD Try.prog 106 (fpV cs 0) 1 = some (fpV cs 1) := (field_fp (n := 1) (fd := { name := "Value", type := 9, offset := 1, embedded := false, tag := "", pkgPath := "", byteOffset := 16 }) u106 rfl z9 (by decide)).trans (by rw [Nat.zero_add])
theorem fld135_0 (id : Nat) : fieldAddrD Try.prog 135 (.pointer (some ⟨id, 0, none⟩)) 0 = some (.pointer (some ⟨id, 0, none⟩)) := (field_own (n := 1) (fd := { name := "ID", type := 70, offset := 0, embedded := false, tag := "", pkgPath := "", byteOffset := 0 }) u135 rfl z70 (by decide)).trans (by rw [Nat.zero_add])
theorem flf135_0 (cs : Array Value) : fieldAddrD Try.prog 135 (fpV cs 0) 0 = some (fpV cs 0) := (field_fp (n := 1) (fd := { name := "ID", type := 70, offset := 0, embedded := false, tag := "", pkgPath := "", byteOffset := 0 }) u135 rfl z70 (by decide)).trans (by rw [Nat.zero_add])
theorem fld135_1 (id : Nat) : fieldAddrD Try.prog 135 (.pointer (some ⟨id, 0, none⟩)) 1 = some (.pointer (some ⟨id, 1, none⟩)) := (field_own (n := 1) (fd := { name := "Labels", type := 23, offset := 1, embedded := false, tag := "", pkgPath := "", byteOffset := 8 }) u135 rfl z23 (by decide)).trans (by rw [Nat.zero_add])
theorem flf135_1 (cs : Array Value) : fieldAddrD Try.prog 135 (fpV cs 0) 1 = some (fpV cs 1) := (field_fp (n := 1) (fd := { name := "Labels", type := 23, offset := 1, embedded := false, tag := "", pkgPath := "", byteOffset := 8 }) u135 rfl z23 (by decide)).trans (by rw [Nat.zero_add])
theorem fld140_0 (id : Nat) : fieldAddrD Try.prog 140 (.pointer (some ⟨id, 0, none⟩)) 0 = some (.pointer (some ⟨id, 0, none⟩)) := (field_own (n := 1) (fd := { name := "T", type := 3, offset := 0, embedded := false, tag := "", pkgPath := "", byteOffset := 0 }) u140 rfl z3 (by decide)).trans (by rw [Nat.zero_add])
theorem flf140_0 (cs : Array Value) : fieldAddrD Try.prog 140 (fpV cs 0) 0 = some (fpV cs 0) := (field_fp (n := 1) (fd := { name := "T", type := 3, offset := 0, embedded := false, tag := "", pkgPath := "", byteOffset := 0 }) u140 rfl z3 (by decide)).trans (by rw [Nat.zero_add])
theorem fld140_1 (id : Nat) : fieldAddrD Try.prog 140 (.pointer (some ⟨id, 0, none⟩)) 1 = some (.pointer (some ⟨id, 1, none⟩)) := (field_own (n := 1) (fd := { name := "V", type := 70, offset := 1, embedded := false, tag := "", pkgPath := "", byteOffset := 8 }) u140 rfl z70 (by decide)).trans (by rw [Nat.zero_add])
theorem flf140_1 (cs : Array Value) : fieldAddrD Try.prog 140 (fpV cs 0) 1 = some (fpV cs 1) := (field_fp (n := 1) (fd := { name := "V", type := 70, offset := 1, embedded := false, tag := "", pkgPath := "", byteOffset := 8 }) u140 rfl z70 (by decide)).trans (by rw [Nat.zero_add])
theorem fld142_0 (id : Nat) : fieldAddrD Try.prog 142 (.pointer (some ⟨id, 0, none⟩)) 0 = some (.pointer (some ⟨id, 0, none⟩)) := (field_own (n := 1) (fd := { name := "ID", type := 70, offset := 0, embedded := false, tag := "", pkgPath := "", byteOffset := 0 }) u142 rfl z70 (by decide)).trans (by rw [Nat.zero_add])
theorem flf142_0 (cs : Array Value) : fieldAddrD Try.prog 142 (fpV cs 0) 0 = some (fpV cs 0) := (field_fp (n := 1) (fd := { name := "ID", type := 70, offset := 0, embedded := false, tag := "", pkgPath := "", byteOffset := 0 }) u142 rfl z70 (by decide)).trans (by rw [Nat.zero_add])
theorem fld142_1 (id : Nat) : fieldAddrD Try.prog 142 (.pointer (some ⟨id, 0, none⟩)) 1 = some (.pointer (some ⟨id, 1, none⟩)) := (field_own (n := 2) (fd := { name := "Sample", type := 140, offset := 1, embedded := false, tag := "", pkgPath := "", byteOffset := 8 }) u142 rfl z140 (by decide)).trans (by rw [Nat.zero_add])
theorem flf142_1 (cs : Array Value) : fieldAddrD Try.prog 142 (fpV cs 0) 1 = some (fpV cs 1) := (field_fp (n := 2) (fd := { name := "Sample", type := 140, offset := 1, embedded := false, tag := "", pkgPath := "", byteOffset := 8 }) u142 rfl z140 (by decide)).trans (by rw [Nat.zero_add])
theorem fld147_0 (id : Nat) : fieldAddrD Try.prog 147 (.pointer (some ⟨id, 0, none⟩)) 0 = some (.pointer (some ⟨id, 0, none⟩)) := (field_own (n := 1) (fd := { name := "b", type := 35, offset := 0, embedded := false, tag := "", pkgPath := "tidepole/rec", byteOffset := 0 }) u147 rfl z35 (by decide)).trans (by rw [Nat.zero_add])
theorem flf147_0 (cs : Array Value) : fieldAddrD Try.prog 147 (fpV cs 0) 0 = some (fpV cs 0) := (field_fp (n := 1) (fd := { name := "b", type := 35, offset := 0, embedded := false, tag := "", pkgPath := "tidepole/rec", byteOffset := 0 }) u147 rfl z35 (by decide)).trans (by rw [Nat.zero_add])
theorem fld153_0 (id : Nat) : fieldAddrD Try.prog 153 (.pointer (some ⟨id, 0, none⟩)) 0 = some (.pointer (some ⟨id, 0, none⟩)) := (field_own (n := 1) (fd := { name := "b", type := 35, offset := 0, embedded := false, tag := "", pkgPath := "tidepole/rec", byteOffset := 0 }) u153 rfl z35 (by decide)).trans (by rw [Nat.zero_add])
theorem flf153_0 (cs : Array Value) : fieldAddrD Try.prog 153 (fpV cs 0) 0 = some (fpV cs 0) := (field_fp (n := 1) (fd := { name := "b", type := 35, offset := 0, embedded := false, tag := "", pkgPath := "tidepole/rec", byteOffset := 0 }) u153 rfl z35 (by decide)).trans (by rw [Nat.zero_add])
theorem fld153_1 (id : Nat) : fieldAddrD Try.prog 153 (.pointer (some ⟨id, 0, none⟩)) 1 = some (.pointer (some ⟨id, 1, none⟩)) := (field_own (n := 1) (fd := { name := "at", type := 3, offset := 1, embedded := false, tag := "", pkgPath := "tidepole/rec", byteOffset := 24 }) u153 rfl z3 (by decide)).trans (by rw [Nat.zero_add])
theorem flf153_1 (cs : Array Value) : fieldAddrD Try.prog 153 (fpV cs 0) 1 = some (fpV cs 1) := (field_fp (n := 1) (fd := { name := "at", type := 3, offset := 1, embedded := false, tag := "", pkgPath := "tidepole/rec", byteOffset := 24 }) u153 rfl z3 (by decide)).trans (by rw [Nat.zero_add])
theorem fld153_2 (id : Nat) : fieldAddrD Try.prog 153 (.pointer (some ⟨id, 0, none⟩)) 2 = some (.pointer (some ⟨id, 2, none⟩)) := (field_own (n := 1) (fd := { name := "e", type := 26, offset := 2, embedded := false, tag := "", pkgPath := "tidepole/rec", byteOffset := 32 }) u153 rfl z26 (by decide)).trans (by rw [Nat.zero_add])
theorem flf153_2 (cs : Array Value) : fieldAddrD Try.prog 153 (fpV cs 0) 2 = some (fpV cs 2) := (field_fp (n := 1) (fd := { name := "e", type := 26, offset := 2, embedded := false, tag := "", pkgPath := "tidepole/rec", byteOffset := 32 }) u153 rfl z26 (by decide)).trans (by rw [Nat.zero_add])
theorem ixs228 {α : Type} {enc : α → List Value} {m i : Nat} {k : IntKind} {xs : List α} (hl : ∀ x, (enc x).length = 1) (hi : i < xs.length) : indexAddrD Try.prog 228 (sl enc m xs) (.int k (i : Int)) = some (fpV (enc xs[i]).toArray 0) := index_sl u228 z3 hl hi
theorem apn228 {α : Type} {H : HeapI} {enc : α → List Value} {s : St H} {m m2 : Nat} {xs ys : List α} (hl : ∀ x, (enc x).length = 1) (hm : m = 1 ∨ m = 2) (hb : (xs.length + ys.length) * 8 ≤ 140737488355328) : appD Try.prog false s 228 228 (sl enc m xs) (sl enc m2 ys) = some (sl enc (s.n + 3) (xs ++ ys), newD s (.tok (xs.length + ys.length) 1)) :=
  app_new (i := Try.t3) u228 u228 (by kernel_rfl) zr3 rfl (by decide +kernel) hl hm hb (Nat.le_trans (Nat.le_mul_of_pos_right _ (by decide)) hb)
theorem apt228 {α : Type} {H : HeapI} {enc : α → List Value} {s : St H} {id m2 : Nat} {xs ys : List α} (hl : ∀ x, (enc x).length = 1) (ht : H.get s.h id = some (.tok xs.length 1)) (hb : (xs.length + ys.length) * 8 ≤ 140737488355328) : appD Try.prog false s 228 228 (sl enc (id + 3) xs) (sl enc m2 ys) = some (sl enc (id + 3) (xs ++ ys), putD s id (.tok (xs.length + ys.length) 1)) :=
  app_tok (i := Try.t3) u228 u228 (by kernel_rfl) zr3 rfl (by decide +kernel) hl ht hb (Nat.le_trans (Nat.le_mul_of_pos_right _ (by decide)) hb)
theorem fld240_0 (id : Nat) : fieldAddrD Try.prog 240 (.pointer (some ⟨id, 0, none⟩)) 0 = some (.pointer (some ⟨id, 0, none⟩)) := (field_own (n := 1) (fd := { name := "news", type := 4, offset := 0, embedded := false, tag := "", pkgPath := "tidepole/rec", byteOffset := 0 }) u240 rfl z4 (by decide)).trans (by rw [Nat.zero_add])
theorem flf240_0 (cs : Array Value) : fieldAddrD Try.prog 240 (fpV cs 0) 0 = some (fpV cs 0) := (field_fp (n := 1) (fd := { name := "news", type := 4, offset := 0, embedded := false, tag := "", pkgPath := "tidepole/rec", byteOffset := 0 }) u240 rfl z4 (by decide)).trans (by rw [Nat.zero_add])
theorem fld240_1 (id : Nat) : fieldAddrD Try.prog 240 (.pointer (some ⟨id, 0, none⟩)) 1 = some (.pointer (some ⟨id, 1, none⟩)) := (field_own (n := 1) (fd := { name := "points", type := 4, offset := 1, embedded := false, tag := "", pkgPath := "tidepole/rec", byteOffset := 1 }) u240 rfl z4 (by decide)).trans (by rw [Nat.zero_add])
theorem flf240_1 (cs : Array Value) : fieldAddrD Try.prog 240 (fpV cs 0) 1 = some (fpV cs 1) := (field_fp (n := 1) (fd := { name := "points", type := 4, offset := 1, embedded := false, tag := "", pkgPath := "tidepole/rec", byteOffset := 1 }) u240 rfl z4 (by decide)).trans (by rw [Nat.zero_add])
theorem fld240_2 (id : Nat) : fieldAddrD Try.prog 240 (.pointer (some ⟨id, 0, none⟩)) 2 = some (.pointer (some ⟨id, 2, none⟩)) := (field_own (n := 1) (fd := { name := "ids", type := 4, offset := 2, embedded := false, tag := "", pkgPath := "tidepole/rec", byteOffset := 2 }) u240 rfl z4 (by decide)).trans (by rw [Nat.zero_add])
theorem flf240_2 (cs : Array Value) : fieldAddrD Try.prog 240 (fpV cs 0) 2 = some (fpV cs 2) := (field_fp (n := 1) (fd := { name := "ids", type := 4, offset := 2, embedded := false, tag := "", pkgPath := "tidepole/rec", byteOffset := 2 }) u240 rfl z4 (by decide)).trans (by rw [Nat.zero_add])
theorem fld240_3 (id : Nat) : fieldAddrD Try.prog 240 (.pointer (some ⟨id, 0, none⟩)) 3 = some (.pointer (some ⟨id, 3, none⟩)) := (field_own (n := 1) (fd := { name := "span", type := 4, offset := 3, embedded := false, tag := "", pkgPath := "tidepole/rec", byteOffset := 3 }) u240 rfl z4 (by decide)).trans (by rw [Nat.zero_add])
theorem flf240_3 (cs : Array Value) : fieldAddrD Try.prog 240 (fpV cs 0) 3 = some (fpV cs 3) := (field_fp (n := 1) (fd := { name := "span", type := 4, offset := 3, embedded := false, tag := "", pkgPath := "tidepole/rec", byteOffset := 3 }) u240 rfl z4 (by decide)).trans (by rw [Nat.zero_add])
theorem fld240_4 (id : Nat) : fieldAddrD Try.prog 240 (.pointer (some ⟨id, 0, none⟩)) 4 = some (.pointer (some ⟨id, 4, none⟩)) := (field_own (n := 1) (fd := { name := "n", type := 4, offset := 4, embedded := false, tag := "", pkgPath := "tidepole/rec", byteOffset := 4 }) u240 rfl z4 (by decide)).trans (by rw [Nat.zero_add])
theorem flf240_4 (cs : Array Value) : fieldAddrD Try.prog 240 (fpV cs 0) 4 = some (fpV cs 4) := (field_fp (n := 1) (fd := { name := "n", type := 4, offset := 4, embedded := false, tag := "", pkgPath := "tidepole/rec", byteOffset := 4 }) u240 rfl z4 (by decide)).trans (by rw [Nat.zero_add])
end Go.Proofs.Ytmhmbmogodofeaa.S
