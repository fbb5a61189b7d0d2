import Derived.Test.YtmhmbmogodofeaaDoorFw
import Derived.ProofKit
import Derived.Test.YtmhmbmogodofeaaDoorRows
set_option autoImplicit false
set_option linter.unusedVariables false
set_option maxRecDepth 100000
namespace Go.Proofs.YtmhmbmogodofeaaDoor.S
open Go.FS Go.RowKit
theorem u3 : Tryd.prog.underlying 3 = some (Go.TypeDesc.int Go.IntKind.i64) := by kernel_rfl
theorem z3 : sizeD Tryd.prog 3 = some 1 := by kernel_rfl
theorem a3 : aggD Tryd.prog 3 = some false := by kernel_rfl
theorem zr3 : zeroD Tryd.prog 3 = some [(Go.Value.int Go.IntKind.i64 0)] := by kernel_rfl
theorem zv3 : zeroV Tryd.prog 3 = some (Go.Value.int Go.IntKind.i64 0) := by kernel_rfl
theorem u4 : Tryd.prog.underlying 4 = some Go.TypeDesc.bool := by kernel_rfl
theorem z4 : sizeD Tryd.prog 4 = some 1 := by kernel_rfl
theorem a4 : aggD Tryd.prog 4 = some false := by kernel_rfl
theorem zr4 : zeroD Tryd.prog 4 = some [(Go.Value.bool false)] := by kernel_rfl
theorem zv4 : zeroV Tryd.prog 4 = some (Go.Value.bool false) := by kernel_rfl
theorem u24 : Tryd.prog.underlying 24 = some (Go.TypeDesc.slice 40) := by kernel_rfl
theorem z24 : sizeD Tryd.prog 24 = some 1 := by kernel_rfl
theorem a24 : aggD Tryd.prog 24 = some false := by kernel_rfl
theorem zr24 : zeroD Tryd.prog 24 = some [(fzV 2 #[])] := by kernel_rfl
theorem zv24 : zeroV Tryd.prog 24 = some (fzV 2 #[]) := by kernel_rfl
theorem u38 : Tryd.prog.underlying 38 = some (Go.TypeDesc.int Go.IntKind.u64) := by kernel_rfl
theorem z38 : sizeD Tryd.prog 38 = some 1 := by kernel_rfl
theorem a38 : aggD Tryd.prog 38 = some false := by kernel_rfl
theorem zr38 : zeroD Tryd.prog 38 = some [(Go.Value.int Go.IntKind.u64 0)] := by kernel_rfl
theorem zv38 : zeroV Tryd.prog 38 = some (Go.Value.int Go.IntKind.u64 0) := by kernel_rfl
theorem u40 : Tryd.prog.underlying 40 = some (Go.TypeDesc.struct #[{ name := "T", type := 3, offset := 0, embedded := false, tag := "", pkgPath := "", byteOffset := 0 }, { name := "V", type := 38, offset := 1, embedded := false, tag := "", pkgPath := "", byteOffset := 8 }]) := by kernel_rfl
theorem z40 : sizeD Tryd.prog 40 = some 2 := by kernel_rfl
theorem a40 : aggD Tryd.prog 40 = some true := by kernel_rfl
theorem zr40 : zeroD Tryd.prog 40 = some [(Go.Value.int Go.IntKind.i64 0), (Go.Value.int Go.IntKind.u64 0)] := by kernel_rfl
theorem zv40 : zeroV Tryd.prog 40 = some (.agg #[(Go.Value.int Go.IntKind.i64 0), (Go.Value.int Go.IntKind.u64 0)]) := by kernel_rfl
theorem u45 : Tryd.prog.underlying 45 = some (Go.TypeDesc.slice 3) := by kernel_rfl
theorem z45 : sizeD Tryd.prog 45 = some 1 := by kernel_rfl
theorem a45 : aggD Tryd.prog 45 = some false := by kernel_rfl
theorem zr45 : zeroD Tryd.prog 45 = some [(fzV 2 #[])] := by kernel_rfl
theorem zv45 : zeroV Tryd.prog 45 = some (fzV 2 #[]) := by kernel_rfl
theorem u46 : Tryd.prog.underlying 46 = some (Go.TypeDesc.slice 38) := by kernel_rfl
theorem z46 : sizeD Tryd.prog 46 = some 1 := by kernel_rfl
theorem a46 : aggD Tryd.prog 46 = some false := by kernel_rfl
theorem zr46 : zeroD Tryd.prog 46 = some [(fzV 2 #[])] := by kernel_rfl
theorem zv46 : zeroV Tryd.prog 46 = some (fzV 2 #[]) := by kernel_rfl
theorem u58 : Tryd.prog.underlying 58 = some (Go.TypeDesc.struct #[{ name := "From", type := 3, offset := 0, embedded := false, tag := "", pkgPath := "", byteOffset := 0 }, { name := "To", type := 3, offset := 1, embedded := false, tag := "", pkgPath := "", byteOffset := 8 }]) := by kernel_rfl
theorem z58 : sizeD Tryd.prog 58 = some 2 := by kernel_rfl
theorem a58 : aggD Tryd.prog 58 = some true := by kernel_rfl
theorem zr58 : zeroD Tryd.prog 58 = some [(Go.Value.int Go.IntKind.i64 0), (Go.Value.int Go.IntKind.i64 0)] := by kernel_rfl
theorem zv58 : zeroV Tryd.prog 58 = some (.agg #[(Go.Value.int Go.IntKind.i64 0), (Go.Value.int Go.IntKind.i64 0)]) := by kernel_rfl
theorem ixs24 {α : Type} {enc : α → List Value} {m i : Nat} {k : IntKind} {xs : List α} (hl : ∀ x, (enc x).length = 2) (hi : i < xs.length) : indexAddrD Tryd.prog 24 (sl enc m xs) (.int k (i : Int)) = some (fpV (enc xs[i]).toArray 0) := index_sl u24 z40 hl hi
theorem apn24 {α : Type} {H : HeapI} {enc : α → List Value} {s : St H} {m m2 : Nat} {xs ys : List α} (hl : ∀ x, (enc x).length = 2) (hm : m = 1 ∨ m = 2) (hb : (xs.length + ys.length) * 16 ≤ 140737488355328) : appD Tryd.prog false s 24 24 (sl enc m xs) (sl enc m2 ys) = some (sl enc (s.n + 3) (xs ++ ys), newD s (.tok (xs.length + ys.length) 2)) :=
  app_new (i := Tryd.t40) u24 u24 (by kernel_rfl) zr40 rfl (by decide +kernel) hl hm hb (Nat.le_trans (Nat.le_mul_of_pos_right _ (by decide)) hb)
theorem apt24 {α : Type} {H : HeapI} {enc : α → List Value} {s : St H} {id m2 : Nat} {xs ys : List α} (hl : ∀ x, (enc x).length = 2) (ht : H.get s.h id = some (.tok xs.length 2)) (hb : (xs.length + ys.length) * 16 ≤ 140737488355328) : appD Tryd.prog false s 24 24 (sl enc (id + 3) xs) (sl enc m2 ys) = some (sl enc (id + 3) (xs ++ ys), putD s id (.tok (xs.length + ys.length) 2)) :=
  app_tok (i := Tryd.t40) u24 u24 (by kernel_rfl) zr40 rfl (by decide +kernel) hl ht hb (Nat.le_trans (Nat.le_mul_of_pos_right _ (by decide)) hb)
theorem fld40_0 (id : Nat) : fieldAddrD Tryd.prog 40 (.pointer (some ⟨id, 0, none⟩)) 0 = some (.pointer (some ⟨id, 0, none⟩)) := (field_own (n := 1) (fd := { name := "T", type := 3, offset := 0, embedded := false, tag := "", pkgPath := "", byteOffset := 0 }) u40 rfl z3 (by decide)).trans (by rw [Nat.zero_add])
theorem flf40_0 (cs : Array Value) : fieldAddrD Tryd.prog 40 (fpV cs 0) 0 = some (fpV cs 0) := (field_fp (n := 1) (fd := { name := "T", type := 3, offset := 0, embedded := false, tag := "", pkgPath := "", byteOffset := 0 }) u40 rfl z3 (by decide)).trans (by rw [Nat.zero_add])
theorem fld40_1 (id : Nat) : fieldAddrD Tryd.prog 40 (.pointer (some ⟨id, 0, none⟩)) 1 = some (.pointer (some ⟨id, 1, none⟩)) := (field_own (n := 1) (fd := { name := "V", type := 38, offset := 1, embedded := false, tag := "", pkgPath := "", byteOffset := 8 }) u40 rfl z38 (by decide)).trans (by rw [Nat.zero_add])
theorem flf40_1 (cs : Array Value) : fieldAddrD Tryd.prog 40 (fpV cs 0) 1 = some (fpV cs 1) := (field_fp (n := 1) (fd := { name := "V", type := 38, offset := 1, embedded := false, tag := "", pkgPath := "", byteOffset := 8 }) u40 rfl z38 (by decide)).trans (by rw [Nat.zero_add])
theorem ixs45 {α : Type} {enc : α → List Value} {m i : Nat} {k : IntKind} {xs : List α} (hl : ∀ x, (enc x).length = 1) (hi : i < xs.length) : indexAddrD Tryd.prog 45 (sl enc m xs) (.int k (i : Int)) = some (fpV (enc xs[i]).toArray 0) := index_sl u45 z3 hl hi
theorem apn45 {α : Type} {H : HeapI} {enc : α → List Value} {s : St H} {m m2 : Nat} {xs ys : List α} (hl : ∀ x, (enc x).length = 1) (hm : m = 1 ∨ m = 2) (hb : (xs.length + ys.length) * 8 ≤ 140737488355328) : appD Tryd.prog false s 45 45 (sl enc m xs) (sl enc m2 ys) = some (sl enc (s.n + 3) (xs ++ ys), newD s (.tok (xs.length + ys.length) 1)) :=
  app_new (i := Tryd.t3) u45 u45 (by kernel_rfl) zr3 rfl (by decide +kernel) hl hm hb (Nat.le_trans (Nat.le_mul_of_pos_right _ (by decide)) hb)
theorem apt45 {α : Type} {H : HeapI} {enc : α → List Value} {s : St H} {id m2 : Nat} {xs ys : List α} (hl : ∀ x, (enc x).length = 1) (ht : H.get s.h id = some (.tok xs.length 1)) (hb : (xs.length + ys.length) * 8 ≤ 140737488355328) : appD Tryd.prog false s 45 45 (sl enc (id + 3) xs) (sl enc m2 ys) = some (sl enc (id + 3) (xs ++ ys), putD s id (.tok (xs.length + ys.length) 1)) :=
  app_tok (i := Tryd.t3) u45 u45 (by kernel_rfl) zr3 rfl (by decide +kernel) hl ht hb (Nat.le_trans (Nat.le_mul_of_pos_right _ (by decide)) hb)
theorem ixs46 {α : Type} {enc : α → List Value} {m i : Nat} {k : IntKind} {xs : List α} (hl : ∀ x, (enc x).length = 1) (hi : i < xs.length) : indexAddrD Tryd.prog 46 (sl enc m xs) (.int k (i : Int)) = some (fpV (enc xs[i]).toArray 0) := index_sl u46 z38 hl hi
theorem apn46 {α : Type} {H : HeapI} {enc : α → List Value} {s : St H} {m m2 : Nat} {xs ys : List α} (hl : ∀ x, (enc x).length = 1) (hm : m = 1 ∨ m = 2) (hb : (xs.length + ys.length) * 8 ≤ 140737488355328) : appD Tryd.prog false s 46 46 (sl enc m xs) (sl enc m2 ys) = some (sl enc (s.n + 3) (xs ++ ys), newD s (.tok (xs.length + ys.length) 1)) :=
  app_new (i := Tryd.t38) u46 u46 (by kernel_rfl) zr38 rfl (by decide +kernel) hl hm hb (Nat.le_trans (Nat.le_mul_of_pos_right _ (by decide)) hb)
theorem apt46 {α : Type} {H : HeapI} {enc : α → List Value} {s : St H} {id m2 : Nat} {xs ys : List α} (hl : ∀ x, (enc x).length = 1) (ht : H.get s.h id = some (.tok xs.length 1)) (hb : (xs.length + ys.length) * 8 ≤ 140737488355328) : appD Tryd.prog false s 46 46 (sl enc (id + 3) xs) (sl enc m2 ys) = some (sl enc (id + 3) (xs ++ ys), putD s id (.tok (xs.length + ys.length) 1)) :=
  app_tok (i := Tryd.t38) u46 u46 (by kernel_rfl) zr38 rfl (by decide +kernel) hl ht hb (Nat.le_trans (Nat.le_mul_of_pos_right _ (by decide)) hb)
theorem fld58_0 (id : Nat) : fieldAddrD Tryd.prog 58 (.pointer (some ⟨id, 0, none⟩)) 0 = some (.pointer (some ⟨id, 0, none⟩)) := (field_own (n := 1) (fd := { name := "From", type := 3, offset := 0, embedded := false, tag := "", pkgPath := "", byteOffset := 0 }) u58 rfl z3 (by decide)).trans (by rw [Nat.zero_add])
theorem flf58_0 (cs : Array Value) : fieldAddrD Tryd.prog 58 (fpV cs 0) 0 = some (fpV cs 0) := (field_fp (n := 1) (fd := { name := "From", type := 3, offset := 0, embedded := false, tag := "", pkgPath := "", byteOffset := 0 }) u58 rfl z3 (by decide)).trans (by rw [Nat.zero_add])
theorem fld58_1 (id : Nat) : fieldAddrD Tryd.prog 58 (.pointer (some ⟨id, 0, none⟩)) 1 = some (.pointer (some ⟨id, 1, none⟩)) := (field_own (n := 1) (fd := { name := "To", type := 3, offset := 1, embedded := false, tag := "", pkgPath := "", byteOffset := 8 }) u58 rfl z3 (by decide)).trans (by rw [Nat.zero_add])
theorem flf58_1 (cs : Array Value) : fieldAddrD Tryd.prog 58 (fpV cs 0) 1 = some (fpV cs 1) := (field_fp (n := 1) (fd := { name := "To", type := 3, offset := 1, embedded := false, tag := "", pkgPath := "", byteOffset := 8 }) u58 rfl z3 (by decide)).trans (by rw [Nat.zero_add])
end Go.Proofs.YtmhmbmogodofeaaDoor.S
