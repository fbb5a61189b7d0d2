import Derived.Test.YtmhmbmogodofeaaFw
import Derived.ProofKit
import Derived.Test.YtmhmbmogodofeaaRows
set_option linter.unusedVariables false
set_option maxRecDepth 100000
namespace Go.Proofs.Ytmhmbmogodofeaa.S
open Go.FS Go.RowKit
open Go.Proofs.Try (prog)
theorem u3:prog.underlying 3=some (Go.TypeDesc.int Go.IntKind.i64):=by kernel_rfl
theorem z3:sizeD prog 3=some 1:=by kernel_rfl
theorem a3:aggD prog 3=some false:=by kernel_rfl
theorem zr3:zeroD prog 3=some [(Go.Value.int Go.IntKind.i64 0)]:=by kernel_rfl
theorem u4:prog.underlying 4=some Go.TypeDesc.bool:=by kernel_rfl
theorem z4:sizeD prog 4=some 1:=by kernel_rfl
theorem a4:aggD prog 4=some false:=by kernel_rfl
theorem zr4:zeroD prog 4=some [(Go.Value.bool false)]:=by kernel_rfl
theorem u67:prog.underlying 67=some (Go.TypeDesc.slice 70):=by kernel_rfl
theorem z67:sizeD prog 67=some 1:=by kernel_rfl
theorem a67:aggD prog 67=some false:=by kernel_rfl
theorem u70:prog.underlying 70=some (Go.TypeDesc.int Go.IntKind.u64):=by kernel_rfl
theorem z70:sizeD prog 70=some 1:=by kernel_rfl
theorem a70:aggD prog 70=some false:=by kernel_rfl
theorem zr70:zeroD prog 70=some [(Go.Value.int Go.IntKind.u64 0)]:=by kernel_rfl
theorem u201:prog.underlying 201=some (Go.TypeDesc.int Go.IntKind.u64):=by kernel_rfl
theorem u261:prog.underlying 261=some (Go.TypeDesc.int Go.IntKind.u64):=by kernel_rfl
theorem z261:sizeD prog 261=some 1:=by kernel_rfl
theorem a261:aggD prog 261=some false:=by kernel_rfl
theorem zr261:zeroD prog 261=some [(Go.Value.int Go.IntKind.u64 0)]:=by kernel_rfl
theorem ixs67 {α:Type} {enc:α→List Value} {m i:Nat} {k:IntKind} {xs:List α} (hl:∀ x,(enc x).length=1) (hi:i<xs.length):indexAddrD prog 67 (sl enc m xs) (.int k (i:Int))=some (fpV (enc xs[i]).toArray 0):=index_sl u67 z70 hl hi
theorem u5:prog.underlying 5=some (Go.TypeDesc.int Go.IntKind.u8):=by kernel_rfl
theorem z5:sizeD prog 5=some 1:=by kernel_rfl
theorem a5:aggD prog 5=some false:=by kernel_rfl
theorem zr5:zeroD prog 5=some [(Go.Value.int Go.IntKind.u8 0)]:=by kernel_rfl
theorem u9:prog.underlying 9=some Go.TypeDesc.string:=by kernel_rfl
end Go.Proofs.Ytmhmbmogodofeaa.S
