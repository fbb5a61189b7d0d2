/- The plain runs of functions (printed by shal.py). -/
import Derived.Test.YtmhmbmogodofeaaFw
import Derived.ProofKit
import Derived.Test.YtmhmbmogodofeaaRows
set_option autoImplicit false
set_option linter.unusedVariables false
set_option maxRecDepth 100000
namespace Go.Proofs.Ytmhmbmogodofeaa.S
open Go.FS Go.RowKit
variable {H : HeapI}
/-! tidepole/tidepolelaw19.RecCuts -/
noncomputable def f13 (O : Ops H) (C : OracleJ H) (n : Nat) (a0 : Value) (a1 : Value) (s : St H) : Option (List (Value × St H)) :=
 (O.box s a0).bind fun p1 =>
 (C (.fn 42) [] p1.2).bind fun L2 => manyK L2 fun v3 s4 =>
 (O.uop .not v3).bind fun v5 =>
 (O.boolO v5).bind fun b6 => cond b6 (
 some [((.bool false), s4)]) (
 (O.load s4 72 p1.1).bind fun v7 =>
 (C (.fn 39) [v7] s4).bind fun L8 => manyK L8 fun v9 s10 =>
 (C (.fn 43) [v9] s10).bind fun L11 => manyK L11 fun v12 s13 =>
 (O.extract v12 0).bind fun v14 =>
 (O.extract v12 1).bind fun v15 =>
 (O.bop .neq 26 v15 (Go.Value.int Go.IntKind.i64 0)).bind fun v16 =>
 (O.boolO v16).bind fun b17 => cond b17 (
 (O.len s13 35 v14).bind fun v18 =>
 (O.bop .eql 3 v18 (Go.Value.int Go.IntKind.i64 0)).bind fun v19 =>
 some [(v19, s13)]) (
 (O.len s13 35 v14).bind fun v20 =>
 (C (.fn 20) [a1, v20] s13).bind fun L21 => manyK L21 fun v22 s23 =>
 (O.slc s23 35 v14 none (some v22) none).bind fun v24 =>
 (C (.fn 44) [v24] s23).bind fun L25 => manyK L25 fun v26 s27 =>
 (O.extract v26 0).bind fun v28 =>
 (O.extract v26 1).bind fun v29 =>
 (O.alloc s27 72).bind fun p30 =>
 (O.store p30.2 72 p30.1 v28).bind fun s31 =>
 (O.bop .neq 26 v29 (Go.Value.int Go.IntKind.i64 0)).bind fun v32 =>
 some [(v32, s31)]))
theorem f13_r (C : OracleJ H) (n : Nat) (a0 : Value) (a1 : Value) (s : St H) : bodyD Try.prog false C n 13 Try.f13 [a0, a1] s = f13 (dOps (H := H) Try.prog) C n a0 a1 s := by kernel_rfl
/-! tidepole/tidepolebase.Among -/
noncomputable def f20 (O : Ops H) (C : OracleJ H) (n : Nat) (a0 : Value) (a1 : Value) (s : St H) : Option (List (Value × St H)) :=
 (O.bop .lss 3 a1 (Go.Value.int Go.IntKind.i64 1)).bind fun v1 =>
 (O.boolO v1).bind fun b2 => cond b2 (
 some [((Go.Value.int Go.IntKind.i64 0), s)]) (
 (O.conv false s 3 70 a0).bind fun p3 =>
 (O.conv false p3.2 3 70 a1).bind fun p4 =>
 (O.bop .rem 70 p3.1 p4.1).bind fun v5 =>
 (O.conv false p4.2 70 3 v5).bind fun p6 =>
 some [(p6.1, p6.2)])
theorem f20_r (C : OracleJ H) (n : Nat) (a0 : Value) (a1 : Value) (s : St H) : bodyD Try.prog false C n 20 Try.f20 [a0, a1] s = f20 (dOps (H := H) Try.prog) C n a0 a1 s := by kernel_rfl
end Go.Proofs.Ytmhmbmogodofeaa.S
