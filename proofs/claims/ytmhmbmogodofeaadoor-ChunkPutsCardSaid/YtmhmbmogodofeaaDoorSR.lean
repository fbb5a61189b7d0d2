import Derived.Test.YtmhmbmogodofeaaDoorFy
import Derived.ProofKit
import Derived.Test.YtmhmbmogodofeaaDoorRows
/- The plain runs of functions (printed by shal.py). -/
set_option autoImplicit false
set_option linter.unusedVariables false
set_option maxRecDepth 100000
namespace Go.Proofs.YtmhmbmogodofeaaDoor.S
open Go.FS Go.RowKit
variable {H : HeapI}
/-! tidepole/tidepolelaw08.ChunkReads -/
noncomputable def f3 (O : Ops H) (C : OracleJ H) (n : Nat) (a0 : Value) (a1 : Value) (s : St H) : Option (List (Value × St H)) :=
 (O.len s 22 a0).bind fun v1 =>
 (O.minO v1 [(Value.int IntKind.i64 600)]).bind fun v2 =>
 (O.slc s 22 a0 none (some v2) none).bind fun v3 =>
 (C (.fn 8) [v3] s).bind fun L4 => manyK L4 fun v5 s6 =>
 (C (.fn 9) [v5, a1] s6).bind fun L7 => manyK L7 fun v8 s9 =>
 (O.extract v8 0).bind fun v10 =>
 (O.extract v8 1).bind fun v11 =>
 (O.extract v8 2).bind fun v12 =>
 (C (.fn 10) [v3, a1] s9).bind fun L13 => manyK L13 fun v14 s15 =>
 (O.extract v14 0).bind fun v16 =>
 (O.extract v14 1).bind fun v17 =>
 (O.extract v14 2).bind fun v18 =>
 (C (.fn 11) [v10, v16] s15).bind fun L19 => manyK L19 fun v20 s21 =>
 gd v20 (
 (O.bop .eql 3 v11 v17).bind fun v22 =>
 gd v22 (
 (O.bop .eql 25 v12 v18).bind fun v23 =>
 gd v23 (
 (C (.fn 12) [v5, v3] s21).bind fun L24 => manyK L24 fun v25 s26 =>
 gd v25 (
 (C (.fn 13) [] s26).bind fun L27 => manyK L27 fun v28 s29 =>
 some [(v28, s29)]) (
 some [((.bool false), s26)]) (
 none)) (
 some [((.bool false), s21)]) (
 none)) (
 some [((.bool false), s21)]) (
 none)) (
 some [((.bool false), s21)]) (
 none)
/-! tidepole/tidepoleref08.Read -/
/-! tidepole/tidepoleref01.Read -/
/-! tidepole/tidepoleref02.Open -/
/-! tidepole/tidepoleref07.Begin -/
noncomputable def f34 (O : Ops H) (C : OracleJ H) (n : Nat) (s : St H) : Option (List (Value × St H)) :=
 (O.alloc s 81).bind fun p1 =>
 (O.build 81 [(2, (Value.int IntKind.i64 64))]).bind fun v2 =>
 (O.store p1.2 81 p1.1 v2).bind fun s3 =>
 (O.load s3 81 p1.1).bind fun v4 => some [(v4, s3)]
theorem f34_r (C : OracleJ H) (n : Nat) (s : St H) : bodyD Tryd.prog false C n 34 Tryd.f34 [] s = f34 (dOps (H := H) Tryd.prog) C n s := by kernel_rfl
/-! tidepole/tidepoleref06.Get -/
/-! tidepole/tidepoleref07.Get -/
/-! (*tidepole/tidepoleref05.Reader).Get -/
/-! tidepole/tidepoleref02.Read -/
/-! tidepole/tidepoleref02.Sum -/
noncomputable def f66 (O : Ops H) (C : OracleJ H) (n : Nat) (a0 : Value) (s : St H) : Option (List (Value × St H)) :=
 (C (.fn 97) [(Value.int IntKind.u32 0), a0] s).bind fun L1 => manyK L1 fun v2 s3 =>
 some [(v2, s3)]
theorem f66_r (C : OracleJ H) (n : Nat) (a0 : Value) (s : St H) : bodyD Tryd.prog false C n 66 Tryd.f66 [a0] s = f66 (dOps (H := H) Tryd.prog) C n a0 s := by kernel_rfl
/-! tidepole/tidepoleref06.right -/
noncomputable def f67 (O : Ops H) (C : OracleJ H) (n : Nat) (a0 : Value) (s : St H) : Option (List (Value × St H)) :=
 (O.box s a0).bind fun p1 =>
 (O.fieldAddr 79 p1.1 0).bind fun v2 =>
 (O.load p1.2 3 v2).bind fun v3 =>
 (O.bop .geq 3 v3 (Value.int IntKind.i64 0)).bind fun v4 =>
 gd v4 (
 (O.fieldAddr 79 p1.1 0).bind fun v5 =>
 (O.load p1.2 3 v5).bind fun v6 =>
 (O.bop .leq 3 v6 (Value.int IntKind.i64 4096)).bind fun v7 =>
 gd v7 (
 (O.fieldAddr 79 p1.1 2).bind fun v8 =>
 (O.load p1.2 3 v8).bind fun v9 =>
 (O.bop .geq 3 v9 (Value.int IntKind.i64 0)).bind fun v10 =>
 gd v10 (
 (O.fieldAddr 79 p1.1 2).bind fun v11 =>
 (O.load p1.2 3 v11).bind fun v12 =>
 (O.bop .leq 3 v12 (Value.int IntKind.i64 35184372088832)).bind fun v13 =>
 gd v13 (
 (O.fieldAddr 79 p1.1 1).bind fun v14 =>
 (O.load p1.2 3 v14).bind fun v15 =>
 (O.bop .geq 3 v15 (Value.int IntKind.i64 0)).bind fun v16 =>
 gd v16 (
 (O.fieldAddr 79 p1.1 1).bind fun v17 =>
 (O.load p1.2 3 v17).bind fun v18 =>
 (O.bop .leq 3 v18 (Value.int IntKind.i64 35184372088832)).bind fun v19 =>
 some [(v19, p1.2)]) (
 some [((.bool false), p1.2)]) (
 none)) (
 some [((.bool false), p1.2)]) (
 none)) (
 some [((.bool false), p1.2)]) (
 none)) (
 some [((.bool false), p1.2)]) (
 none)) (
 some [((.bool false), p1.2)]) (
 none)
theorem f67_r (C : OracleJ H) (n : Nat) (a0 : Value) (s : St H) : bodyD Tryd.prog false C n 67 Tryd.f67 [a0] s = f67 (dOps (H := H) Tryd.prog) C n a0 s := by kernel_rfl
/-! tidepole/tidepoleref06.class -/
noncomputable def f68 (O : Ops H) (C : OracleJ H) (n : Nat) (a0 : Value) (s : St H) : Option (List (Value × St H)) :=
 (O.bop .eql 38 a0 (Value.int IntKind.u64 0)).bind fun v1 =>
 (O.boolO v1).bind fun b2 => cond b2 (
 some [(.tuple #[(Value.int IntKind.i64 0), (Value.int IntKind.i64 0)], s)]) (
 (O.bop .lss 38 a0 (Value.int IntKind.u64 128)).bind fun v3 =>
 (O.boolO v3).bind fun b4 => cond b4 (
 some [(.tuple #[(Value.int IntKind.i64 1), (Value.int IntKind.i64 7)], s)]) (
 (O.bop .lss 38 a0 (Value.int IntKind.u64 4096)).bind fun v5 =>
 (O.boolO v5).bind fun b6 => cond b6 (
 some [(.tuple #[(Value.int IntKind.i64 2), (Value.int IntKind.i64 12)], s)]) (
 (O.bop .lss 38 a0 (Value.int IntKind.u64 1048576)).bind fun v7 =>
 (O.boolO v7).bind fun b8 => cond b8 (
 some [(.tuple #[(Value.int IntKind.i64 3), (Value.int IntKind.i64 20)], s)]) (
 some [(.tuple #[(Value.int IntKind.i64 4), (Value.int IntKind.i64 48)], s)]))))
theorem f68_r (C : OracleJ H) (n : Nat) (a0 : Value) (s : St H) : bodyD Tryd.prog false C n 68 Tryd.f68 [a0] s = f68 (dOps (H := H) Tryd.prog) C n a0 s := by kernel_rfl
/-! tidepole/tidepoleref07.right -/
noncomputable def f69 (O : Ops H) (C : OracleJ H) (n : Nat) (a0 : Value) (s : St H) : Option (List (Value × St H)) :=
 (O.box s a0).bind fun p1 =>
 (O.fieldAddr 81 p1.1 0).bind fun v2 =>
 (O.load p1.2 3 v2).bind fun v3 =>
 (O.bop .lss 3 v3 (Value.int IntKind.i64 0)).bind fun v4 =>
 gd v4 (
 some [((.bool false), p1.2)]) (
 (O.fieldAddr 81 p1.1 0).bind fun v5 =>
 (O.load p1.2 3 v5).bind fun v6 =>
 (O.bop .gtr 3 v6 (Value.int IntKind.i64 4096)).bind fun v7 =>
 (O.boolO v7).bind fun b10 => cond b10 (
 some [((.bool false), p1.2)]) (
 (O.fieldAddr 81 p1.1 2).bind fun v11 =>
 (O.load p1.2 3 v11).bind fun v12 =>
 (O.bop .eql 3 v12 (Value.int IntKind.i64 64)).bind fun v13 =>
 (O.boolO v13).bind fun b14 => cond b14 (
 (O.fieldAddr 81 p1.1 3).bind fun v15 =>
 (O.load p1.2 3 v15).bind fun v16 =>
 (O.bop .eql 3 v16 (Value.int IntKind.i64 0)).bind fun v17 =>
 some [(v17, p1.2)]) (
 (O.fieldAddr 81 p1.1 2).bind fun v18 =>
 (O.load p1.2 3 v18).bind fun v19 =>
 (O.bop .geq 3 v19 (Value.int IntKind.i64 0)).bind fun v20 =>
 gd v20 (
 (O.fieldAddr 81 p1.1 2).bind fun v21 =>
 (O.load p1.2 3 v21).bind fun v22 =>
 (O.bop .leq 3 v22 (Value.int IntKind.i64 63)).bind fun v23 =>
 gd v23 (
 (O.fieldAddr 81 p1.1 3).bind fun v24 =>
 (O.load p1.2 3 v24).bind fun v25 =>
 (O.bop .geq 3 v25 (Value.int IntKind.i64 0)).bind fun v26 =>
 gd v26 (
 (O.fieldAddr 81 p1.1 3).bind fun v27 =>
 (O.load p1.2 3 v27).bind fun v28 =>
 (O.bop .leq 3 v28 (Value.int IntKind.i64 63)).bind fun v29 =>
 gd v29 (
 (O.fieldAddr 81 p1.1 2).bind fun v30 =>
 (O.load p1.2 3 v30).bind fun v31 =>
 (O.fieldAddr 81 p1.1 3).bind fun v32 =>
 (O.load p1.2 3 v32).bind fun v33 =>
 (O.bop .add 3 v31 v33).bind fun v34 =>
 (O.bop .leq 3 v34 (Value.int IntKind.i64 63)).bind fun v35 =>
 some [(v35, p1.2)]) (
 some [((.bool false), p1.2)]) (
 none)) (
 some [((.bool false), p1.2)]) (
 none)) (
 some [((.bool false), p1.2)]) (
 none)) (
 some [((.bool false), p1.2)]) (
 none)))) (
 none)
theorem f69_r (C : OracleJ H) (n : Nat) (a0 : Value) (s : St H) : bodyD Tryd.prog false C n 69 Tryd.f69 [a0] s = f69 (dOps (H := H) Tryd.prog) C n a0 s := by kernel_rfl
/-! tidepole/tidepoleref07.ends -/
def f70_l0_m (i0 i8 : Value) (x : Value × Value) : List Value := [i0, undefV, (Value.int IntKind.i64 0), (Value.int IntKind.i64 0), x.1, (Value.int IntKind.i64 0), x.2, undefV, i8, dc, dc, dc, dc, dc, dc, undefV, undefV, undefV, undefV, undefV, undefV, undefV, undefV, undefV, undefV]
noncomputable def f70_l0 (O : Ops H) (C : OracleJ H) (n : Nat) (nx : (Value × Value) → St H → Option (List (Value × St H))) (kx : Nat → (Value × Value) → St H → Option (List (Value × St H))) (kr : (Value × Value) → St H → Option (List (Value × St H))) (x : Value × Value) (s : St H) : Option (List (Value × St H)) :=
 (O.bop .lss 38 x.2 (Value.int IntKind.u64 9223372036854775808)).bind fun v1 =>
 (O.boolO v1).bind fun b2 => cond b2 (
 (O.bop .add 3 x.1 (Value.int IntKind.i64 1)).bind fun v3 =>
 (O.bop .mul 38 (Value.int IntKind.u64 2) x.2).bind fun v4 =>
 nx (v3, v4) s) (
 kx 0 (x.1, x.2) s)
theorem f70_l0_b (C : OracleJ H) (n : Nat) (i0 i8 : Value) (x : Value × Value) (s : St H) (nx : List Value → St H → Option (List (Value × St H))) (K : Ex → List Value → St H → Option (List (Value × St H))) :
 exec Tryd.prog false C n 70 none (cdp Tryd.f70 [1, 1, 0, 1, 0, 0]) (f70_l0_m i0 i8 x) s (kIter (scratch (cdp Tryd.f70 [1, 1, 0, 1, 0, 0])) nx K) = f70_l0 (dOps (H := H) Tryd.prog) C n (fun x s => nx (f70_l0_m i0 i8 x) s) (fun i x s => K (.exit i) (f70_l0_m i0 i8 x) s) (fun x s => K .ret (f70_l0_m i0 i8 x) s) x s := by kernel_rfl
theorem f70_l0_e (C : OracleJ H) (n : Nat) (i0 i8 : Value) (m : Nat) (x : Value × Value) (s : St H) (K : Ex → List Value → St H → Option (List (Value × St H))) :
 iter (fun t s k => exec Tryd.prog false C n 70 none (cdp Tryd.f70 [1, 1, 0, 1, 0, 0]) t s k) (scratch (cdp Tryd.f70 [1, 1, 0, 1, 0, 0])) m (f70_l0_m i0 i8 x) s K = iterS (f70_l0 (dOps (H := H) Tryd.prog) C n) (fun i x s => K (.exit i) (f70_l0_m i0 i8 x) s) (fun x s => K .ret (f70_l0_m i0 i8 x) s) m x s :=
   iter_eq (f70_l0_m i0 i8) (f70_l0 (dOps (H := H) Tryd.prog) C n) (fun x s nx K => f70_l0_b C n i0 i8 x s nx K) K m x s
def f70_l1_m (i0 i4 i6 i8 i15 : Value) (x : Value × Value) : List Value := [i0, undefV, (Value.int IntKind.i64 0), (Value.int IntKind.i64 0), i4, x.1, i6, x.2, i8, dc, dc, dc, dc, dc, dc, i15, dc, dc, dc, dc, dc, dc, dc, undefV, undefV]
noncomputable def f70_l1 (O : Ops H) (C : OracleJ H) (n : Nat) (nx : (Value × Value) → St H → Option (List (Value × St H))) (kx : Nat → (Value × Value) → St H → Option (List (Value × St H))) (kr : (Value × Value) → St H → Option (List (Value × St H))) (x : Value × Value) (s : St H) : Option (List (Value × St H)) :=
 (O.bop .rem 38 x.2 (Value.int IntKind.u64 2)).bind fun v10 =>
 (O.bop .eql 38 v10 (Value.int IntKind.u64 0)).bind fun v11 =>
 (O.boolO v11).bind fun b12 => cond b12 (
 (O.bop .add 3 x.1 (Value.int IntKind.i64 1)).bind fun v13 =>
 (O.bop .quo 38 x.2 (Value.int IntKind.u64 2)).bind fun v14 =>
 nx (v13, v14) s) (
 kx 2 (x.1, x.2) s)
theorem f70_l1_b (C : OracleJ H) (n : Nat) (i0 i4 i6 i8 i15 : Value) (x : Value × Value) (s : St H) (nx : List Value → St H → Option (List (Value × St H))) (K : Ex → List Value → St H → Option (List (Value × St H))) :
 exec Tryd.prog false C n 70 none (cdp Tryd.f70 [1, 1, 1, 0, 1, 0, 0]) (f70_l1_m i0 i4 i6 i8 i15 x) s (kIter (scratch (cdp Tryd.f70 [1, 1, 1, 0, 1, 0, 0])) nx K) = f70_l1 (dOps (H := H) Tryd.prog) C n (fun x s => nx (f70_l1_m i0 i4 i6 i8 i15 x) s) (fun i x s => K (.exit i) (f70_l1_m i0 i4 i6 i8 i15 x) s) (fun x s => K .ret (f70_l1_m i0 i4 i6 i8 i15 x) s) x s := by kernel_rfl
theorem f70_l1_e (C : OracleJ H) (n : Nat) (i0 i4 i6 i8 i15 : Value) (m : Nat) (x : Value × Value) (s : St H) (K : Ex → List Value → St H → Option (List (Value × St H))) :
 iter (fun t s k => exec Tryd.prog false C n 70 none (cdp Tryd.f70 [1, 1, 1, 0, 1, 0, 0]) t s k) (scratch (cdp Tryd.f70 [1, 1, 1, 0, 1, 0, 0])) m (f70_l1_m i0 i4 i6 i8 i15 x) s K = iterS (f70_l1 (dOps (H := H) Tryd.prog) C n) (fun i x s => K (.exit i) (f70_l1_m i0 i4 i6 i8 i15 x) s) (fun x s => K .ret (f70_l1_m i0 i4 i6 i8 i15 x) s) m x s :=
   iter_eq (f70_l1_m i0 i4 i6 i8 i15) (f70_l1 (dOps (H := H) Tryd.prog) C n) (fun x s nx K => f70_l1_b C n i0 i4 i6 i8 i15 x s nx K) K m x s
noncomputable def f70 (O : Ops H) (C : OracleJ H) (n : Nat) (a0 : Value) (s : St H) : Option (List (Value × St H)) :=
 iterS (f70_l0 O C n )
 (fun i5 x6 s7 => (bif Nat.beq i5 0 then
 iterS (f70_l1 O C n )
 (fun i15 x16 s17 => (bif Nat.beq i15 2 then
 some [(.tuple #[x6.1, x16.1], s17)] else none))
 (fun x18 s19 => some [(.tuple #[(Value.int IntKind.i64 0), (Value.int IntKind.i64 0)], s19)]) n ((Value.int IntKind.i64 0), a0) s7 else none))
 (fun x8 s9 => some [(.tuple #[(Value.int IntKind.i64 0), (Value.int IntKind.i64 0)], s9)]) n ((Value.int IntKind.i64 0), a0) s
theorem f70_l1_k (C : OracleJ H) (n : Nat) (i0 i4 i6 i8 i15 : Value) (i : Nat) (x : Value × Value) (s : St H) : (kBlock 2 (kSeq Tryd.prog false C n 70 none (cdp Tryd.f70 [1, 1, 1, 1]) (kFun Tryd.prog Tryd.f70))) (.exit i) (f70_l1_m i0 i4 i6 i8 i15 x) s =
 (bif Nat.beq i 2 then
 some [(.tuple #[i4, x.1], s)] else none) := by kernel_rfl
theorem f70_l0_k (C : OracleJ H) (n : Nat) (i0 i8 : Value) (i : Nat) (x : Value × Value) (s : St H) : (kBlock 0 (kSeq Tryd.prog false C n 70 none (cdp Tryd.f70 [1, 1, 1]) (kFun Tryd.prog Tryd.f70))) (.exit i) (f70_l0_m i0 i8 x) s =
 (bif Nat.beq i 0 then
 iterS (f70_l1 (dOps (H := H) Tryd.prog) C n )
 (fun i20 x21 s22 => (bif Nat.beq i20 2 then
 some [(.tuple #[x.1, x21.1], s22)] else none))
 (fun x23 s24 => some [(.tuple #[(Value.int IntKind.i64 0), (Value.int IntKind.i64 0)], s24)]) n ((Value.int IntKind.i64 0), i0) s else none) := by
  have h1 : (kBlock 0 (kSeq Tryd.prog false C n 70 none (cdp Tryd.f70 [1, 1, 1]) (kFun Tryd.prog Tryd.f70))) (.exit i) (f70_l0_m i0 i8 x) s =
 (bif Nat.beq i 0 then
 iter (fun t s k => exec Tryd.prog false C n 70 none (cdp Tryd.f70 [1, 1, 1, 0, 1, 0, 0]) t s k) (scratch (cdp Tryd.f70 [1, 1, 1, 0, 1, 0, 0])) n (f70_l1_m i0 x.1 x.2 i8 i0 ((Value.int IntKind.i64 0), i0)) s (kBlock 2 (kSeq Tryd.prog false C n 70 none (cdp Tryd.f70 [1, 1, 1, 1]) (kFun Tryd.prog Tryd.f70))) else none) := by kernel_rfl
  rw [h1]
  simp only [f70_l1_e, f70_l1_k]
  show _ = (bif Nat.beq i 0 then
 iterS (f70_l1 (dOps (H := H) Tryd.prog) C n )
 (fun i20 x21 s22 => (bif Nat.beq i20 2 then
 some [(.tuple #[x.1, x21.1], s22)] else none))
 (fun x23 s24 => some [(.tuple #[(Value.int IntKind.i64 0), (Value.int IntKind.i64 0)], s24)]) n ((Value.int IntKind.i64 0), i0) s else none)
  kernel_rfl
theorem f70_r (C : OracleJ H) (n : Nat) (a0 : Value) (s : St H) : bodyD Tryd.prog false C n 70 Tryd.f70 [a0] s = f70 (dOps (H := H) Tryd.prog) C n a0 s := by
  have h1 : bodyD Tryd.prog false C n 70 Tryd.f70 [a0] s =
 iter (fun t s k => exec Tryd.prog false C n 70 none (cdp Tryd.f70 [1, 1, 0, 1, 0, 0]) t s k) (scratch (cdp Tryd.f70 [1, 1, 0, 1, 0, 0])) n (f70_l0_m a0 a0 ((Value.int IntKind.i64 0), a0)) s (kBlock 0 (kSeq Tryd.prog false C n 70 none (cdp Tryd.f70 [1, 1, 1]) (kFun Tryd.prog Tryd.f70))) := by kernel_rfl
  rw [h1]
  simp only [f70_l0_e, f70_l0_k]
  show _ = f70 (dOps (H := H) Tryd.prog) C n a0 s
  kernel_rfl
/-! tidepole/tidepoleref02.More -/
def f97_l0_m (i0 i1 i7 i8 : Value) (x : Value × Value) : List Value := [i0, i1, undefV, undefV, (Value.int IntKind.u32 0), x.1, x.2, i7, i8, dc, dc, dc, dc, dc, dc, dc, dc, dc, dc, dc, dc, dc, dc, undefV, undefV]
noncomputable def f97_l0 (O : Ops H) (C : OracleJ H) (n : Nat) (i1 : Value) (nx : (Value × Value) → St H → Option (List (Value × St H))) (kx : Nat → (Value × Value) → St H → Option (List (Value × St H))) (kr : (Value × Value) → St H → Option (List (Value × St H))) (x : Value × Value) (s : St H) : Option (List (Value × St H)) :=
 (O.len s 22 i1).bind fun v2 =>
 (O.bop .lss 3 x.2 v2).bind fun v3 =>
 (O.boolO v3).bind fun b4 => cond b4 (
 (O.indexAddr 22 i1 x.2).bind fun v5 =>
 (O.load s 5 v5).bind fun v6 =>
 (O.conv false s 5 127 v6).bind fun p7 =>
 (O.bop .xor 127 x.1 p7.1).bind fun v8 =>
 (C (.fn 109) [v8] p7.2).bind fun L9 => manyK L9 fun v10 s11 =>
 (O.bop .add 3 x.2 (Value.int IntKind.i64 1)).bind fun v12 =>
 nx (v10, v12) s11) (
 kx 0 (x.1, x.2) s)
theorem f97_l0_b (C : OracleJ H) (n : Nat) (i0 i1 i7 i8 : Value) (x : Value × Value) (s : St H) (nx : List Value → St H → Option (List (Value × St H))) (K : Ex → List Value → St H → Option (List (Value × St H))) :
 exec Tryd.prog false C n 97 none (cdp Tryd.f97 [1, 1, 0, 1, 0, 0]) (f97_l0_m i0 i1 i7 i8 x) s (kIter (scratch (cdp Tryd.f97 [1, 1, 0, 1, 0, 0])) nx K) = f97_l0 (dOps (H := H) Tryd.prog) C n i1 (fun x s => nx (f97_l0_m i0 i1 i7 i8 x) s) (fun i x s => K (.exit i) (f97_l0_m i0 i1 i7 i8 x) s) (fun x s => K .ret (f97_l0_m i0 i1 i7 i8 x) s) x s := by kernel_rfl
theorem f97_l0_e (C : OracleJ H) (n : Nat) (i0 i1 i7 i8 : Value) (m : Nat) (x : Value × Value) (s : St H) (K : Ex → List Value → St H → Option (List (Value × St H))) :
 iter (fun t s k => exec Tryd.prog false C n 97 none (cdp Tryd.f97 [1, 1, 0, 1, 0, 0]) t s k) (scratch (cdp Tryd.f97 [1, 1, 0, 1, 0, 0])) m (f97_l0_m i0 i1 i7 i8 x) s K = iterS (f97_l0 (dOps (H := H) Tryd.prog) C n i1) (fun i x s => K (.exit i) (f97_l0_m i0 i1 i7 i8 x) s) (fun x s => K .ret (f97_l0_m i0 i1 i7 i8 x) s) m x s :=
   iter_eq (f97_l0_m i0 i1 i7 i8) (f97_l0 (dOps (H := H) Tryd.prog) C n i1) (fun x s nx K => f97_l0_b C n i0 i1 i7 i8 x s nx K) K m x s
noncomputable def f97 (O : Ops H) (C : OracleJ H) (n : Nat) (a0 : Value) (a1 : Value) (s : St H) : Option (List (Value × St H)) :=
 (O.bop .xor 127 a0 (Value.int IntKind.u32 4294967295)).bind fun v1 =>
 iterS (f97_l0 O C n a1 )
 (fun i13 x14 s15 => (bif Nat.beq i13 0 then
 (O.bop .xor 127 x14.1 (Value.int IntKind.u32 4294967295)).bind fun v18 =>
 some [(v18, s15)] else none))
 (fun x16 s17 => some [((Value.int IntKind.u32 0), s17)]) n (v1, (Value.int IntKind.i64 0)) s
theorem f97_l0_k (C : OracleJ H) (n : Nat) (i0 i1 i7 i8 : Value) (i : Nat) (x : Value × Value) (s : St H) : (kBlock 0 (kSeq Tryd.prog false C n 97 none (cdp Tryd.f97 [1, 1, 1]) (kFun Tryd.prog Tryd.f97))) (.exit i) (f97_l0_m i0 i1 i7 i8 x) s =
 (bif Nat.beq i 0 then
 ((dOps (H := H) Tryd.prog).bop .xor 127 x.1 (Value.int IntKind.u32 4294967295)).bind fun v21 =>
 some [(v21, s)] else none) := by kernel_rfl
theorem f97_r (C : OracleJ H) (n : Nat) (a0 : Value) (a1 : Value) (s : St H) : bodyD Tryd.prog false C n 97 Tryd.f97 [a0, a1] s = f97 (dOps (H := H) Tryd.prog) C n a0 a1 s := by
  have h1 : bodyD Tryd.prog false C n 97 Tryd.f97 [a0, a1] s =
 ((dOps (H := H) Tryd.prog).bop .xor 127 a0 (Value.int IntKind.u32 4294967295)).bind fun v19 =>
 iter (fun t s k => exec Tryd.prog false C n 97 none (cdp Tryd.f97 [1, 1, 0, 1, 0, 0]) t s k) (scratch (cdp Tryd.f97 [1, 1, 0, 1, 0, 0])) n (f97_l0_m a0 a1 a0 v19 (v19, (Value.int IntKind.i64 0))) s (kBlock 0 (kSeq Tryd.prog false C n 97 none (cdp Tryd.f97 [1, 1, 1]) (kFun Tryd.prog Tryd.f97))) := by kernel_rfl
  rw [h1]
  simp only [f97_l0_e, f97_l0_k]
  show _ = f97 (dOps (H := H) Tryd.prog) C n a0 a1 s
  kernel_rfl
/-! tidepole/tidepoleref02.step -/
def f109_l0_m (x : Value × Value) : List Value := [x.1, undefV, (Value.int IntKind.u32 0), x.2, dc, dc, dc, dc, dc, dc, dc, dc, dc, dc, dc, dc, undefV]
noncomputable def f109_l0 (O : Ops H) (C : OracleJ H) (n : Nat) (nx : (Value × Value) → St H → Option (List (Value × St H))) (kx : Nat → (Value × Value) → St H → Option (List (Value × St H))) (kr : (Value × Value) → St H → Option (List (Value × St H))) (x : Value × Value) (s : St H) : Option (List (Value × St H)) :=
 (O.bop .lss 3 x.2 (Value.int IntKind.i64 8)).bind fun v1 =>
 (O.boolO v1).bind fun b2 => cond b2 (
 (O.bop .rem 127 x.1 (Value.int IntKind.u32 2)).bind fun v3 =>
 (O.bop .eql 127 v3 (Value.int IntKind.u32 1)).bind fun v4 =>
 jn (fun (j578_0 : Value) =>
 (O.bop .add 3 x.2 (Value.int IntKind.i64 1)).bind fun v9 =>
 nx (j578_0, v9) s) fun k578 =>
 (O.boolO v4).bind fun b5 => cond b5 (
 (O.bop .quo 127 x.1 (Value.int IntKind.u32 2)).bind fun v6 =>
 (O.bop .xor 127 v6 (Value.int IntKind.u32 2197175160)).bind fun v7 =>
 k578 v7) (
 (O.bop .quo 127 x.1 (Value.int IntKind.u32 2)).bind fun v8 =>
 k578 v8)) (
 kx 0 (x.1, x.2) s)
theorem f109_l0_b (C : OracleJ H) (n : Nat) (x : Value × Value) (s : St H) (nx : List Value → St H → Option (List (Value × St H))) (K : Ex → List Value → St H → Option (List (Value × St H))) :
 exec Tryd.prog false C n 109 none (cdp Tryd.f109 [1, 0, 1, 0, 0]) (f109_l0_m x) s (kIter (scratch (cdp Tryd.f109 [1, 0, 1, 0, 0])) nx K) = f109_l0 (dOps (H := H) Tryd.prog) C n (fun x s => nx (f109_l0_m x) s) (fun i x s => K (.exit i) (f109_l0_m x) s) (fun x s => K .ret (f109_l0_m x) s) x s := by kernel_rfl
theorem f109_l0_e (C : OracleJ H) (n : Nat) (m : Nat) (x : Value × Value) (s : St H) (K : Ex → List Value → St H → Option (List (Value × St H))) :
 iter (fun t s k => exec Tryd.prog false C n 109 none (cdp Tryd.f109 [1, 0, 1, 0, 0]) t s k) (scratch (cdp Tryd.f109 [1, 0, 1, 0, 0])) m (f109_l0_m x) s K = iterS (f109_l0 (dOps (H := H) Tryd.prog) C n) (fun i x s => K (.exit i) (f109_l0_m x) s) (fun x s => K .ret (f109_l0_m x) s) m x s :=
   iter_eq (f109_l0_m) (f109_l0 (dOps (H := H) Tryd.prog) C n) (fun x s nx K => f109_l0_b C n x s nx K) K m x s
noncomputable def f109 (O : Ops H) (C : OracleJ H) (n : Nat) (a0 : Value) (s : St H) : Option (List (Value × St H)) :=
 iterS (f109_l0 O C n )
 (fun i10 x11 s12 => (bif Nat.beq i10 0 then
 some [(x11.1, s12)] else none))
 (fun x13 s14 => some [((Value.int IntKind.u32 0), s14)]) n (a0, (Value.int IntKind.i64 0)) s
theorem f109_l0_k (C : OracleJ H) (n : Nat) (i : Nat) (x : Value × Value) (s : St H) : (kBlock 0 (kSeq Tryd.prog false C n 109 none (cdp Tryd.f109 [1, 1]) (kFun Tryd.prog Tryd.f109))) (.exit i) (f109_l0_m x) s =
 (bif Nat.beq i 0 then
 some [(x.1, s)] else none) := by kernel_rfl
theorem f109_r (C : OracleJ H) (n : Nat) (a0 : Value) (s : St H) : bodyD Tryd.prog false C n 109 Tryd.f109 [a0] s = f109 (dOps (H := H) Tryd.prog) C n a0 s := by
  have h1 : bodyD Tryd.prog false C n 109 Tryd.f109 [a0] s =
 iter (fun t s k => exec Tryd.prog false C n 109 none (cdp Tryd.f109 [1, 0, 1, 0, 0]) t s k) (scratch (cdp Tryd.f109 [1, 0, 1, 0, 0])) n (f109_l0_m (a0, (Value.int IntKind.i64 0))) s (kBlock 0 (kSeq Tryd.prog false C n 109 none (cdp Tryd.f109 [1, 1]) (kFun Tryd.prog Tryd.f109))) := by kernel_rfl
  rw [h1]
  simp only [f109_l0_e, f109_l0_k]
  show _ = f109 (dOps (H := H) Tryd.prog) C n a0 s
  kernel_rfl
end Go.Proofs.YtmhmbmogodofeaaDoor.S
