/- The plain runs of functions (printed by shal.py). -/
import Derived.Test.YtdbmfggipeoklaaGreatDoorFv
import Derived.ProofKit
import Derived.Test.YtdbmfggipeoklaaGreatDoorRows
set_option autoImplicit false
set_option linter.unusedVariables false
set_option maxRecDepth 100000
namespace Go.Proofs.YtdbmfggipeoklaaGreatDoor.S
open Go.FS Go.RowKit
variable {H : HeapI}
/-! tidepole/tidepolelaw23.works -/
noncomputable def f8 (O : Ops H) (C : OracleJ H) (n : Nat) (s : St H) : Option (List (Value × St H)) :=
 (C (.fn 9) [] s).bind fun L1 => manyK L1 fun v2 s3 =>
 (O.bop .eql 24 v2 (Go.Value.pointer none)).bind fun v4 =>
 (O.boolO v4).bind fun b5 => cond b5 (
 some [((.bool false), s3)]) (
 (O.build 28 [(0, (Go.Value.int Go.IntKind.i64 10))]).bind fun v6 =>
 (C (.fn 14) [v2, (Go.Value.int Go.IntKind.u64 5), v6] s3).bind fun L7 => manyK L7 fun v8 s9 =>
 (O.build 28 [(0, (Go.Value.int Go.IntKind.i64 1200))]).bind fun v10 =>
 (C (.fn 14) [v2, (Go.Value.int Go.IntKind.u64 5), v10] s9).bind fun L11 => manyK L11 fun v12 s13 =>
 (C (.fn 19) [v2] s13).bind fun L14 => manyK L14 fun v15 s16 =>
 (C (.fn 11) [v2, (Go.Value.int Go.IntKind.i64 0)] s16).bind fun L17 => manyK L17 fun v18 s19 =>
 (O.build 56 [(0, (Go.Value.int Go.IntKind.i64 0)), (1, (Go.Value.int Go.IntKind.i64 2000))]).bind fun v20 =>
 (C (.fn 21) [v2, (Go.Value.int Go.IntKind.u64 5), v20] s19).bind fun L21 => manyK L21 fun v22 s23 =>
 (O.buildSlice false s23 47 2 [(0, (Go.Value.int Go.IntKind.i64 0)), (1, (Go.Value.int Go.IntKind.i64 1))]).bind fun p24 =>
 (C (.fn 29) [v15, p24.1] p24.2).bind fun L25 => manyK L25 fun v26 s27 =>
 gd v26 (
 (O.bop .eql 32 v18 (Go.Value.int Go.IntKind.i64 0)).bind fun v28 =>
 gd v28 (
 (O.len s27 51 v22).bind fun v29 =>
 (O.bop .eql 3 v29 (Go.Value.int Go.IntKind.i64 1)).bind fun v30 =>
 gd v30 (
 (O.indexAddr 51 v22 (Go.Value.int Go.IntKind.i64 0)).bind fun v31 =>
 (O.fieldAddr 28 v31 0).bind fun v32 =>
 (O.load s27 3 v32).bind fun v33 =>
 (O.bop .eql 3 v33 (Go.Value.int Go.IntKind.i64 1200)).bind fun v34 =>
 gd v34 (
 (O.build 28 [(0, (Go.Value.int Go.IntKind.i64 1200))]).bind fun v35 =>
 (C (.fn 14) [v2, (Go.Value.int Go.IntKind.u64 5), v35] s27).bind fun L36 => manyK L36 fun v37 s38 =>
 (O.bop .eql 32 v37 (Go.Value.int Go.IntKind.i64 6)).bind fun v39 =>
 some [(v39, s38)]) (
 some [((.bool false), s27)]) (
 none)) (
 some [((.bool false), s27)]) (
 none)) (
 some [((.bool false), s27)]) (
 none)) (
 some [((.bool false), s27)]) (
 none))
theorem f8_r (C : OracleJ H) (n : Nat) (s : St H) : bodyD Tryz.prog false C n 8 Tryz.f8 [] s = f8 (dOps (H := H) Tryz.prog) C n s := by kernel_rfl
/-! (*tidepole/head.Head).IDs -/
noncomputable def f17 (O : Ops H) (C : OracleJ H) (n : Nat) (a0 : Value) (s : St H) : Option (List (Value × St H)) :=
 (C (.fn 30) [a0] s).bind fun L1 => manyK L1 fun v2 s3 =>
 (O.uop .not v2).bind fun v4 =>
 (O.boolO v4).bind fun b5 => cond b5 (
 some [((fzV 2 #[]), s3)]) (
 (O.nilCheck a0).bind fun v6 =>
 (O.fieldAddr 68 v6 0).bind fun v7 =>
 (O.load s3 66 v7).bind fun v8 =>
 (C (.fn 39) [v8] s3).bind fun L9 => manyK L9 fun v10 s11 =>
 (C (.fn 38) [v10] s11).bind fun L12 => manyK L12 fun v13 s14 =>
 some [(v13, s14)])
theorem f17_r (C : OracleJ H) (n : Nat) (a0 : Value) (s : St H) : bodyD Tryz.prog false C n 17 Tryz.f17 [a0] s = f17 (dOps (H := H) Tryz.prog) C n a0 s := by kernel_rfl
/-! (*tidepole/head.Head).is -/
noncomputable def f30 (O : Ops H) (C : OracleJ H) (n : Nat) (a0 : Value) (s : St H) : Option (List (Value × St H)) :=
 (O.bop .neq 24 a0 (Go.Value.pointer none)).bind fun v1 =>
 gd v1 (
 (O.nilCheck a0).bind fun v2 =>
 (O.fieldAddr 68 v2 0).bind fun v3 =>
 (O.load s 66 v3).bind fun v4 =>
 (O.bop .neq 66 v4 (Go.Value.map none)).bind fun v5 =>
 some [(v5, s)]) (
 some [((.bool false), s)]) (
 none)
theorem f30_r (C : OracleJ H) (n : Nat) (a0 : Value) (s : St H) : bodyD Tryz.prog false C n 30 Tryz.f30 [a0] s = f30 (dOps (H := H) Tryz.prog) C n a0 s := by kernel_rfl
/-! (*tidepole/head.Head).may -/
noncomputable def f34 (O : Ops H) (C : OracleJ H) (n : Nat) (a0 : Value) (a1 : Value) (a2 : Value) (s : St H) : Option (List (Value × St H)) :=
 (O.box s a2).bind fun p1 =>
 (C (.fn 30) [a0] p1.2).bind fun L2 => manyK L2 fun v3 s4 =>
 (O.uop .not v3).bind fun v5 =>
 (O.boolO v5).bind fun b6 => cond b6 (
 some [((Go.Value.int Go.IntKind.i64 1), s4)]) (
 (O.bop .eql 26 a1 (Go.Value.int Go.IntKind.u64 0)).bind fun v7 =>
 (O.boolO v7).bind fun b8 => cond b8 (
 some [((Go.Value.int Go.IntKind.i64 2), s4)]) (
 (O.fieldAddr 28 p1.1 0).bind fun v9 =>
 (O.load s4 3 v9).bind fun v10 =>
 (O.bop .lss 3 v10 (Go.Value.int Go.IntKind.i64 0)).bind fun v11 =>
 gd v11 (
 some [((Go.Value.int Go.IntKind.i64 60), s4)]) (
 (O.fieldAddr 28 p1.1 0).bind fun v12 =>
 (O.load s4 3 v12).bind fun v13 =>
 (O.bop .gtr 3 v13 (Go.Value.int Go.IntKind.i64 35184372088832)).bind fun v14 =>
 (O.boolO v14).bind fun b17 => cond b17 (
 some [((Go.Value.int Go.IntKind.i64 60), s4)]) (
 some [((Go.Value.int Go.IntKind.i64 0), s4)])) (
 none)))
theorem f34_r (C : OracleJ H) (n : Nat) (a0 : Value) (a1 : Value) (a2 : Value) (s : St H) : bodyD Tryz.prog false C n 34 Tryz.f34 [a0, a1, a2] s = f34 (dOps (H := H) Tryz.prog) C n a0 a1 a2 s := by kernel_rfl
/-! slices.Sorted[uint64] -/
noncomputable def f38 (O : Ops H) (C : OracleJ H) (n : Nat) (a0 : Value) (s : St H) : Option (List (Value × St H)) :=
 (C (.fn 61) [a0] s).bind fun L1 => manyK L1 fun v2 s3 =>
 (C (.fn 62) [v2] s3).bind fun L4 => manyK L4 fun v5 s6 =>
 some [(v2, s6)]
theorem f38_r (C : OracleJ H) (n : Nat) (a0 : Value) (s : St H) : bodyD Tryz.prog false C n 38 Tryz.f38 [a0] s = f38 (dOps (H := H) Tryz.prog) C n a0 s := by kernel_rfl
/-! slices.Compact[[]int,int] -/
def f45_l1_m (i0 : Value) (i2 : Value) (i4 : Value) (i6 : Value) (i7 : Value) (i8 : Value) (i10 : Value) (i11 : Value) (i12 : Value) (i13 : Value) (i16 : Value) (i17 : Value) (i18 : Value) (i19 : Value) (i20 : Value) (i21 : Value) (i22 : Value) (i23 : Value) (i24 : Value) (i25 : Value) (i26 : Value) (i27 : Value) (i28 : Value) (x : Value × Value) : List Value := [i0, undefV, i2, x.1, i4, x.2, i6, i7, i8, undefV, i10, i11, i12, i13, dc, dc, i16, i17, i18, i19, i20, i21, i22, i23, i24, i25, i26, i27, i28, dc, dc, dc, dc, dc, dc, dc, dc, dc, dc, dc, dc, dc, dc, dc, dc, dc, dc, dc, dc, dc, dc, dc, dc, dc, dc, dc, dc, dc, dc, dc, undefV]
noncomputable def f45_l1 (O : Ops H) (C : OracleJ H) (n : Nat) (i0 : Value) (i4 : Value) (nx : (Value × Value) → St H → Option (List (Value × St H))) (kx : Nat → (Value × Value) → St H → Option (List (Value × St H))) (kr : (Value × Value) → St H → Option (List (Value × St H))) (x : Value × Value) (s : St H) : Option (List (Value × St H)) :=
 (O.len s 47 i4).bind fun v15 =>
 (O.bop .lss 3 x.2 v15).bind fun v16 =>
 (O.boolO v16).bind fun b17 => cond b17 (
 (O.indexAddr 47 i4 x.2).bind fun v18 =>
 (O.load s 3 v18).bind fun v19 =>
 (O.bop .sub 3 x.2 (Go.Value.int Go.IntKind.i64 1)).bind fun v20 =>
 (O.indexAddr 47 i4 v20).bind fun v21 =>
 (O.load s 3 v21).bind fun v22 =>
 (O.bop .neq 3 v19 v22).bind fun v23 =>
 jn (fun (j55_3 : Value) (js55 : St H) =>
 (O.bop .add 3 x.2 (Go.Value.int Go.IntKind.i64 1)).bind fun v30 =>
 nx (j55_3, v30) js55) fun k55 =>
 (O.boolO v23).bind fun b24 => cond b24 (
 (O.indexAddr 47 i4 x.2).bind fun v25 =>
 (O.load s 3 v25).bind fun v26 =>
 (O.indexAddr 47 i0 x.1).bind fun v27 =>
 (O.store s 3 v27 v26).bind fun s28 =>
 (O.bop .add 3 x.1 (Go.Value.int Go.IntKind.i64 1)).bind fun v29 =>
 k55 v29 s28) (
 k55 x.1 s)) (
 kx 2 (x.1, x.2) s)
theorem f45_l1_b (C : OracleJ H) (n : Nat) (i0 : Value) (i2 : Value) (i4 : Value) (i6 : Value) (i7 : Value) (i8 : Value) (i10 : Value) (i11 : Value) (i12 : Value) (i13 : Value) (i16 : Value) (i17 : Value) (i18 : Value) (i19 : Value) (i20 : Value) (i21 : Value) (i22 : Value) (i23 : Value) (i24 : Value) (i25 : Value) (i26 : Value) (i27 : Value) (i28 : Value) (x : Value × Value) (s : St H) (nx : List Value → St H → Option (List (Value × St H))) (K : Ex → List Value → St H → Option (List (Value × St H))) :
 exec Tryz.prog false C n 45 none (cdp Tryz.f45 [1, 1, 0, 1, 0, 0, 1, 0, 0, 1, 0, 1, 0, 1, 0, 0]) (f45_l1_m i0 i2 i4 i6 i7 i8 i10 i11 i12 i13 i16 i17 i18 i19 i20 i21 i22 i23 i24 i25 i26 i27 i28 x) s (kIter (scratch (cdp Tryz.f45 [1, 1, 0, 1, 0, 0, 1, 0, 0, 1, 0, 1, 0, 1, 0, 0])) nx K) = f45_l1 (dOps (H := H) Tryz.prog) C n i0 i4 (fun x s => nx (f45_l1_m i0 i2 i4 i6 i7 i8 i10 i11 i12 i13 i16 i17 i18 i19 i20 i21 i22 i23 i24 i25 i26 i27 i28 x) s) (fun i x s => K (.exit i) (f45_l1_m i0 i2 i4 i6 i7 i8 i10 i11 i12 i13 i16 i17 i18 i19 i20 i21 i22 i23 i24 i25 i26 i27 i28 x) s) (fun x s => K .ret (f45_l1_m i0 i2 i4 i6 i7 i8 i10 i11 i12 i13 i16 i17 i18 i19 i20 i21 i22 i23 i24 i25 i26 i27 i28 x) s) x s := by kernel_rfl
theorem f45_l1_e (C : OracleJ H) (n : Nat) (i0 : Value) (i2 : Value) (i4 : Value) (i6 : Value) (i7 : Value) (i8 : Value) (i10 : Value) (i11 : Value) (i12 : Value) (i13 : Value) (i16 : Value) (i17 : Value) (i18 : Value) (i19 : Value) (i20 : Value) (i21 : Value) (i22 : Value) (i23 : Value) (i24 : Value) (i25 : Value) (i26 : Value) (i27 : Value) (i28 : Value) (m : Nat) (x : Value × Value) (s : St H) (K : Ex → List Value → St H → Option (List (Value × St H))) :
 iter (fun t s k => exec Tryz.prog false C n 45 none (cdp Tryz.f45 [1, 1, 0, 1, 0, 0, 1, 0, 0, 1, 0, 1, 0, 1, 0, 0]) t s k) (scratch (cdp Tryz.f45 [1, 1, 0, 1, 0, 0, 1, 0, 0, 1, 0, 1, 0, 1, 0, 0])) m (f45_l1_m i0 i2 i4 i6 i7 i8 i10 i11 i12 i13 i16 i17 i18 i19 i20 i21 i22 i23 i24 i25 i26 i27 i28 x) s K = iterS (f45_l1 (dOps (H := H) Tryz.prog) C n i0 i4) (fun i x s => K (.exit i) (f45_l1_m i0 i2 i4 i6 i7 i8 i10 i11 i12 i13 i16 i17 i18 i19 i20 i21 i22 i23 i24 i25 i26 i27 i28 x) s) (fun x s => K .ret (f45_l1_m i0 i2 i4 i6 i7 i8 i10 i11 i12 i13 i16 i17 i18 i19 i20 i21 i22 i23 i24 i25 i26 i27 i28 x) s) m x s :=
   iter_eq (f45_l1_m i0 i2 i4 i6 i7 i8 i10 i11 i12 i13 i16 i17 i18 i19 i20 i21 i22 i23 i24 i25 i26 i27 i28) (f45_l1 (dOps (H := H) Tryz.prog) C n i0 i4) (fun x s nx K => f45_l1_b C n i0 i2 i4 i6 i7 i8 i10 i11 i12 i13 i16 i17 i18 i19 i20 i21 i22 i23 i24 i25 i26 i27 i28 x s nx K) K m x s
def f45_l0_m (i0 : Value) (i6 : Value) (i7 : Value) (i8 : Value) (x : Value × Value × Value × Value) : List Value := [i0, undefV, x.1, x.2.1, x.2.2.1, x.2.2.2, i6, i7, i8, undefV, dc, dc, dc, dc, dc, dc, dc, dc, dc, dc, dc, dc, dc, dc, dc, dc, dc, dc, dc, dc, dc, dc, dc, dc, dc, dc, dc, dc, dc, dc, dc, dc, dc, dc, dc, dc, dc, dc, dc, dc, dc, dc, dc, dc, dc, dc, dc, dc, dc, dc, undefV]
noncomputable def f45_l0 (O : Ops H) (C : OracleJ H) (n : Nat) (i0 : Value) (nx : (Value × Value × Value × Value) → St H → Option (List (Value × St H))) (kx : Nat → (Value × Value × Value × Value) → St H → Option (List (Value × St H))) (kr : (Value × Value × Value × Value) → St H → Option (List (Value × St H))) (x : Value × Value × Value × Value) (s : St H) : Option (List (Value × St H)) :=
 (O.len s 47 i0).bind fun v4 =>
 (O.bop .lss 3 x.2.1 v4).bind fun v5 =>
 (O.boolO v5).bind fun b6 => cond b6 (
 (O.indexAddr 47 i0 x.2.1).bind fun v7 =>
 (O.load s 3 v7).bind fun v8 =>
 (O.bop .sub 3 x.2.1 (Go.Value.int Go.IntKind.i64 1)).bind fun v9 =>
 (O.indexAddr 47 i0 v9).bind fun v10 =>
 (O.load s 3 v10).bind fun v11 =>
 (O.bop .eql 3 v8 v11).bind fun v12 =>
 (O.boolO v12).bind fun b13 => cond b13 (
 (O.slc s 47 i0 (some x.2.1) none none).bind fun v14 =>
 iterS (f45_l1 O C n i0 v14 )
 (fun i31 x32 s33 => (bif Nat.beq i31 2 then
 (O.slc s33 47 i0 (some x32.1) none none).bind fun v36 =>
 (O.clear s33 47 v36).bind fun s37 =>
 (O.slc s37 47 i0 none (some x32.1) none).bind fun v38 =>
 kr (v38, x32.1, v14, x32.2) s37 else (bif Nat.beq i31 1 then
 (O.bop .add 3 x32.1 (Go.Value.int Go.IntKind.i64 1)).bind fun v40 =>
 nx (x.1, v40, v14, x32.2) s33 else kx i31 (x.1, x32.1, v14, x32.2) s33)))
 (fun x34 s35 => kr (x.1, x34.1, v14, x34.2) s35) n (x.2.1, (Go.Value.int Go.IntKind.i64 1)) s) (
 (O.bop .add 3 x.2.1 (Go.Value.int Go.IntKind.i64 1)).bind fun v41 =>
 nx (x.1, v41, x.2.2.1, x.2.2.2) s)) (
 kx 0 (x.1, x.2.1, x.2.2.1, x.2.2.2) s)
theorem f45_l1_k (C : OracleJ H) (n : Nat) (i0 : Value) (i2 : Value) (i4 : Value) (i6 : Value) (i7 : Value) (i8 : Value) (i10 : Value) (i11 : Value) (i12 : Value) (i13 : Value) (i16 : Value) (i17 : Value) (i18 : Value) (i19 : Value) (i20 : Value) (i21 : Value) (i22 : Value) (i23 : Value) (i24 : Value) (i25 : Value) (i26 : Value) (i27 : Value) (i28 : Value) (nx : List Value → St H → Option (List (Value × St H))) (K : Ex → List Value → St H → Option (List (Value × St H))) (i : Nat) (x : Value × Value) (s : St H) : (kBlock 2 (kSeq Tryz.prog false C n 45 none (cdp Tryz.f45 [1, 1, 0, 1, 0, 0, 1, 0, 0, 1, 0, 1, 1]) (kBlock 1 (kSeq Tryz.prog false C n 45 none (cdp Tryz.f45 [1, 1, 0, 1, 0, 0, 1, 1]) (kIter (scratch (cdp Tryz.f45 [1, 1, 0, 1, 0, 0])) nx K))))) (.exit i) (f45_l1_m i0 i2 i4 i6 i7 i8 i10 i11 i12 i13 i16 i17 i18 i19 i20 i21 i22 i23 i24 i25 i26 i27 i28 x) s =
 (bif Nat.beq i 2 then
 ((dOps (H := H) Tryz.prog).slc s 47 i0 (some x.1) none none).bind fun v57 =>
 ((dOps (H := H) Tryz.prog).clear s 47 v57).bind fun s58 =>
 ((dOps (H := H) Tryz.prog).slc s58 47 i0 none (some x.1) none).bind fun v59 =>
 K .ret (f45_l0_m i0 i6 i7 i8 (v59, x.1, i4, x.2)) s58 else (bif Nat.beq i 1 then
 ((dOps (H := H) Tryz.prog).bop .add 3 x.1 (Go.Value.int Go.IntKind.i64 1)).bind fun v60 =>
 nx (f45_l0_m i0 i6 i7 i8 (i2, v60, i4, x.2)) s else K (.exit i) (f45_l0_m i0 i6 i7 i8 (i2, x.1, i4, x.2)) s)) := by kernel_rfl
theorem f45_l0_b (C : OracleJ H) (n : Nat) (i0 : Value) (i6 : Value) (i7 : Value) (i8 : Value) (x : Value × Value × Value × Value) (s : St H) (nx : List Value → St H → Option (List (Value × St H))) (K : Ex → List Value → St H → Option (List (Value × St H))) :
 exec Tryz.prog false C n 45 none (cdp Tryz.f45 [1, 1, 0, 1, 0, 0]) (f45_l0_m i0 i6 i7 i8 x) s (kIter (scratch (cdp Tryz.f45 [1, 1, 0, 1, 0, 0])) nx K) = f45_l0 (dOps (H := H) Tryz.prog) C n i0 (fun x s => nx (f45_l0_m i0 i6 i7 i8 x) s) (fun i x s => K (.exit i) (f45_l0_m i0 i6 i7 i8 x) s) (fun x s => K .ret (f45_l0_m i0 i6 i7 i8 x) s) x s := by
  have h1 : exec Tryz.prog false C n 45 none (cdp Tryz.f45 [1, 1, 0, 1, 0, 0]) (f45_l0_m i0 i6 i7 i8 x) s (kIter (scratch (cdp Tryz.f45 [1, 1, 0, 1, 0, 0])) nx K) =
 ((dOps (H := H) Tryz.prog).len s 47 i0).bind fun v42 =>
 ((dOps (H := H) Tryz.prog).bop .lss 3 x.2.1 v42).bind fun v43 =>
 ((dOps (H := H) Tryz.prog).boolO v43).bind fun b44 => cond b44 (
 ((dOps (H := H) Tryz.prog).indexAddr 47 i0 x.2.1).bind fun v45 =>
 ((dOps (H := H) Tryz.prog).load s 3 v45).bind fun v46 =>
 ((dOps (H := H) Tryz.prog).bop .sub 3 x.2.1 (Go.Value.int Go.IntKind.i64 1)).bind fun v47 =>
 ((dOps (H := H) Tryz.prog).indexAddr 47 i0 v47).bind fun v48 =>
 ((dOps (H := H) Tryz.prog).load s 3 v48).bind fun v49 =>
 ((dOps (H := H) Tryz.prog).bop .eql 3 v46 v49).bind fun v50 =>
 ((dOps (H := H) Tryz.prog).boolO v50).bind fun b51 => cond b51 (
 ((dOps (H := H) Tryz.prog).slc s 47 i0 (some x.2.1) none none).bind fun v52 =>
 iter (fun t s k => exec Tryz.prog false C n 45 none (cdp Tryz.f45 [1, 1, 0, 1, 0, 0, 1, 0, 0, 1, 0, 1, 0, 1, 0, 0]) t s k) (scratch (cdp Tryz.f45 [1, 1, 0, 1, 0, 0, 1, 0, 0, 1, 0, 1, 0, 1, 0, 0])) n (f45_l1_m i0 x.1 v52 i6 i7 i8 x.2.1 i0 v42 v43 i0 x.2.1 v45 v46 i0 x.2.1 v47 v48 v49 v50 i0 x.2.1 v52 (x.2.1, (Go.Value.int Go.IntKind.i64 1))) s (kBlock 2 (kSeq Tryz.prog false C n 45 none (cdp Tryz.f45 [1, 1, 0, 1, 0, 0, 1, 0, 0, 1, 0, 1, 1]) (kBlock 1 (kSeq Tryz.prog false C n 45 none (cdp Tryz.f45 [1, 1, 0, 1, 0, 0, 1, 1]) (kIter (scratch (cdp Tryz.f45 [1, 1, 0, 1, 0, 0])) nx K)))))) (
 ((dOps (H := H) Tryz.prog).bop .add 3 x.2.1 (Go.Value.int Go.IntKind.i64 1)).bind fun v61 =>
 nx (f45_l0_m i0 i6 i7 i8 (x.1, v61, x.2.2.1, x.2.2.2)) s)) (
 K (.exit 0) (f45_l0_m i0 i6 i7 i8 (x.1, x.2.1, x.2.2.1, x.2.2.2)) s) := by kernel_rfl
  rw [h1]
  simp only [f45_l1_e, f45_l1_k]
  show _ = f45_l0 (dOps (H := H) Tryz.prog) C n i0 (fun x s => nx (f45_l0_m i0 i6 i7 i8 x) s) (fun i x s => K (.exit i) (f45_l0_m i0 i6 i7 i8 x) s) (fun x s => K .ret (f45_l0_m i0 i6 i7 i8 x) s) x s
  kernel_rfl
theorem f45_l0_e (C : OracleJ H) (n : Nat) (i0 : Value) (i6 : Value) (i7 : Value) (i8 : Value) (m : Nat) (x : Value × Value × Value × Value) (s : St H) (K : Ex → List Value → St H → Option (List (Value × St H))) :
 iter (fun t s k => exec Tryz.prog false C n 45 none (cdp Tryz.f45 [1, 1, 0, 1, 0, 0]) t s k) (scratch (cdp Tryz.f45 [1, 1, 0, 1, 0, 0])) m (f45_l0_m i0 i6 i7 i8 x) s K = iterS (f45_l0 (dOps (H := H) Tryz.prog) C n i0) (fun i x s => K (.exit i) (f45_l0_m i0 i6 i7 i8 x) s) (fun x s => K .ret (f45_l0_m i0 i6 i7 i8 x) s) m x s :=
   iter_eq (f45_l0_m i0 i6 i7 i8) (f45_l0 (dOps (H := H) Tryz.prog) C n i0) (fun x s nx K => f45_l0_b C n i0 i6 i7 i8 x s nx K) K m x s
noncomputable def f45 (O : Ops H) (C : OracleJ H) (n : Nat) (a0 : Value) (s : St H) : Option (List (Value × St H)) :=
 (O.len s 47 a0).bind fun v1 =>
 (O.bop .lss 3 v1 (Go.Value.int Go.IntKind.i64 2)).bind fun v2 =>
 (O.boolO v2).bind fun b3 => cond b3 (
 some [(a0, s)]) (
 iterS (f45_l0 O C n a0 )
 (fun i62 x63 s64 => (bif Nat.beq i62 0 then
 some [(a0, s64)] else none))
 (fun x65 s66 => some [(x65.1, s66)]) n ((fzV 2 #[]), (Go.Value.int Go.IntKind.i64 1), undefV, undefV) s)
theorem f45_l0_k (C : OracleJ H) (n : Nat) (i0 : Value) (i6 : Value) (i7 : Value) (i8 : Value) (i : Nat) (x : Value × Value × Value × Value) (s : St H) : (kBlock 0 (kSeq Tryz.prog false C n 45 none (cdp Tryz.f45 [1, 1, 1]) (kFun Tryz.prog Tryz.f45))) (.exit i) (f45_l0_m i0 i6 i7 i8 x) s =
 (bif Nat.beq i 0 then
 some [(i0, s)] else none) := by kernel_rfl
theorem f45_r (C : OracleJ H) (n : Nat) (a0 : Value) (s : St H) : bodyD Tryz.prog false C n 45 Tryz.f45 [a0] s = f45 (dOps (H := H) Tryz.prog) C n a0 s := by
  have h1 : bodyD Tryz.prog false C n 45 Tryz.f45 [a0] s =
 ((dOps (H := H) Tryz.prog).len s 47 a0).bind fun v67 =>
 ((dOps (H := H) Tryz.prog).bop .lss 3 v67 (Go.Value.int Go.IntKind.i64 2)).bind fun v68 =>
 ((dOps (H := H) Tryz.prog).boolO v68).bind fun b69 => cond b69 (
 some [(a0, s)]) (
 iter (fun t s k => exec Tryz.prog false C n 45 none (cdp Tryz.f45 [1, 1, 0, 1, 0, 0]) t s k) (scratch (cdp Tryz.f45 [1, 1, 0, 1, 0, 0])) n (f45_l0_m a0 a0 v67 v68 ((fzV 2 #[]), (Go.Value.int Go.IntKind.i64 1), undefV, undefV)) s (kBlock 0 (kSeq Tryz.prog false C n 45 none (cdp Tryz.f45 [1, 1, 1]) (kFun Tryz.prog Tryz.f45)))) := by kernel_rfl
  rw [h1]
  simp only [f45_l0_e, f45_l0_k]
  show _ = f45 (dOps (H := H) Tryz.prog) C n a0 s
  kernel_rfl
/-! tidepole/chunk.New -/
noncomputable def f56 (O : Ops H) (C : OracleJ H) (n : Nat) (s : St H) : Option (List (Value × St H)) :=
 (C (.fn 74) [] s).bind fun L1 => manyK L1 fun v2 s3 =>
 (O.build 123 [(1, v2)]).bind fun v4 =>
 (C (.fn 75) [] s3).bind fun L5 => manyK L5 fun v6 s7 =>
 (O.build 127 [(0, v4), (1, v6)]).bind fun v8 =>
 (O.box s7 v8).bind fun p9 =>
 some [(p9.1, p9.2)]
theorem f56_r (C : OracleJ H) (n : Nat) (s : St H) : bodyD Tryz.prog false C n 56 Tryz.f56 [] s = f56 (dOps (H := H) Tryz.prog) C n s := by kernel_rfl
/-! (*tidepole/chunk.Builder).Add -/
noncomputable def f60 (O : Ops H) (C : OracleJ H) (n : Nat) (a0 : Value) (a1 : Value) (s : St H) : Option (List (Value × St H)) :=
 (O.box s a1).bind fun p1 =>
 (C (.fn 77) [a0] p1.2).bind fun L2 => manyK L2 fun v3 s4 =>
 (O.uop .not v3).bind fun v5 =>
 (O.boolO v5).bind fun b6 => cond b6 (
 some [((Go.Value.int Go.IntKind.i64 1), s4)]) (
 (O.nilCheck a0).bind fun v7 =>
 (O.fieldAddr 127 v7 0).bind fun v8 =>
 (O.fieldAddr 123 v8 0).bind fun v9 =>
 (O.fieldAddr 121 v9 0).bind fun v10 =>
 (O.load s4 3 v10).bind fun v11 =>
 (O.bop .eql 3 v11 (Go.Value.int Go.IntKind.i64 120)).bind fun v12 =>
 (O.boolO v12).bind fun b13 => cond b13 (
 some [((Go.Value.int Go.IntKind.i64 4), s4)]) (
 (O.nilCheck a0).bind fun v14 =>
 (O.fieldAddr 127 v14 0).bind fun v15 =>
 (O.fieldAddr 28 p1.1 0).bind fun v16 =>
 (O.load s4 3 v16).bind fun v17 =>
 (oneO C (.fn 82) [v15, v17] s4).bind fun p18 =>
 (O.uop .not p18.1).bind fun v19 =>
 (O.boolO v19).bind fun b20 => cond b20 (
 some [((Go.Value.int Go.IntKind.i64 60), p18.2)]) (
 (O.nilCheck a0).bind fun v21 =>
 (O.fieldAddr 127 v21 1).bind fun v22 =>
 (O.load p18.2 124 v22).bind fun v23 =>
 (O.nilCheck a0).bind fun v24 =>
 (O.fieldAddr 127 v24 0).bind fun v25 =>
 (O.fieldAddr 123 v25 0).bind fun v26 =>
 (O.load p18.2 121 v26).bind fun v27 =>
 (O.fieldAddr 28 p1.1 0).bind fun v28 =>
 (O.load p18.2 3 v28).bind fun v29 =>
 (oneO C (.fn 83) [v23, v27, v29] p18.2).bind fun p30 =>
 (O.extract p30.1 0).bind fun v31 =>
 (O.extract p30.1 1).bind fun v32 =>
 (O.nilCheck a0).bind fun v33 =>
 (O.fieldAddr 127 v33 0).bind fun v34 =>
 (O.fieldAddr 123 v34 0).bind fun v35 =>
 (O.store p30.2 121 v35 v31).bind fun s36 =>
 (O.nilCheck a0).bind fun v37 =>
 (O.fieldAddr 127 v37 1).bind fun v38 =>
 (O.load s36 124 v38).bind fun v39 =>
 (O.nilCheck a0).bind fun v40 =>
 (O.fieldAddr 127 v40 0).bind fun v41 =>
 (O.fieldAddr 123 v41 1).bind fun v42 =>
 (O.load s36 118 v42).bind fun v43 =>
 (O.fieldAddr 28 p1.1 1).bind fun v44 =>
 (O.load s36 26 v44).bind fun v45 =>
 (oneO C (.fn 84) [v39, v43, v45] s36).bind fun p46 =>
 (O.extract p46.1 0).bind fun v47 =>
 (O.extract p46.1 1).bind fun v48 =>
 (O.nilCheck a0).bind fun v49 =>
 (O.fieldAddr 127 v49 0).bind fun v50 =>
 (O.fieldAddr 123 v50 1).bind fun v51 =>
 (O.store p46.2 118 v51 v47).bind fun s52 =>
 some [((Go.Value.int Go.IntKind.i64 0), s52)])))
theorem f60_r (C : OracleJ H) (n : Nat) (a0 : Value) (a1 : Value) (s : St H) : bodyD Tryz.prog false C n 60 Tryz.f60 [a0, a1] s = f60 (dOps (H := H) Tryz.prog) C n a0 a1 s := by kernel_rfl
/-! (*tidepole/head.series).samples$1 -/
noncomputable def f67 (O : Ops H) (C : OracleJ H) (n : Nat) (a0 : Value) (a1 : Value) (s : St H) : Option (List (Value × St H)) :=
 (O.box s a0).bind fun p1 =>
 (O.load p1.2 72 a1).bind fun v2 =>
 (C (.fn 68) [v2] p1.2).bind fun L3 => manyK L3 fun v4 s5 =>
 rngO Tryz.prog O C 67 v4 [a0, a1, p1.1, undefV, undefV, undefV, undefV, undefV, v2, v4, undefV, undefV, undefV, undefV, undefV, undefV, undefV, undefV, undefV, undefV, undefV, undefV, undefV, undefV, undefV, undefV, undefV, undefV] [10] (cdp Tryz.f67 [1, 1, 0, 0]) (cdp Tryz.f67 [1, 1, 0, 1]) s5
 (fun s6 => some [(.tuple #[], s6)])
 (fun s7 => some [(.tuple #[], s7)])
 (fun i9 s8 => (bif Nat.beq i9 0 then
 some [(.tuple #[], s8)] else none))
theorem f67_r (C : OracleJ H) (n : Nat) (a0 : Value) (a1 : Value) (s : St H) : bodyD Tryz.prog false C n 67 Tryz.f67 [a0, a1] s = f67 (dOps (H := H) Tryz.prog) C n a0 a1 s := by kernel_rfl
/-! slices.AppendSeq[[]tidepole/api.Sample,tidepole/api.Sample] -/
noncomputable def f72 (O : Ops H) (C : OracleJ H) (n : Nat) (a0 : Value) (a1 : Value) (s : St H) : Option (List (Value × St H)) :=
 (O.box s a0).bind fun p1 =>
 rngO Tryz.prog O C 72 a1 [a0, a1, p1.1, undefV, (fzV 2 #[]), undefV, a1, undefV, undefV, undefV, undefV, undefV, undefV] [7] (cdp Tryz.f72 [1, 0, 1, 0, 0]) (cdp Tryz.f72 [1, 0, 1, 0, 1]) p1.2
 (fun s2 => (O.load s2 51 p1.1).bind fun v7 =>
 some [(v7, s2)])
 (fun s3 => some [((fzV 2 #[]), s3)])
 (fun i5 s4 => (bif Nat.beq i5 0 then
 (O.load s4 51 p1.1).bind fun v8 =>
 some [(v8, s4)] else none))
theorem f72_r (C : OracleJ H) (n : Nat) (a0 : Value) (a1 : Value) (s : St H) : bodyD Tryz.prog false C n 72 Tryz.f72 [a0, a1] s = f72 (dOps (H := H) Tryz.prog) C n a0 a1 s := by kernel_rfl
/-! (*tidepole/chunk.Builder).is -/
noncomputable def f77 (O : Ops H) (C : OracleJ H) (n : Nat) (a0 : Value) (s : St H) : Option (List (Value × St H)) :=
 (O.bop .neq 76 a0 (Go.Value.pointer none)).bind fun v1 =>
 gd v1 (
 (O.nilCheck a0).bind fun v2 =>
 (O.fieldAddr 127 v2 1).bind fun v3 =>
 (O.load s 124 v3).bind fun v4 =>
 (O.bop .neq 124 v4 (Go.Value.pointer none)).bind fun v5 =>
 some [(v5, s)]) (
 some [((.bool false), s)]) (
 none)
theorem f77_r (C : OracleJ H) (n : Nat) (a0 : Value) (s : St H) : bodyD Tryz.prog false C n 77 Tryz.f77 [a0] s = f77 (dOps (H := H) Tryz.prog) C n a0 s := by kernel_rfl
/-! tidepole/crc.Sealed -/
noncomputable def f81 (O : Ops H) (C : OracleJ H) (n : Nat) (a0 : Value) (s : St H) : Option (List (Value × St H)) :=
 (C (.fn 104) [a0] s).bind fun L1 => manyK L1 fun v2 s3 =>
 (C (.fn 103) [a0, v2] s3).bind fun L4 => manyK L4 fun v5 s6 =>
 some [(v5, s6)]
theorem f81_r (C : OracleJ H) (n : Nat) (a0 : Value) (s : St H) : bodyD Tryz.prog false C n 81 Tryz.f81 [a0] s = f81 (dOps (H := H) Tryz.prog) C n a0 s := by kernel_rfl
/-! slices.AppendSeq[[]uint64,uint64] -/
noncomputable def f85 (O : Ops H) (C : OracleJ H) (n : Nat) (a0 : Value) (a1 : Value) (s : St H) : Option (List (Value × St H)) :=
 (O.box s a0).bind fun p1 =>
 rngO Tryz.prog O C 85 a1 [a0, a1, p1.1, undefV, (fzV 2 #[]), undefV, a1, undefV, undefV, undefV, undefV, undefV, undefV] [7] (cdp Tryz.f85 [1, 0, 1, 0, 0]) (cdp Tryz.f85 [1, 0, 1, 0, 1]) p1.2
 (fun s2 => (O.load s2 39 p1.1).bind fun v7 =>
 some [(v7, s2)])
 (fun s3 => some [((fzV 2 #[]), s3)])
 (fun i5 s4 => (bif Nat.beq i5 0 then
 (O.load s4 39 p1.1).bind fun v8 =>
 some [(v8, s4)] else none))
theorem f85_r (C : OracleJ H) (n : Nat) (a0 : Value) (a1 : Value) (s : St H) : bodyD Tryz.prog false C n 85 Tryz.f85 [a0, a1] s = f85 (dOps (H := H) Tryz.prog) C n a0 a1 s := by kernel_rfl
/-! slices.heapSortOrdered[int] -/
def f90_l0_m (i0 : Value) (i1 : Value) (i2 : Value) (i6 : Value) (i8 : Value) (i11 : Value) (i12 : Value) (i13 : Value) (i14 : Value) (i15 : Value) (i16 : Value) (i17 : Value) (x : Value) : List Value := [i0, i1, i2, undefV, undefV, undefV, i6, (Go.Value.int Go.IntKind.i64 0), i8, x, undefV, i11, i12, i13, i14, i15, i16, i17, dc, dc, dc, dc, dc, dc, dc, dc, dc, undefV, undefV, undefV, undefV, undefV, undefV, undefV, undefV, undefV, undefV, undefV, undefV, undefV, undefV, undefV, undefV, undefV, undefV, undefV, undefV, undefV, undefV, undefV, undefV, undefV, undefV, undefV, undefV, undefV]
noncomputable def f90_l0 (O : Ops H) (C : OracleJ H) (n : Nat) (i0 : Value) (i6 : Value) (i8 : Value) (nx : Value → St H → Option (List (Value × St H))) (kx : Nat → Value → St H → Option (List (Value × St H))) (kr : Value → St H → Option (List (Value × St H))) (x : Value) (s : St H) : Option (List (Value × St H)) :=
 (O.bop .geq 3 x (Go.Value.int Go.IntKind.i64 0)).bind fun v4 =>
 (O.boolO v4).bind fun b5 => cond b5 (
 (C (.fn 130) [i0, x, i8, i6] s).bind fun L6 => manyK L6 fun v7 s8 =>
 (O.bop .sub 3 x (Go.Value.int Go.IntKind.i64 1)).bind fun v9 =>
 nx v9 s8) (
 kx 0 x s)
theorem f90_l0_b (C : OracleJ H) (n : Nat) (i0 : Value) (i1 : Value) (i2 : Value) (i6 : Value) (i8 : Value) (i11 : Value) (i12 : Value) (i13 : Value) (i14 : Value) (i15 : Value) (i16 : Value) (i17 : Value) (x : Value) (s : St H) (nx : List Value → St H → Option (List (Value × St H))) (K : Ex → List Value → St H → Option (List (Value × St H))) :
 exec Tryz.prog false C n 90 none (cdp Tryz.f90 [1, 1, 1, 0, 1, 0, 0]) (f90_l0_m i0 i1 i2 i6 i8 i11 i12 i13 i14 i15 i16 i17 x) s (kIter (scratch (cdp Tryz.f90 [1, 1, 1, 0, 1, 0, 0])) nx K) = f90_l0 (dOps (H := H) Tryz.prog) C n i0 i6 i8 (fun x s => nx (f90_l0_m i0 i1 i2 i6 i8 i11 i12 i13 i14 i15 i16 i17 x) s) (fun i x s => K (.exit i) (f90_l0_m i0 i1 i2 i6 i8 i11 i12 i13 i14 i15 i16 i17 x) s) (fun x s => K .ret (f90_l0_m i0 i1 i2 i6 i8 i11 i12 i13 i14 i15 i16 i17 x) s) x s := by kernel_rfl
theorem f90_l0_e (C : OracleJ H) (n : Nat) (i0 : Value) (i1 : Value) (i2 : Value) (i6 : Value) (i8 : Value) (i11 : Value) (i12 : Value) (i13 : Value) (i14 : Value) (i15 : Value) (i16 : Value) (i17 : Value) (m : Nat) (x : Value) (s : St H) (K : Ex → List Value → St H → Option (List (Value × St H))) :
 iter (fun t s k => exec Tryz.prog false C n 90 none (cdp Tryz.f90 [1, 1, 1, 0, 1, 0, 0]) t s k) (scratch (cdp Tryz.f90 [1, 1, 1, 0, 1, 0, 0])) m (f90_l0_m i0 i1 i2 i6 i8 i11 i12 i13 i14 i15 i16 i17 x) s K = iterS (f90_l0 (dOps (H := H) Tryz.prog) C n i0 i6 i8) (fun i x s => K (.exit i) (f90_l0_m i0 i1 i2 i6 i8 i11 i12 i13 i14 i15 i16 i17 x) s) (fun x s => K .ret (f90_l0_m i0 i1 i2 i6 i8 i11 i12 i13 i14 i15 i16 i17 x) s) m x s :=
   iter_eq (f90_l0_m i0 i1 i2 i6 i8 i11 i12 i13 i14 i15 i16 i17) (f90_l0 (dOps (H := H) Tryz.prog) C n i0 i6 i8) (fun x s nx K => f90_l0_b C n i0 i1 i2 i6 i8 i11 i12 i13 i14 i15 i16 i17 x s nx K) K m x s
def f90_l1_m (i0 : Value) (i1 : Value) (i2 : Value) (i6 : Value) (i8 : Value) (i9 : Value) (i11 : Value) (i12 : Value) (i13 : Value) (i14 : Value) (i15 : Value) (i16 : Value) (i17 : Value) (i27 : Value) (i28 : Value) (x : Value) : List Value := [i0, i1, i2, undefV, undefV, undefV, i6, (Go.Value.int Go.IntKind.i64 0), i8, i9, x, i11, i12, i13, i14, i15, i16, i17, dc, dc, dc, dc, dc, dc, dc, dc, dc, i27, i28, dc, dc, dc, dc, dc, dc, dc, dc, dc, dc, dc, dc, dc, dc, dc, dc, dc, dc, dc, dc, dc, dc, dc, dc, dc, dc, dc]
noncomputable def f90_l1 (O : Ops H) (C : OracleJ H) (n : Nat) (i0 : Value) (i6 : Value) (nx : Value → St H → Option (List (Value × St H))) (kx : Nat → Value → St H → Option (List (Value × St H))) (kr : Value → St H → Option (List (Value × St H))) (x : Value) (s : St H) : Option (List (Value × St H)) :=
 (O.bop .geq 3 x (Go.Value.int Go.IntKind.i64 0)).bind fun v16 =>
 (O.boolO v16).bind fun b17 => cond b17 (
 (O.bop .add 3 i6 x).bind fun v18 =>
 (O.bop .add 3 i6 x).bind fun v19 =>
 (O.indexAddr 47 i0 v19).bind fun v20 =>
 (O.load s 3 v20).bind fun v21 =>
 (O.indexAddr 47 i0 i6).bind fun v22 =>
 (O.load s 3 v22).bind fun v23 =>
 (O.indexAddr 47 i0 i6).bind fun v24 =>
 (O.store s 3 v24 v21).bind fun s25 =>
 (O.indexAddr 47 i0 v18).bind fun v26 =>
 (O.store s25 3 v26 v23).bind fun s27 =>
 (C (.fn 130) [i0, (Go.Value.int Go.IntKind.i64 0), x, i6] s27).bind fun L28 => manyK L28 fun v29 s30 =>
 (O.bop .sub 3 x (Go.Value.int Go.IntKind.i64 1)).bind fun v31 =>
 nx v31 s30) (
 kx 2 x s)
theorem f90_l1_b (C : OracleJ H) (n : Nat) (i0 : Value) (i1 : Value) (i2 : Value) (i6 : Value) (i8 : Value) (i9 : Value) (i11 : Value) (i12 : Value) (i13 : Value) (i14 : Value) (i15 : Value) (i16 : Value) (i17 : Value) (i27 : Value) (i28 : Value) (x : Value) (s : St H) (nx : List Value → St H → Option (List (Value × St H))) (K : Ex → List Value → St H → Option (List (Value × St H))) :
 exec Tryz.prog false C n 90 none (cdp Tryz.f90 [1, 1, 1, 1, 1, 0, 0]) (f90_l1_m i0 i1 i2 i6 i8 i9 i11 i12 i13 i14 i15 i16 i17 i27 i28 x) s (kIter (scratch (cdp Tryz.f90 [1, 1, 1, 1, 1, 0, 0])) nx K) = f90_l1 (dOps (H := H) Tryz.prog) C n i0 i6 (fun x s => nx (f90_l1_m i0 i1 i2 i6 i8 i9 i11 i12 i13 i14 i15 i16 i17 i27 i28 x) s) (fun i x s => K (.exit i) (f90_l1_m i0 i1 i2 i6 i8 i9 i11 i12 i13 i14 i15 i16 i17 i27 i28 x) s) (fun x s => K .ret (f90_l1_m i0 i1 i2 i6 i8 i9 i11 i12 i13 i14 i15 i16 i17 i27 i28 x) s) x s := by kernel_rfl
theorem f90_l1_e (C : OracleJ H) (n : Nat) (i0 : Value) (i1 : Value) (i2 : Value) (i6 : Value) (i8 : Value) (i9 : Value) (i11 : Value) (i12 : Value) (i13 : Value) (i14 : Value) (i15 : Value) (i16 : Value) (i17 : Value) (i27 : Value) (i28 : Value) (m : Nat) (x : Value) (s : St H) (K : Ex → List Value → St H → Option (List (Value × St H))) :
 iter (fun t s k => exec Tryz.prog false C n 90 none (cdp Tryz.f90 [1, 1, 1, 1, 1, 0, 0]) t s k) (scratch (cdp Tryz.f90 [1, 1, 1, 1, 1, 0, 0])) m (f90_l1_m i0 i1 i2 i6 i8 i9 i11 i12 i13 i14 i15 i16 i17 i27 i28 x) s K = iterS (f90_l1 (dOps (H := H) Tryz.prog) C n i0 i6) (fun i x s => K (.exit i) (f90_l1_m i0 i1 i2 i6 i8 i9 i11 i12 i13 i14 i15 i16 i17 i27 i28 x) s) (fun x s => K .ret (f90_l1_m i0 i1 i2 i6 i8 i9 i11 i12 i13 i14 i15 i16 i17 i27 i28 x) s) m x s :=
   iter_eq (f90_l1_m i0 i1 i2 i6 i8 i9 i11 i12 i13 i14 i15 i16 i17 i27 i28) (f90_l1 (dOps (H := H) Tryz.prog) C n i0 i6) (fun x s nx K => f90_l1_b C n i0 i1 i2 i6 i8 i9 i11 i12 i13 i14 i15 i16 i17 i27 i28 x s nx K) K m x s
noncomputable def f90 (O : Ops H) (C : OracleJ H) (n : Nat) (a0 : Value) (a1 : Value) (a2 : Value) (s : St H) : Option (List (Value × St H)) :=
 (O.bop .sub 3 a2 a1).bind fun v1 =>
 (O.bop .sub 3 v1 (Go.Value.int Go.IntKind.i64 1)).bind fun v2 =>
 (O.bop .quo 3 v2 (Go.Value.int Go.IntKind.i64 2)).bind fun v3 =>
 iterS (f90_l0 O C n a0 a1 v1 )
 (fun i10 x11 s12 => (bif Nat.beq i10 0 then
 (O.bop .sub 3 v1 (Go.Value.int Go.IntKind.i64 1)).bind fun v15 =>
 iterS (f90_l1 O C n a0 a1 )
 (fun i32 x33 s34 => (bif Nat.beq i32 2 then
 some [(.tuple #[], s34)] else none))
 (fun x35 s36 => some [(.tuple #[], s36)]) n v15 s12 else none))
 (fun x13 s14 => some [(.tuple #[], s14)]) n v3 s
theorem f90_l1_k (C : OracleJ H) (n : Nat) (i0 : Value) (i1 : Value) (i2 : Value) (i6 : Value) (i8 : Value) (i9 : Value) (i11 : Value) (i12 : Value) (i13 : Value) (i14 : Value) (i15 : Value) (i16 : Value) (i17 : Value) (i27 : Value) (i28 : Value) (i : Nat) (x : Value) (s : St H) : (kBlock 2 (kFun Tryz.prog Tryz.f90)) (.exit i) (f90_l1_m i0 i1 i2 i6 i8 i9 i11 i12 i13 i14 i15 i16 i17 i27 i28 x) s =
 (bif Nat.beq i 2 then
 some [(.tuple #[], s)] else none) := by kernel_rfl
theorem f90_l0_k (C : OracleJ H) (n : Nat) (i0 : Value) (i1 : Value) (i2 : Value) (i6 : Value) (i8 : Value) (i11 : Value) (i12 : Value) (i13 : Value) (i14 : Value) (i15 : Value) (i16 : Value) (i17 : Value) (i : Nat) (x : Value) (s : St H) : (kBlock 0 (kSeq Tryz.prog false C n 90 none (cdp Tryz.f90 [1, 1, 1, 1]) (kFun Tryz.prog Tryz.f90))) (.exit i) (f90_l0_m i0 i1 i2 i6 i8 i11 i12 i13 i14 i15 i16 i17 x) s =
 (bif Nat.beq i 0 then
 ((dOps (H := H) Tryz.prog).bop .sub 3 i8 (Go.Value.int Go.IntKind.i64 1)).bind fun v41 =>
 iterS (f90_l1 (dOps (H := H) Tryz.prog) C n i0 i6 )
 (fun i42 x43 s44 => (bif Nat.beq i42 2 then
 some [(.tuple #[], s44)] else none))
 (fun x45 s46 => some [(.tuple #[], s46)]) n v41 s else none) := by
  have h1 : (kBlock 0 (kSeq Tryz.prog false C n 90 none (cdp Tryz.f90 [1, 1, 1, 1]) (kFun Tryz.prog Tryz.f90))) (.exit i) (f90_l0_m i0 i1 i2 i6 i8 i11 i12 i13 i14 i15 i16 i17 x) s =
 (bif Nat.beq i 0 then
 ((dOps (H := H) Tryz.prog).bop .sub 3 i8 (Go.Value.int Go.IntKind.i64 1)).bind fun v40 =>
 iter (fun t s k => exec Tryz.prog false C n 90 none (cdp Tryz.f90 [1, 1, 1, 1, 1, 0, 0]) t s k) (scratch (cdp Tryz.f90 [1, 1, 1, 1, 1, 0, 0])) n (f90_l1_m i0 i1 i2 i6 i8 x i11 i12 i13 i14 i15 i16 i17 i8 v40 v40) s (kBlock 2 (kFun Tryz.prog Tryz.f90)) else none) := by kernel_rfl
  rw [h1]
  simp only [f90_l1_e, f90_l1_k]
  show _ = (bif Nat.beq i 0 then
 ((dOps (H := H) Tryz.prog).bop .sub 3 i8 (Go.Value.int Go.IntKind.i64 1)).bind fun v41 =>
 iterS (f90_l1 (dOps (H := H) Tryz.prog) C n i0 i6 )
 (fun i42 x43 s44 => (bif Nat.beq i42 2 then
 some [(.tuple #[], s44)] else none))
 (fun x45 s46 => some [(.tuple #[], s46)]) n v41 s else none)
  kernel_rfl
theorem f90_r (C : OracleJ H) (n : Nat) (a0 : Value) (a1 : Value) (a2 : Value) (s : St H) : bodyD Tryz.prog false C n 90 Tryz.f90 [a0, a1, a2] s = f90 (dOps (H := H) Tryz.prog) C n a0 a1 a2 s := by
  have h1 : bodyD Tryz.prog false C n 90 Tryz.f90 [a0, a1, a2] s =
 ((dOps (H := H) Tryz.prog).bop .sub 3 a2 a1).bind fun v37 =>
 ((dOps (H := H) Tryz.prog).bop .sub 3 v37 (Go.Value.int Go.IntKind.i64 1)).bind fun v38 =>
 ((dOps (H := H) Tryz.prog).bop .quo 3 v38 (Go.Value.int Go.IntKind.i64 2)).bind fun v39 =>
 iter (fun t s k => exec Tryz.prog false C n 90 none (cdp Tryz.f90 [1, 1, 1, 0, 1, 0, 0]) t s k) (scratch (cdp Tryz.f90 [1, 1, 1, 0, 1, 0, 0])) n (f90_l0_m a0 a1 a2 a1 v37 a1 a2 a1 v37 v37 v38 v39 v39) s (kBlock 0 (kSeq Tryz.prog false C n 90 none (cdp Tryz.f90 [1, 1, 1, 1]) (kFun Tryz.prog Tryz.f90))) := by kernel_rfl
  rw [h1]
  simp only [f90_l0_e, f90_l0_k]
  show _ = f90 (dOps (H := H) Tryz.prog) C n a0 a1 a2 s
  kernel_rfl
/-! cmp.Less[int] -/
noncomputable def f95 (O : Ops H) (C : OracleJ H) (n : Nat) (a0 : Value) (a1 : Value) (s : St H) : Option (List (Value × St H)) :=
 (C (.fn 76) [a0] s).bind fun L1 => manyK L1 fun v2 s3 =>
 gd v2 (
 (C (.fn 76) [a1] s3).bind fun L4 => manyK L4 fun v5 s6 =>
 (O.uop .not v5).bind fun v7 =>
 gd v7 (
 some [((.bool true), s6)]) (
 (O.bop .lss 3 a0 a1).bind fun v8 =>
 some [(v8, s6)]) (
 none)) (
 (O.bop .lss 3 a0 a1).bind fun v9 =>
 some [(v9, s3)]) (
 none)
theorem f95_r (C : OracleJ H) (n : Nat) (a0 : Value) (a1 : Value) (s : St H) : bodyD Tryz.prog false C n 95 Tryz.f95 [a0, a1] s = f95 (dOps (H := H) Tryz.prog) C n a0 a1 s := by kernel_rfl
/-! math/bits.Len64 -/
noncomputable def f99 (O : Ops H) (C : OracleJ H) (n : Nat) (a0 : Value) (s : St H) : Option (List (Value × St H)) :=
 (O.bop .geq 26 a0 (Go.Value.int Go.IntKind.u64 4294967296)).bind fun v1 =>
 jn (fun (j154_0 : Value) (j154_2 : Value) =>
 (O.bop .geq 26 j154_0 (Go.Value.int Go.IntKind.u64 65536)).bind fun v32 =>
 jn (fun (j174_0 : Value) (j174_2 : Value) =>
 (O.bop .geq 26 j174_0 (Go.Value.int Go.IntKind.u64 256)).bind fun v48 =>
 jn (fun (j184_0 : Value) (j184_2 : Value) =>
 (O.conv false s 26 5 j184_0).bind fun p56 =>
 (O.index 9 (Go.Value.string { data := #[0, 1, 2, 2, 3, 3, 3, 3, 4, 4, 4, 4, 4, 4, 4, 4, 5, 5, 5, 5, 5, 5, 5, 5, 5, 5, 5, 5, 5, 5, 5, 5, 6, 6, 6, 6, 6, 6, 6, 6, 6, 6, 6, 6, 6, 6, 6, 6, 6, 6, 6, 6, 6, 6, 6, 6, 6, 6, 6, 6, 6, 6, 6, 6, 7, 7, 7, 7, 7, 7, 7, 7, 7, 7, 7, 7, 7, 7, 7, 7, 7, 7, 7, 7, 7, 7, 7, 7, 7, 7, 7, 7, 7, 7, 7, 7, 7, 7, 7, 7, 7, 7, 7, 7, 7, 7, 7, 7, 7, 7, 7, 7, 7, 7, 7, 7, 7, 7, 7, 7, 7, 7, 7, 7, 7, 7, 7, 7, 8, 8, 8, 8, 8, 8, 8, 8, 8, 8, 8, 8, 8, 8, 8, 8, 8, 8, 8, 8, 8, 8, 8, 8, 8, 8, 8, 8, 8, 8, 8, 8, 8, 8, 8, 8, 8, 8, 8, 8, 8, 8, 8, 8, 8, 8, 8, 8, 8, 8, 8, 8, 8, 8, 8, 8, 8, 8, 8, 8, 8, 8, 8, 8, 8, 8, 8, 8, 8, 8, 8, 8, 8, 8, 8, 8, 8, 8, 8, 8, 8, 8, 8, 8, 8, 8, 8, 8, 8, 8, 8, 8, 8, 8, 8, 8, 8, 8, 8, 8, 8, 8, 8, 8, 8, 8, 8, 8, 8, 8, 8, 8, 8, 8, 8, 8, 8, 8, 8, 8, 8, 8, 8, 8, 8, 8, 8, 8] }) p56.1).bind fun v57 =>
 (O.conv false p56.2 5 3 v57).bind fun p58 =>
 (O.bop .add 3 j184_2 p58.1).bind fun v59 =>
 some [(v59, p58.2)]) fun k184 =>
 (O.boolO v48).bind fun b49 => cond b49 (
 (O.bop .shr 26 j174_0 (Go.Value.int Go.IntKind.u64 8)).bind fun v50 =>
 (O.bop .add 3 j174_2 (Go.Value.int Go.IntKind.i64 8)).bind fun v51 =>
 k184 v50 v51) (
 k184 j174_0 j174_2)) fun k174 =>
 (O.boolO v32).bind fun b33 => cond b33 (
 (O.bop .shr 26 j154_0 (Go.Value.int Go.IntKind.u64 16)).bind fun v34 =>
 (O.bop .add 3 j154_2 (Go.Value.int Go.IntKind.i64 16)).bind fun v35 =>
 k174 v34 v35) (
 k174 j154_0 j154_2)) fun k154 =>
 (O.boolO v1).bind fun b2 => cond b2 (
 (O.bop .shr 26 a0 (Go.Value.int Go.IntKind.u64 32)).bind fun v3 =>
 k154 v3 (Go.Value.int Go.IntKind.i64 32)) (
 k154 a0 (Go.Value.int Go.IntKind.i64 0))
theorem f99_r (C : OracleJ H) (n : Nat) (a0 : Value) (s : St H) : bodyD Tryz.prog false C n 99 Tryz.f99 [a0] s = f99 (dOps (H := H) Tryz.prog) C n a0 s := by kernel_rfl
/-! tidepole/crc.Put -/
def f103_l0_m (i0 : Value) (i1 : Value) (i4 : Value) (i7 : Value) (i8 : Value) (i9 : Value) (i10 : Value) (i11 : Value) (i12 : Value) (x : Value × Value × Value) : List Value := [i0, i1, undefV, undefV, i4, x.1, x.2.1, i7, i8, i9, i10, i11, i12, x.2.2, dc, dc, dc, dc, dc, dc, dc, dc, dc, dc, dc, undefV]
noncomputable def f103_l0 (O : Ops H) (C : OracleJ H) (n : Nat) (i1 : Value) (nx : (Value × Value × Value) → St H → Option (List (Value × St H))) (kx : Nat → (Value × Value × Value) → St H → Option (List (Value × St H))) (kr : (Value × Value × Value) → St H → Option (List (Value × St H))) (x : Value × Value × Value) (s : St H) : Option (List (Value × St H)) :=
 (O.bop .lss 3 x.2.2 (Go.Value.int Go.IntKind.i64 4)).bind fun v5 =>
 (O.boolO v5).bind fun b6 => cond b6 (
 (O.bop .mul 3 (Go.Value.int Go.IntKind.i64 8) x.2.2).bind fun v7 =>
 (O.bop .shr 151 i1 v7).bind fun v8 =>
 (O.conv false s 151 5 v8).bind fun p9 =>
 (O.buildSlice false p9.2 99 1 [(0, p9.1)]).bind fun p10 =>
 (O.append false p10.2 99 99 x.1 p10.1).bind fun p11 =>
 (O.bop .add 3 x.2.2 (Go.Value.int Go.IntKind.i64 1)).bind fun v12 =>
 nx (p11.1, x.2.2, v12) p11.2) (
 kx 0 (x.1, x.2.1, x.2.2) s)
theorem f103_l0_b (C : OracleJ H) (n : Nat) (i0 : Value) (i1 : Value) (i4 : Value) (i7 : Value) (i8 : Value) (i9 : Value) (i10 : Value) (i11 : Value) (i12 : Value) (x : Value × Value × Value) (s : St H) (nx : List Value → St H → Option (List (Value × St H))) (K : Ex → List Value → St H → Option (List (Value × St H))) :
 exec Tryz.prog false C n 103 none (cdp Tryz.f103 [1, 1, 0, 1, 0, 0]) (f103_l0_m i0 i1 i4 i7 i8 i9 i10 i11 i12 x) s (kIter (scratch (cdp Tryz.f103 [1, 1, 0, 1, 0, 0])) nx K) = f103_l0 (dOps (H := H) Tryz.prog) C n i1 (fun x s => nx (f103_l0_m i0 i1 i4 i7 i8 i9 i10 i11 i12 x) s) (fun i x s => K (.exit i) (f103_l0_m i0 i1 i4 i7 i8 i9 i10 i11 i12 x) s) (fun x s => K .ret (f103_l0_m i0 i1 i4 i7 i8 i9 i10 i11 i12 x) s) x s := by kernel_rfl
theorem f103_l0_e (C : OracleJ H) (n : Nat) (i0 : Value) (i1 : Value) (i4 : Value) (i7 : Value) (i8 : Value) (i9 : Value) (i10 : Value) (i11 : Value) (i12 : Value) (m : Nat) (x : Value × Value × Value) (s : St H) (K : Ex → List Value → St H → Option (List (Value × St H))) :
 iter (fun t s k => exec Tryz.prog false C n 103 none (cdp Tryz.f103 [1, 1, 0, 1, 0, 0]) t s k) (scratch (cdp Tryz.f103 [1, 1, 0, 1, 0, 0])) m (f103_l0_m i0 i1 i4 i7 i8 i9 i10 i11 i12 x) s K = iterS (f103_l0 (dOps (H := H) Tryz.prog) C n i1) (fun i x s => K (.exit i) (f103_l0_m i0 i1 i4 i7 i8 i9 i10 i11 i12 x) s) (fun x s => K .ret (f103_l0_m i0 i1 i4 i7 i8 i9 i10 i11 i12 x) s) m x s :=
   iter_eq (f103_l0_m i0 i1 i4 i7 i8 i9 i10 i11 i12) (f103_l0 (dOps (H := H) Tryz.prog) C n i1) (fun x s nx K => f103_l0_b C n i0 i1 i4 i7 i8 i9 i10 i11 i12 x s nx K) K m x s
noncomputable def f103 (O : Ops H) (C : OracleJ H) (n : Nat) (a0 : Value) (a1 : Value) (s : St H) : Option (List (Value × St H)) :=
 (O.len s 99 a0).bind fun v1 =>
 (O.bop .add 3 v1 (Go.Value.int Go.IntKind.i64 4)).bind fun v2 =>
 (O.makeSlice false s 99 (Go.Value.int Go.IntKind.i64 0) v2).bind fun p3 =>
 (O.append false p3.2 99 99 p3.1 a0).bind fun p4 =>
 iterS (f103_l0 O C n a1 )
 (fun i13 x14 s15 => (bif Nat.beq i13 0 then
 some [(x14.1, s15)] else none))
 (fun x16 s17 => some [((fzV 2 #[]), s17)]) n (p4.1, undefV, (Go.Value.int Go.IntKind.i64 0)) p4.2
theorem f103_l0_k (C : OracleJ H) (n : Nat) (i0 : Value) (i1 : Value) (i4 : Value) (i7 : Value) (i8 : Value) (i9 : Value) (i10 : Value) (i11 : Value) (i12 : Value) (i : Nat) (x : Value × Value × Value) (s : St H) : (kBlock 0 (kSeq Tryz.prog false C n 103 none (cdp Tryz.f103 [1, 1, 1]) (kFun Tryz.prog Tryz.f103))) (.exit i) (f103_l0_m i0 i1 i4 i7 i8 i9 i10 i11 i12 x) s =
 (bif Nat.beq i 0 then
 some [(x.1, s)] else none) := by kernel_rfl
theorem f103_r (C : OracleJ H) (n : Nat) (a0 : Value) (a1 : Value) (s : St H) : bodyD Tryz.prog false C n 103 Tryz.f103 [a0, a1] s = f103 (dOps (H := H) Tryz.prog) C n a0 a1 s := by
  have h1 : bodyD Tryz.prog false C n 103 Tryz.f103 [a0, a1] s =
 ((dOps (H := H) Tryz.prog).len s 99 a0).bind fun v18 =>
 ((dOps (H := H) Tryz.prog).bop .add 3 v18 (Go.Value.int Go.IntKind.i64 4)).bind fun v19 =>
 ((dOps (H := H) Tryz.prog).makeSlice false s 99 (Go.Value.int Go.IntKind.i64 0) v19).bind fun p20 =>
 ((dOps (H := H) Tryz.prog).append false p20.2 99 99 p20.1 a0).bind fun p21 =>
 iter (fun t s k => exec Tryz.prog false C n 103 none (cdp Tryz.f103 [1, 1, 0, 1, 0, 0]) t s k) (scratch (cdp Tryz.f103 [1, 1, 0, 1, 0, 0])) n (f103_l0_m a0 a1 (fzV 2 #[]) a0 v18 v19 p20.1 a0 p21.1 (p21.1, undefV, (Go.Value.int Go.IntKind.i64 0))) p21.2 (kBlock 0 (kSeq Tryz.prog false C n 103 none (cdp Tryz.f103 [1, 1, 1]) (kFun Tryz.prog Tryz.f103))) := by kernel_rfl
  rw [h1]
  simp only [f103_l0_e, f103_l0_k]
  show _ = f103 (dOps (H := H) Tryz.prog) C n a0 a1 s
  kernel_rfl
/-! tidepole/stamp.done -/
noncomputable def f107 (O : Ops H) (C : OracleJ H) (n : Nat) (a0 : Value) (a1 : Value) (s : St H) : Option (List (Value × St H)) :=
 (O.box s a0).bind fun p1 =>
 (O.alloc p1.2 121).bind fun p2 =>
 (O.bop .neq 32 a1 (Go.Value.int Go.IntKind.i64 0)).bind fun v3 =>
 (O.boolO v3).bind fun b4 => cond b4 (
 (O.build 121 []).bind fun v5 =>
 (O.store p2.2 121 p2.1 v5).bind fun s6 =>
 (O.load s6 121 p2.1).bind fun v7 => some [(.tuple #[v7, a1], s6)]) (
 (O.load p2.2 121 p1.1).bind fun v8 =>
 (O.store p2.2 121 p2.1 v8).bind fun s9 =>
 (O.load s9 121 p2.1).bind fun v10 => some [(.tuple #[v10, a1], s9)])
theorem f107_r (C : OracleJ H) (n : Nat) (a0 : Value) (a1 : Value) (s : St H) : bodyD Tryz.prog false C n 107 Tryz.f107 [a0, a1] s = f107 (dOps (H := H) Tryz.prog) C n a0 a1 s := by kernel_rfl
/-! (tidepole/xor.State).window -/
noncomputable def f111 (O : Ops H) (C : OracleJ H) (n : Nat) (a0 : Value) (s : St H) : Option (List (Value × St H)) :=
 (O.box s a0).bind fun p1 =>
 (O.alloc p1.2 169).bind fun p2 =>
 (O.fieldAddr 118 p1.1 2).bind fun v3 =>
 (O.load p2.2 3 v3).bind fun v4 =>
 (O.fieldAddr 118 p1.1 3).bind fun v5 =>
 (O.load p2.2 3 v5).bind fun v6 =>
 (O.build 169 [(0, v4), (1, v6)]).bind fun v7 =>
 (O.store p2.2 169 p2.1 v7).bind fun s8 =>
 (O.load s8 169 p2.1).bind fun v9 => some [(v9, s8)]
theorem f111_r (C : OracleJ H) (n : Nat) (a0 : Value) (s : St H) : bodyD Tryz.prog false C n 111 Tryz.f111 [a0] s = f111 (dOps (H := H) Tryz.prog) C n a0 s := by kernel_rfl
/-! (tidepole/xor.window).size -/
noncomputable def f115 (O : Ops H) (C : OracleJ H) (n : Nat) (a0 : Value) (s : St H) : Option (List (Value × St H)) :=
 (O.box s a0).bind fun p1 =>
 (O.fieldAddr 169 p1.1 0).bind fun v2 =>
 (O.load p1.2 3 v2).bind fun v3 =>
 (O.bop .sub 3 (Go.Value.int Go.IntKind.i64 64) v3).bind fun v4 =>
 (O.fieldAddr 169 p1.1 1).bind fun v5 =>
 (O.load p1.2 3 v5).bind fun v6 =>
 (O.bop .sub 3 v4 v6).bind fun v7 =>
 some [(v7, p1.2)]
theorem f115_r (C : OracleJ H) (n : Nat) (a0 : Value) (s : St H) : bodyD Tryz.prog false C n 115 Tryz.f115 [a0] s = f115 (dOps (H := H) Tryz.prog) C n a0 s := by kernel_rfl
/-! slices.breakPatternsOrdered[uint64] -/
def f119_l0_m (i0 : Value) (i1 : Value) (i2 : Value) (i6 : Value) (i7 : Value) (i8 : Value) (i11 : Value) (i12 : Value) (i13 : Value) (i14 : Value) (i15 : Value) (i16 : Value) (i17 : Value) (i18 : Value) (i19 : Value) (i20 : Value) (i21 : Value) (i22 : Value) (i23 : Value) (i24 : Value) (i25 : Value) (x : Value × Value) : List Value := [i0, i1, i2, undefV, undefV, undefV, i6, i7, i8, x.1, x.2, i11, i12, i13, i14, i15, i16, i17, i18, i19, i20, i21, i22, i23, i24, i25, dc, dc, dc, dc, dc, dc, dc, dc, dc, dc, dc, dc, dc, dc, dc, dc, dc, dc, dc, dc, dc, dc, dc, dc, dc, dc, dc, dc, dc, dc, dc, dc, dc, dc, dc, dc, dc, dc, dc]
noncomputable def f119_l0 (O : Ops H) (C : OracleJ H) (n : Nat) (i0 : Value) (i1 : Value) (i6 : Value) (i7 : Value) (i8 : Value) (nx : (Value × Value) → St H → Option (List (Value × St H))) (kx : Nat → (Value × Value) → St H → Option (List (Value × St H))) (kr : (Value × Value) → St H → Option (List (Value × St H))) (x : Value × Value) (s : St H) : Option (List (Value × St H)) :=
 (O.bop .quo 3 i6 (Go.Value.int Go.IntKind.i64 4)).bind fun v14 =>
 (O.bop .mul 3 v14 (Go.Value.int Go.IntKind.i64 2)).bind fun v15 =>
 (O.bop .add 3 i1 v15).bind fun v16 =>
 (O.bop .add 3 v16 (Go.Value.int Go.IntKind.i64 1)).bind fun v17 =>
 (O.bop .leq 3 x.1 v17).bind fun v18 =>
 (O.boolO v18).bind fun b19 => cond b19 (
 (C (.fn 132) [i7] s).bind fun L20 => manyK L20 fun v21 s22 =>
 (O.bop .sub 114 i8 (Go.Value.int Go.IntKind.u64 1)).bind fun v23 =>
 (O.bop .and 114 v21 v23).bind fun v24 =>
 (O.conv false s22 114 3 v24).bind fun p25 =>
 (O.bop .geq 3 p25.1 i6).bind fun v26 =>
 jn (fun (j227_10 : Value) =>
 (O.bop .add 3 i1 j227_10).bind fun v39 =>
 (O.bop .add 3 i1 j227_10).bind fun v40 =>
 (O.indexAddr 39 i0 v40).bind fun v41 =>
 (O.load p25.2 26 v41).bind fun v42 =>
 (O.indexAddr 39 i0 x.1).bind fun v43 =>
 (O.load p25.2 26 v43).bind fun v44 =>
 (O.indexAddr 39 i0 x.1).bind fun v45 =>
 (O.store p25.2 26 v45 v42).bind fun s46 =>
 (O.indexAddr 39 i0 v39).bind fun v47 =>
 (O.store s46 26 v47 v44).bind fun s48 =>
 (O.bop .add 3 x.1 (Go.Value.int Go.IntKind.i64 1)).bind fun v49 =>
 nx (v49, j227_10) s48) fun k227 =>
 (O.boolO v26).bind fun b27 => cond b27 (
 (O.bop .sub 3 p25.1 i6).bind fun v28 =>
 k227 v28) (
 k227 p25.1)) (
 kx 0 (x.1, x.2) s)
theorem f119_l0_b (C : OracleJ H) (n : Nat) (i0 : Value) (i1 : Value) (i2 : Value) (i6 : Value) (i7 : Value) (i8 : Value) (i11 : Value) (i12 : Value) (i13 : Value) (i14 : Value) (i15 : Value) (i16 : Value) (i17 : Value) (i18 : Value) (i19 : Value) (i20 : Value) (i21 : Value) (i22 : Value) (i23 : Value) (i24 : Value) (i25 : Value) (x : Value × Value) (s : St H) (nx : List Value → St H → Option (List (Value × St H))) (K : Ex → List Value → St H → Option (List (Value × St H))) :
 exec Tryz.prog false C n 119 none (cdp Tryz.f119 [1, 1, 0, 1, 1, 1, 0, 0]) (f119_l0_m i0 i1 i2 i6 i7 i8 i11 i12 i13 i14 i15 i16 i17 i18 i19 i20 i21 i22 i23 i24 i25 x) s (kIter (scratch (cdp Tryz.f119 [1, 1, 0, 1, 1, 1, 0, 0])) nx K) = f119_l0 (dOps (H := H) Tryz.prog) C n i0 i1 i6 i7 i8 (fun x s => nx (f119_l0_m i0 i1 i2 i6 i7 i8 i11 i12 i13 i14 i15 i16 i17 i18 i19 i20 i21 i22 i23 i24 i25 x) s) (fun i x s => K (.exit i) (f119_l0_m i0 i1 i2 i6 i7 i8 i11 i12 i13 i14 i15 i16 i17 i18 i19 i20 i21 i22 i23 i24 i25 x) s) (fun x s => K .ret (f119_l0_m i0 i1 i2 i6 i7 i8 i11 i12 i13 i14 i15 i16 i17 i18 i19 i20 i21 i22 i23 i24 i25 x) s) x s := by kernel_rfl
theorem f119_l0_e (C : OracleJ H) (n : Nat) (i0 : Value) (i1 : Value) (i2 : Value) (i6 : Value) (i7 : Value) (i8 : Value) (i11 : Value) (i12 : Value) (i13 : Value) (i14 : Value) (i15 : Value) (i16 : Value) (i17 : Value) (i18 : Value) (i19 : Value) (i20 : Value) (i21 : Value) (i22 : Value) (i23 : Value) (i24 : Value) (i25 : Value) (m : Nat) (x : Value × Value) (s : St H) (K : Ex → List Value → St H → Option (List (Value × St H))) :
 iter (fun t s k => exec Tryz.prog false C n 119 none (cdp Tryz.f119 [1, 1, 0, 1, 1, 1, 0, 0]) t s k) (scratch (cdp Tryz.f119 [1, 1, 0, 1, 1, 1, 0, 0])) m (f119_l0_m i0 i1 i2 i6 i7 i8 i11 i12 i13 i14 i15 i16 i17 i18 i19 i20 i21 i22 i23 i24 i25 x) s K = iterS (f119_l0 (dOps (H := H) Tryz.prog) C n i0 i1 i6 i7 i8) (fun i x s => K (.exit i) (f119_l0_m i0 i1 i2 i6 i7 i8 i11 i12 i13 i14 i15 i16 i17 i18 i19 i20 i21 i22 i23 i24 i25 x) s) (fun x s => K .ret (f119_l0_m i0 i1 i2 i6 i7 i8 i11 i12 i13 i14 i15 i16 i17 i18 i19 i20 i21 i22 i23 i24 i25 x) s) m x s :=
   iter_eq (f119_l0_m i0 i1 i2 i6 i7 i8 i11 i12 i13 i14 i15 i16 i17 i18 i19 i20 i21 i22 i23 i24 i25) (f119_l0 (dOps (H := H) Tryz.prog) C n i0 i1 i6 i7 i8) (fun x s nx K => f119_l0_b C n i0 i1 i2 i6 i7 i8 i11 i12 i13 i14 i15 i16 i17 i18 i19 i20 i21 i22 i23 i24 i25 x s nx K) K m x s
noncomputable def f119 (O : Ops H) (C : OracleJ H) (n : Nat) (a0 : Value) (a1 : Value) (a2 : Value) (s : St H) : Option (List (Value × St H)) :=
 (O.bop .sub 3 a2 a1).bind fun v1 =>
 (O.bop .geq 3 v1 (Go.Value.int Go.IntKind.i64 8)).bind fun v2 =>
 (O.boolO v2).bind fun b3 => cond b3 (
 (O.conv false s 3 191 v1).bind fun p4 =>
 (O.alloc p4.2 191).bind fun p5 =>
 (O.store p5.2 191 p5.1 p4.1).bind fun s6 =>
 (C (.fn 131) [v1] s6).bind fun L7 => manyK L7 fun v8 s9 =>
 (O.bop .quo 3 v1 (Go.Value.int Go.IntKind.i64 4)).bind fun v10 =>
 (O.bop .mul 3 v10 (Go.Value.int Go.IntKind.i64 2)).bind fun v11 =>
 (O.bop .add 3 a1 v11).bind fun v12 =>
 (O.bop .sub 3 v12 (Go.Value.int Go.IntKind.i64 1)).bind fun v13 =>
 iterS (f119_l0 O C n a0 a1 v1 p5.1 v8 )
 (fun i50 x51 s52 => (bif Nat.beq i50 0 then
 some [(.tuple #[], s52)] else none))
 (fun x53 s54 => some [(.tuple #[], s54)]) n (v13, undefV) s9) (
 some [(.tuple #[], s)])
theorem f119_l0_k (C : OracleJ H) (n : Nat) (i0 : Value) (i1 : Value) (i2 : Value) (i6 : Value) (i7 : Value) (i8 : Value) (i11 : Value) (i12 : Value) (i13 : Value) (i14 : Value) (i15 : Value) (i16 : Value) (i17 : Value) (i18 : Value) (i19 : Value) (i20 : Value) (i21 : Value) (i22 : Value) (i23 : Value) (i24 : Value) (i25 : Value) (i : Nat) (x : Value × Value) (s : St H) : (kBlock 0 (kFun Tryz.prog Tryz.f119)) (.exit i) (f119_l0_m i0 i1 i2 i6 i7 i8 i11 i12 i13 i14 i15 i16 i17 i18 i19 i20 i21 i22 i23 i24 i25 x) s =
 (bif Nat.beq i 0 then
 some [(.tuple #[], s)] else none) := by kernel_rfl
theorem f119_r (C : OracleJ H) (n : Nat) (a0 : Value) (a1 : Value) (a2 : Value) (s : St H) : bodyD Tryz.prog false C n 119 Tryz.f119 [a0, a1, a2] s = f119 (dOps (H := H) Tryz.prog) C n a0 a1 a2 s := by
  have h1 : bodyD Tryz.prog false C n 119 Tryz.f119 [a0, a1, a2] s =
 ((dOps (H := H) Tryz.prog).bop .sub 3 a2 a1).bind fun v55 =>
 ((dOps (H := H) Tryz.prog).bop .geq 3 v55 (Go.Value.int Go.IntKind.i64 8)).bind fun v56 =>
 ((dOps (H := H) Tryz.prog).boolO v56).bind fun b57 => cond b57 (
 ((dOps (H := H) Tryz.prog).conv false s 3 191 v55).bind fun p58 =>
 ((dOps (H := H) Tryz.prog).alloc p58.2 191).bind fun p59 =>
 ((dOps (H := H) Tryz.prog).store p59.2 191 p59.1 p58.1).bind fun s60 =>
 (C (.fn 131) [v55] s60).bind fun L61 => manyK L61 fun v62 s63 =>
 ((dOps (H := H) Tryz.prog).bop .quo 3 v55 (Go.Value.int Go.IntKind.i64 4)).bind fun v64 =>
 ((dOps (H := H) Tryz.prog).bop .mul 3 v64 (Go.Value.int Go.IntKind.i64 2)).bind fun v65 =>
 ((dOps (H := H) Tryz.prog).bop .add 3 a1 v65).bind fun v66 =>
 ((dOps (H := H) Tryz.prog).bop .sub 3 v66 (Go.Value.int Go.IntKind.i64 1)).bind fun v67 =>
 iter (fun t s k => exec Tryz.prog false C n 119 none (cdp Tryz.f119 [1, 1, 0, 1, 1, 1, 0, 0]) t s k) (scratch (cdp Tryz.f119 [1, 1, 0, 1, 1, 1, 0, 0])) n (f119_l0_m a0 a1 a2 v55 p59.1 v62 a2 a1 v55 v55 v56 v55 p58.1 v55 v62 a1 v55 v64 v65 v66 v67 (v67, undefV)) s63 (kBlock 0 (kFun Tryz.prog Tryz.f119))) (
 some [(.tuple #[], s)]) := by kernel_rfl
  rw [h1]
  simp only [f119_l0_e, f119_l0_k]
  show _ = f119 (dOps (H := H) Tryz.prog) C n a0 a1 a2 s
  kernel_rfl
/-! slices.partitionEqualOrdered[uint64] -/
def f124_l1_m (i0 : Value) (i1 : Value) (i2 : Value) (i3 : Value) (i10 : Value) (i11 : Value) (i12 : Value) (i13 : Value) (i14 : Value) (i15 : Value) (i16 : Value) (i17 : Value) (i18 : Value) (i19 : Value) (i20 : Value) (i21 : Value) (i22 : Value) (i23 : Value) (i24 : Value) (i25 : Value) (i26 : Value) (i27 : Value) (i28 : Value) (x : Value) : List Value := [i0, i1, i2, i3, undefV, undefV, undefV, undefV, (Go.Value.int Go.IntKind.i64 0), x, i10, i11, i12, i13, i14, i15, i16, i17, i18, i19, i20, i21, i22, i23, i24, i25, i26, i27, i28, dc, dc, dc, dc, dc, dc, dc, dc, dc, dc, dc, dc, dc, dc, dc, dc, dc, dc, dc, dc, dc, dc, dc, dc, dc, dc, dc, dc, dc, dc, dc, dc, dc, dc, dc, dc, dc, dc, dc, dc, dc, dc, dc, dc, dc, dc, dc, dc, dc, dc, dc, dc, dc, dc, undefV]
noncomputable def f124_l1 (O : Ops H) (C : OracleJ H) (n : Nat) (i0 : Value) (i1 : Value) (i10 : Value) (nx : Value → St H → Option (List (Value × St H))) (kx : Nat → Value → St H → Option (List (Value × St H))) (kr : Value → St H → Option (List (Value × St H))) (x : Value) (s : St H) : Option (List (Value × St H)) :=
 jn (fun (j245_43 : Value) (js245 : St H) =>
 (O.boolO j245_43).bind fun b20 => cond b20 (
 (O.bop .add 3 x (Go.Value.int Go.IntKind.i64 1)).bind fun v21 =>
 nx v21 js245) (
 kx 2 x js245)) fun k245 =>
 (O.bop .leq 3 x i10).bind fun v11 =>
 gd v11 (
 (O.indexAddr 39 i0 i1).bind fun v12 =>
 (O.load s 26 v12).bind fun v13 =>
 (O.indexAddr 39 i0 x).bind fun v14 =>
 (O.load s 26 v14).bind fun v15 =>
 (oneO C (.fn 123) [v13, v15] s).bind fun p16 =>
 (O.uop .not p16.1).bind fun v17 =>
 k245 v17 p16.2) (
 k245 (.bool false) s) (
 none)
theorem f124_l1_b (C : OracleJ H) (n : Nat) (i0 : Value) (i1 : Value) (i2 : Value) (i3 : Value) (i10 : Value) (i11 : Value) (i12 : Value) (i13 : Value) (i14 : Value) (i15 : Value) (i16 : Value) (i17 : Value) (i18 : Value) (i19 : Value) (i20 : Value) (i21 : Value) (i22 : Value) (i23 : Value) (i24 : Value) (i25 : Value) (i26 : Value) (i27 : Value) (i28 : Value) (x : Value) (s : St H) (nx : List Value → St H → Option (List (Value × St H))) (K : Ex → List Value → St H → Option (List (Value × St H))) :
 exec Tryz.prog false C n 124 none (cdp Tryz.f124 [1, 1, 1, 0, 0, 0, 0, 0, 0, 0]) (f124_l1_m i0 i1 i2 i3 i10 i11 i12 i13 i14 i15 i16 i17 i18 i19 i20 i21 i22 i23 i24 i25 i26 i27 i28 x) s (kIter (scratch (cdp Tryz.f124 [1, 1, 1, 0, 0, 0, 0, 0, 0, 0])) nx K) = f124_l1 (dOps (H := H) Tryz.prog) C n i0 i1 i10 (fun x s => nx (f124_l1_m i0 i1 i2 i3 i10 i11 i12 i13 i14 i15 i16 i17 i18 i19 i20 i21 i22 i23 i24 i25 i26 i27 i28 x) s) (fun i x s => K (.exit i) (f124_l1_m i0 i1 i2 i3 i10 i11 i12 i13 i14 i15 i16 i17 i18 i19 i20 i21 i22 i23 i24 i25 i26 i27 i28 x) s) (fun x s => K .ret (f124_l1_m i0 i1 i2 i3 i10 i11 i12 i13 i14 i15 i16 i17 i18 i19 i20 i21 i22 i23 i24 i25 i26 i27 i28 x) s) x s := by kernel_rfl
theorem f124_l1_e (C : OracleJ H) (n : Nat) (i0 : Value) (i1 : Value) (i2 : Value) (i3 : Value) (i10 : Value) (i11 : Value) (i12 : Value) (i13 : Value) (i14 : Value) (i15 : Value) (i16 : Value) (i17 : Value) (i18 : Value) (i19 : Value) (i20 : Value) (i21 : Value) (i22 : Value) (i23 : Value) (i24 : Value) (i25 : Value) (i26 : Value) (i27 : Value) (i28 : Value) (m : Nat) (x : Value) (s : St H) (K : Ex → List Value → St H → Option (List (Value × St H))) :
 iter (fun t s k => exec Tryz.prog false C n 124 none (cdp Tryz.f124 [1, 1, 1, 0, 0, 0, 0, 0, 0, 0]) t s k) (scratch (cdp Tryz.f124 [1, 1, 1, 0, 0, 0, 0, 0, 0, 0])) m (f124_l1_m i0 i1 i2 i3 i10 i11 i12 i13 i14 i15 i16 i17 i18 i19 i20 i21 i22 i23 i24 i25 i26 i27 i28 x) s K = iterS (f124_l1 (dOps (H := H) Tryz.prog) C n i0 i1 i10) (fun i x s => K (.exit i) (f124_l1_m i0 i1 i2 i3 i10 i11 i12 i13 i14 i15 i16 i17 i18 i19 i20 i21 i22 i23 i24 i25 i26 i27 i28 x) s) (fun x s => K .ret (f124_l1_m i0 i1 i2 i3 i10 i11 i12 i13 i14 i15 i16 i17 i18 i19 i20 i21 i22 i23 i24 i25 i26 i27 i28 x) s) m x s :=
   iter_eq (f124_l1_m i0 i1 i2 i3 i10 i11 i12 i13 i14 i15 i16 i17 i18 i19 i20 i21 i22 i23 i24 i25 i26 i27 i28) (f124_l1 (dOps (H := H) Tryz.prog) C n i0 i1 i10) (fun x s nx K => f124_l1_b C n i0 i1 i2 i3 i10 i11 i12 i13 i14 i15 i16 i17 i18 i19 i20 i21 i22 i23 i24 i25 i26 i27 i28 x s nx K) K m x s
def f124_l2_m (i0 : Value) (i1 : Value) (i2 : Value) (i3 : Value) (i9 : Value) (i11 : Value) (i12 : Value) (i13 : Value) (i14 : Value) (i15 : Value) (i16 : Value) (i17 : Value) (i18 : Value) (i19 : Value) (i20 : Value) (i21 : Value) (i22 : Value) (i23 : Value) (i24 : Value) (i25 : Value) (i26 : Value) (i27 : Value) (i28 : Value) (x : Value) : List Value := [i0, i1, i2, i3, undefV, undefV, undefV, undefV, (Go.Value.int Go.IntKind.i64 0), i9, x, i11, i12, i13, i14, i15, i16, i17, i18, i19, i20, i21, i22, i23, i24, i25, i26, i27, i28, dc, dc, dc, dc, dc, dc, dc, dc, dc, dc, dc, dc, dc, dc, dc, dc, dc, dc, dc, dc, dc, dc, dc, dc, dc, dc, dc, dc, dc, dc, dc, dc, dc, dc, dc, dc, dc, dc, dc, dc, dc, dc, dc, dc, dc, dc, dc, dc, dc, dc, dc, dc, dc, dc, undefV]
noncomputable def f124_l2 (O : Ops H) (C : OracleJ H) (n : Nat) (i0 : Value) (i1 : Value) (i9 : Value) (nx : Value → St H → Option (List (Value × St H))) (kx : Nat → Value → St H → Option (List (Value × St H))) (kr : Value → St H → Option (List (Value × St H))) (x : Value) (s : St H) : Option (List (Value × St H)) :=
 jn (fun (j253_59 : Value) (js253 : St H) =>
 (O.boolO j253_59).bind fun b35 => cond b35 (
 (O.bop .sub 3 x (Go.Value.int Go.IntKind.i64 1)).bind fun v36 =>
 nx v36 js253) (
 kx 4 x js253)) fun k253 =>
 (O.bop .leq 3 i9 x).bind fun v27 =>
 gd v27 (
 (O.indexAddr 39 i0 i1).bind fun v28 =>
 (O.load s 26 v28).bind fun v29 =>
 (O.indexAddr 39 i0 x).bind fun v30 =>
 (O.load s 26 v30).bind fun v31 =>
 (oneO C (.fn 123) [v29, v31] s).bind fun p32 =>
 k253 p32.1 p32.2) (
 k253 (.bool false) s) (
 none)
theorem f124_l2_b (C : OracleJ H) (n : Nat) (i0 : Value) (i1 : Value) (i2 : Value) (i3 : Value) (i9 : Value) (i11 : Value) (i12 : Value) (i13 : Value) (i14 : Value) (i15 : Value) (i16 : Value) (i17 : Value) (i18 : Value) (i19 : Value) (i20 : Value) (i21 : Value) (i22 : Value) (i23 : Value) (i24 : Value) (i25 : Value) (i26 : Value) (i27 : Value) (i28 : Value) (x : Value) (s : St H) (nx : List Value → St H → Option (List (Value × St H))) (K : Ex → List Value → St H → Option (List (Value × St H))) :
 exec Tryz.prog false C n 124 none (cdp Tryz.f124 [1, 1, 1, 0, 0, 0, 0, 1, 0, 0, 0]) (f124_l2_m i0 i1 i2 i3 i9 i11 i12 i13 i14 i15 i16 i17 i18 i19 i20 i21 i22 i23 i24 i25 i26 i27 i28 x) s (kIter (scratch (cdp Tryz.f124 [1, 1, 1, 0, 0, 0, 0, 1, 0, 0, 0])) nx K) = f124_l2 (dOps (H := H) Tryz.prog) C n i0 i1 i9 (fun x s => nx (f124_l2_m i0 i1 i2 i3 i9 i11 i12 i13 i14 i15 i16 i17 i18 i19 i20 i21 i22 i23 i24 i25 i26 i27 i28 x) s) (fun i x s => K (.exit i) (f124_l2_m i0 i1 i2 i3 i9 i11 i12 i13 i14 i15 i16 i17 i18 i19 i20 i21 i22 i23 i24 i25 i26 i27 i28 x) s) (fun x s => K .ret (f124_l2_m i0 i1 i2 i3 i9 i11 i12 i13 i14 i15 i16 i17 i18 i19 i20 i21 i22 i23 i24 i25 i26 i27 i28 x) s) x s := by kernel_rfl
theorem f124_l2_e (C : OracleJ H) (n : Nat) (i0 : Value) (i1 : Value) (i2 : Value) (i3 : Value) (i9 : Value) (i11 : Value) (i12 : Value) (i13 : Value) (i14 : Value) (i15 : Value) (i16 : Value) (i17 : Value) (i18 : Value) (i19 : Value) (i20 : Value) (i21 : Value) (i22 : Value) (i23 : Value) (i24 : Value) (i25 : Value) (i26 : Value) (i27 : Value) (i28 : Value) (m : Nat) (x : Value) (s : St H) (K : Ex → List Value → St H → Option (List (Value × St H))) :
 iter (fun t s k => exec Tryz.prog false C n 124 none (cdp Tryz.f124 [1, 1, 1, 0, 0, 0, 0, 1, 0, 0, 0]) t s k) (scratch (cdp Tryz.f124 [1, 1, 1, 0, 0, 0, 0, 1, 0, 0, 0])) m (f124_l2_m i0 i1 i2 i3 i9 i11 i12 i13 i14 i15 i16 i17 i18 i19 i20 i21 i22 i23 i24 i25 i26 i27 i28 x) s K = iterS (f124_l2 (dOps (H := H) Tryz.prog) C n i0 i1 i9) (fun i x s => K (.exit i) (f124_l2_m i0 i1 i2 i3 i9 i11 i12 i13 i14 i15 i16 i17 i18 i19 i20 i21 i22 i23 i24 i25 i26 i27 i28 x) s) (fun x s => K .ret (f124_l2_m i0 i1 i2 i3 i9 i11 i12 i13 i14 i15 i16 i17 i18 i19 i20 i21 i22 i23 i24 i25 i26 i27 i28 x) s) m x s :=
   iter_eq (f124_l2_m i0 i1 i2 i3 i9 i11 i12 i13 i14 i15 i16 i17 i18 i19 i20 i21 i22 i23 i24 i25 i26 i27 i28) (f124_l2 (dOps (H := H) Tryz.prog) C n i0 i1 i9) (fun x s nx K => f124_l2_b C n i0 i1 i2 i3 i9 i11 i12 i13 i14 i15 i16 i17 i18 i19 i20 i21 i22 i23 i24 i25 i26 i27 i28 x s nx K) K m x s
def f124_l0_m (i0 : Value) (i1 : Value) (i2 : Value) (i3 : Value) (i11 : Value) (i12 : Value) (i13 : Value) (i14 : Value) (i15 : Value) (i16 : Value) (i17 : Value) (i18 : Value) (i19 : Value) (i20 : Value) (i21 : Value) (i22 : Value) (i23 : Value) (i24 : Value) (i25 : Value) (i26 : Value) (i27 : Value) (i28 : Value) (x : Value × Value) : List Value := [i0, i1, i2, i3, undefV, undefV, undefV, undefV, (Go.Value.int Go.IntKind.i64 0), x.1, x.2, i11, i12, i13, i14, i15, i16, i17, i18, i19, i20, i21, i22, i23, i24, i25, i26, i27, i28, dc, dc, dc, dc, dc, dc, dc, dc, dc, dc, dc, dc, dc, dc, dc, dc, dc, dc, dc, dc, dc, dc, dc, dc, dc, dc, dc, dc, dc, dc, dc, dc, dc, dc, dc, dc, dc, dc, dc, dc, dc, dc, dc, dc, dc, dc, dc, dc, dc, dc, dc, dc, dc, dc, undefV]
noncomputable def f124_l0 (O : Ops H) (C : OracleJ H) (n : Nat) (i0 : Value) (i1 : Value) (i22 : Value) (nx : (Value × Value) → St H → Option (List (Value × St H))) (kx : Nat → (Value × Value) → St H → Option (List (Value × St H))) (kr : (Value × Value) → St H → Option (List (Value × St H))) (x : Value × Value) (s : St H) : Option (List (Value × St H)) :=
 iterS (f124_l1 O C n i0 i1 x.2 )
 (fun i22 x23 s24 => (bif Nat.beq i22 2 then
 iterS (f124_l2 O C n i0 i1 x23 )
 (fun i37 x38 s39 => (bif Nat.beq i37 4 then
 (O.bop .gtr 3 x23 x38).bind fun v42 =>
 (O.boolO v42).bind fun b43 => cond b43 (
 kx 0 (x23, x38) s39) (
 (O.indexAddr 39 i0 x38).bind fun v44 =>
 (O.load s39 26 v44).bind fun v45 =>
 (O.indexAddr 39 i0 x23).bind fun v46 =>
 (O.load s39 26 v46).bind fun v47 =>
 (O.indexAddr 39 i0 x23).bind fun v48 =>
 (O.store s39 26 v48 v45).bind fun s49 =>
 (O.indexAddr 39 i0 x38).bind fun v50 =>
 (O.store s49 26 v50 v47).bind fun s51 =>
 (O.bop .add 3 x23 (Go.Value.int Go.IntKind.i64 1)).bind fun v52 =>
 (O.bop .sub 3 x38 (Go.Value.int Go.IntKind.i64 1)).bind fun v53 =>
 nx (v52, v53) s51) else (bif Nat.beq i37 1 then
 nx (x23, x38) s39 else kx i37 (x23, x38) s39)))
 (fun x40 s41 => kr (x23, x40) s41) n x.2 s24 else (bif Nat.beq i22 1 then
 nx (x23, x.2) s24 else kx i22 (x23, x.2) s24)))
 (fun x25 s26 => kr (x25, x.2) s26) n x.1 s
theorem f124_l2_k (C : OracleJ H) (n : Nat) (i0 : Value) (i1 : Value) (i2 : Value) (i3 : Value) (i9 : Value) (i11 : Value) (i12 : Value) (i13 : Value) (i14 : Value) (i15 : Value) (i16 : Value) (i17 : Value) (i18 : Value) (i19 : Value) (i20 : Value) (i21 : Value) (i22 : Value) (i23 : Value) (i24 : Value) (i25 : Value) (i26 : Value) (i27 : Value) (i28 : Value) (nx : List Value → St H → Option (List (Value × St H))) (K : Ex → List Value → St H → Option (List (Value × St H))) (i : Nat) (x : Value) (s : St H) : (kBlock 4 (kSeq Tryz.prog false C n 124 none (cdp Tryz.f124 [1, 1, 1, 0, 0, 0, 0, 1, 1]) (kBlock 1 (kIter (scratch (cdp Tryz.f124 [1, 1, 1, 0, 0, 0])) nx K)))) (.exit i) (f124_l2_m i0 i1 i2 i3 i9 i11 i12 i13 i14 i15 i16 i17 i18 i19 i20 i21 i22 i23 i24 i25 i26 i27 i28 x) s =
 (bif Nat.beq i 4 then
 ((dOps (H := H) Tryz.prog).bop .gtr 3 i9 x).bind fun v66 =>
 ((dOps (H := H) Tryz.prog).boolO v66).bind fun b67 => cond b67 (
 K (.exit 0) (f124_l0_m i0 i1 i2 i3 i11 i12 i13 i14 i15 i16 i17 i18 i19 i20 i21 i22 i23 i24 i25 i26 i27 i28 (i9, x)) s) (
 ((dOps (H := H) Tryz.prog).indexAddr 39 i0 x).bind fun v68 =>
 ((dOps (H := H) Tryz.prog).load s 26 v68).bind fun v69 =>
 ((dOps (H := H) Tryz.prog).indexAddr 39 i0 i9).bind fun v70 =>
 ((dOps (H := H) Tryz.prog).load s 26 v70).bind fun v71 =>
 ((dOps (H := H) Tryz.prog).indexAddr 39 i0 i9).bind fun v72 =>
 ((dOps (H := H) Tryz.prog).store s 26 v72 v69).bind fun s73 =>
 ((dOps (H := H) Tryz.prog).indexAddr 39 i0 x).bind fun v74 =>
 ((dOps (H := H) Tryz.prog).store s73 26 v74 v71).bind fun s75 =>
 ((dOps (H := H) Tryz.prog).bop .add 3 i9 (Go.Value.int Go.IntKind.i64 1)).bind fun v76 =>
 ((dOps (H := H) Tryz.prog).bop .sub 3 x (Go.Value.int Go.IntKind.i64 1)).bind fun v77 =>
 nx (f124_l0_m i0 i1 i2 i3 i11 i12 i13 i14 i15 i16 i17 i18 i19 i20 i21 i22 i23 i24 i25 i26 i27 i28 (v76, v77)) s75) else (bif Nat.beq i 1 then
 nx (f124_l0_m i0 i1 i2 i3 i11 i12 i13 i14 i15 i16 i17 i18 i19 i20 i21 i22 i23 i24 i25 i26 i27 i28 (i9, x)) s else K (.exit i) (f124_l0_m i0 i1 i2 i3 i11 i12 i13 i14 i15 i16 i17 i18 i19 i20 i21 i22 i23 i24 i25 i26 i27 i28 (i9, x)) s)) := by kernel_rfl
theorem f124_l1_k (C : OracleJ H) (n : Nat) (i0 : Value) (i1 : Value) (i2 : Value) (i3 : Value) (i10 : Value) (i11 : Value) (i12 : Value) (i13 : Value) (i14 : Value) (i15 : Value) (i16 : Value) (i17 : Value) (i18 : Value) (i19 : Value) (i20 : Value) (i21 : Value) (i22 : Value) (i23 : Value) (i24 : Value) (i25 : Value) (i26 : Value) (i27 : Value) (i28 : Value) (nx : List Value → St H → Option (List (Value × St H))) (K : Ex → List Value → St H → Option (List (Value × St H))) (i : Nat) (x : Value) (s : St H) : (kBlock 2 (kSeq Tryz.prog false C n 124 none (cdp Tryz.f124 [1, 1, 1, 0, 0, 0, 0, 1]) (kBlock 1 (kIter (scratch (cdp Tryz.f124 [1, 1, 1, 0, 0, 0])) nx K)))) (.exit i) (f124_l1_m i0 i1 i2 i3 i10 i11 i12 i13 i14 i15 i16 i17 i18 i19 i20 i21 i22 i23 i24 i25 i26 i27 i28 x) s =
 (bif Nat.beq i 2 then
 iterS (f124_l2 (dOps (H := H) Tryz.prog) C n i0 i1 x )
 (fun i78 x79 s80 => (bif Nat.beq i78 4 then
 ((dOps (H := H) Tryz.prog).bop .gtr 3 x x79).bind fun v83 =>
 ((dOps (H := H) Tryz.prog).boolO v83).bind fun b84 => cond b84 (
 K (.exit 0) (f124_l0_m i0 i1 i2 i3 i11 i12 i13 i14 i15 i16 i17 i18 i19 i20 i21 i22 i23 i24 i25 i26 i27 i28 (x, x79)) s80) (
 ((dOps (H := H) Tryz.prog).indexAddr 39 i0 x79).bind fun v85 =>
 ((dOps (H := H) Tryz.prog).load s80 26 v85).bind fun v86 =>
 ((dOps (H := H) Tryz.prog).indexAddr 39 i0 x).bind fun v87 =>
 ((dOps (H := H) Tryz.prog).load s80 26 v87).bind fun v88 =>
 ((dOps (H := H) Tryz.prog).indexAddr 39 i0 x).bind fun v89 =>
 ((dOps (H := H) Tryz.prog).store s80 26 v89 v86).bind fun s90 =>
 ((dOps (H := H) Tryz.prog).indexAddr 39 i0 x79).bind fun v91 =>
 ((dOps (H := H) Tryz.prog).store s90 26 v91 v88).bind fun s92 =>
 ((dOps (H := H) Tryz.prog).bop .add 3 x (Go.Value.int Go.IntKind.i64 1)).bind fun v93 =>
 ((dOps (H := H) Tryz.prog).bop .sub 3 x79 (Go.Value.int Go.IntKind.i64 1)).bind fun v94 =>
 nx (f124_l0_m i0 i1 i2 i3 i11 i12 i13 i14 i15 i16 i17 i18 i19 i20 i21 i22 i23 i24 i25 i26 i27 i28 (v93, v94)) s92) else (bif Nat.beq i78 1 then
 nx (f124_l0_m i0 i1 i2 i3 i11 i12 i13 i14 i15 i16 i17 i18 i19 i20 i21 i22 i23 i24 i25 i26 i27 i28 (x, x79)) s80 else K (.exit i78) (f124_l0_m i0 i1 i2 i3 i11 i12 i13 i14 i15 i16 i17 i18 i19 i20 i21 i22 i23 i24 i25 i26 i27 i28 (x, x79)) s80)))
 (fun x81 s82 => K .ret (f124_l0_m i0 i1 i2 i3 i11 i12 i13 i14 i15 i16 i17 i18 i19 i20 i21 i22 i23 i24 i25 i26 i27 i28 (x, x81)) s82) n i10 s else (bif Nat.beq i 1 then
 nx (f124_l0_m i0 i1 i2 i3 i11 i12 i13 i14 i15 i16 i17 i18 i19 i20 i21 i22 i23 i24 i25 i26 i27 i28 (x, i10)) s else K (.exit i) (f124_l0_m i0 i1 i2 i3 i11 i12 i13 i14 i15 i16 i17 i18 i19 i20 i21 i22 i23 i24 i25 i26 i27 i28 (x, i10)) s)) := by
  have h1 : (kBlock 2 (kSeq Tryz.prog false C n 124 none (cdp Tryz.f124 [1, 1, 1, 0, 0, 0, 0, 1]) (kBlock 1 (kIter (scratch (cdp Tryz.f124 [1, 1, 1, 0, 0, 0])) nx K)))) (.exit i) (f124_l1_m i0 i1 i2 i3 i10 i11 i12 i13 i14 i15 i16 i17 i18 i19 i20 i21 i22 i23 i24 i25 i26 i27 i28 x) s =
 (bif Nat.beq i 2 then
 iter (fun t s k => exec Tryz.prog false C n 124 none (cdp Tryz.f124 [1, 1, 1, 0, 0, 0, 0, 1, 0, 0, 0]) t s k) (scratch (cdp Tryz.f124 [1, 1, 1, 0, 0, 0, 0, 1, 0, 0, 0])) n (f124_l2_m i0 i1 i2 i3 x i11 i12 i13 i14 i15 i16 i17 i18 i19 i20 i21 i22 i23 i24 i25 i26 i27 i28 i10) s (kBlock 4 (kSeq Tryz.prog false C n 124 none (cdp Tryz.f124 [1, 1, 1, 0, 0, 0, 0, 1, 1]) (kBlock 1 (kIter (scratch (cdp Tryz.f124 [1, 1, 1, 0, 0, 0])) nx K)))) else (bif Nat.beq i 1 then
 nx (f124_l0_m i0 i1 i2 i3 i11 i12 i13 i14 i15 i16 i17 i18 i19 i20 i21 i22 i23 i24 i25 i26 i27 i28 (x, i10)) s else K (.exit i) (f124_l0_m i0 i1 i2 i3 i11 i12 i13 i14 i15 i16 i17 i18 i19 i20 i21 i22 i23 i24 i25 i26 i27 i28 (x, i10)) s)) := by kernel_rfl
  rw [h1]
  simp only [f124_l2_e, f124_l2_k]
  show _ = (bif Nat.beq i 2 then
 iterS (f124_l2 (dOps (H := H) Tryz.prog) C n i0 i1 x )
 (fun i78 x79 s80 => (bif Nat.beq i78 4 then
 ((dOps (H := H) Tryz.prog).bop .gtr 3 x x79).bind fun v83 =>
 ((dOps (H := H) Tryz.prog).boolO v83).bind fun b84 => cond b84 (
 K (.exit 0) (f124_l0_m i0 i1 i2 i3 i11 i12 i13 i14 i15 i16 i17 i18 i19 i20 i21 i22 i23 i24 i25 i26 i27 i28 (x, x79)) s80) (
 ((dOps (H := H) Tryz.prog).indexAddr 39 i0 x79).bind fun v85 =>
 ((dOps (H := H) Tryz.prog).load s80 26 v85).bind fun v86 =>
 ((dOps (H := H) Tryz.prog).indexAddr 39 i0 x).bind fun v87 =>
 ((dOps (H := H) Tryz.prog).load s80 26 v87).bind fun v88 =>
 ((dOps (H := H) Tryz.prog).indexAddr 39 i0 x).bind fun v89 =>
 ((dOps (H := H) Tryz.prog).store s80 26 v89 v86).bind fun s90 =>
 ((dOps (H := H) Tryz.prog).indexAddr 39 i0 x79).bind fun v91 =>
 ((dOps (H := H) Tryz.prog).store s90 26 v91 v88).bind fun s92 =>
 ((dOps (H := H) Tryz.prog).bop .add 3 x (Go.Value.int Go.IntKind.i64 1)).bind fun v93 =>
 ((dOps (H := H) Tryz.prog).bop .sub 3 x79 (Go.Value.int Go.IntKind.i64 1)).bind fun v94 =>
 nx (f124_l0_m i0 i1 i2 i3 i11 i12 i13 i14 i15 i16 i17 i18 i19 i20 i21 i22 i23 i24 i25 i26 i27 i28 (v93, v94)) s92) else (bif Nat.beq i78 1 then
 nx (f124_l0_m i0 i1 i2 i3 i11 i12 i13 i14 i15 i16 i17 i18 i19 i20 i21 i22 i23 i24 i25 i26 i27 i28 (x, x79)) s80 else K (.exit i78) (f124_l0_m i0 i1 i2 i3 i11 i12 i13 i14 i15 i16 i17 i18 i19 i20 i21 i22 i23 i24 i25 i26 i27 i28 (x, x79)) s80)))
 (fun x81 s82 => K .ret (f124_l0_m i0 i1 i2 i3 i11 i12 i13 i14 i15 i16 i17 i18 i19 i20 i21 i22 i23 i24 i25 i26 i27 i28 (x, x81)) s82) n i10 s else (bif Nat.beq i 1 then
 nx (f124_l0_m i0 i1 i2 i3 i11 i12 i13 i14 i15 i16 i17 i18 i19 i20 i21 i22 i23 i24 i25 i26 i27 i28 (x, i10)) s else K (.exit i) (f124_l0_m i0 i1 i2 i3 i11 i12 i13 i14 i15 i16 i17 i18 i19 i20 i21 i22 i23 i24 i25 i26 i27 i28 (x, i10)) s))
  kernel_rfl
theorem f124_l0_b (C : OracleJ H) (n : Nat) (i0 : Value) (i1 : Value) (i2 : Value) (i3 : Value) (i11 : Value) (i12 : Value) (i13 : Value) (i14 : Value) (i15 : Value) (i16 : Value) (i17 : Value) (i18 : Value) (i19 : Value) (i20 : Value) (i21 : Value) (i22 : Value) (i23 : Value) (i24 : Value) (i25 : Value) (i26 : Value) (i27 : Value) (i28 : Value) (x : Value × Value) (s : St H) (nx : List Value → St H → Option (List (Value × St H))) (K : Ex → List Value → St H → Option (List (Value × St H))) :
 exec Tryz.prog false C n 124 none (cdp Tryz.f124 [1, 1, 1, 0, 0, 0]) (f124_l0_m i0 i1 i2 i3 i11 i12 i13 i14 i15 i16 i17 i18 i19 i20 i21 i22 i23 i24 i25 i26 i27 i28 x) s (kIter (scratch (cdp Tryz.f124 [1, 1, 1, 0, 0, 0])) nx K) = f124_l0 (dOps (H := H) Tryz.prog) C n i0 i1 i22 (fun x s => nx (f124_l0_m i0 i1 i2 i3 i11 i12 i13 i14 i15 i16 i17 i18 i19 i20 i21 i22 i23 i24 i25 i26 i27 i28 x) s) (fun i x s => K (.exit i) (f124_l0_m i0 i1 i2 i3 i11 i12 i13 i14 i15 i16 i17 i18 i19 i20 i21 i22 i23 i24 i25 i26 i27 i28 x) s) (fun x s => K .ret (f124_l0_m i0 i1 i2 i3 i11 i12 i13 i14 i15 i16 i17 i18 i19 i20 i21 i22 i23 i24 i25 i26 i27 i28 x) s) x s := by
  have h1 : exec Tryz.prog false C n 124 none (cdp Tryz.f124 [1, 1, 1, 0, 0, 0]) (f124_l0_m i0 i1 i2 i3 i11 i12 i13 i14 i15 i16 i17 i18 i19 i20 i21 i22 i23 i24 i25 i26 i27 i28 x) s (kIter (scratch (cdp Tryz.f124 [1, 1, 1, 0, 0, 0])) nx K) =
 iter (fun t s k => exec Tryz.prog false C n 124 none (cdp Tryz.f124 [1, 1, 1, 0, 0, 0, 0, 0, 0, 0]) t s k) (scratch (cdp Tryz.f124 [1, 1, 1, 0, 0, 0, 0, 0, 0, 0])) n (f124_l1_m i0 i1 i2 i3 x.2 i11 i12 i13 i14 i15 i16 i17 i18 i19 i20 i21 i22 i23 i24 i25 i26 i27 i28 x.1) s (kBlock 2 (kSeq Tryz.prog false C n 124 none (cdp Tryz.f124 [1, 1, 1, 0, 0, 0, 0, 1]) (kBlock 1 (kIter (scratch (cdp Tryz.f124 [1, 1, 1, 0, 0, 0])) nx K)))) := by kernel_rfl
  rw [h1]
  simp only [f124_l1_e, f124_l1_k]
  show _ = f124_l0 (dOps (H := H) Tryz.prog) C n i0 i1 i22 (fun x s => nx (f124_l0_m i0 i1 i2 i3 i11 i12 i13 i14 i15 i16 i17 i18 i19 i20 i21 i22 i23 i24 i25 i26 i27 i28 x) s) (fun i x s => K (.exit i) (f124_l0_m i0 i1 i2 i3 i11 i12 i13 i14 i15 i16 i17 i18 i19 i20 i21 i22 i23 i24 i25 i26 i27 i28 x) s) (fun x s => K .ret (f124_l0_m i0 i1 i2 i3 i11 i12 i13 i14 i15 i16 i17 i18 i19 i20 i21 i22 i23 i24 i25 i26 i27 i28 x) s) x s
  kernel_rfl
theorem f124_l0_e (C : OracleJ H) (n : Nat) (i0 : Value) (i1 : Value) (i2 : Value) (i3 : Value) (i11 : Value) (i12 : Value) (i13 : Value) (i14 : Value) (i15 : Value) (i16 : Value) (i17 : Value) (i18 : Value) (i19 : Value) (i20 : Value) (i21 : Value) (i22 : Value) (i23 : Value) (i24 : Value) (i25 : Value) (i26 : Value) (i27 : Value) (i28 : Value) (m : Nat) (x : Value × Value) (s : St H) (K : Ex → List Value → St H → Option (List (Value × St H))) :
 iter (fun t s k => exec Tryz.prog false C n 124 none (cdp Tryz.f124 [1, 1, 1, 0, 0, 0]) t s k) (scratch (cdp Tryz.f124 [1, 1, 1, 0, 0, 0])) m (f124_l0_m i0 i1 i2 i3 i11 i12 i13 i14 i15 i16 i17 i18 i19 i20 i21 i22 i23 i24 i25 i26 i27 i28 x) s K = iterS (f124_l0 (dOps (H := H) Tryz.prog) C n i0 i1 i22) (fun i x s => K (.exit i) (f124_l0_m i0 i1 i2 i3 i11 i12 i13 i14 i15 i16 i17 i18 i19 i20 i21 i22 i23 i24 i25 i26 i27 i28 x) s) (fun x s => K .ret (f124_l0_m i0 i1 i2 i3 i11 i12 i13 i14 i15 i16 i17 i18 i19 i20 i21 i22 i23 i24 i25 i26 i27 i28 x) s) m x s :=
   iter_eq (f124_l0_m i0 i1 i2 i3 i11 i12 i13 i14 i15 i16 i17 i18 i19 i20 i21 i22 i23 i24 i25 i26 i27 i28) (f124_l0 (dOps (H := H) Tryz.prog) C n i0 i1 i22) (fun x s nx K => f124_l0_b C n i0 i1 i2 i3 i11 i12 i13 i14 i15 i16 i17 i18 i19 i20 i21 i22 i23 i24 i25 i26 i27 i28 x s nx K) K m x s
noncomputable def f124 (O : Ops H) (C : OracleJ H) (n : Nat) (a0 : Value) (a1 : Value) (a2 : Value) (a3 : Value) (s : St H) : Option (List (Value × St H)) :=
 (O.indexAddr 39 a0 a3).bind fun v1 =>
 (O.load s 26 v1).bind fun v2 =>
 (O.indexAddr 39 a0 a1).bind fun v3 =>
 (O.load s 26 v3).bind fun v4 =>
 (O.indexAddr 39 a0 a1).bind fun v5 =>
 (O.store s 26 v5 v2).bind fun s6 =>
 (O.indexAddr 39 a0 a3).bind fun v7 =>
 (O.store s6 26 v7 v4).bind fun s8 =>
 (O.bop .add 3 a1 (Go.Value.int Go.IntKind.i64 1)).bind fun v9 =>
 (O.bop .sub 3 a2 (Go.Value.int Go.IntKind.i64 1)).bind fun v10 =>
 iterS (f124_l0 O C n a0 a1 v4 )
 (fun i95 x96 s97 => (bif Nat.beq i95 0 then
 some [(x96.1, s97)] else none))
 (fun x98 s99 => some [((Go.Value.int Go.IntKind.i64 0), s99)]) n (v9, v10) s8
theorem f124_l0_k (C : OracleJ H) (n : Nat) (i0 : Value) (i1 : Value) (i2 : Value) (i3 : Value) (i11 : Value) (i12 : Value) (i13 : Value) (i14 : Value) (i15 : Value) (i16 : Value) (i17 : Value) (i18 : Value) (i19 : Value) (i20 : Value) (i21 : Value) (i22 : Value) (i23 : Value) (i24 : Value) (i25 : Value) (i26 : Value) (i27 : Value) (i28 : Value) (i : Nat) (x : Value × Value) (s : St H) : (kBlock 0 (kSeq Tryz.prog false C n 124 none (cdp Tryz.f124 [1, 1, 1, 1]) (kFun Tryz.prog Tryz.f124))) (.exit i) (f124_l0_m i0 i1 i2 i3 i11 i12 i13 i14 i15 i16 i17 i18 i19 i20 i21 i22 i23 i24 i25 i26 i27 i28 x) s =
 (bif Nat.beq i 0 then
 some [(x.1, s)] else none) := by kernel_rfl
theorem f124_r (C : OracleJ H) (n : Nat) (a0 : Value) (a1 : Value) (a2 : Value) (a3 : Value) (s : St H) : bodyD Tryz.prog false C n 124 Tryz.f124 [a0, a1, a2, a3] s = f124 (dOps (H := H) Tryz.prog) C n a0 a1 a2 a3 s := by
  have h1 : bodyD Tryz.prog false C n 124 Tryz.f124 [a0, a1, a2, a3] s =
 ((dOps (H := H) Tryz.prog).indexAddr 39 a0 a3).bind fun v100 =>
 ((dOps (H := H) Tryz.prog).load s 26 v100).bind fun v101 =>
 ((dOps (H := H) Tryz.prog).indexAddr 39 a0 a1).bind fun v102 =>
 ((dOps (H := H) Tryz.prog).load s 26 v102).bind fun v103 =>
 ((dOps (H := H) Tryz.prog).indexAddr 39 a0 a1).bind fun v104 =>
 ((dOps (H := H) Tryz.prog).store s 26 v104 v101).bind fun s105 =>
 ((dOps (H := H) Tryz.prog).indexAddr 39 a0 a3).bind fun v106 =>
 ((dOps (H := H) Tryz.prog).store s105 26 v106 v103).bind fun s107 =>
 ((dOps (H := H) Tryz.prog).bop .add 3 a1 (Go.Value.int Go.IntKind.i64 1)).bind fun v108 =>
 ((dOps (H := H) Tryz.prog).bop .sub 3 a2 (Go.Value.int Go.IntKind.i64 1)).bind fun v109 =>
 iter (fun t s k => exec Tryz.prog false C n 124 none (cdp Tryz.f124 [1, 1, 1, 0, 0, 0]) t s k) (scratch (cdp Tryz.f124 [1, 1, 1, 0, 0, 0])) n (f124_l0_m a0 a1 a2 a3 a0 a1 a0 a3 a0 a3 v100 v101 a0 a1 v102 v103 v104 v106 a1 v108 a2 v109 (v108, v109)) s107 (kBlock 0 (kSeq Tryz.prog false C n 124 none (cdp Tryz.f124 [1, 1, 1, 1]) (kFun Tryz.prog Tryz.f124))) := by kernel_rfl
  rw [h1]
  simp only [f124_l0_e, f124_l0_k]
  show _ = f124 (dOps (H := H) Tryz.prog) C n a0 a1 a2 a3 s
  kernel_rfl
/-! tidepole/chunk.samples -/
noncomputable def f128 (O : Ops H) (C : OracleJ H) (n : Nat) (a0 : Value) (a1 : Value) (s : St H) : Option (List (Value × St H)) :=
 (O.box s a0).bind fun p1 =>
 (O.box p1.2 a1).bind fun p2 =>
 some [((.func (.func 148) #[] #[p2.1, p1.1]), p2.2)]
theorem f128_r (C : OracleJ H) (n : Nat) (a0 : Value) (a1 : Value) (s : St H) : bodyD Tryz.prog false C n 128 Tryz.f128 [a0, a1] s = f128 (dOps (H := H) Tryz.prog) C n a0 a1 s := by kernel_rfl
/-! (*slices.xorshift).Next -/
noncomputable def f132 (O : Ops H) (C : OracleJ H) (n : Nat) (a0 : Value) (s : St H) : Option (List (Value × St H)) :=
 (O.nilCheck a0).bind fun v1 =>
 (O.load s 191 v1).bind fun v2 =>
 (O.nilCheck a0).bind fun v3 =>
 (O.load s 191 v3).bind fun v4 =>
 (O.bop .shl 191 v4 (Go.Value.int Go.IntKind.u64 13)).bind fun v5 =>
 (O.bop .xor 191 v2 v5).bind fun v6 =>
 (O.nilCheck a0).bind fun v7 =>
 (O.store s 191 v7 v6).bind fun s8 =>
 (O.nilCheck a0).bind fun v9 =>
 (O.load s8 191 v9).bind fun v10 =>
 (O.nilCheck a0).bind fun v11 =>
 (O.load s8 191 v11).bind fun v12 =>
 (O.bop .shr 191 v12 (Go.Value.int Go.IntKind.u64 7)).bind fun v13 =>
 (O.bop .xor 191 v10 v13).bind fun v14 =>
 (O.nilCheck a0).bind fun v15 =>
 (O.store s8 191 v15 v14).bind fun s16 =>
 (O.nilCheck a0).bind fun v17 =>
 (O.load s16 191 v17).bind fun v18 =>
 (O.nilCheck a0).bind fun v19 =>
 (O.load s16 191 v19).bind fun v20 =>
 (O.bop .shl 191 v20 (Go.Value.int Go.IntKind.u64 17)).bind fun v21 =>
 (O.bop .xor 191 v18 v21).bind fun v22 =>
 (O.nilCheck a0).bind fun v23 =>
 (O.store s16 191 v23 v22).bind fun s24 =>
 (O.nilCheck a0).bind fun v25 =>
 (O.load s24 191 v25).bind fun v26 =>
 some [(v26, s24)]
theorem f132_r (C : OracleJ H) (n : Nat) (a0 : Value) (s : St H) : bodyD Tryz.prog false C n 132 Tryz.f132 [a0] s = f132 (dOps (H := H) Tryz.prog) C n a0 s := by kernel_rfl
/-! (tidepole/stamp.State).right$1 -/
noncomputable def f136 (O : Ops H) (C : OracleJ H) (n : Nat) (a0 : Value) (a1 : Value) (s : St H) : Option (List (Value × St H)) :=
 (O.bop .geq 3 a0 (Go.Value.int Go.IntKind.i64 0)).bind fun v1 =>
 gd v1 (
 (O.bop .leq 3 a0 a1).bind fun v2 =>
 some [(v2, s)]) (
 some [((.bool false), s)]) (
 none)
theorem f136_r (C : OracleJ H) (n : Nat) (a0 : Value) (a1 : Value) (s : St H) : bodyD Tryz.prog false C n 136 Tryz.f136 [a0, a1] s = f136 (dOps (H := H) Tryz.prog) C n a0 a1 s := by kernel_rfl
/-! math/bits.LeadingZeros64 -/
noncomputable def f140 (O : Ops H) (C : OracleJ H) (n : Nat) (a0 : Value) (s : St H) : Option (List (Value × St H)) :=
 (C (.fn 99) [a0] s).bind fun L1 => manyK L1 fun v2 s3 =>
 (O.bop .sub 3 (Go.Value.int Go.IntKind.i64 64) v2).bind fun v4 =>
 some [(v4, s3)]
theorem f140_r (C : OracleJ H) (n : Nat) (a0 : Value) (s : St H) : bodyD Tryz.prog false C n 140 Tryz.f140 [a0] s = f140 (dOps (H := H) Tryz.prog) C n a0 s := by kernel_rfl
/-! slices.medianOrdered[uint64] -/
noncomputable def f144 (O : Ops H) (C : OracleJ H) (n : Nat) (a0 : Value) (a1 : Value) (a2 : Value) (a3 : Value) (a4 : Value) (s : St H) : Option (List (Value × St H)) :=
 (C (.fn 155) [a0, a1, a2, a4] s).bind fun L1 => manyK L1 fun v2 s3 =>
 (O.extract v2 0).bind fun v4 =>
 (O.extract v2 1).bind fun v5 =>
 (C (.fn 155) [a0, v5, a3, a4] s3).bind fun L6 => manyK L6 fun v7 s8 =>
 (O.extract v7 0).bind fun v9 =>
 (O.extract v7 1).bind fun v10 =>
 (C (.fn 155) [a0, v4, v9, a4] s8).bind fun L11 => manyK L11 fun v12 s13 =>
 (O.extract v12 0).bind fun v14 =>
 (O.extract v12 1).bind fun v15 =>
 some [(v15, s13)]
theorem f144_r (C : OracleJ H) (n : Nat) (a0 : Value) (a1 : Value) (a2 : Value) (a3 : Value) (a4 : Value) (s : St H) : bodyD Tryz.prog false C n 144 Tryz.f144 [a0, a1, a2, a3, a4] s = f144 (dOps (H := H) Tryz.prog) C n a0 a1 a2 a3 a4 s := by kernel_rfl
/-! tidepole/chunk.samples$1 -/
def f148_l0_m (i0 : Value) (i1 : Value) (i2 : Value) (i4 : Value) (i10 : Value) (i11 : Value) (i12 : Value) (x : Value × Value × Value × Value) : List Value := [i0, i1, i2, undefV, i4, dc, x.1, x.2.1, dc, x.2.2.1, i10, i11, i12, x.2.2.2, dc, dc, dc, dc, dc, dc, dc, dc, dc, dc, dc, dc, dc, dc, dc, dc, dc, dc, dc, dc, dc, dc, dc, dc, dc, dc, dc, dc, dc, dc, dc, dc, dc]
noncomputable def f148_l0 (O : Ops H) (C : OracleJ H) (n : Nat) (i0 : Value) (i2 : Value) (i4 : Value) (i12 : Value) (nx : (Value × Value × Value × Value) → St H → Option (List (Value × St H))) (kx : Nat → (Value × Value × Value × Value) → St H → Option (List (Value × St H))) (kr : (Value × Value × Value × Value) → St H → Option (List (Value × St H))) (x : Value × Value × Value × Value) (s : St H) : Option (List (Value × St H)) :=
 (O.bop .lss 3 x.2.2.2 i12).bind fun v8 =>
 (O.boolO v8).bind fun b9 => cond b9 (
 (O.load s 187 i2).bind fun v10 =>
 (O.fieldAddr 123 i4 0).bind fun v11 =>
 (O.load s 121 v11).bind fun v12 =>
 (C (.fn 149) [v10, v12] s).bind fun L13 => manyK L13 fun v14 s15 =>
 (O.extract v14 0).bind fun v16 =>
 (O.extract v14 1).bind fun v17 =>
 (O.extract v14 2).bind fun v18 =>
 (O.alloc s15 121).bind fun p19 =>
 (O.store p19.2 121 p19.1 v16).bind fun s20 =>
 (O.bop .neq 32 v18 (Go.Value.int Go.IntKind.i64 0)).bind fun v21 =>
 (O.boolO v21).bind fun b22 => cond b22 (
 kr (v17, v18, x.2.2.1, x.2.2.2) s20) (
 (O.load s20 187 i2).bind fun v23 =>
 (O.fieldAddr 123 i4 1).bind fun v24 =>
 (O.load s20 118 v24).bind fun v25 =>
 (C (.fn 150) [v23, v25] s20).bind fun L26 => manyK L26 fun v27 s28 =>
 (O.extract v27 0).bind fun v29 =>
 (O.extract v27 1).bind fun v30 =>
 (O.extract v27 2).bind fun v31 =>
 (O.alloc s28 118).bind fun p32 =>
 (O.store p32.2 118 p32.1 v29).bind fun s33 =>
 (O.bop .neq 32 v31 (Go.Value.int Go.IntKind.i64 0)).bind fun v34 =>
 gd v34 (
 kr (v17, v31, v30, x.2.2.2) s33) (
 (O.build 28 [(0, v17), (1, v30)]).bind fun v35 =>
 (O.tgt i0 [v35]).bind fun g36 => (C g36.1 g36.2 s33).bind fun L37 => manyK L37 fun v38 s39 =>
 (O.uop .not v38).bind fun v40 =>
 (O.boolO v40).bind fun b43 => cond b43 (
 kr (v17, v31, v30, x.2.2.2) s39) (
 (O.load s39 121 p19.1).bind fun v44 =>
 (O.load s39 118 p32.1).bind fun v45 =>
 (O.build 123 [(0, v44), (1, v45)]).bind fun v46 =>
 (O.store s39 123 i4 v46).bind fun s47 =>
 (O.bop .add 3 x.2.2.2 (Go.Value.int Go.IntKind.i64 1)).bind fun v48 =>
 nx (v17, v31, v30, v48) s47)) (
 none))) (
 kx 0 (x.1, x.2.1, x.2.2.1, x.2.2.2) s)
theorem f148_l0_b (C : OracleJ H) (n : Nat) (i0 : Value) (i1 : Value) (i2 : Value) (i4 : Value) (i10 : Value) (i11 : Value) (i12 : Value) (x : Value × Value × Value × Value) (s : St H) (nx : List Value → St H → Option (List (Value × St H))) (K : Ex → List Value → St H → Option (List (Value × St H))) :
 exec Tryz.prog false C n 148 none (cdp Tryz.f148 [1, 1, 0, 0]) (f148_l0_m i0 i1 i2 i4 i10 i11 i12 x) s (kIter (scratch (cdp Tryz.f148 [1, 1, 0, 0])) nx K) = f148_l0 (dOps (H := H) Tryz.prog) C n i0 i2 i4 i12 (fun x s => nx (f148_l0_m i0 i1 i2 i4 i10 i11 i12 x) s) (fun i x s => K (.exit i) (f148_l0_m i0 i1 i2 i4 i10 i11 i12 x) s) (fun x s => K .ret (f148_l0_m i0 i1 i2 i4 i10 i11 i12 x) s) x s := by kernel_rfl
theorem f148_l0_e (C : OracleJ H) (n : Nat) (i0 : Value) (i1 : Value) (i2 : Value) (i4 : Value) (i10 : Value) (i11 : Value) (i12 : Value) (m : Nat) (x : Value × Value × Value × Value) (s : St H) (K : Ex → List Value → St H → Option (List (Value × St H))) :
 iter (fun t s k => exec Tryz.prog false C n 148 none (cdp Tryz.f148 [1, 1, 0, 0]) t s k) (scratch (cdp Tryz.f148 [1, 1, 0, 0])) m (f148_l0_m i0 i1 i2 i4 i10 i11 i12 x) s K = iterS (f148_l0 (dOps (H := H) Tryz.prog) C n i0 i2 i4 i12) (fun i x s => K (.exit i) (f148_l0_m i0 i1 i2 i4 i10 i11 i12 x) s) (fun x s => K .ret (f148_l0_m i0 i1 i2 i4 i10 i11 i12 x) s) m x s :=
   iter_eq (f148_l0_m i0 i1 i2 i4 i10 i11 i12) (f148_l0 (dOps (H := H) Tryz.prog) C n i0 i2 i4 i12) (fun x s nx K => f148_l0_b C n i0 i1 i2 i4 i10 i11 i12 x s nx K) K m x s
noncomputable def f148 (O : Ops H) (C : OracleJ H) (n : Nat) (a0 : Value) (a1 : Value) (a2 : Value) (s : St H) : Option (List (Value × St H)) :=
 (C (.fn 74) [] s).bind fun L1 => manyK L1 fun v2 s3 =>
 (O.build 123 [(1, v2)]).bind fun v4 =>
 (O.alloc s3 123).bind fun p5 =>
 (O.store p5.2 123 p5.1 v4).bind fun s6 =>
 (O.load s6 3 a1).bind fun v7 =>
 iterS (f148_l0 O C n a0 a2 p5.1 v7 )
 (fun i49 x50 s51 => (bif Nat.beq i49 0 then
 some [(.tuple #[], s51)] else none))
 (fun x52 s53 => some [(.tuple #[], s53)]) n (undefV, undefV, undefV, (Go.Value.int Go.IntKind.i64 0)) s6
theorem f148_l0_k (C : OracleJ H) (n : Nat) (i0 : Value) (i1 : Value) (i2 : Value) (i4 : Value) (i10 : Value) (i11 : Value) (i12 : Value) (i : Nat) (x : Value × Value × Value × Value) (s : St H) : (kBlock 0 (kFun Tryz.prog Tryz.f148)) (.exit i) (f148_l0_m i0 i1 i2 i4 i10 i11 i12 x) s =
 (bif Nat.beq i 0 then
 some [(.tuple #[], s)] else none) := by kernel_rfl
theorem f148_r (C : OracleJ H) (n : Nat) (a0 : Value) (a1 : Value) (a2 : Value) (s : St H) : bodyD Tryz.prog false C n 148 Tryz.f148 [a0, a1, a2] s = f148 (dOps (H := H) Tryz.prog) C n a0 a1 a2 s := by
  have h1 : bodyD Tryz.prog false C n 148 Tryz.f148 [a0, a1, a2] s =
 (C (.fn 74) [] s).bind fun L54 => manyK L54 fun v55 s56 =>
 ((dOps (H := H) Tryz.prog).build 123 [(1, v55)]).bind fun v57 =>
 ((dOps (H := H) Tryz.prog).alloc s56 123).bind fun p58 =>
 ((dOps (H := H) Tryz.prog).store p58.2 123 p58.1 v57).bind fun s59 =>
 ((dOps (H := H) Tryz.prog).load s59 3 a1).bind fun v60 =>
 iter (fun t s k => exec Tryz.prog false C n 148 none (cdp Tryz.f148 [1, 1, 0, 0]) t s k) (scratch (cdp Tryz.f148 [1, 1, 0, 0])) n (f148_l0_m a0 a1 a2 p58.1 v55 v57 v60 (undefV, undefV, undefV, (Go.Value.int Go.IntKind.i64 0))) s59 (kBlock 0 (kFun Tryz.prog Tryz.f148)) := by kernel_rfl
  rw [h1]
  simp only [f148_l0_e, f148_l0_k]
  show _ = f148 (dOps (H := H) Tryz.prog) C n a0 a1 a2 s
  kernel_rfl
/-! (*tidepole/bits.Reader).Get -/
def f152_l0_m (i0 : Value) (i10 : Value) (i11 : Value) (i12 : Value) (i13 : Value) (i14 : Value) (i15 : Value) (i16 : Value) (i18 : Value) (i19 : Value) (i20 : Value) (i21 : Value) (i22 : Value) (i23 : Value) (i24 : Value) (i25 : Value) (x : Value × Value × Value × Value × Value) : List Value := [i0, x.1, undefV, undefV, (Go.Value.int Go.IntKind.u64 0), (Go.Value.int Go.IntKind.i64 0), x.2.1, x.2.2.1, x.2.2.2.1, x.2.2.2.2, i10, i11, i12, i13, i14, i15, i16, (.bool false), i18, i19, i20, i21, i22, i23, i24, i25, dc, dc, dc, dc, dc, dc, dc, dc, dc, dc, dc, dc, dc, dc, dc, dc, dc, dc, dc, dc, dc, dc, dc, dc, dc, dc, dc, dc, dc, dc, dc, dc, dc, dc, dc, dc, dc, dc, dc, dc, dc, dc, dc, dc, dc, undefV]
noncomputable def f152_l0 (O : Ops H) (C : OracleJ H) (n : Nat) (i0 : Value) (nx : (Value × Value × Value × Value × Value) → St H → Option (List (Value × St H))) (kx : Nat → (Value × Value × Value × Value × Value) → St H → Option (List (Value × St H))) (kr : (Value × Value × Value × Value × Value) → St H → Option (List (Value × St H))) (x : Value × Value × Value × Value × Value) (s : St H) : Option (List (Value × St H)) :=
 (O.bop .gtr 3 x.1 (Go.Value.int Go.IntKind.i64 0)).bind fun v16 =>
 (O.boolO v16).bind fun b17 => cond b17 (
 (O.nilCheck i0).bind fun v18 =>
 (O.fieldAddr 208 v18 1).bind fun v19 =>
 (O.load s 3 v19).bind fun v20 =>
 (O.bop .rem 3 v20 (Go.Value.int Go.IntKind.i64 8)).bind fun v21 =>
 (O.bop .sub 3 (Go.Value.int Go.IntKind.i64 8) v21).bind fun v22 =>
 (O.minO x.1 [v22]).bind fun v23 =>
 (O.nilCheck i0).bind fun v24 =>
 (O.fieldAddr 208 v24 0).bind fun v25 =>
 (O.load s 99 v25).bind fun v26 =>
 (O.nilCheck i0).bind fun v27 =>
 (O.fieldAddr 208 v27 1).bind fun v28 =>
 (O.load s 3 v28).bind fun v29 =>
 (O.bop .quo 3 v29 (Go.Value.int Go.IntKind.i64 8)).bind fun v30 =>
 (O.indexAddr 99 v26 v30).bind fun v31 =>
 (O.load s 5 v31).bind fun v32 =>
 (O.conv false s 5 26 v32).bind fun p33 =>
 (O.bop .sub 3 v22 v23).bind fun v34 =>
 (O.bop .shr 26 p33.1 v34).bind fun v35 =>
 (O.bop .shl 26 x.2.1 v23).bind fun v36 =>
 (oneO C (.fn 137) [v35, v23] p33.2).bind fun p37 =>
 (O.bop .or 26 v36 p37.1).bind fun v38 =>
 (O.nilCheck i0).bind fun v39 =>
 (O.fieldAddr 208 v39 1).bind fun v40 =>
 (O.load p37.2 3 v40).bind fun v41 =>
 (O.bop .add 3 v41 v23).bind fun v42 =>
 (O.nilCheck i0).bind fun v43 =>
 (O.fieldAddr 208 v43 1).bind fun v44 =>
 (O.store p37.2 3 v44 v42).bind fun s45 =>
 (O.bop .sub 3 x.1 v23).bind fun v46 =>
 nx (v46, v38, v22, v23, v35) s45) (
 kx 1 (x.1, x.2.1, x.2.2.1, x.2.2.2.1, x.2.2.2.2) s)
theorem f152_l0_b (C : OracleJ H) (n : Nat) (i0 : Value) (i10 : Value) (i11 : Value) (i12 : Value) (i13 : Value) (i14 : Value) (i15 : Value) (i16 : Value) (i18 : Value) (i19 : Value) (i20 : Value) (i21 : Value) (i22 : Value) (i23 : Value) (i24 : Value) (i25 : Value) (x : Value × Value × Value × Value × Value) (s : St H) (nx : List Value → St H → Option (List (Value × St H))) (K : Ex → List Value → St H → Option (List (Value × St H))) :
 exec Tryz.prog false C n 152 none (cdp Tryz.f152 [1, 1, 1, 0, 0, 0]) (f152_l0_m i0 i10 i11 i12 i13 i14 i15 i16 i18 i19 i20 i21 i22 i23 i24 i25 x) s (kIter (scratch (cdp Tryz.f152 [1, 1, 1, 0, 0, 0])) nx K) = f152_l0 (dOps (H := H) Tryz.prog) C n i0 (fun x s => nx (f152_l0_m i0 i10 i11 i12 i13 i14 i15 i16 i18 i19 i20 i21 i22 i23 i24 i25 x) s) (fun i x s => K (.exit i) (f152_l0_m i0 i10 i11 i12 i13 i14 i15 i16 i18 i19 i20 i21 i22 i23 i24 i25 x) s) (fun x s => K .ret (f152_l0_m i0 i10 i11 i12 i13 i14 i15 i16 i18 i19 i20 i21 i22 i23 i24 i25 x) s) x s := by kernel_rfl
theorem f152_l0_e (C : OracleJ H) (n : Nat) (i0 : Value) (i10 : Value) (i11 : Value) (i12 : Value) (i13 : Value) (i14 : Value) (i15 : Value) (i16 : Value) (i18 : Value) (i19 : Value) (i20 : Value) (i21 : Value) (i22 : Value) (i23 : Value) (i24 : Value) (i25 : Value) (m : Nat) (x : Value × Value × Value × Value × Value) (s : St H) (K : Ex → List Value → St H → Option (List (Value × St H))) :
 iter (fun t s k => exec Tryz.prog false C n 152 none (cdp Tryz.f152 [1, 1, 1, 0, 0, 0]) t s k) (scratch (cdp Tryz.f152 [1, 1, 1, 0, 0, 0])) m (f152_l0_m i0 i10 i11 i12 i13 i14 i15 i16 i18 i19 i20 i21 i22 i23 i24 i25 x) s K = iterS (f152_l0 (dOps (H := H) Tryz.prog) C n i0) (fun i x s => K (.exit i) (f152_l0_m i0 i10 i11 i12 i13 i14 i15 i16 i18 i19 i20 i21 i22 i23 i24 i25 x) s) (fun x s => K .ret (f152_l0_m i0 i10 i11 i12 i13 i14 i15 i16 i18 i19 i20 i21 i22 i23 i24 i25 x) s) m x s :=
   iter_eq (f152_l0_m i0 i10 i11 i12 i13 i14 i15 i16 i18 i19 i20 i21 i22 i23 i24 i25) (f152_l0 (dOps (H := H) Tryz.prog) C n i0) (fun x s nx K => f152_l0_b C n i0 i10 i11 i12 i13 i14 i15 i16 i18 i19 i20 i21 i22 i23 i24 i25 x s nx K) K m x s
noncomputable def f152 (O : Ops H) (C : OracleJ H) (n : Nat) (a0 : Value) (a1 : Value) (s : St H) : Option (List (Value × St H)) :=
 (C (.fn 159) [a0] s).bind fun L1 => manyK L1 fun v2 s3 =>
 (O.uop .not v2).bind fun v4 =>
 (O.boolO v4).bind fun b5 => cond b5 (
 some [(.tuple #[(Go.Value.int Go.IntKind.u64 0), (Go.Value.int Go.IntKind.i64 1)], s3)]) (
 (O.bop .lss 3 a1 (Go.Value.int Go.IntKind.i64 0)).bind fun v6 =>
 gd v6 (
 some [(.tuple #[(Go.Value.int Go.IntKind.u64 0), (Go.Value.int Go.IntKind.i64 2)], s3)]) (
 (O.bop .gtr 3 a1 (Go.Value.int Go.IntKind.i64 64)).bind fun v7 =>
 (O.boolO v7).bind fun b10 => cond b10 (
 some [(.tuple #[(Go.Value.int Go.IntKind.u64 0), (Go.Value.int Go.IntKind.i64 2)], s3)]) (
 (C (.fn 151) [a0] s3).bind fun L11 => manyK L11 fun v12 s13 =>
 (O.bop .gtr 3 a1 v12).bind fun v14 =>
 (O.boolO v14).bind fun b15 => cond b15 (
 some [(.tuple #[(Go.Value.int Go.IntKind.u64 0), (Go.Value.int Go.IntKind.i64 50)], s13)]) (
 iterS (f152_l0 O C n a0 )
 (fun i47 x48 s49 => (bif Nat.beq i47 1 then
 some [(.tuple #[x48.2.1, (Go.Value.int Go.IntKind.i64 0)], s49)] else none))
 (fun x50 s51 => some [(.tuple #[(Go.Value.int Go.IntKind.u64 0), (Go.Value.int Go.IntKind.i64 0)], s51)]) n (a1, (Go.Value.int Go.IntKind.u64 0), undefV, undefV, undefV) s13))) (
 none))
theorem f152_l0_k (C : OracleJ H) (n : Nat) (i0 : Value) (i10 : Value) (i11 : Value) (i12 : Value) (i13 : Value) (i14 : Value) (i15 : Value) (i16 : Value) (i18 : Value) (i19 : Value) (i20 : Value) (i21 : Value) (i22 : Value) (i23 : Value) (i24 : Value) (i25 : Value) (i : Nat) (x : Value × Value × Value × Value × Value) (s : St H) : (kBlock 1 (kSeq Tryz.prog false C n 152 none (cdp Tryz.f152 [1, 1, 1, 1]) (kFun Tryz.prog Tryz.f152))) (.exit i) (f152_l0_m i0 i10 i11 i12 i13 i14 i15 i16 i18 i19 i20 i21 i22 i23 i24 i25 x) s =
 (bif Nat.beq i 1 then
 some [(.tuple #[x.2.1, (Go.Value.int Go.IntKind.i64 0)], s)] else none) := by kernel_rfl
theorem f152_r (C : OracleJ H) (n : Nat) (a0 : Value) (a1 : Value) (s : St H) : bodyD Tryz.prog false C n 152 Tryz.f152 [a0, a1] s = f152 (dOps (H := H) Tryz.prog) C n a0 a1 s := by
  have h1 : bodyD Tryz.prog false C n 152 Tryz.f152 [a0, a1] s =
 (C (.fn 159) [a0] s).bind fun L52 => manyK L52 fun v53 s54 =>
 ((dOps (H := H) Tryz.prog).uop .not v53).bind fun v55 =>
 ((dOps (H := H) Tryz.prog).boolO v55).bind fun b56 => cond b56 (
 some [(.tuple #[(Go.Value.int Go.IntKind.u64 0), (Go.Value.int Go.IntKind.i64 1)], s54)]) (
 ((dOps (H := H) Tryz.prog).bop .lss 3 a1 (Go.Value.int Go.IntKind.i64 0)).bind fun v57 =>
 gd v57 (
 some [(.tuple #[(Go.Value.int Go.IntKind.u64 0), (Go.Value.int Go.IntKind.i64 2)], s54)]) (
 ((dOps (H := H) Tryz.prog).bop .gtr 3 a1 (Go.Value.int Go.IntKind.i64 64)).bind fun v58 =>
 ((dOps (H := H) Tryz.prog).boolO v58).bind fun b61 => cond b61 (
 some [(.tuple #[(Go.Value.int Go.IntKind.u64 0), (Go.Value.int Go.IntKind.i64 2)], s54)]) (
 (C (.fn 151) [a0] s54).bind fun L62 => manyK L62 fun v63 s64 =>
 ((dOps (H := H) Tryz.prog).bop .gtr 3 a1 v63).bind fun v65 =>
 ((dOps (H := H) Tryz.prog).boolO v65).bind fun b66 => cond b66 (
 some [(.tuple #[(Go.Value.int Go.IntKind.u64 0), (Go.Value.int Go.IntKind.i64 50)], s64)]) (
 iter (fun t s k => exec Tryz.prog false C n 152 none (cdp Tryz.f152 [1, 1, 1, 0, 0, 0]) t s k) (scratch (cdp Tryz.f152 [1, 1, 1, 0, 0, 0])) n (f152_l0_m a0 v55 a0 v53 v55 v58 a1 v57 a1 v58 v58 v65 a1 a0 v63 v65 (a1, (Go.Value.int Go.IntKind.u64 0), undefV, undefV, undefV)) s64 (kBlock 1 (kSeq Tryz.prog false C n 152 none (cdp Tryz.f152 [1, 1, 1, 1]) (kFun Tryz.prog Tryz.f152)))))) (
 none)) := by kernel_rfl
  rw [h1]
  simp only [f152_l0_e, f152_l0_k]
  show _ = f152 (dOps (H := H) Tryz.prog) C n a0 a1 s
  kernel_rfl
/-! tidepole/crc.Read -/
def f156_l0_m (i0 : Value) (i6 : Value) (i7 : Value) (i8 : Value) (x : Value × Value × Value) : List Value := [i0, undefV, (Go.Value.int Go.IntKind.u32 0), (Go.Value.int Go.IntKind.i64 0), x.1, x.2.1, i6, i7, i8, x.2.2, dc, dc, dc, dc, dc, dc, dc, dc, dc, dc, dc, dc, dc, undefV]
noncomputable def f156_l0 (O : Ops H) (C : OracleJ H) (n : Nat) (i0 : Value) (nx : (Value × Value × Value) → St H → Option (List (Value × St H))) (kx : Nat → (Value × Value × Value) → St H → Option (List (Value × St H))) (kr : (Value × Value × Value) → St H → Option (List (Value × St H))) (x : Value × Value × Value) (s : St H) : Option (List (Value × St H)) :=
 (O.bop .lss 3 x.2.2 (Go.Value.int Go.IntKind.i64 4)).bind fun v4 =>
 (O.boolO v4).bind fun b5 => cond b5 (
 (O.indexAddr 99 i0 x.2.2).bind fun v6 =>
 (O.load s 5 v6).bind fun v7 =>
 (O.conv false s 5 151 v7).bind fun p8 =>
 (O.bop .mul 3 (Go.Value.int Go.IntKind.i64 8) x.2.2).bind fun v9 =>
 (O.bop .shl 151 p8.1 v9).bind fun v10 =>
 (O.bop .or 151 x.1 v10).bind fun v11 =>
 (O.bop .add 3 x.2.2 (Go.Value.int Go.IntKind.i64 1)).bind fun v12 =>
 nx (v11, x.2.2, v12) p8.2) (
 kx 0 (x.1, x.2.1, x.2.2) s)
theorem f156_l0_b (C : OracleJ H) (n : Nat) (i0 : Value) (i6 : Value) (i7 : Value) (i8 : Value) (x : Value × Value × Value) (s : St H) (nx : List Value → St H → Option (List (Value × St H))) (K : Ex → List Value → St H → Option (List (Value × St H))) :
 exec Tryz.prog false C n 156 none (cdp Tryz.f156 [1, 1, 1, 0, 1, 0, 0]) (f156_l0_m i0 i6 i7 i8 x) s (kIter (scratch (cdp Tryz.f156 [1, 1, 1, 0, 1, 0, 0])) nx K) = f156_l0 (dOps (H := H) Tryz.prog) C n i0 (fun x s => nx (f156_l0_m i0 i6 i7 i8 x) s) (fun i x s => K (.exit i) (f156_l0_m i0 i6 i7 i8 x) s) (fun x s => K .ret (f156_l0_m i0 i6 i7 i8 x) s) x s := by kernel_rfl
theorem f156_l0_e (C : OracleJ H) (n : Nat) (i0 : Value) (i6 : Value) (i7 : Value) (i8 : Value) (m : Nat) (x : Value × Value × Value) (s : St H) (K : Ex → List Value → St H → Option (List (Value × St H))) :
 iter (fun t s k => exec Tryz.prog false C n 156 none (cdp Tryz.f156 [1, 1, 1, 0, 1, 0, 0]) t s k) (scratch (cdp Tryz.f156 [1, 1, 1, 0, 1, 0, 0])) m (f156_l0_m i0 i6 i7 i8 x) s K = iterS (f156_l0 (dOps (H := H) Tryz.prog) C n i0) (fun i x s => K (.exit i) (f156_l0_m i0 i6 i7 i8 x) s) (fun x s => K .ret (f156_l0_m i0 i6 i7 i8 x) s) m x s :=
   iter_eq (f156_l0_m i0 i6 i7 i8) (f156_l0 (dOps (H := H) Tryz.prog) C n i0) (fun x s nx K => f156_l0_b C n i0 i6 i7 i8 x s nx K) K m x s
noncomputable def f156 (O : Ops H) (C : OracleJ H) (n : Nat) (a0 : Value) (s : St H) : Option (List (Value × St H)) :=
 (O.len s 99 a0).bind fun v1 =>
 (O.bop .lss 3 v1 (Go.Value.int Go.IntKind.i64 4)).bind fun v2 =>
 (O.boolO v2).bind fun b3 => cond b3 (
 some [(.tuple #[(Go.Value.int Go.IntKind.u32 0), (Go.Value.int Go.IntKind.i64 7)], s)]) (
 iterS (f156_l0 O C n a0 )
 (fun i13 x14 s15 => (bif Nat.beq i13 0 then
 some [(.tuple #[x14.1, (Go.Value.int Go.IntKind.i64 0)], s15)] else none))
 (fun x16 s17 => some [(.tuple #[(Go.Value.int Go.IntKind.u32 0), (Go.Value.int Go.IntKind.i64 0)], s17)]) n ((Go.Value.int Go.IntKind.u32 0), undefV, (Go.Value.int Go.IntKind.i64 0)) s)
theorem f156_l0_k (C : OracleJ H) (n : Nat) (i0 : Value) (i6 : Value) (i7 : Value) (i8 : Value) (i : Nat) (x : Value × Value × Value) (s : St H) : (kBlock 0 (kSeq Tryz.prog false C n 156 none (cdp Tryz.f156 [1, 1, 1, 1]) (kFun Tryz.prog Tryz.f156))) (.exit i) (f156_l0_m i0 i6 i7 i8 x) s =
 (bif Nat.beq i 0 then
 some [(.tuple #[x.1, (Go.Value.int Go.IntKind.i64 0)], s)] else none) := by kernel_rfl
theorem f156_r (C : OracleJ H) (n : Nat) (a0 : Value) (s : St H) : bodyD Tryz.prog false C n 156 Tryz.f156 [a0] s = f156 (dOps (H := H) Tryz.prog) C n a0 s := by
  have h1 : bodyD Tryz.prog false C n 156 Tryz.f156 [a0] s =
 ((dOps (H := H) Tryz.prog).len s 99 a0).bind fun v18 =>
 ((dOps (H := H) Tryz.prog).bop .lss 3 v18 (Go.Value.int Go.IntKind.i64 4)).bind fun v19 =>
 ((dOps (H := H) Tryz.prog).boolO v19).bind fun b20 => cond b20 (
 some [(.tuple #[(Go.Value.int Go.IntKind.u32 0), (Go.Value.int Go.IntKind.i64 7)], s)]) (
 iter (fun t s k => exec Tryz.prog false C n 156 none (cdp Tryz.f156 [1, 1, 1, 0, 1, 0, 0]) t s k) (scratch (cdp Tryz.f156 [1, 1, 1, 0, 1, 0, 0])) n (f156_l0_m a0 a0 v18 v19 ((Go.Value.int Go.IntKind.u32 0), undefV, (Go.Value.int Go.IntKind.i64 0))) s (kBlock 0 (kSeq Tryz.prog false C n 156 none (cdp Tryz.f156 [1, 1, 1, 1]) (kFun Tryz.prog Tryz.f156)))) := by kernel_rfl
  rw [h1]
  simp only [f156_l0_e, f156_l0_k]
  show _ = f156 (dOps (H := H) Tryz.prog) C n a0 s
  kernel_rfl
/-! tidepole/crc.bits -/
noncomputable def f160 (O : Ops H) (C : OracleJ H) (n : Nat) (a0 : Value) (s : St H) : Option (List (Value × St H)) :=
 (O.box s a0).bind fun p1 =>
 some [((.func (.func 165) #[] #[p1.1]), p1.2)]
theorem f160_r (C : OracleJ H) (n : Nat) (a0 : Value) (s : St H) : bodyD Tryz.prog false C n 160 Tryz.f160 [a0] s = f160 (dOps (H := H) Tryz.prog) C n a0 s := by kernel_rfl
/-! tidepole/xor.within -/
noncomputable def f164 (O : Ops H) (C : OracleJ H) (n : Nat) (a0 : Value) (a1 : Value) (s : St H) : Option (List (Value × St H)) :=
 (O.box s a1).bind fun p1 =>
 (O.load p1.2 169 p1.1).bind fun v2 =>
 (C (.fn 115) [v2] p1.2).bind fun L3 => manyK L3 fun v4 s5 =>
 (O.buildSlice false s5 47 1 [(0, v4)]).bind fun p6 =>
 (C (.fn 162) [a0, p6.1] p6.2).bind fun L7 => manyK L7 fun v8 s9 =>
 (O.extract v8 0).bind fun v10 =>
 (O.extract v8 1).bind fun v11 =>
 (O.bop .neq 32 v11 (Go.Value.int Go.IntKind.i64 0)).bind fun v12 =>
 (O.boolO v12).bind fun b13 => cond b13 (
 some [(.tuple #[(Go.Value.int Go.IntKind.u64 0), v11], s9)]) (
 (O.indexAddr 39 v10 (Go.Value.int Go.IntKind.i64 0)).bind fun v14 =>
 (O.load s9 26 v14).bind fun v15 =>
 (O.fieldAddr 169 p1.1 1).bind fun v16 =>
 (O.load s9 3 v16).bind fun v17 =>
 (O.bop .shl 26 v15 v17).bind fun v18 =>
 (O.bop .eql 26 v18 (Go.Value.int Go.IntKind.u64 0)).bind fun v19 =>
 (O.boolO v19).bind fun b20 => cond b20 (
 some [(.tuple #[(Go.Value.int Go.IntKind.u64 0), (Go.Value.int Go.IntKind.i64 50)], s9)]) (
 some [(.tuple #[v18, v11], s9)]))
theorem f164_r (C : OracleJ H) (n : Nat) (a0 : Value) (a1 : Value) (s : St H) : bodyD Tryz.prog false C n 164 Tryz.f164 [a0, a1] s = f164 (dOps (H := H) Tryz.prog) C n a0 a1 s := by kernel_rfl
end Go.Proofs.YtdbmfggipeoklaaGreatDoor.S
