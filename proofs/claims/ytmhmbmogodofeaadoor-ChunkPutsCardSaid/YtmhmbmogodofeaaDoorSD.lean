import Derived.Test.YtmhmbmogodofeaaDoorFw
import Derived.ProofKit
import Derived.Test.YtmhmbmogodofeaaDoorRows
/- The plain runs of functions (printed by shal.py). -/
set_option autoImplicit false
set_option linter.unusedVariables false
set_option maxRecDepth 100000
namespace Go.Proofs.YtmhmbmogodofeaaDoor.S
open Go.FS Go.RowKit
variable {H : HeapI}
/-! tidepole/tidepolelaw08.ChunkOnce -/
noncomputable def f4 (O : Ops H) (C : OracleJ H) (n : Nat) (a0 : Value) (s : St H) : Option (List (Value × St H)) :=
 (C (.fn 13) [] s).bind fun L1 => manyK L1 fun v2 s3 =>
 (O.uop .not v2).bind fun v4 =>
 (O.boolO v4).bind fun b5 => cond b5 (
 some [((.bool false), s3)]) (
 (O.len s3 22 a0).bind fun v6 =>
 (O.minO v6 [(Value.int IntKind.i64 600)]).bind fun v7 =>
 (O.slc s3 22 a0 none (some v7) none).bind fun v8 =>
 (C (.fn 9) [v8, (Value.int IntKind.i64 0)] s3).bind fun L9 => manyK L9 fun v10 s11 =>
 (O.extract v10 0).bind fun v12 =>
 (O.extract v10 1).bind fun v13 =>
 (O.extract v10 2).bind fun v14 =>
 (O.bop .neq 25 v14 (Value.int IntKind.i64 0)).bind fun v15 =>
 (O.boolO v15).bind fun b16 => cond b16 (
 (O.len s11 24 v12).bind fun v17 =>
 (O.bop .eql 3 v17 (Value.int IntKind.i64 0)).bind fun v18 =>
 gd v18 (
 (O.bop .eql 3 v13 (Value.int IntKind.i64 0)).bind fun v19 =>
 some [(v19, s11)]) (
 some [((.bool false), s11)]) (
 none)) (
 (C (.fn 14) [v12] s11).bind fun L20 => manyK L20 fun v21 s22 =>
 (O.extract v21 0).bind fun v23 =>
 (O.extract v21 1).bind fun v24 =>
 (O.bop .eql 25 v24 (Value.int IntKind.i64 0)).bind fun v25 =>
 gd v25 (
 (O.len s22 22 v8).bind fun v26 =>
 (O.bop .leq 3 v13 v26).bind fun v27 =>
 gd v27 (
 (O.slc s22 22 v8 none (some v13) none).bind fun v28 =>
 (C (.fn 12) [v23, v28] s22).bind fun L29 => manyK L29 fun v30 s31 =>
 some [(v30, s31)]) (
 some [((.bool false), s22)]) (
 none)) (
 some [((.bool false), s22)]) (
 none)))
/-! tidepole/tidepolelaw08.ChunkBack -/
/-! tidepole/tidepolebase.Bytes -/
/-! tidepole/chunk.Read -/
noncomputable def f9 (O : Ops H) (C : OracleJ H) (n : Nat) (a0 : Value) (a1 : Value) (s : St H) : Option (List (Value × St H)) :=
 (C (.fn 27) [a0, a1] s).bind fun L1 => manyK L1 fun v2 s3 =>
 (O.extract v2 0).bind fun v4 =>
 (O.extract v2 1).bind fun v5 =>
 (O.alloc s3 61).bind fun p6 =>
 (O.store p6.2 61 p6.1 v4).bind fun s7 =>
 (O.bop .neq 25 v5 (Value.int IntKind.i64 0)).bind fun v8 =>
 (O.boolO v8).bind fun b9 => cond b9 (
 some [(.tuple #[(fzV 2 #[]), (Value.int IntKind.i64 0), v5], s7)]) (
 (O.fieldAddr 61 p6.1 1).bind fun v10 =>
 (O.load s7 3 v10).bind fun v11 =>
 (O.fieldAddr 61 p6.1 2).bind fun v12 =>
 (O.load s7 3 v12).bind fun v13 =>
 (O.slc s7 22 a0 (some v11) (some v13) none).bind fun v14 =>
 (C (.fn 28) [v14] s7).bind fun L15 => manyK L15 fun v16 s17 =>
 (O.fieldAddr 61 p6.1 0).bind fun v18 =>
 (O.load s17 3 v18).bind fun v19 =>
 (C (.fn 30) [v16, v19] s17).bind fun L20 => manyK L20 fun v21 s22 =>
 (C (.fn 29) [v21] s22).bind fun L23 => manyK L23 fun v24 s25 =>
 (O.len s25 24 v24).bind fun v26 =>
 (O.fieldAddr 61 p6.1 0).bind fun v27 =>
 (O.load s25 3 v27).bind fun v28 =>
 (O.bop .neq 3 v26 v28).bind fun v29 =>
 gd v29 (
 some [(.tuple #[(fzV 2 #[]), (Value.int IntKind.i64 0), (Value.int IntKind.i64 80)], s25)]) (
 (C (.fn 31) [v16] s25).bind fun L30 => manyK L30 fun v31 s32 =>
 (O.uop .not v31).bind fun v33 =>
 (O.boolO v33).bind fun b36 => cond b36 (
 some [(.tuple #[(fzV 2 #[]), (Value.int IntKind.i64 0), (Value.int IntKind.i64 80)], s32)]) (
 (O.fieldAddr 61 p6.1 2).bind fun v37 =>
 (O.load s32 3 v37).bind fun v38 =>
 (O.bop .add 3 v38 (Value.int IntKind.i64 4)).bind fun v39 =>
 some [(.tuple #[v24, v39, (Value.int IntKind.i64 0)], s32)])) (
 none))
theorem f9_r (C : OracleJ H) (n : Nat) (a0 : Value) (a1 : Value) (s : St H) : bodyD Tryd.prog false C n 9 Tryd.f9 [a0, a1] s = f9 (dOps (H := H) Tryd.prog) C n a0 a1 s := by kernel_rfl
/-! tidepole/tidepolebase.SameSamples -/
/-! tidepole/tidepolebase.SameBytes -/
noncomputable def f12 (O : Ops H) (C : OracleJ H) (n : Nat) (a0 : Value) (a1 : Value) (s : St H) : Option (List (Value × St H)) :=
 (O.conv false s 22 9 a0).bind fun p1 =>
 (O.conv false p1.2 22 9 a1).bind fun p2 =>
 (O.bop .eql 9 p1.1 p2.1).bind fun v3 =>
 some [(v3, p2.2)]
theorem f12_r (C : OracleJ H) (n : Nat) (a0 : Value) (a1 : Value) (s : St H) : bodyD Tryd.prog false C n 12 Tryd.f12 [a0, a1] s = f12 (dOps (H := H) Tryd.prog) C n a0 a1 s := by kernel_rfl
/-! tidepole/tidepolelaw08.works -/
noncomputable def f13 (O : Ops H) (C : OracleJ H) (n : Nat) (s : St H) : Option (List (Value × St H)) :=
 (O.build 40 [(0, (Value.int IntKind.i64 10)), (1, (Value.int IntKind.u64 5))]).bind fun v1 =>
 (O.build 40 [(0, (Value.int IntKind.i64 20)), (1, (Value.int IntKind.u64 5))]).bind fun v2 =>
 (O.buildSlice false s 24 2 [(0, v1), (1, v2)]).bind fun p3 =>
 (C (.fn 14) [p3.1] p3.2).bind fun L4 => manyK L4 fun v5 s6 =>
 (O.extract v5 0).bind fun v7 =>
 (O.extract v5 1).bind fun v8 =>
 (C (.fn 9) [v7, (Value.int IntKind.i64 0)] s6).bind fun L9 => manyK L9 fun v10 s11 =>
 (O.extract v10 0).bind fun v12 =>
 (O.extract v10 1).bind fun v13 =>
 (O.extract v10 2).bind fun v14 =>
 (O.len s11 22 v7).bind fun v15 =>
 (O.bop .eql 3 v15 (Value.int IntKind.i64 21)).bind fun v16 =>
 gd v16 (
 (O.indexAddr 22 v7 (Value.int IntKind.i64 0)).bind fun v17 =>
 (O.load s11 5 v17).bind fun v18 =>
 (O.bop .eql 5 v18 (Value.int IntKind.u8 2)).bind fun v19 =>
 gd v19 (
 (O.indexAddr 22 v7 (Value.int IntKind.i64 1)).bind fun v20 =>
 (O.load s11 5 v20).bind fun v21 =>
 (O.bop .eql 5 v21 (Value.int IntKind.u8 15)).bind fun v22 =>
 gd v22 (
 (O.bop .eql 25 v8 (Value.int IntKind.i64 0)).bind fun v23 =>
 gd v23 (
 (O.len s11 24 v12).bind fun v24 =>
 (O.bop .eql 3 v24 (Value.int IntKind.i64 2)).bind fun v25 =>
 gd v25 (
 (O.indexAddr 24 v12 (Value.int IntKind.i64 1)).bind fun v26 =>
 (O.load s11 40 v26).bind fun v27 =>
 (O.build 40 [(0, (Value.int IntKind.i64 20)), (1, (Value.int IntKind.u64 5))]).bind fun v28 =>
 (O.bop .eql 40 v27 v28).bind fun v29 =>
 gd v29 (
 (O.bop .eql 3 v13 (Value.int IntKind.i64 21)).bind fun v30 =>
 gd v30 (
 (O.bop .eql 25 v14 (Value.int IntKind.i64 0)).bind fun v31 =>
 some [(v31, s11)]) (
 some [((.bool false), s11)]) (
 none)) (
 some [((.bool false), s11)]) (
 none)) (
 some [((.bool false), s11)]) (
 none)) (
 some [((.bool false), s11)]) (
 none)) (
 some [((.bool false), s11)]) (
 none)) (
 some [((.bool false), s11)]) (
 none)) (
 some [((.bool false), s11)]) (
 none)
theorem f13_r (C : OracleJ H) (n : Nat) (s : St H) : bodyD Tryd.prog false C n 13 Tryd.f13 [] s = f13 (dOps (H := H) Tryd.prog) C n s := by kernel_rfl
/-! tidepole/chunk.Put -/
def f14_l0_m (i0 i4 i8 i9 i10 i11 i12 i13 i14 i15 i16 i17 i18 : Value) (x : Value × Value × Value × Value) : List Value := [i0, undefV, x.1, x.2.1, i4, undefV, dc, x.2.2.1, i8, i9, i10, i11, i12, i13, i14, i15, i16, i17, i18, x.2.2.2, dc, dc, dc, dc, dc, dc, dc, dc, dc, dc, undefV, undefV, undefV, undefV]
noncomputable def f14_l0 (O : Ops H) (C : OracleJ H) (n : Nat) (i4 i17 i18 : Value) (nx : (Value × Value × Value × Value) → St H → Option (List (Value × St H))) (kx : Nat → (Value × Value × Value × Value) → St H → Option (List (Value × St H))) (kr : (Value × Value × Value × Value) → St H → Option (List (Value × St H))) (x : Value × Value × Value × Value) (s : St H) : Option (List (Value × St H)) :=
 (O.bop .lss 3 x.2.2.2 i18).bind fun v11 =>
 (O.boolO v11).bind fun b12 => cond b12 (
 (O.indexAddr 24 i17 x.2.2.2).bind fun v13 =>
 (O.load s 40 v13).bind fun v14 =>
 (O.alloc s 40).bind fun p15 =>
 (O.store p15.2 40 p15.1 v14).bind fun s16 =>
 (O.load s16 40 p15.1).bind fun v17 =>
 (C (.fn 18) [i4, v17] s16).bind fun L18 => manyK L18 fun v19 s20 =>
 (O.bop .neq 25 v19 (Value.int IntKind.i64 0)).bind fun v21 =>
 (O.boolO v21).bind fun b22 => cond b22 (
 kr ((fzV 2 #[]), v19, v19, x.2.2.2) s20) (
 (O.bop .add 3 x.2.2.2 (Value.int IntKind.i64 1)).bind fun v23 =>
 nx (x.1, x.2.1, v19, v23) s20)) (
 kx 1 (x.1, x.2.1, x.2.2.1, x.2.2.2) s)
theorem f14_l0_b (C : OracleJ H) (n : Nat) (i0 i4 i8 i9 i10 i11 i12 i13 i14 i15 i16 i17 i18 : Value) (x : Value × Value × Value × Value) (s : St H) (nx : List Value → St H → Option (List (Value × St H))) (K : Ex → List Value → St H → Option (List (Value × St H))) :
 exec Tryd.prog false C n 14 none (cdp Tryd.f14 [1, 1, 1, 0, 1, 0, 0]) (f14_l0_m i0 i4 i8 i9 i10 i11 i12 i13 i14 i15 i16 i17 i18 x) s (kIter (scratch (cdp Tryd.f14 [1, 1, 1, 0, 1, 0, 0])) nx K) = f14_l0 (dOps (H := H) Tryd.prog) C n i4 i17 i18 (fun x s => nx (f14_l0_m i0 i4 i8 i9 i10 i11 i12 i13 i14 i15 i16 i17 i18 x) s) (fun i x s => K (.exit i) (f14_l0_m i0 i4 i8 i9 i10 i11 i12 i13 i14 i15 i16 i17 i18 x) s) (fun x s => K .ret (f14_l0_m i0 i4 i8 i9 i10 i11 i12 i13 i14 i15 i16 i17 i18 x) s) x s := by kernel_rfl
theorem f14_l0_e (C : OracleJ H) (n : Nat) (i0 i4 i8 i9 i10 i11 i12 i13 i14 i15 i16 i17 i18 : Value) (m : Nat) (x : Value × Value × Value × Value) (s : St H) (K : Ex → List Value → St H → Option (List (Value × St H))) :
 iter (fun t s k => exec Tryd.prog false C n 14 none (cdp Tryd.f14 [1, 1, 1, 0, 1, 0, 0]) t s k) (scratch (cdp Tryd.f14 [1, 1, 1, 0, 1, 0, 0])) m (f14_l0_m i0 i4 i8 i9 i10 i11 i12 i13 i14 i15 i16 i17 i18 x) s K = iterS (f14_l0 (dOps (H := H) Tryd.prog) C n i4 i17 i18) (fun i x s => K (.exit i) (f14_l0_m i0 i4 i8 i9 i10 i11 i12 i13 i14 i15 i16 i17 i18 x) s) (fun x s => K .ret (f14_l0_m i0 i4 i8 i9 i10 i11 i12 i13 i14 i15 i16 i17 i18 x) s) m x s :=
   iter_eq (f14_l0_m i0 i4 i8 i9 i10 i11 i12 i13 i14 i15 i16 i17 i18) (f14_l0 (dOps (H := H) Tryd.prog) C n i4 i17 i18) (fun x s nx K => f14_l0_b C n i0 i4 i8 i9 i10 i11 i12 i13 i14 i15 i16 i17 i18 x s nx K) K m x s
noncomputable def f14 (O : Ops H) (C : OracleJ H) (n : Nat) (a0 : Value) (s : St H) : Option (List (Value × St H)) :=
 (O.len s 24 a0).bind fun v1 =>
 (O.bop .eql 3 v1 (Value.int IntKind.i64 0)).bind fun v2 =>
 (O.boolO v2).bind fun b3 => cond b3 (
 some [(.tuple #[(fzV 2 #[]), (Value.int IntKind.i64 2)], s)]) (
 (O.len s 24 a0).bind fun v4 =>
 (O.bop .gtr 3 v4 (Value.int IntKind.i64 120)).bind fun v5 =>
 (O.boolO v5).bind fun b6 => cond b6 (
 some [(.tuple #[(fzV 2 #[]), (Value.int IntKind.i64 4)], s)]) (
 (C (.fn 17) [] s).bind fun L7 => manyK L7 fun v8 s9 =>
 (O.len s9 24 a0).bind fun v10 =>
 iterS (f14_l0 O C n v8 a0 v10 )
 (fun i24 x25 s26 => (bif Nat.beq i24 1 then
 (C (.fn 20) [v8] s26).bind fun L29 => manyK L29 fun v30 s31 =>
 (O.extract v30 0).bind fun v32 =>
 (O.extract v30 1).bind fun v33 =>
 some [(.tuple #[v32, v33], s31)] else none))
 (fun x27 s28 => some [(.tuple #[x27.1, x27.2.1], s28)]) n ((fzV 2 #[]), (Value.int IntKind.i64 0), undefV, (Value.int IntKind.i64 0)) s9))
theorem f14_l0_k (C : OracleJ H) (n : Nat) (i0 i4 i8 i9 i10 i11 i12 i13 i14 i15 i16 i17 i18 : Value) (i : Nat) (x : Value × Value × Value × Value) (s : St H) : (kBlock 1 (kSeq Tryd.prog false C n 14 none (cdp Tryd.f14 [1, 1, 1, 1]) (kFun Tryd.prog Tryd.f14))) (.exit i) (f14_l0_m i0 i4 i8 i9 i10 i11 i12 i13 i14 i15 i16 i17 i18 x) s =
 (bif Nat.beq i 1 then
 (C (.fn 20) [i4] s).bind fun L49 => manyK L49 fun v50 s51 =>
 ((dOps (H := H) Tryd.prog).extract v50 0).bind fun v52 =>
 ((dOps (H := H) Tryd.prog).extract v50 1).bind fun v53 =>
 some [(.tuple #[v52, v53], s51)] else none) := by kernel_rfl
theorem f14_r (C : OracleJ H) (n : Nat) (a0 : Value) (s : St H) : bodyD Tryd.prog false C n 14 Tryd.f14 [a0] s = f14 (dOps (H := H) Tryd.prog) C n a0 s := by
  have h1 : bodyD Tryd.prog false C n 14 Tryd.f14 [a0] s =
 ((dOps (H := H) Tryd.prog).len s 24 a0).bind fun v34 =>
 ((dOps (H := H) Tryd.prog).bop .eql 3 v34 (Value.int IntKind.i64 0)).bind fun v35 =>
 ((dOps (H := H) Tryd.prog).boolO v35).bind fun b36 => cond b36 (
 some [(.tuple #[(fzV 2 #[]), (Value.int IntKind.i64 2)], s)]) (
 ((dOps (H := H) Tryd.prog).len s 24 a0).bind fun v37 =>
 ((dOps (H := H) Tryd.prog).bop .gtr 3 v37 (Value.int IntKind.i64 120)).bind fun v38 =>
 ((dOps (H := H) Tryd.prog).boolO v38).bind fun b39 => cond b39 (
 some [(.tuple #[(fzV 2 #[]), (Value.int IntKind.i64 4)], s)]) (
 (C (.fn 17) [] s).bind fun L40 => manyK L40 fun v41 s42 =>
 ((dOps (H := H) Tryd.prog).len s42 24 a0).bind fun v43 =>
 iter (fun t s k => exec Tryd.prog false C n 14 none (cdp Tryd.f14 [1, 1, 1, 0, 1, 0, 0]) t s k) (scratch (cdp Tryd.f14 [1, 1, 1, 0, 1, 0, 0])) n (f14_l0_m a0 v41 v35 a0 v34 v35 v38 a0 v37 v38 v41 a0 v43 ((fzV 2 #[]), (Value.int IntKind.i64 0), undefV, (Value.int IntKind.i64 0))) s42 (kBlock 1 (kSeq Tryd.prog false C n 14 none (cdp Tryd.f14 [1, 1, 1, 1]) (kFun Tryd.prog Tryd.f14))))) := by kernel_rfl
  rw [h1]
  simp only [f14_l0_e, f14_l0_k]
  show _ = f14 (dOps (H := H) Tryd.prog) C n a0 s
  kernel_rfl
/-! tidepole/chunk.New -/
noncomputable def f17 (O : Ops H) (C : OracleJ H) (n : Nat) (s : St H) : Option (List (Value × St H)) :=
 (C (.fn 44) [] s).bind fun L1 => manyK L1 fun v2 s3 =>
 (O.build 104 [(1, v2)]).bind fun v4 =>
 (C (.fn 45) [] s3).bind fun L5 => manyK L5 fun v6 s7 =>
 (O.build 108 [(0, v4), (1, v6)]).bind fun v8 =>
 (O.box s7 v8).bind fun p9 =>
 some [(p9.1, p9.2)]
theorem f17_r (C : OracleJ H) (n : Nat) (s : St H) : bodyD Tryd.prog false C n 17 Tryd.f17 [] s = f17 (dOps (H := H) Tryd.prog) C n s := by kernel_rfl
/-! (*tidepole/chunk.Builder).Add -/
noncomputable def f18 (O : Ops H) (C : OracleJ H) (n : Nat) (a0 : Value) (a1 : Value) (s : St H) : Option (List (Value × St H)) :=
 (O.box s a1).bind fun p1 =>
 (C (.fn 46) [a0] p1.2).bind fun L2 => manyK L2 fun v3 s4 =>
 (O.uop .not v3).bind fun v5 =>
 (O.boolO v5).bind fun b6 => cond b6 (
 some [((Value.int IntKind.i64 1), s4)]) (
 (O.nilCheck a0).bind fun v7 =>
 (O.fieldAddr 108 v7 0).bind fun v8 =>
 (O.fieldAddr 104 v8 0).bind fun v9 =>
 (O.fieldAddr 102 v9 0).bind fun v10 =>
 (O.load s4 3 v10).bind fun v11 =>
 (O.bop .eql 3 v11 (Value.int IntKind.i64 120)).bind fun v12 =>
 (O.boolO v12).bind fun b13 => cond b13 (
 some [((Value.int IntKind.i64 4), s4)]) (
 (O.nilCheck a0).bind fun v14 =>
 (O.fieldAddr 108 v14 0).bind fun v15 =>
 (O.fieldAddr 40 p1.1 0).bind fun v16 =>
 (O.load s4 3 v16).bind fun v17 =>
 (oneO C (.fn 47) [v15, v17] s4).bind fun p18 =>
 (O.uop .not p18.1).bind fun v19 =>
 (O.boolO v19).bind fun b20 => cond b20 (
 some [((Value.int IntKind.i64 60), p18.2)]) (
 (O.nilCheck a0).bind fun v21 =>
 (O.fieldAddr 108 v21 1).bind fun v22 =>
 (O.load p18.2 105 v22).bind fun v23 =>
 (O.nilCheck a0).bind fun v24 =>
 (O.fieldAddr 108 v24 0).bind fun v25 =>
 (O.fieldAddr 104 v25 0).bind fun v26 =>
 (O.load p18.2 102 v26).bind fun v27 =>
 (O.fieldAddr 40 p1.1 0).bind fun v28 =>
 (O.load p18.2 3 v28).bind fun v29 =>
 (oneO C (.fn 48) [v23, v27, v29] p18.2).bind fun p30 =>
 (O.extract p30.1 0).bind fun v31 =>
 (O.extract p30.1 1).bind fun v32 =>
 (O.nilCheck a0).bind fun v33 =>
 (O.fieldAddr 108 v33 0).bind fun v34 =>
 (O.fieldAddr 104 v34 0).bind fun v35 =>
 (O.store p30.2 102 v35 v31).bind fun s36 =>
 (O.nilCheck a0).bind fun v37 =>
 (O.fieldAddr 108 v37 1).bind fun v38 =>
 (O.load s36 105 v38).bind fun v39 =>
 (O.nilCheck a0).bind fun v40 =>
 (O.fieldAddr 108 v40 0).bind fun v41 =>
 (O.fieldAddr 104 v41 1).bind fun v42 =>
 (O.load s36 100 v42).bind fun v43 =>
 (O.fieldAddr 40 p1.1 1).bind fun v44 =>
 (O.load s36 38 v44).bind fun v45 =>
 (oneO C (.fn 49) [v39, v43, v45] s36).bind fun p46 =>
 (O.extract p46.1 0).bind fun v47 =>
 (O.extract p46.1 1).bind fun v48 =>
 (O.nilCheck a0).bind fun v49 =>
 (O.fieldAddr 108 v49 0).bind fun v50 =>
 (O.fieldAddr 104 v50 1).bind fun v51 =>
 (O.store p46.2 100 v51 v47).bind fun s52 =>
 some [((Value.int IntKind.i64 0), s52)])))
theorem f18_r (C : OracleJ H) (n : Nat) (a0 : Value) (a1 : Value) (s : St H) : bodyD Tryd.prog false C n 18 Tryd.f18 [a0, a1] s = f18 (dOps (H := H) Tryd.prog) C n a0 a1 s := by kernel_rfl
/-! (*tidepole/chunk.Builder).Bytes -/
noncomputable def f20 (O : Ops H) (C : OracleJ H) (n : Nat) (a0 : Value) (s : St H) : Option (List (Value × St H)) :=
 (C (.fn 46) [a0] s).bind fun L1 => manyK L1 fun v2 s3 =>
 (O.uop .not v2).bind fun v4 =>
 (O.boolO v4).bind fun b5 => cond b5 (
 some [(.tuple #[(fzV 2 #[]), (Value.int IntKind.i64 1)], s3)]) (
 (O.nilCheck a0).bind fun v6 =>
 (O.fieldAddr 108 v6 0).bind fun v7 =>
 (O.fieldAddr 104 v7 0).bind fun v8 =>
 (O.fieldAddr 102 v8 0).bind fun v9 =>
 (O.load s3 3 v9).bind fun v10 =>
 (O.bop .eql 3 v10 (Value.int IntKind.i64 0)).bind fun v11 =>
 (O.boolO v11).bind fun b12 => cond b12 (
 some [(.tuple #[(fzV 2 #[]), (Value.int IntKind.i64 2)], s3)]) (
 (O.nilCheck a0).bind fun v13 =>
 (O.fieldAddr 108 v13 0).bind fun v14 =>
 (O.fieldAddr 104 v14 0).bind fun v15 =>
 (O.fieldAddr 102 v15 0).bind fun v16 =>
 (O.load s3 3 v16).bind fun v17 =>
 (O.conv false s3 3 38 v17).bind fun p18 =>
 (oneO C (.fn 51) [(fzV 2 #[]), p18.1] p18.2).bind fun p19 =>
 (O.nilCheck a0).bind fun v20 =>
 (O.fieldAddr 108 v20 1).bind fun v21 =>
 (O.load p19.2 105 v21).bind fun v22 =>
 (oneO C (.fn 52) [v22] p19.2).bind fun p23 =>
 (oneO C (.fn 50) [p19.1, p23.1] p23.2).bind fun p24 =>
 (O.extract p24.1 0).bind fun v25 =>
 (O.extract p24.1 1).bind fun v26 =>
 bif (eqO H (O.load s3 105 v21) v22 && (eqO H (O.load p19.2 105 v21) v22 && (true))) && (true) then
 (C (.fn 53) [v25] p24.2).bind fun L27 => manyK L27 fun v28 s29 =>
 some [(.tuple #[v28, v26], s29)]
 else none))
theorem f20_r (C : OracleJ H) (n : Nat) (a0 : Value) (s : St H) : bodyD Tryd.prog false C n 20 Tryd.f20 [a0] s = f20 (dOps (H := H) Tryd.prog) C n a0 s := by kernel_rfl
/-! tidepole/tidepolelaw08.rising -/
/-! tidepole/chunk.Cut -/
/-! tidepole/chunk.Join -/
/-! tidepole/tidepolebase.Among -/
/-! tidepole/chunk.look -/
noncomputable def f27 (O : Ops H) (C : OracleJ H) (n : Nat) (a0 : Value) (a1 : Value) (s : St H) : Option (List (Value × St H)) :=
 (O.alloc s 61).bind fun p1 =>
 (C (.fn 57) [a0, a1] p1.2).bind fun L2 => manyK L2 fun v3 s4 =>
 (O.extract v3 0).bind fun v5 =>
 (O.extract v3 1).bind fun v6 =>
 (O.extract v3 2).bind fun v7 =>
 (O.bop .neq 25 v7 (Value.int IntKind.i64 0)).bind fun v8 =>
 (O.boolO v8).bind fun b9 => cond b9 (
 (O.build 61 []).bind fun v10 =>
 (O.store s4 61 p1.1 v10).bind fun s11 =>
 (O.load s11 61 p1.1).bind fun v12 => some [(.tuple #[v12, v7], s11)]) (
 (C (.fn 57) [a0, v6] s4).bind fun L13 => manyK L13 fun v14 s15 =>
 (O.extract v14 0).bind fun v16 =>
 (O.extract v14 1).bind fun v17 =>
 (O.extract v14 2).bind fun v18 =>
 (O.len s15 22 a0).bind fun v19 =>
 (O.bop .sub 3 v19 v17).bind fun v20 =>
 (O.conv false s15 3 38 v20).bind fun p21 =>
 (O.bop .neq 25 v18 (Value.int IntKind.i64 0)).bind fun v22 =>
 (O.boolO v22).bind fun b23 => cond b23 (
 (O.build 61 []).bind fun v24 =>
 (O.store p21.2 61 p1.1 v24).bind fun s25 =>
 (O.load s25 61 p1.1).bind fun v26 => some [(.tuple #[v26, v18], s25)]) (
 jn (fun (j242_42 : Value) =>
 (O.boolO j242_42).bind fun b33 => cond b33 (
 (O.build 61 []).bind fun v34 =>
 (O.store p21.2 61 p1.1 v34).bind fun s35 =>
 (O.load s35 61 p1.1).bind fun v36 => some [(.tuple #[v36, (Value.int IntKind.i64 80)], s35)]) (
 jn (fun (j246_50 : Value) =>
 (O.boolO j246_50).bind fun b44 => cond b44 (
 (O.build 61 []).bind fun v45 =>
 (O.store p21.2 61 p1.1 v45).bind fun s46 =>
 (O.load s46 61 p1.1).bind fun v47 => some [(.tuple #[v47, (Value.int IntKind.i64 7)], s46)]) (
 (O.conv false p21.2 38 3 v5).bind fun p48 =>
 (O.conv false p48.2 38 3 v16).bind fun p49 =>
 (O.bop .add 3 v17 p49.1).bind fun v50 =>
 (O.build 61 [(0, p48.1), (1, v17), (2, v50)]).bind fun v51 =>
 (O.alloc p49.2 61).bind fun p52 =>
 (O.store p52.2 61 p52.1 v51).bind fun s53 =>
 (O.fieldAddr 61 p52.1 2).bind fun v54 =>
 (O.load s53 3 v54).bind fun v55 =>
 (O.bop .add 3 v55 (Value.int IntKind.i64 4)).bind fun v56 =>
 (O.slc s53 22 a0 (some a1) (some v56) none).bind fun v57 =>
 (C (.fn 58) [v57] s53).bind fun L58 => manyK L58 fun v59 s60 =>
 (O.extract v59 0).bind fun v61 =>
 (O.extract v59 1).bind fun v62 =>
 (O.uop .not v62).bind fun v63 =>
 (O.boolO v63).bind fun b64 => cond b64 (
 (O.build 61 []).bind fun v65 =>
 (O.store s60 61 p1.1 v65).bind fun s66 =>
 (O.load s66 61 p1.1).bind fun v67 => some [(.tuple #[v67, (Value.int IntKind.i64 80)], s66)]) (
 (O.load s60 61 p52.1).bind fun v68 =>
 (O.store s60 61 p1.1 v68).bind fun s69 =>
 (O.load s69 61 p1.1).bind fun v70 => some [(.tuple #[v70, v18], s69)]))) fun k246 =>
 (O.bop .gtr 38 v16 p21.1).bind fun v37 =>
 gd v37 (
 k246 (.bool true)) (
 (O.bop .sub 38 p21.1 v16).bind fun v38 =>
 (O.bop .lss 38 v38 (Value.int IntKind.u64 4)).bind fun v39 =>
 k246 v39) (
 none))) fun k242 =>
 (O.bop .lss 38 v5 (Value.int IntKind.u64 1)).bind fun v27 =>
 gd v27 (
 k242 (.bool true)) (
 (O.bop .gtr 38 v5 (Value.int IntKind.u64 120)).bind fun v28 =>
 k242 v28) (
 none)))
theorem f27_r (C : OracleJ H) (n : Nat) (a0 : Value) (a1 : Value) (s : St H) : bodyD Tryd.prog false C n 27 Tryd.f27 [a0, a1] s = f27 (dOps (H := H) Tryd.prog) C n a0 a1 s := by kernel_rfl
/-! tidepole/bits.NewReader -/
noncomputable def f28 (O : Ops H) (C : OracleJ H) (n : Nat) (a0 : Value) (s : St H) : Option (List (Value × St H)) :=
 (O.buildSlice false s 22 0 []).bind fun p1 =>
 (O.append false p1.2 22 22 p1.1 a0).bind fun p2 =>
 (O.build 120 [(0, p2.1), (2, (.bool true))]).bind fun v3 =>
 (O.box p2.2 v3).bind fun p4 =>
 some [(p4.1, p4.2)]
theorem f28_r (C : OracleJ H) (n : Nat) (a0 : Value) (s : St H) : bodyD Tryd.prog false C n 28 Tryd.f28 [a0] s = f28 (dOps (H := H) Tryd.prog) C n a0 s := by kernel_rfl
/-! slices.Collect[tidepole/api.Sample] -/
noncomputable def f29 (O : Ops H) (C : OracleJ H) (n : Nat) (a0 : Value) (s : St H) : Option (List (Value × St H)) :=
 (C (.fn 59) [(fzV 2 #[]), a0] s).bind fun L1 => manyK L1 fun v2 s3 =>
 some [(v2, s3)]
theorem f29_r (C : OracleJ H) (n : Nat) (a0 : Value) (s : St H) : bodyD Tryd.prog false C n 29 Tryd.f29 [a0] s = f29 (dOps (H := H) Tryd.prog) C n a0 s := by kernel_rfl
/-! tidepole/chunk.samples -/
noncomputable def f30 (O : Ops H) (C : OracleJ H) (n : Nat) (a0 : Value) (a1 : Value) (s : St H) : Option (List (Value × St H)) :=
 (O.box s a0).bind fun p1 =>
 (O.box p1.2 a1).bind fun p2 =>
 some [((.func (.func 60) #[] #[p2.1, p1.1]), p2.2)]
theorem f30_r (C : OracleJ H) (n : Nat) (a0 : Value) (a1 : Value) (s : St H) : bodyD Tryd.prog false C n 30 Tryd.f30 [a0, a1] s = f30 (dOps (H := H) Tryd.prog) C n a0 a1 s := by kernel_rfl
/-! tidepole/chunk.clean -/
noncomputable def f31 (O : Ops H) (C : OracleJ H) (n : Nat) (a0 : Value) (s : St H) : Option (List (Value × St H)) :=
 (C (.fn 63) [a0] s).bind fun L1 => manyK L1 fun v2 s3 =>
 (O.bop .geq 3 v2 (Value.int IntKind.i64 8)).bind fun v4 =>
 (O.boolO v4).bind fun b5 => cond b5 (
 some [((.bool false), s3)]) (
 (C (.fn 64) [a0, v2] s3).bind fun L6 => manyK L6 fun v7 s8 =>
 (O.extract v7 0).bind fun v9 =>
 (O.extract v7 1).bind fun v10 =>
 (O.bop .eql 38 v9 (Value.int IntKind.u64 0)).bind fun v11 =>
 some [(v11, s8)])
theorem f31_r (C : OracleJ H) (n : Nat) (a0 : Value) (s : St H) : bodyD Tryd.prog false C n 31 Tryd.f31 [a0] s = f31 (dOps (H := H) Tryd.prog) C n a0 s := by kernel_rfl
/-! tidepole/xor.Begin -/
noncomputable def f44 (O : Ops H) (C : OracleJ H) (n : Nat) (s : St H) : Option (List (Value × St H)) :=
 (O.alloc s 100).bind fun p1 =>
 (O.build 100 [(2, (Value.int IntKind.i64 64))]).bind fun v2 =>
 (O.store p1.2 100 p1.1 v2).bind fun s3 =>
 (O.load s3 100 p1.1).bind fun v4 => some [(v4, s3)]
theorem f44_r (C : OracleJ H) (n : Nat) (s : St H) : bodyD Tryd.prog false C n 44 Tryd.f44 [] s = f44 (dOps (H := H) Tryd.prog) C n s := by kernel_rfl
/-! tidepole/bits.NewWriter -/
noncomputable def f45 (O : Ops H) (C : OracleJ H) (n : Nat) (s : St H) : Option (List (Value × St H)) :=
 (O.build 138 [(2, (.bool true))]).bind fun v1 =>
 (O.build 140 [(0, v1)]).bind fun v2 =>
 (O.box s v2).bind fun p3 =>
 some [(p3.1, p3.2)]
theorem f45_r (C : OracleJ H) (n : Nat) (s : St H) : bodyD Tryd.prog false C n 45 Tryd.f45 [] s = f45 (dOps (H := H) Tryd.prog) C n s := by kernel_rfl
/-! (*tidepole/chunk.Builder).is -/
noncomputable def f46 (O : Ops H) (C : OracleJ H) (n : Nat) (a0 : Value) (s : St H) : Option (List (Value × St H)) :=
 (O.bop .neq 36 a0 (Go.Value.pointer none)).bind fun v1 =>
 gd v1 (
 (O.nilCheck a0).bind fun v2 =>
 (O.fieldAddr 108 v2 1).bind fun v3 =>
 (O.load s 105 v3).bind fun v4 =>
 (O.bop .neq 105 v4 (Go.Value.pointer none)).bind fun v5 =>
 some [(v5, s)]) (
 some [((.bool false), s)]) (
 none)
theorem f46_r (C : OracleJ H) (n : Nat) (a0 : Value) (s : St H) : bodyD Tryd.prog false C n 46 Tryd.f46 [a0] s = f46 (dOps (H := H) Tryd.prog) C n a0 s := by kernel_rfl
/-! (*tidepole/chunk.states).may -/
noncomputable def f47 (O : Ops H) (C : OracleJ H) (n : Nat) (a0 : Value) (a1 : Value) (s : St H) : Option (List (Value × St H)) :=
 (O.bop .geq 3 a1 (Value.int IntKind.i64 0)).bind fun v1 =>
 gd v1 (
 (O.bop .leq 3 a1 (Value.int IntKind.i64 35184372088832)).bind fun v2 =>
 gd v2 (
 (O.nilCheck a0).bind fun v3 =>
 (O.fieldAddr 104 v3 0).bind fun v4 =>
 (O.fieldAddr 102 v4 0).bind fun v5 =>
 (O.load s 3 v5).bind fun v6 =>
 (O.bop .eql 3 v6 (Value.int IntKind.i64 0)).bind fun v7 =>
 gd v7 (
 some [((.bool true), s)]) (
 (O.nilCheck a0).bind fun v8 =>
 (O.fieldAddr 104 v8 0).bind fun v9 =>
 (O.fieldAddr 102 v9 1).bind fun v10 =>
 (O.load s 3 v10).bind fun v11 =>
 (O.bop .gtr 3 a1 v11).bind fun v12 =>
 some [(v12, s)]) (
 none)) (
 some [((.bool false), s)]) (
 none)) (
 some [((.bool false), s)]) (
 none)
theorem f47_r (C : OracleJ H) (n : Nat) (a0 : Value) (a1 : Value) (s : St H) : bodyD Tryd.prog false C n 47 Tryd.f47 [a0, a1] s = f47 (dOps (H := H) Tryd.prog) C n a0 a1 s := by kernel_rfl
/-! tidepole/stamp.Put -/
noncomputable def f48 (O : Ops H) (C : OracleJ H) (n : Nat) (a0 : Value) (a1 : Value) (a2 : Value) (s : St H) : Option (List (Value × St H)) :=
 (O.box s a1).bind fun p1 =>
 (O.alloc p1.2 102).bind fun p2 =>
 (O.load p2.2 102 p1.1).bind fun v3 =>
 (C (.fn 73) [v3, a2] p2.2).bind fun L4 => manyK L4 fun v5 s6 =>
 (O.extract v5 0).bind fun v7 =>
 (O.extract v5 1).bind fun v8 =>
 (O.alloc s6 102).bind fun p9 =>
 (O.store p9.2 102 p9.1 v7).bind fun s10 =>
 jn (fun (j279_26 : Value) (js279 : St H) =>
 (O.boolO j279_26).bind fun b21 => cond b21 (
 (O.build 102 []).bind fun v22 =>
 (O.store js279 102 p2.1 v22).bind fun s23 =>
 (O.load s23 102 p2.1).bind fun v24 => some [(.tuple #[v24, (Value.int IntKind.i64 60)], s23)]) (
 (O.fieldAddr 102 p1.1 0).bind fun v25 =>
 (O.load js279 3 v25).bind fun v26 =>
 (O.bop .eql 3 v26 (Value.int IntKind.i64 0)).bind fun v27 =>
 (O.boolO v27).bind fun b28 => cond b28 (
 (O.load js279 102 p9.1).bind fun v29 =>
 (O.conv false js279 3 38 a2).bind fun p30 =>
 (oneO C (.fn 76) [a0, p30.1, (Value.int IntKind.i64 46)] p30.2).bind fun p31 =>
 (oneO C (.fn 75) [v29, p31.1] p31.2).bind fun p32 =>
 (O.extract p32.1 0).bind fun v33 =>
 (O.extract p32.1 1).bind fun v34 =>
 (O.store p32.2 102 p2.1 v33).bind fun s35 =>
 bif (eqO H (O.load js279 102 p9.1) v29 && (eqO H (O.load p31.2 102 p9.1) v29 && (true))) && (true) then
 (O.load s35 102 p2.1).bind fun v36 => some [(.tuple #[v36, v34], s35)]
 else none) (
 (O.fieldAddr 102 p9.1 2).bind fun v37 =>
 (O.load js279 3 v37).bind fun v38 =>
 (O.fieldAddr 102 p1.1 2).bind fun v39 =>
 (O.load js279 3 v39).bind fun v40 =>
 (O.bop .sub 3 v38 v40).bind fun v41 =>
 (O.bop .shl 3 v41 (Value.int IntKind.u64 1)).bind fun v42 =>
 (O.bop .shr 3 v41 (Value.int IntKind.u64 63)).bind fun v43 =>
 (O.bop .xor 3 v42 v43).bind fun v44 =>
 (O.conv false js279 3 38 v44).bind fun p45 =>
 (C (.fn 77) [p45.1] p45.2).bind fun L46 => manyK L46 fun v47 s48 =>
 (O.indexAddr 148 (gpV 0 0) v47).bind fun v49 =>
 (O.load s48 147 v49).bind fun v50 =>
 (O.alloc s48 147).bind fun p51 =>
 (O.store p51.2 147 p51.1 v50).bind fun s52 =>
 (O.fieldAddr 147 p51.1 0).bind fun v53 =>
 (O.load s52 3 v53).bind fun v54 =>
 (O.bop .shl 38 (Value.int IntKind.u64 1) v54).bind fun v55 =>
 (O.bop .sub 38 v55 (Value.int IntKind.u64 1)).bind fun v56 =>
 (O.fieldAddr 147 p51.1 1).bind fun v57 =>
 (O.load s52 3 v57).bind fun v58 =>
 (O.bop .shl 38 v56 v58).bind fun v59 =>
 (O.fieldAddr 147 p51.1 0).bind fun v60 =>
 (O.load s52 3 v60).bind fun v61 =>
 (O.fieldAddr 147 p51.1 1).bind fun v62 =>
 (O.load s52 3 v62).bind fun v63 =>
 (O.bop .add 3 v61 v63).bind fun v64 =>
 (oneO C (.fn 76) [a0, v59, v64] s52).bind fun p65 =>
 (O.bop .neq 25 p65.1 (Value.int IntKind.i64 0)).bind fun v66 =>
 (O.boolO v66).bind fun b67 => cond b67 (
 (O.build 102 []).bind fun v68 =>
 (O.store p65.2 102 p2.1 v68).bind fun s69 =>
 (O.load s69 102 p2.1).bind fun v70 => some [(.tuple #[v70, p65.1], s69)]) (
 (O.load p65.2 102 p9.1).bind fun v71 =>
 (O.fieldAddr 147 p51.1 2).bind fun v72 =>
 (O.load p65.2 3 v72).bind fun v73 =>
 (oneO C (.fn 76) [a0, p45.1, v73] p65.2).bind fun p74 =>
 (oneO C (.fn 75) [v71, p74.1] p74.2).bind fun p75 =>
 (O.extract p75.1 0).bind fun v76 =>
 (O.extract p75.1 1).bind fun v77 =>
 (O.store p75.2 102 p2.1 v76).bind fun s78 =>
 bif (eqO H (O.load p65.2 102 p9.1) v71 && (eqO H (O.load p74.2 102 p9.1) v71 && (true))) && (true) then
 (O.load s78 102 p2.1).bind fun v79 => some [(.tuple #[v79, v77], s78)]
 else none)))) fun k279 =>
 (O.uop .not v8).bind fun v11 =>
 gd v11 (
 k279 (.bool true) s10) (
 (O.load s10 102 p1.1).bind fun v12 =>
 (C (.fn 74) [v12] s10).bind fun L13 => manyK L13 fun v14 s15 =>
 (O.uop .not v14).bind fun v16 =>
 k279 v16 s15) (
 none)
theorem f48_r (C : OracleJ H) (n : Nat) (a0 : Value) (a1 : Value) (a2 : Value) (s : St H) : bodyD Tryd.prog false C n 48 Tryd.f48 [a0, a1, a2] s = f48 (dOps (H := H) Tryd.prog) C n a0 a1 a2 s := by kernel_rfl
/-! tidepole/xor.Put -/
noncomputable def f49 (O : Ops H) (C : OracleJ H) (n : Nat) (a0 : Value) (a1 : Value) (a2 : Value) (s : St H) : Option (List (Value × St H)) :=
 (O.box s a1).bind fun p1 =>
 (O.alloc p1.2 100).bind fun p2 =>
 (O.load p2.2 100 p1.1).bind fun v3 =>
 (C (.fn 78) [v3] p2.2).bind fun L4 => manyK L4 fun v5 s6 =>
 (O.uop .not v5).bind fun v7 =>
 (O.boolO v7).bind fun b8 => cond b8 (
 (O.build 100 []).bind fun v9 =>
 (O.store s6 100 p2.1 v9).bind fun s10 =>
 (O.load s10 100 p2.1).bind fun v11 => some [(.tuple #[v11, (Value.int IntKind.i64 2)], s10)]) (
 (O.fieldAddr 100 p1.1 1).bind fun v12 =>
 (O.load s6 38 v12).bind fun v13 =>
 (O.bop .xor 38 a2 v13).bind fun v14 =>
 (O.load s6 100 p1.1).bind fun v15 =>
 (oneO C (.fn 79) [v15] s6).bind fun p16 =>
 (O.alloc p16.2 151).bind fun p17 =>
 (O.store p17.2 151 p17.1 p16.1).bind fun s18 =>
 bif (eqO H (O.load s6 100 p1.1) v15 && (eqO H (O.load p16.2 100 p1.1) v15 && (true))) && ((eqO H (O.load s6 38 v12) v13 && (eqO H (O.load p16.2 38 v12) v13 && (eqO H (O.load p17.2 38 v12) v13 && (true)))) && (true)) then
 (O.fieldAddr 100 p1.1 0).bind fun v19 =>
 (O.load s18 3 v19).bind fun v20 =>
 (O.bop .eql 3 v20 (Value.int IntKind.i64 0)).bind fun v21 =>
 jn (fun (j302_10 : Value) (js302 : St H) =>
 (O.bop .neq 25 j302_10 (Value.int IntKind.i64 0)).bind fun v70 =>
 (O.boolO v70).bind fun b71 => cond b71 (
 (O.build 100 []).bind fun v72 =>
 (O.store js302 100 p2.1 v72).bind fun s73 =>
 (O.load s73 100 p2.1).bind fun v74 => some [(.tuple #[v74, j302_10], s73)]) (
 (O.load js302 100 p1.1).bind fun v75 =>
 (O.load js302 151 p17.1).bind fun v76 =>
 (C (.fn 84) [v75, a2, v76] js302).bind fun L77 => manyK L77 fun v78 s79 =>
 (O.store s79 100 p2.1 v78).bind fun s80 =>
 (O.load s80 100 p2.1).bind fun v81 => some [(.tuple #[v81, j302_10], s80)])) fun k302 =>
 (O.boolO v21).bind fun b22 => cond b22 (
 (O.build 155 [(0, a2), (1, (Value.int IntKind.i64 64))]).bind fun v23 =>
 (O.buildSlice false s18 170 1 [(0, v23)]).bind fun p24 =>
 (C (.fn 80) [a0, p24.1] p24.2).bind fun L25 => manyK L25 fun v26 s27 =>
 k302 v26 s27) (
 (O.bop .eql 38 v14 (Value.int IntKind.u64 0)).bind fun v28 =>
 jn (fun (j305_10 : Value) (js305 : St H) =>
 k302 j305_10 js305) fun k305 =>
 (O.boolO v28).bind fun b29 => cond b29 (
 (O.build 155 [(0, (Value.int IntKind.u64 0)), (1, (Value.int IntKind.i64 1))]).bind fun v30 =>
 (O.buildSlice false s18 170 1 [(0, v30)]).bind fun p31 =>
 (C (.fn 80) [a0, p31.1] p31.2).bind fun L32 => manyK L32 fun v33 s34 =>
 k305 v33 s34) (
 (O.load s18 151 p17.1).bind fun v35 =>
 (oneO C (.fn 82) [v14] s18).bind fun p36 =>
 (oneO C (.fn 81) [v35, p36.1] p36.2).bind fun p37 =>
 bif (eqO H (O.load s18 151 p17.1) v35 && (eqO H (O.load p36.2 151 p17.1) v35 && (true))) && (true) then
 jn (fun (j308_10 : Value) (js308 : St H) =>
 k305 j308_10 js308) fun k308 =>
 (O.boolO p37.1).bind fun b38 => cond b38 (
 (O.build 155 [(0, (Value.int IntKind.u64 2)), (1, (Value.int IntKind.i64 2))]).bind fun v39 =>
 (O.fieldAddr 151 p17.1 1).bind fun v40 =>
 (O.load p37.2 3 v40).bind fun v41 =>
 (O.bop .shr 38 v14 v41).bind fun v42 =>
 (O.load p37.2 151 p17.1).bind fun v43 =>
 (oneO C (.fn 83) [v43] p37.2).bind fun p44 =>
 (O.build 155 [(0, v42), (1, p44.1)]).bind fun v45 =>
 (O.buildSlice false p44.2 170 2 [(0, v39), (1, v45)]).bind fun p46 =>
 (oneO C (.fn 80) [a0, p46.1] p46.2).bind fun p47 =>
 bif (eqO H (O.load p37.2 3 v40) v41 && (eqO H (O.load p44.2 3 v40) v41 && (true))) && (true) then
 k308 p47.1 p47.2
 else none) (
 (C (.fn 82) [v14] p37.2).bind fun L48 => manyK L48 fun v49 s50 =>
 (O.store s50 151 p17.1 v49).bind fun s51 =>
 (O.build 155 [(0, (Value.int IntKind.u64 3)), (1, (Value.int IntKind.i64 2))]).bind fun v52 =>
 (O.fieldAddr 151 p17.1 0).bind fun v53 =>
 (O.load s51 3 v53).bind fun v54 =>
 (O.conv false s51 3 38 v54).bind fun p55 =>
 (O.build 155 [(0, p55.1), (1, (Value.int IntKind.i64 6))]).bind fun v56 =>
 (O.load p55.2 151 p17.1).bind fun v57 =>
 (oneO C (.fn 83) [v57] p55.2).bind fun p58 =>
 (O.bop .sub 3 p58.1 (Value.int IntKind.i64 1)).bind fun v59 =>
 (O.conv false p58.2 3 38 v59).bind fun p60 =>
 (O.build 155 [(0, p60.1), (1, (Value.int IntKind.i64 6))]).bind fun v61 =>
 (O.fieldAddr 151 p17.1 1).bind fun v62 =>
 (O.load p60.2 3 v62).bind fun v63 =>
 (O.bop .shr 38 v14 v63).bind fun v64 =>
 (O.load p60.2 151 p17.1).bind fun v65 =>
 (oneO C (.fn 83) [v65] p60.2).bind fun p66 =>
 (O.build 155 [(0, v64), (1, p66.1)]).bind fun v67 =>
 (O.buildSlice false p66.2 170 4 [(0, v52), (1, v56), (2, v61), (3, v67)]).bind fun p68 =>
 (oneO C (.fn 80) [a0, p68.1] p68.2).bind fun p69 =>
 bif (eqO H (O.load s51 151 p17.1) v65 && (eqO H (O.load p58.2 151 p17.1) v65 && (true))) && ((eqO H (O.load s51 3 v62) v63 && (eqO H (O.load p58.2 3 v62) v63 && (eqO H (O.load p66.2 3 v62) v63 && (true)))) && ((eqO H ((O.conv false p58.2 3 38 v59).map (·.1)) p60.1 && (eqO H ((O.conv false p66.2 3 38 v59).map (·.1)) p60.1 && (true))) && ((eqO H ((O.conv false s51 3 38 v54).map (·.1)) p55.1 && (eqO H ((O.conv false p58.2 3 38 v54).map (·.1)) p55.1 && (eqO H ((O.conv false p66.2 3 38 v54).map (·.1)) p55.1 && (true)))) && ((eqO H (O.load s51 3 v53) v54 && (eqO H (O.load p58.2 3 v53) v54 && (eqO H (O.load p66.2 3 v53) v54 && (true)))) && (true))))) then
 k308 p69.1 p69.2
 else none)
 else none))
 else none)
theorem f49_r (C : OracleJ H) (n : Nat) (a0 : Value) (a1 : Value) (a2 : Value) (s : St H) : bodyD Tryd.prog false C n 49 Tryd.f49 [a0, a1, a2] s = f49 (dOps (H := H) Tryd.prog) C n a0 a1 a2 s := by kernel_rfl
/-! tidepole/vint.PutBytes -/
noncomputable def f50 (O : Ops H) (C : OracleJ H) (n : Nat) (a0 : Value) (a1 : Value) (s : St H) : Option (List (Value × St H)) :=
 (O.len s 22 a1).bind fun v1 =>
 (O.bop .gtr 3 v1 (Value.int IntKind.i64 65536)).bind fun v2 =>
 (O.boolO v2).bind fun b3 => cond b3 (
 some [(.tuple #[(fzV 2 #[]), (Value.int IntKind.i64 3)], s)]) (
 (O.len s 22 a1).bind fun v4 =>
 (O.conv false s 3 38 v4).bind fun p5 =>
 (C (.fn 51) [a0, p5.1] p5.2).bind fun L6 => manyK L6 fun v7 s8 =>
 (O.append false s8 22 22 v7 a1).bind fun p9 =>
 some [(.tuple #[p9.1, (Value.int IntKind.i64 0)], p9.2)])
theorem f50_r (C : OracleJ H) (n : Nat) (a0 : Value) (a1 : Value) (s : St H) : bodyD Tryd.prog false C n 50 Tryd.f50 [a0, a1] s = f50 (dOps (H := H) Tryd.prog) C n a0 a1 s := by kernel_rfl
/-! tidepole/vint.Put -/
noncomputable def f51 (O : Ops H) (C : OracleJ H) (n : Nat) (a0 : Value) (a1 : Value) (s : St H) : Option (List (Value × St H)) :=
 (C (.fn 85) [a0, a1, (.func (.func 86) #[] #[])] s).bind fun L1 => manyK L1 fun v2 s3 =>
 some [(v2, s3)]
theorem f51_r (C : OracleJ H) (n : Nat) (a0 : Value) (a1 : Value) (s : St H) : bodyD Tryd.prog false C n 51 Tryd.f51 [a0, a1] s = f51 (dOps (H := H) Tryd.prog) C n a0 a1 s := by kernel_rfl
/-! (*tidepole/bits.Writer).Bytes -/
noncomputable def f52 (O : Ops H) (C : OracleJ H) (n : Nat) (a0 : Value) (s : St H) : Option (List (Value × St H)) :=
 (C (.fn 87) [a0] s).bind fun L1 => manyK L1 fun v2 s3 =>
 (O.uop .not v2).bind fun v4 =>
 (O.boolO v4).bind fun b5 => cond b5 (
 some [((fzV 2 #[]), s3)]) (
 (O.buildSlice false s3 22 0 []).bind fun p6 =>
 (O.nilCheck a0).bind fun v7 =>
 (O.fieldAddr 140 v7 0).bind fun v8 =>
 (O.fieldAddr 138 v8 0).bind fun v9 =>
 (O.load p6.2 22 v9).bind fun v10 =>
 (O.append false p6.2 22 22 p6.1 v10).bind fun p11 =>
 some [(p11.1, p11.2)])
theorem f52_r (C : OracleJ H) (n : Nat) (a0 : Value) (s : St H) : bodyD Tryd.prog false C n 52 Tryd.f52 [a0] s = f52 (dOps (H := H) Tryd.prog) C n a0 s := by kernel_rfl
/-! tidepole/crc.Sealed -/
noncomputable def f53 (O : Ops H) (C : OracleJ H) (n : Nat) (a0 : Value) (s : St H) : Option (List (Value × St H)) :=
 (C (.fn 89) [a0] s).bind fun L1 => manyK L1 fun v2 s3 =>
 (C (.fn 88) [a0, v2] s3).bind fun L4 => manyK L4 fun v5 s6 =>
 some [(v5, s6)]
theorem f53_r (C : OracleJ H) (n : Nat) (a0 : Value) (s : St H) : bodyD Tryd.prog false C n 53 Tryd.f53 [a0] s = f53 (dOps (H := H) Tryd.prog) C n a0 s := by kernel_rfl
/-! slices.Chunk[[]tidepole/api.Sample,tidepole/api.Sample] -/
/-! tidepole/vint.Read -/
def f57_l0_m (i0 i1 i10 i11 i13 i14 i15 i16 i17 i18 i19 i20 i21 : Value) (x : Value × Value × Value × Value × Value × Value × Value × Value) : List Value := [i0, i1, undefV, undefV, x.1, x.2.1, x.2.2.1, x.2.2.2.1, x.2.2.2.2.1, x.2.2.2.2.2.1, i10, i11, (.bool false), i13, i14, i15, i16, i17, i18, i19, i20, i21, x.2.2.2.2.2.2.1, dc, dc, dc, dc, x.2.2.2.2.2.2.2, dc, dc, dc, dc, dc, dc, dc, dc, dc, dc, dc, dc, dc, dc, dc, dc, dc, dc, dc, dc, dc, dc, dc, dc, dc, dc, dc, dc]
noncomputable def f57_l0 (O : Ops H) (C : OracleJ H) (n : Nat) (i1 i20 i21 : Value) (nx : (Value × Value × Value × Value × Value × Value × Value × Value) → St H → Option (List (Value × St H))) (kx : Nat → (Value × Value × Value × Value × Value × Value × Value × Value) → St H → Option (List (Value × St H))) (kr : (Value × Value × Value × Value × Value × Value × Value × Value) → St H → Option (List (Value × St H))) (x : Value × Value × Value × Value × Value × Value × Value × Value) (s : St H) : Option (List (Value × St H)) :=
 (O.bop .lss 3 x.2.2.2.2.2.2.1 i21).bind fun v9 =>
 (O.boolO v9).bind fun b10 => cond b10 (
 (O.indexAddr 22 i20 x.2.2.2.2.2.2.1).bind fun v11 =>
 (O.load s 5 v11).bind fun v12 =>
 jn (fun (j349_27 : Value) =>
 jn (fun (j356_27 : Value) =>
 (O.boolO j356_27).bind fun b24 => cond b24 (
 kr ((Value.int IntKind.u64 0), (Value.int IntKind.i64 0), (Value.int IntKind.i64 10), x.2.2.2.1, x.2.2.2.2.2.2.1, v12, x.2.2.2.2.2.2.1, j356_27) s) (
 (O.bop .and 5 v12 (Value.int IntKind.u8 127)).bind fun v25 =>
 (O.conv false s 5 38 v25).bind fun p26 =>
 (O.bop .mul 3 (Value.int IntKind.i64 7) x.2.2.2.2.2.2.1).bind fun v27 =>
 (O.bop .shl 38 p26.1 v27).bind fun v28 =>
 (O.bop .or 38 x.2.2.2.1 v28).bind fun v29 =>
 (O.bop .lss 5 v12 (Value.int IntKind.u8 128)).bind fun v30 =>
 (O.boolO v30).bind fun b31 => cond b31 (
 (O.bop .add 3 i1 x.2.2.2.2.2.2.1).bind fun v32 =>
 (O.bop .add 3 v32 (Value.int IntKind.i64 1)).bind fun v33 =>
 kr (v29, v33, (Value.int IntKind.i64 0), v29, x.2.2.2.2.2.2.1, v12, x.2.2.2.2.2.2.1, j356_27) p26.2) (
 (O.bop .add 3 x.2.2.2.2.2.2.1 (Value.int IntKind.i64 1)).bind fun v34 =>
 nx (x.1, x.2.1, x.2.2.1, v29, x.2.2.2.2.2.2.1, v12, v34, j356_27) p26.2))) fun k356 =>
 (O.boolO j349_27).bind fun b20 => cond b20 (
 k356 j349_27) (
 jn (fun (j357_27 : Value) =>
 k356 j357_27) fun k357 =>
 (O.bop .gtr 3 x.2.2.2.2.2.2.1 (Value.int IntKind.i64 0)).bind fun v21 =>
 gd v21 (
 (O.bop .eql 5 v12 (Value.int IntKind.u8 0)).bind fun v22 =>
 k357 v22) (
 k357 (.bool false)) (
 none))) fun k349 =>
 (O.bop .eql 3 x.2.2.2.2.2.2.1 (Value.int IntKind.i64 9)).bind fun v13 =>
 gd v13 (
 (O.bop .gtr 5 v12 (Value.int IntKind.u8 1)).bind fun v14 =>
 k349 v14) (
 k349 (.bool false)) (
 none)) (
 kx 0 (x.1, x.2.1, x.2.2.1, x.2.2.2.1, x.2.2.2.2.1, x.2.2.2.2.2.1, x.2.2.2.2.2.2.1, x.2.2.2.2.2.2.2) s)
theorem f57_l0_b (C : OracleJ H) (n : Nat) (i0 i1 i10 i11 i13 i14 i15 i16 i17 i18 i19 i20 i21 : Value) (x : Value × Value × Value × Value × Value × Value × Value × Value) (s : St H) (nx : List Value → St H → Option (List (Value × St H))) (K : Ex → List Value → St H → Option (List (Value × St H))) :
 exec Tryd.prog false C n 57 none (cdp Tryd.f57 [1, 1, 1, 0, 1, 0, 0]) (f57_l0_m i0 i1 i10 i11 i13 i14 i15 i16 i17 i18 i19 i20 i21 x) s (kIter (scratch (cdp Tryd.f57 [1, 1, 1, 0, 1, 0, 0])) nx K) = f57_l0 (dOps (H := H) Tryd.prog) C n i1 i20 i21 (fun x s => nx (f57_l0_m i0 i1 i10 i11 i13 i14 i15 i16 i17 i18 i19 i20 i21 x) s) (fun i x s => K (.exit i) (f57_l0_m i0 i1 i10 i11 i13 i14 i15 i16 i17 i18 i19 i20 i21 x) s) (fun x s => K .ret (f57_l0_m i0 i1 i10 i11 i13 i14 i15 i16 i17 i18 i19 i20 i21 x) s) x s := by kernel_rfl
theorem f57_l0_e (C : OracleJ H) (n : Nat) (i0 i1 i10 i11 i13 i14 i15 i16 i17 i18 i19 i20 i21 : Value) (m : Nat) (x : Value × Value × Value × Value × Value × Value × Value × Value) (s : St H) (K : Ex → List Value → St H → Option (List (Value × St H))) :
 iter (fun t s k => exec Tryd.prog false C n 57 none (cdp Tryd.f57 [1, 1, 1, 0, 1, 0, 0]) t s k) (scratch (cdp Tryd.f57 [1, 1, 1, 0, 1, 0, 0])) m (f57_l0_m i0 i1 i10 i11 i13 i14 i15 i16 i17 i18 i19 i20 i21 x) s K = iterS (f57_l0 (dOps (H := H) Tryd.prog) C n i1 i20 i21) (fun i x s => K (.exit i) (f57_l0_m i0 i1 i10 i11 i13 i14 i15 i16 i17 i18 i19 i20 i21 x) s) (fun x s => K .ret (f57_l0_m i0 i1 i10 i11 i13 i14 i15 i16 i17 i18 i19 i20 i21 x) s) m x s :=
   iter_eq (f57_l0_m i0 i1 i10 i11 i13 i14 i15 i16 i17 i18 i19 i20 i21) (f57_l0 (dOps (H := H) Tryd.prog) C n i1 i20 i21) (fun x s nx K => f57_l0_b C n i0 i1 i10 i11 i13 i14 i15 i16 i17 i18 i19 i20 i21 x s nx K) K m x s
noncomputable def f57 (O : Ops H) (C : OracleJ H) (n : Nat) (a0 : Value) (a1 : Value) (s : St H) : Option (List (Value × St H)) :=
 (O.bop .lss 3 a1 (Value.int IntKind.i64 0)).bind fun v1 =>
 gd v1 (
 some [(.tuple #[(Value.int IntKind.u64 0), (Value.int IntKind.i64 0), (Value.int IntKind.i64 2)], s)]) (
 (O.len s 22 a0).bind fun v2 =>
 (O.bop .gtr 3 a1 v2).bind fun v3 =>
 (O.boolO v3).bind fun b6 => cond b6 (
 some [(.tuple #[(Value.int IntKind.u64 0), (Value.int IntKind.i64 0), (Value.int IntKind.i64 2)], s)]) (
 (O.slc s 22 a0 (some a1) none none).bind fun v7 =>
 (O.len s 22 v7).bind fun v8 =>
 iterS (f57_l0 O C n a1 v7 v8 )
 (fun i35 x36 s37 => (bif Nat.beq i35 0 then
 some [(.tuple #[(Value.int IntKind.u64 0), (Value.int IntKind.i64 0), (Value.int IntKind.i64 7)], s37)] else none))
 (fun x38 s39 => some [(.tuple #[x38.1, x38.2.1, x38.2.2.1], s39)]) n ((Value.int IntKind.u64 0), (Value.int IntKind.i64 0), (Value.int IntKind.i64 0), (Value.int IntKind.u64 0), undefV, undefV, (Value.int IntKind.i64 0), undefV) s)) (
 none)
theorem f57_l0_k (C : OracleJ H) (n : Nat) (i0 i1 i10 i11 i13 i14 i15 i16 i17 i18 i19 i20 i21 : Value) (i : Nat) (x : Value × Value × Value × Value × Value × Value × Value × Value) (s : St H) : (kBlock 0 (kSeq Tryd.prog false C n 57 none (cdp Tryd.f57 [1, 1, 1, 1]) (kFun Tryd.prog Tryd.f57))) (.exit i) (f57_l0_m i0 i1 i10 i11 i13 i14 i15 i16 i17 i18 i19 i20 i21 x) s =
 (bif Nat.beq i 0 then
 some [(.tuple #[(Value.int IntKind.u64 0), (Value.int IntKind.i64 0), (Value.int IntKind.i64 7)], s)] else none) := by kernel_rfl
theorem f57_r (C : OracleJ H) (n : Nat) (a0 : Value) (a1 : Value) (s : St H) : bodyD Tryd.prog false C n 57 Tryd.f57 [a0, a1] s = f57 (dOps (H := H) Tryd.prog) C n a0 a1 s := by
  have h1 : bodyD Tryd.prog false C n 57 Tryd.f57 [a0, a1] s =
 ((dOps (H := H) Tryd.prog).bop .lss 3 a1 (Value.int IntKind.i64 0)).bind fun v40 =>
 gd v40 (
 some [(.tuple #[(Value.int IntKind.u64 0), (Value.int IntKind.i64 0), (Value.int IntKind.i64 2)], s)]) (
 ((dOps (H := H) Tryd.prog).len s 22 a0).bind fun v41 =>
 ((dOps (H := H) Tryd.prog).bop .gtr 3 a1 v41).bind fun v42 =>
 ((dOps (H := H) Tryd.prog).boolO v42).bind fun b45 => cond b45 (
 some [(.tuple #[(Value.int IntKind.u64 0), (Value.int IntKind.i64 0), (Value.int IntKind.i64 2)], s)]) (
 ((dOps (H := H) Tryd.prog).slc s 22 a0 (some a1) none none).bind fun v46 =>
 ((dOps (H := H) Tryd.prog).len s 22 v46).bind fun v47 =>
 iter (fun t s k => exec Tryd.prog false C n 57 none (cdp Tryd.f57 [1, 1, 1, 0, 1, 0, 0]) t s k) (scratch (cdp Tryd.f57 [1, 1, 1, 0, 1, 0, 0])) n (f57_l0_m a0 a1 a1 v40 a1 a0 v41 v42 v42 a0 a1 v46 v47 ((Value.int IntKind.u64 0), (Value.int IntKind.i64 0), (Value.int IntKind.i64 0), (Value.int IntKind.u64 0), undefV, undefV, (Value.int IntKind.i64 0), undefV)) s (kBlock 0 (kSeq Tryd.prog false C n 57 none (cdp Tryd.f57 [1, 1, 1, 1]) (kFun Tryd.prog Tryd.f57))))) (
 none) := by kernel_rfl
  rw [h1]
  simp only [f57_l0_e, f57_l0_k]
  show _ = f57 (dOps (H := H) Tryd.prog) C n a0 a1 s
  kernel_rfl
/-! tidepole/crc.Open -/
noncomputable def f58 (O : Ops H) (C : OracleJ H) (n : Nat) (a0 : Value) (s : St H) : Option (List (Value × St H)) :=
 (O.len s 22 a0).bind fun v1 =>
 (O.bop .sub 3 v1 (Value.int IntKind.i64 4)).bind fun v2 =>
 (O.bop .lss 3 v2 (Value.int IntKind.i64 0)).bind fun v3 =>
 (O.boolO v3).bind fun b4 => cond b4 (
 some [(.tuple #[(fzV 2 #[]), (.bool false)], s)]) (
 (O.slc s 22 a0 (some v2) none none).bind fun v5 =>
 (C (.fn 92) [v5] s).bind fun L6 => manyK L6 fun v7 s8 =>
 (O.extract v7 0).bind fun v9 =>
 (O.extract v7 1).bind fun v10 =>
 (O.slc s8 22 a0 none (some v2) none).bind fun v11 =>
 (C (.fn 89) [v11] s8).bind fun L12 => manyK L12 fun v13 s14 =>
 (O.bop .neq 127 v9 v13).bind fun v15 =>
 (O.boolO v15).bind fun b16 => cond b16 (
 some [(.tuple #[(fzV 2 #[]), (.bool false)], s14)]) (
 (O.buildSlice false s14 22 0 []).bind fun p17 =>
 (O.slc p17.2 22 a0 none (some v2) none).bind fun v18 =>
 (O.append false p17.2 22 22 p17.1 v18).bind fun p19 =>
 some [(.tuple #[p19.1, (.bool true)], p19.2)]))
theorem f58_r (C : OracleJ H) (n : Nat) (a0 : Value) (s : St H) : bodyD Tryd.prog false C n 58 Tryd.f58 [a0] s = f58 (dOps (H := H) Tryd.prog) C n a0 s := by kernel_rfl
/-! slices.AppendSeq[[]tidepole/api.Sample,tidepole/api.Sample] -/
noncomputable def f59 (O : Ops H) (C : OracleJ H) (n : Nat) (a0 : Value) (a1 : Value) (s : St H) : Option (List (Value × St H)) :=
 (O.box s a0).bind fun p1 =>
 rngO Tryd.prog O C 59 a1 [a0, a1, p1.1, undefV, (fzV 2 #[]), undefV, a1, undefV, undefV, undefV, undefV, undefV, undefV] [7] (cdp Tryd.f59 [1, 0, 1, 0, 0]) (cdp Tryd.f59 [1, 0, 1, 0, 1]) p1.2
 (fun s2 => (O.load s2 24 p1.1).bind fun v7 =>
 some [(v7, s2)])
 (fun s3 => some [((fzV 2 #[]), s3)])
 (fun i5 s4 => (bif Nat.beq i5 0 then
 (O.load s4 24 p1.1).bind fun v8 =>
 some [(v8, s4)] else none))
theorem f59_r (C : OracleJ H) (n : Nat) (a0 : Value) (a1 : Value) (s : St H) : bodyD Tryd.prog false C n 59 Tryd.f59 [a0, a1] s = f59 (dOps (H := H) Tryd.prog) C n a0 a1 s := by kernel_rfl
/-! tidepole/chunk.samples$1 -/
def f60_l0_m (i0 i1 i2 i4 i10 i11 i12 : Value) (x : Value × Value × Value × Value) : List Value := [i0, i1, i2, undefV, i4, dc, x.1, x.2.1, dc, x.2.2.1, i10, i11, i12, x.2.2.2, dc, dc, dc, dc, dc, dc, dc, dc, dc, dc, dc, dc, dc, dc, dc, dc, dc, dc, dc, dc, dc, dc, dc, dc, dc, dc, dc, dc, dc, dc, dc, dc, dc]
noncomputable def f60_l0 (O : Ops H) (C : OracleJ H) (n : Nat) (i0 i2 i4 i12 : Value) (nx : (Value × Value × Value × Value) → St H → Option (List (Value × St H))) (kx : Nat → (Value × Value × Value × Value) → St H → Option (List (Value × St H))) (kr : (Value × Value × Value × Value) → St H → Option (List (Value × St H))) (x : Value × Value × Value × Value) (s : St H) : Option (List (Value × St H)) :=
 (O.bop .lss 3 x.2.2.2 i12).bind fun v8 =>
 (O.boolO v8).bind fun b9 => cond b9 (
 (O.load s 64 i2).bind fun v10 =>
 (O.fieldAddr 104 i4 0).bind fun v11 =>
 (O.load s 102 v11).bind fun v12 =>
 (C (.fn 61) [v10, v12] s).bind fun L13 => manyK L13 fun v14 s15 =>
 (O.extract v14 0).bind fun v16 =>
 (O.extract v14 1).bind fun v17 =>
 (O.extract v14 2).bind fun v18 =>
 (O.alloc s15 102).bind fun p19 =>
 (O.store p19.2 102 p19.1 v16).bind fun s20 =>
 (O.bop .neq 25 v18 (Value.int IntKind.i64 0)).bind fun v21 =>
 (O.boolO v21).bind fun b22 => cond b22 (
 kr (v17, v18, x.2.2.1, x.2.2.2) s20) (
 (O.load s20 64 i2).bind fun v23 =>
 (O.fieldAddr 104 i4 1).bind fun v24 =>
 (O.load s20 100 v24).bind fun v25 =>
 (C (.fn 62) [v23, v25] s20).bind fun L26 => manyK L26 fun v27 s28 =>
 (O.extract v27 0).bind fun v29 =>
 (O.extract v27 1).bind fun v30 =>
 (O.extract v27 2).bind fun v31 =>
 (O.alloc s28 100).bind fun p32 =>
 (O.store p32.2 100 p32.1 v29).bind fun s33 =>
 (O.bop .neq 25 v31 (Value.int IntKind.i64 0)).bind fun v34 =>
 gd v34 (
 kr (v17, v31, v30, x.2.2.2) s33) (
 (O.build 40 [(0, v17), (1, v30)]).bind fun v35 =>
 (O.tgt i0 [v35]).bind fun g36 => (C g36.1 g36.2 s33).bind fun L37 => manyK L37 fun v38 s39 =>
 (O.uop .not v38).bind fun v40 =>
 (O.boolO v40).bind fun b43 => cond b43 (
 kr (v17, v31, v30, x.2.2.2) s39) (
 (O.load s39 102 p19.1).bind fun v44 =>
 (O.load s39 100 p32.1).bind fun v45 =>
 (O.build 104 [(0, v44), (1, v45)]).bind fun v46 =>
 (O.store s39 104 i4 v46).bind fun s47 =>
 (O.bop .add 3 x.2.2.2 (Value.int IntKind.i64 1)).bind fun v48 =>
 nx (v17, v31, v30, v48) s47)) (
 none))) (
 kx 0 (x.1, x.2.1, x.2.2.1, x.2.2.2) s)
theorem f60_l0_b (C : OracleJ H) (n : Nat) (i0 i1 i2 i4 i10 i11 i12 : Value) (x : Value × Value × Value × Value) (s : St H) (nx : List Value → St H → Option (List (Value × St H))) (K : Ex → List Value → St H → Option (List (Value × St H))) :
 exec Tryd.prog false C n 60 none (cdp Tryd.f60 [1, 1, 0, 0]) (f60_l0_m i0 i1 i2 i4 i10 i11 i12 x) s (kIter (scratch (cdp Tryd.f60 [1, 1, 0, 0])) nx K) = f60_l0 (dOps (H := H) Tryd.prog) C n i0 i2 i4 i12 (fun x s => nx (f60_l0_m i0 i1 i2 i4 i10 i11 i12 x) s) (fun i x s => K (.exit i) (f60_l0_m i0 i1 i2 i4 i10 i11 i12 x) s) (fun x s => K .ret (f60_l0_m i0 i1 i2 i4 i10 i11 i12 x) s) x s := by kernel_rfl
theorem f60_l0_e (C : OracleJ H) (n : Nat) (i0 i1 i2 i4 i10 i11 i12 : Value) (m : Nat) (x : Value × Value × Value × Value) (s : St H) (K : Ex → List Value → St H → Option (List (Value × St H))) :
 iter (fun t s k => exec Tryd.prog false C n 60 none (cdp Tryd.f60 [1, 1, 0, 0]) t s k) (scratch (cdp Tryd.f60 [1, 1, 0, 0])) m (f60_l0_m i0 i1 i2 i4 i10 i11 i12 x) s K = iterS (f60_l0 (dOps (H := H) Tryd.prog) C n i0 i2 i4 i12) (fun i x s => K (.exit i) (f60_l0_m i0 i1 i2 i4 i10 i11 i12 x) s) (fun x s => K .ret (f60_l0_m i0 i1 i2 i4 i10 i11 i12 x) s) m x s :=
   iter_eq (f60_l0_m i0 i1 i2 i4 i10 i11 i12) (f60_l0 (dOps (H := H) Tryd.prog) C n i0 i2 i4 i12) (fun x s nx K => f60_l0_b C n i0 i1 i2 i4 i10 i11 i12 x s nx K) K m x s
noncomputable def f60 (O : Ops H) (C : OracleJ H) (n : Nat) (a0 : Value) (a1 : Value) (a2 : Value) (s : St H) : Option (List (Value × St H)) :=
 (C (.fn 44) [] s).bind fun L1 => manyK L1 fun v2 s3 =>
 (O.build 104 [(1, v2)]).bind fun v4 =>
 (O.alloc s3 104).bind fun p5 =>
 (O.store p5.2 104 p5.1 v4).bind fun s6 =>
 (O.load s6 3 a1).bind fun v7 =>
 iterS (f60_l0 O C n a0 a2 p5.1 v7 )
 (fun i49 x50 s51 => (bif Nat.beq i49 0 then
 some [(.tuple #[], s51)] else none))
 (fun x52 s53 => some [(.tuple #[], s53)]) n (undefV, undefV, undefV, (Value.int IntKind.i64 0)) s6
theorem f60_l0_k (C : OracleJ H) (n : Nat) (i0 i1 i2 i4 i10 i11 i12 : Value) (i : Nat) (x : Value × Value × Value × Value) (s : St H) : (kBlock 0 (kFun Tryd.prog Tryd.f60)) (.exit i) (f60_l0_m i0 i1 i2 i4 i10 i11 i12 x) s =
 (bif Nat.beq i 0 then
 some [(.tuple #[], s)] else none) := by kernel_rfl
theorem f60_r (C : OracleJ H) (n : Nat) (a0 : Value) (a1 : Value) (a2 : Value) (s : St H) : bodyD Tryd.prog false C n 60 Tryd.f60 [a0, a1, a2] s = f60 (dOps (H := H) Tryd.prog) C n a0 a1 a2 s := by
  have h1 : bodyD Tryd.prog false C n 60 Tryd.f60 [a0, a1, a2] s =
 (C (.fn 44) [] s).bind fun L54 => manyK L54 fun v55 s56 =>
 ((dOps (H := H) Tryd.prog).build 104 [(1, v55)]).bind fun v57 =>
 ((dOps (H := H) Tryd.prog).alloc s56 104).bind fun p58 =>
 ((dOps (H := H) Tryd.prog).store p58.2 104 p58.1 v57).bind fun s59 =>
 ((dOps (H := H) Tryd.prog).load s59 3 a1).bind fun v60 =>
 iter (fun t s k => exec Tryd.prog false C n 60 none (cdp Tryd.f60 [1, 1, 0, 0]) t s k) (scratch (cdp Tryd.f60 [1, 1, 0, 0])) n (f60_l0_m a0 a1 a2 p58.1 v55 v57 v60 (undefV, undefV, undefV, (Value.int IntKind.i64 0))) s59 (kBlock 0 (kFun Tryd.prog Tryd.f60)) := by kernel_rfl
  rw [h1]
  simp only [f60_l0_e, f60_l0_k]
  show _ = f60 (dOps (H := H) Tryd.prog) C n a0 a1 a2 s
  kernel_rfl
/-! tidepole/stamp.Get -/
noncomputable def f61 (O : Ops H) (C : OracleJ H) (n : Nat) (a0 : Value) (a1 : Value) (s : St H) : Option (List (Value × St H)) :=
 (O.box s a1).bind fun p1 =>
 (O.alloc p1.2 102).bind fun p2 =>
 (O.load p2.2 102 p1.1).bind fun v3 =>
 (C (.fn 74) [v3] p2.2).bind fun L4 => manyK L4 fun v5 s6 =>
 (O.uop .not v5).bind fun v7 =>
 (O.boolO v7).bind fun b8 => cond b8 (
 (O.build 102 []).bind fun v9 =>
 (O.store s6 102 p2.1 v9).bind fun s10 =>
 (O.load s10 102 p2.1).bind fun v11 => some [(.tuple #[v11, (Value.int IntKind.i64 0), (Value.int IntKind.i64 60)], s10)]) (
 (O.fieldAddr 102 p1.1 0).bind fun v12 =>
 (O.load s6 3 v12).bind fun v13 =>
 (O.bop .eql 3 v13 (Value.int IntKind.i64 0)).bind fun v14 =>
 jn (fun (j424_7 : Value) (js424 : St H) =>
 (O.load js424 102 p1.1).bind fun v59 =>
 (C (.fn 73) [v59, j424_7] js424).bind fun L60 => manyK L60 fun v61 s62 =>
 (O.extract v61 0).bind fun v63 =>
 (O.extract v61 1).bind fun v64 =>
 (O.alloc s62 102).bind fun p65 =>
 (O.store p65.2 102 p65.1 v63).bind fun s66 =>
 (O.uop .not v64).bind fun v67 =>
 (O.boolO v67).bind fun b68 => cond b68 (
 (O.build 102 []).bind fun v69 =>
 (O.store s66 102 p2.1 v69).bind fun s70 =>
 (O.load s70 102 p2.1).bind fun v71 => some [(.tuple #[v71, (Value.int IntKind.i64 0), (Value.int IntKind.i64 60)], s70)]) (
 (O.load s66 102 p65.1).bind fun v72 =>
 (O.store s66 102 p2.1 v72).bind fun s73 =>
 (O.load s73 102 p2.1).bind fun v74 => some [(.tuple #[v74, j424_7, (Value.int IntKind.i64 0)], s73)])) fun k424 =>
 (O.boolO v14).bind fun b15 => cond b15 (
 (C (.fn 64) [a0, (Value.int IntKind.i64 46)] s6).bind fun L16 => manyK L16 fun v17 s18 =>
 (O.extract v17 0).bind fun v19 =>
 (O.extract v17 1).bind fun v20 =>
 (O.bop .neq 25 v20 (Value.int IntKind.i64 0)).bind fun v21 =>
 (O.boolO v21).bind fun b22 => cond b22 (
 (O.build 102 []).bind fun v23 =>
 (O.store s18 102 p2.1 v23).bind fun s24 =>
 (O.load s24 102 p2.1).bind fun v25 => some [(.tuple #[v25, (Value.int IntKind.i64 0), v20], s24)]) (
 (O.conv false s18 38 3 v19).bind fun p26 =>
 k424 p26.1 p26.2)) (
 (C (.fn 93) [a0] s6).bind fun L27 => manyK L27 fun v28 s29 =>
 (O.extract v28 0).bind fun v30 =>
 (O.extract v28 1).bind fun v31 =>
 (O.bop .neq 25 v31 (Value.int IntKind.i64 0)).bind fun v32 =>
 (O.boolO v32).bind fun b33 => cond b33 (
 (O.build 102 []).bind fun v34 =>
 (O.store s29 102 p2.1 v34).bind fun s35 =>
 (O.load s35 102 p2.1).bind fun v36 => some [(.tuple #[v36, (Value.int IntKind.i64 0), v31], s35)]) (
 (O.fieldAddr 102 p1.1 1).bind fun v37 =>
 (O.load s29 3 v37).bind fun v38 =>
 (O.fieldAddr 102 p1.1 2).bind fun v39 =>
 (O.load s29 3 v39).bind fun v40 =>
 (O.bop .add 3 v38 v40).bind fun v41 =>
 (O.bop .add 3 v41 v30).bind fun v42 =>
 k424 v42 s29)))
theorem f61_r (C : OracleJ H) (n : Nat) (a0 : Value) (a1 : Value) (s : St H) : bodyD Tryd.prog false C n 61 Tryd.f61 [a0, a1] s = f61 (dOps (H := H) Tryd.prog) C n a0 a1 s := by kernel_rfl
/-! tidepole/xor.Get -/
noncomputable def f62 (O : Ops H) (C : OracleJ H) (n : Nat) (a0 : Value) (a1 : Value) (s : St H) : Option (List (Value × St H)) :=
 (O.box s a1).bind fun p1 =>
 (O.alloc p1.2 100).bind fun p2 =>
 (O.load p2.2 100 p1.1).bind fun v3 =>
 (C (.fn 78) [v3] p2.2).bind fun L4 => manyK L4 fun v5 s6 =>
 (O.uop .not v5).bind fun v7 =>
 (O.boolO v7).bind fun b8 => cond b8 (
 (O.build 100 []).bind fun v9 =>
 (O.store s6 100 p2.1 v9).bind fun s10 =>
 (O.load s10 100 p2.1).bind fun v11 => some [(.tuple #[v11, (Value.int IntKind.u64 0), (Value.int IntKind.i64 2)], s10)]) (
 (O.fieldAddr 100 p1.1 0).bind fun v12 =>
 (O.load s6 3 v12).bind fun v13 =>
 (O.bop .eql 3 v13 (Value.int IntKind.i64 0)).bind fun v14 =>
 (O.boolO v14).bind fun b15 => cond b15 (
 (C (.fn 64) [a0, (Value.int IntKind.i64 64)] s6).bind fun L16 => manyK L16 fun v17 s18 =>
 (O.extract v17 0).bind fun v19 =>
 (O.extract v17 1).bind fun v20 =>
 (O.bop .neq 25 v20 (Value.int IntKind.i64 0)).bind fun v21 =>
 (O.boolO v21).bind fun b22 => cond b22 (
 (O.build 100 []).bind fun v23 =>
 (O.store s18 100 p2.1 v23).bind fun s24 =>
 (O.load s24 100 p2.1).bind fun v25 => some [(.tuple #[v25, (Value.int IntKind.u64 0), v20], s24)]) (
 (O.load s18 100 p1.1).bind fun v26 =>
 (O.load s18 100 p1.1).bind fun v27 =>
 (oneO C (.fn 79) [v27] s18).bind fun p28 =>
 (oneO C (.fn 84) [v26, v19, p28.1] p28.2).bind fun p29 =>
 (O.store p29.2 100 p2.1 p29.1).bind fun s30 =>
 bif (eqO H (O.load s18 100 p1.1) v26 && (eqO H (O.load p28.2 100 p1.1) v26 && (true))) && (true) then
 (O.load s30 100 p2.1).bind fun v31 => some [(.tuple #[v31, v19, v20], s30)]
 else none)) (
 (O.load s6 100 p1.1).bind fun v32 =>
 (C (.fn 79) [v32] s6).bind fun L33 => manyK L33 fun v34 s35 =>
 (C (.fn 94) [a0, v34] s35).bind fun L36 => manyK L36 fun v37 s38 =>
 (O.extract v37 0).bind fun v39 =>
 (O.extract v37 1).bind fun v40 =>
 (O.extract v37 2).bind fun v41 =>
 (O.alloc s38 151).bind fun p42 =>
 (O.store p42.2 151 p42.1 v40).bind fun s43 =>
 (O.bop .neq 25 v41 (Value.int IntKind.i64 0)).bind fun v44 =>
 (O.boolO v44).bind fun b45 => cond b45 (
 (O.build 100 []).bind fun v46 =>
 (O.store s43 100 p2.1 v46).bind fun s47 =>
 (O.load s47 100 p2.1).bind fun v48 => some [(.tuple #[v48, (Value.int IntKind.u64 0), v41], s47)]) (
 (O.load s43 100 p1.1).bind fun v49 =>
 (O.fieldAddr 100 p1.1 1).bind fun v50 =>
 (O.load s43 38 v50).bind fun v51 =>
 (O.bop .xor 38 v51 v39).bind fun v52 =>
 (O.load s43 151 p42.1).bind fun v53 =>
 (oneO C (.fn 84) [v49, v52, v53] s43).bind fun p54 =>
 (O.fieldAddr 100 p1.1 1).bind fun v55 =>
 (O.load p54.2 38 v55).bind fun v56 =>
 (O.bop .xor 38 v56 v39).bind fun v57 =>
 (O.store p54.2 100 p2.1 p54.1).bind fun s58 =>
 bif (eqO H (O.load s43 38 v55) v56 && (eqO H (O.load p54.2 38 v55) v56 && (eqO H (O.load s58 38 v55) v56 && (true)))) && (true) then
 (O.load s58 100 p2.1).bind fun v59 => some [(.tuple #[v59, v57, v41], s58)]
 else none)))
theorem f62_r (C : OracleJ H) (n : Nat) (a0 : Value) (a1 : Value) (s : St H) : bodyD Tryd.prog false C n 62 Tryd.f62 [a0, a1] s = f62 (dOps (H := H) Tryd.prog) C n a0 a1 s := by kernel_rfl
/-! (*tidepole/bits.Reader).Left -/
noncomputable def f63 (O : Ops H) (C : OracleJ H) (n : Nat) (a0 : Value) (s : St H) : Option (List (Value × St H)) :=
 (C (.fn 95) [a0] s).bind fun L1 => manyK L1 fun v2 s3 =>
 (O.uop .not v2).bind fun v4 =>
 (O.boolO v4).bind fun b5 => cond b5 (
 some [((Value.int IntKind.i64 0), s3)]) (
 (O.nilCheck a0).bind fun v6 =>
 (O.fieldAddr 120 v6 0).bind fun v7 =>
 (O.load s3 22 v7).bind fun v8 =>
 (O.len s3 22 v8).bind fun v9 =>
 (O.bop .mul 3 v9 (Value.int IntKind.i64 8)).bind fun v10 =>
 (O.nilCheck a0).bind fun v11 =>
 (O.fieldAddr 120 v11 1).bind fun v12 =>
 (O.load s3 3 v12).bind fun v13 =>
 (O.bop .sub 3 v10 v13).bind fun v14 =>
 some [(v14, s3)])
theorem f63_r (C : OracleJ H) (n : Nat) (a0 : Value) (s : St H) : bodyD Tryd.prog false C n 63 Tryd.f63 [a0] s = f63 (dOps (H := H) Tryd.prog) C n a0 s := by kernel_rfl
/-! (*tidepole/bits.Reader).Get -/
def f64_l0_m (i0 i10 i11 i12 i13 i14 i15 i16 i18 i19 i20 i21 i22 i23 i24 i25 : Value) (x : Value × Value × Value × Value × Value) : List Value := [i0, x.1, undefV, undefV, (Value.int IntKind.u64 0), (Value.int IntKind.i64 0), x.2.1, x.2.2.1, x.2.2.2.1, x.2.2.2.2, i10, i11, i12, i13, i14, i15, i16, (.bool false), i18, i19, i20, i21, i22, i23, i24, i25, dc, dc, dc, dc, dc, dc, dc, dc, dc, dc, dc, dc, dc, dc, dc, dc, dc, dc, dc, dc, dc, dc, dc, dc, dc, dc, dc, dc, dc, dc, dc, dc, dc, dc, dc, dc, dc, dc, dc, dc, dc, dc, dc, dc, dc, undefV]
noncomputable def f64_l0 (O : Ops H) (C : OracleJ H) (n : Nat) (i0 : Value) (nx : (Value × Value × Value × Value × Value) → St H → Option (List (Value × St H))) (kx : Nat → (Value × Value × Value × Value × Value) → St H → Option (List (Value × St H))) (kr : (Value × Value × Value × Value × Value) → St H → Option (List (Value × St H))) (x : Value × Value × Value × Value × Value) (s : St H) : Option (List (Value × St H)) :=
 (O.bop .gtr 3 x.1 (Value.int IntKind.i64 0)).bind fun v16 =>
 (O.boolO v16).bind fun b17 => cond b17 (
 (O.nilCheck i0).bind fun v18 =>
 (O.fieldAddr 120 v18 1).bind fun v19 =>
 (O.load s 3 v19).bind fun v20 =>
 (O.bop .rem 3 v20 (Value.int IntKind.i64 8)).bind fun v21 =>
 (O.bop .sub 3 (Value.int IntKind.i64 8) v21).bind fun v22 =>
 (O.minO x.1 [v22]).bind fun v23 =>
 (O.nilCheck i0).bind fun v24 =>
 (O.fieldAddr 120 v24 0).bind fun v25 =>
 (O.load s 22 v25).bind fun v26 =>
 (O.nilCheck i0).bind fun v27 =>
 (O.fieldAddr 120 v27 1).bind fun v28 =>
 (O.load s 3 v28).bind fun v29 =>
 (O.bop .quo 3 v29 (Value.int IntKind.i64 8)).bind fun v30 =>
 (O.indexAddr 22 v26 v30).bind fun v31 =>
 (O.load s 5 v31).bind fun v32 =>
 (O.conv false s 5 38 v32).bind fun p33 =>
 (O.bop .sub 3 v22 v23).bind fun v34 =>
 (O.bop .shr 38 p33.1 v34).bind fun v35 =>
 (O.bop .shl 38 x.2.1 v23).bind fun v36 =>
 (oneO C (.fn 96) [v35, v23] p33.2).bind fun p37 =>
 (O.bop .or 38 v36 p37.1).bind fun v38 =>
 (O.nilCheck i0).bind fun v39 =>
 (O.fieldAddr 120 v39 1).bind fun v40 =>
 (O.load p37.2 3 v40).bind fun v41 =>
 (O.bop .add 3 v41 v23).bind fun v42 =>
 (O.nilCheck i0).bind fun v43 =>
 (O.fieldAddr 120 v43 1).bind fun v44 =>
 (O.store p37.2 3 v44 v42).bind fun s45 =>
 (O.bop .sub 3 x.1 v23).bind fun v46 =>
 nx (v46, v38, v22, v23, v35) s45) (
 kx 1 (x.1, x.2.1, x.2.2.1, x.2.2.2.1, x.2.2.2.2) s)
theorem f64_l0_b (C : OracleJ H) (n : Nat) (i0 i10 i11 i12 i13 i14 i15 i16 i18 i19 i20 i21 i22 i23 i24 i25 : Value) (x : Value × Value × Value × Value × Value) (s : St H) (nx : List Value → St H → Option (List (Value × St H))) (K : Ex → List Value → St H → Option (List (Value × St H))) :
 exec Tryd.prog false C n 64 none (cdp Tryd.f64 [1, 1, 1, 0, 0, 0]) (f64_l0_m i0 i10 i11 i12 i13 i14 i15 i16 i18 i19 i20 i21 i22 i23 i24 i25 x) s (kIter (scratch (cdp Tryd.f64 [1, 1, 1, 0, 0, 0])) nx K) = f64_l0 (dOps (H := H) Tryd.prog) C n i0 (fun x s => nx (f64_l0_m i0 i10 i11 i12 i13 i14 i15 i16 i18 i19 i20 i21 i22 i23 i24 i25 x) s) (fun i x s => K (.exit i) (f64_l0_m i0 i10 i11 i12 i13 i14 i15 i16 i18 i19 i20 i21 i22 i23 i24 i25 x) s) (fun x s => K .ret (f64_l0_m i0 i10 i11 i12 i13 i14 i15 i16 i18 i19 i20 i21 i22 i23 i24 i25 x) s) x s := by kernel_rfl
theorem f64_l0_e (C : OracleJ H) (n : Nat) (i0 i10 i11 i12 i13 i14 i15 i16 i18 i19 i20 i21 i22 i23 i24 i25 : Value) (m : Nat) (x : Value × Value × Value × Value × Value) (s : St H) (K : Ex → List Value → St H → Option (List (Value × St H))) :
 iter (fun t s k => exec Tryd.prog false C n 64 none (cdp Tryd.f64 [1, 1, 1, 0, 0, 0]) t s k) (scratch (cdp Tryd.f64 [1, 1, 1, 0, 0, 0])) m (f64_l0_m i0 i10 i11 i12 i13 i14 i15 i16 i18 i19 i20 i21 i22 i23 i24 i25 x) s K = iterS (f64_l0 (dOps (H := H) Tryd.prog) C n i0) (fun i x s => K (.exit i) (f64_l0_m i0 i10 i11 i12 i13 i14 i15 i16 i18 i19 i20 i21 i22 i23 i24 i25 x) s) (fun x s => K .ret (f64_l0_m i0 i10 i11 i12 i13 i14 i15 i16 i18 i19 i20 i21 i22 i23 i24 i25 x) s) m x s :=
   iter_eq (f64_l0_m i0 i10 i11 i12 i13 i14 i15 i16 i18 i19 i20 i21 i22 i23 i24 i25) (f64_l0 (dOps (H := H) Tryd.prog) C n i0) (fun x s nx K => f64_l0_b C n i0 i10 i11 i12 i13 i14 i15 i16 i18 i19 i20 i21 i22 i23 i24 i25 x s nx K) K m x s
noncomputable def f64 (O : Ops H) (C : OracleJ H) (n : Nat) (a0 : Value) (a1 : Value) (s : St H) : Option (List (Value × St H)) :=
 (C (.fn 95) [a0] s).bind fun L1 => manyK L1 fun v2 s3 =>
 (O.uop .not v2).bind fun v4 =>
 (O.boolO v4).bind fun b5 => cond b5 (
 some [(.tuple #[(Value.int IntKind.u64 0), (Value.int IntKind.i64 1)], s3)]) (
 (O.bop .lss 3 a1 (Value.int IntKind.i64 0)).bind fun v6 =>
 gd v6 (
 some [(.tuple #[(Value.int IntKind.u64 0), (Value.int IntKind.i64 2)], s3)]) (
 (O.bop .gtr 3 a1 (Value.int IntKind.i64 64)).bind fun v7 =>
 (O.boolO v7).bind fun b10 => cond b10 (
 some [(.tuple #[(Value.int IntKind.u64 0), (Value.int IntKind.i64 2)], s3)]) (
 (C (.fn 63) [a0] s3).bind fun L11 => manyK L11 fun v12 s13 =>
 (O.bop .gtr 3 a1 v12).bind fun v14 =>
 (O.boolO v14).bind fun b15 => cond b15 (
 some [(.tuple #[(Value.int IntKind.u64 0), (Value.int IntKind.i64 50)], s13)]) (
 iterS (f64_l0 O C n a0 )
 (fun i47 x48 s49 => (bif Nat.beq i47 1 then
 some [(.tuple #[x48.2.1, (Value.int IntKind.i64 0)], s49)] else none))
 (fun x50 s51 => some [(.tuple #[(Value.int IntKind.u64 0), (Value.int IntKind.i64 0)], s51)]) n (a1, (Value.int IntKind.u64 0), undefV, undefV, undefV) s13))) (
 none))
theorem f64_l0_k (C : OracleJ H) (n : Nat) (i0 i10 i11 i12 i13 i14 i15 i16 i18 i19 i20 i21 i22 i23 i24 i25 : Value) (i : Nat) (x : Value × Value × Value × Value × Value) (s : St H) : (kBlock 1 (kSeq Tryd.prog false C n 64 none (cdp Tryd.f64 [1, 1, 1, 1]) (kFun Tryd.prog Tryd.f64))) (.exit i) (f64_l0_m i0 i10 i11 i12 i13 i14 i15 i16 i18 i19 i20 i21 i22 i23 i24 i25 x) s =
 (bif Nat.beq i 1 then
 some [(.tuple #[x.2.1, (Value.int IntKind.i64 0)], s)] else none) := by kernel_rfl
theorem f64_r (C : OracleJ H) (n : Nat) (a0 : Value) (a1 : Value) (s : St H) : bodyD Tryd.prog false C n 64 Tryd.f64 [a0, a1] s = f64 (dOps (H := H) Tryd.prog) C n a0 a1 s := by
  have h1 : bodyD Tryd.prog false C n 64 Tryd.f64 [a0, a1] s =
 (C (.fn 95) [a0] s).bind fun L52 => manyK L52 fun v53 s54 =>
 ((dOps (H := H) Tryd.prog).uop .not v53).bind fun v55 =>
 ((dOps (H := H) Tryd.prog).boolO v55).bind fun b56 => cond b56 (
 some [(.tuple #[(Value.int IntKind.u64 0), (Value.int IntKind.i64 1)], s54)]) (
 ((dOps (H := H) Tryd.prog).bop .lss 3 a1 (Value.int IntKind.i64 0)).bind fun v57 =>
 gd v57 (
 some [(.tuple #[(Value.int IntKind.u64 0), (Value.int IntKind.i64 2)], s54)]) (
 ((dOps (H := H) Tryd.prog).bop .gtr 3 a1 (Value.int IntKind.i64 64)).bind fun v58 =>
 ((dOps (H := H) Tryd.prog).boolO v58).bind fun b61 => cond b61 (
 some [(.tuple #[(Value.int IntKind.u64 0), (Value.int IntKind.i64 2)], s54)]) (
 (C (.fn 63) [a0] s54).bind fun L62 => manyK L62 fun v63 s64 =>
 ((dOps (H := H) Tryd.prog).bop .gtr 3 a1 v63).bind fun v65 =>
 ((dOps (H := H) Tryd.prog).boolO v65).bind fun b66 => cond b66 (
 some [(.tuple #[(Value.int IntKind.u64 0), (Value.int IntKind.i64 50)], s64)]) (
 iter (fun t s k => exec Tryd.prog false C n 64 none (cdp Tryd.f64 [1, 1, 1, 0, 0, 0]) t s k) (scratch (cdp Tryd.f64 [1, 1, 1, 0, 0, 0])) n (f64_l0_m a0 v55 a0 v53 v55 v58 a1 v57 a1 v58 v58 v65 a1 a0 v63 v65 (a1, (Value.int IntKind.u64 0), undefV, undefV, undefV)) s64 (kBlock 1 (kSeq Tryd.prog false C n 64 none (cdp Tryd.f64 [1, 1, 1, 1]) (kFun Tryd.prog Tryd.f64)))))) (
 none)) := by kernel_rfl
  rw [h1]
  simp only [f64_l0_e, f64_l0_k]
  show _ = f64 (dOps (H := H) Tryd.prog) C n a0 a1 s
  kernel_rfl
/-! (tidepole/stamp.State).next -/
noncomputable def f73 (O : Ops H) (C : OracleJ H) (n : Nat) (a0 : Value) (a1 : Value) (s : St H) : Option (List (Value × St H)) :=
 (O.box s a0).bind fun p1 =>
 (O.alloc p1.2 102).bind fun p2 =>
 jn (fun (j510_6 : Value) =>
 (O.boolO j510_6).bind fun b9 => cond b9 (
 (O.build 102 []).bind fun v10 =>
 (O.store p2.2 102 p2.1 v10).bind fun s11 =>
 (O.load s11 102 p2.1).bind fun v12 => some [(.tuple #[v12, (.bool false)], s11)]) (
 (O.fieldAddr 102 p1.1 0).bind fun v13 =>
 (O.load p2.2 3 v13).bind fun v14 =>
 (O.bop .eql 3 v14 (Value.int IntKind.i64 0)).bind fun v15 =>
 (O.boolO v15).bind fun b16 => cond b16 (
 (O.build 102 [(0, (Value.int IntKind.i64 1)), (1, a1), (2, (Value.int IntKind.i64 0))]).bind fun v17 =>
 (O.store p2.2 102 p2.1 v17).bind fun s18 =>
 (O.load s18 102 p2.1).bind fun v19 => some [(.tuple #[v19, (.bool true)], s18)]) (
 (O.fieldAddr 102 p1.1 1).bind fun v20 =>
 (O.load p2.2 3 v20).bind fun v21 =>
 (O.bop .leq 3 a1 v21).bind fun v22 =>
 (O.boolO v22).bind fun b23 => cond b23 (
 (O.build 102 []).bind fun v24 =>
 (O.store p2.2 102 p2.1 v24).bind fun s25 =>
 (O.load s25 102 p2.1).bind fun v26 => some [(.tuple #[v26, (.bool false)], s25)]) (
 (O.fieldAddr 102 p1.1 0).bind fun v27 =>
 (O.load p2.2 3 v27).bind fun v28 =>
 (O.bop .add 3 v28 (Value.int IntKind.i64 1)).bind fun v29 =>
 (O.fieldAddr 102 p1.1 1).bind fun v30 =>
 (O.load p2.2 3 v30).bind fun v31 =>
 (O.bop .sub 3 a1 v31).bind fun v32 =>
 (O.build 102 [(0, v29), (1, a1), (2, v32)]).bind fun v33 =>
 (O.store p2.2 102 p2.1 v33).bind fun s34 =>
 (O.load s34 102 p2.1).bind fun v35 => some [(.tuple #[v35, (.bool true)], s34)])))) fun k510 =>
 (O.bop .lss 3 a1 (Value.int IntKind.i64 0)).bind fun v3 =>
 gd v3 (
 k510 (.bool true)) (
 (O.bop .gtr 3 a1 (Value.int IntKind.i64 35184372088832)).bind fun v4 =>
 k510 v4) (
 none)
theorem f73_r (C : OracleJ H) (n : Nat) (a0 : Value) (a1 : Value) (s : St H) : bodyD Tryd.prog false C n 73 Tryd.f73 [a0, a1] s = f73 (dOps (H := H) Tryd.prog) C n a0 a1 s := by kernel_rfl
/-! (tidepole/stamp.State).right -/
noncomputable def f74 (O : Ops H) (C : OracleJ H) (n : Nat) (a0 : Value) (s : St H) : Option (List (Value × St H)) :=
 (O.box s a0).bind fun p1 =>
 (O.fieldAddr 102 p1.1 0).bind fun v2 =>
 (O.load p1.2 3 v2).bind fun v3 =>
 (C (.fn 98) [v3, (Value.int IntKind.i64 4096)] p1.2).bind fun L4 => manyK L4 fun v5 s6 =>
 gd v5 (
 (O.fieldAddr 102 p1.1 1).bind fun v7 =>
 (O.load s6 3 v7).bind fun v8 =>
 (C (.fn 98) [v8, (Value.int IntKind.i64 35184372088832)] s6).bind fun L9 => manyK L9 fun v10 s11 =>
 gd v10 (
 (O.fieldAddr 102 p1.1 2).bind fun v12 =>
 (O.load s11 3 v12).bind fun v13 =>
 (C (.fn 98) [v13, (Value.int IntKind.i64 35184372088832)] s11).bind fun L14 => manyK L14 fun v15 s16 =>
 some [(v15, s16)]) (
 some [((.bool false), s11)]) (
 none)) (
 some [((.bool false), s6)]) (
 none)
theorem f74_r (C : OracleJ H) (n : Nat) (a0 : Value) (s : St H) : bodyD Tryd.prog false C n 74 Tryd.f74 [a0] s = f74 (dOps (H := H) Tryd.prog) C n a0 s := by kernel_rfl
/-! tidepole/stamp.done -/
noncomputable def f75 (O : Ops H) (C : OracleJ H) (n : Nat) (a0 : Value) (a1 : Value) (s : St H) : Option (List (Value × St H)) :=
 (O.box s a0).bind fun p1 =>
 (O.alloc p1.2 102).bind fun p2 =>
 (O.bop .neq 25 a1 (Value.int IntKind.i64 0)).bind fun v3 =>
 (O.boolO v3).bind fun b4 => cond b4 (
 (O.build 102 []).bind fun v5 =>
 (O.store p2.2 102 p2.1 v5).bind fun s6 =>
 (O.load s6 102 p2.1).bind fun v7 => some [(.tuple #[v7, a1], s6)]) (
 (O.load p2.2 102 p1.1).bind fun v8 =>
 (O.store p2.2 102 p2.1 v8).bind fun s9 =>
 (O.load s9 102 p2.1).bind fun v10 => some [(.tuple #[v10, a1], s9)])
theorem f75_r (C : OracleJ H) (n : Nat) (a0 : Value) (a1 : Value) (s : St H) : bodyD Tryd.prog false C n 75 Tryd.f75 [a0, a1] s = f75 (dOps (H := H) Tryd.prog) C n a0 a1 s := by kernel_rfl
/-! (*tidepole/bits.Writer).Put -/
def f76_l0_m (i0 i1 i9 i10 i11 i12 i13 i14 i15 i17 i18 i19 i20 i21 i22 i23 i24 i25 i26 i27 i28 i29 i30 i31 : Value) (x : Value × Value × Value) : List Value := [i0, i1, x.1, undefV, undefV, undefV, (Value.int IntKind.i64 0), x.2.1, x.2.2, i9, i10, i11, i12, i13, i14, i15, (.bool false), i17, i18, i19, i20, i21, i22, i23, i24, i25, i26, i27, i28, i29, i30, i31, dc, dc, dc, dc, dc, dc, dc, dc, dc, dc, dc, dc, dc, dc, dc, dc, dc, dc, dc, dc, dc, dc, dc, dc, dc]
noncomputable def f76_l0 (O : Ops H) (C : OracleJ H) (n : Nat) (i0 i1 : Value) (nx : (Value × Value × Value) → St H → Option (List (Value × St H))) (kx : Nat → (Value × Value × Value) → St H → Option (List (Value × St H))) (kr : (Value × Value × Value) → St H → Option (List (Value × St H))) (x : Value × Value × Value) (s : St H) : Option (List (Value × St H)) :=
 (O.bop .gtr 3 x.1 (Value.int IntKind.i64 0)).bind fun v21 =>
 (O.boolO v21).bind fun b22 => cond b22 (
 (O.nilCheck i0).bind fun v23 =>
 (O.fieldAddr 140 v23 0).bind fun v24 =>
 (O.fieldAddr 138 v24 1).bind fun v25 =>
 (O.load s 3 v25).bind fun v26 =>
 (O.bop .rem 3 v26 (Value.int IntKind.i64 8)).bind fun v27 =>
 (O.bop .sub 3 (Value.int IntKind.i64 8) v27).bind fun v28 =>
 (O.minO x.1 [v28]).bind fun v29 =>
 (O.bop .sub 3 x.1 v29).bind fun v30 =>
 (O.nilCheck i0).bind fun v31 =>
 (O.fieldAddr 140 v31 0).bind fun v32 =>
 (O.bop .shr 38 i1 v30).bind fun v33 =>
 (oneO C (.fn 96) [v33, v29] s).bind fun p34 =>
 (oneO C (.fn 99) [v32, p34.1, v29] p34.2).bind fun p35 =>
 nx (v30, v28, v29) p35.2) (
 kx 1 (x.1, x.2.1, x.2.2) s)
theorem f76_l0_b (C : OracleJ H) (n : Nat) (i0 i1 i9 i10 i11 i12 i13 i14 i15 i17 i18 i19 i20 i21 i22 i23 i24 i25 i26 i27 i28 i29 i30 i31 : Value) (x : Value × Value × Value) (s : St H) (nx : List Value → St H → Option (List (Value × St H))) (K : Ex → List Value → St H → Option (List (Value × St H))) :
 exec Tryd.prog false C n 76 none (cdp Tryd.f76 [1, 1, 1, 0, 0, 0]) (f76_l0_m i0 i1 i9 i10 i11 i12 i13 i14 i15 i17 i18 i19 i20 i21 i22 i23 i24 i25 i26 i27 i28 i29 i30 i31 x) s (kIter (scratch (cdp Tryd.f76 [1, 1, 1, 0, 0, 0])) nx K) = f76_l0 (dOps (H := H) Tryd.prog) C n i0 i1 (fun x s => nx (f76_l0_m i0 i1 i9 i10 i11 i12 i13 i14 i15 i17 i18 i19 i20 i21 i22 i23 i24 i25 i26 i27 i28 i29 i30 i31 x) s) (fun i x s => K (.exit i) (f76_l0_m i0 i1 i9 i10 i11 i12 i13 i14 i15 i17 i18 i19 i20 i21 i22 i23 i24 i25 i26 i27 i28 i29 i30 i31 x) s) (fun x s => K .ret (f76_l0_m i0 i1 i9 i10 i11 i12 i13 i14 i15 i17 i18 i19 i20 i21 i22 i23 i24 i25 i26 i27 i28 i29 i30 i31 x) s) x s := by kernel_rfl
theorem f76_l0_e (C : OracleJ H) (n : Nat) (i0 i1 i9 i10 i11 i12 i13 i14 i15 i17 i18 i19 i20 i21 i22 i23 i24 i25 i26 i27 i28 i29 i30 i31 : Value) (m : Nat) (x : Value × Value × Value) (s : St H) (K : Ex → List Value → St H → Option (List (Value × St H))) :
 iter (fun t s k => exec Tryd.prog false C n 76 none (cdp Tryd.f76 [1, 1, 1, 0, 0, 0]) t s k) (scratch (cdp Tryd.f76 [1, 1, 1, 0, 0, 0])) m (f76_l0_m i0 i1 i9 i10 i11 i12 i13 i14 i15 i17 i18 i19 i20 i21 i22 i23 i24 i25 i26 i27 i28 i29 i30 i31 x) s K = iterS (f76_l0 (dOps (H := H) Tryd.prog) C n i0 i1) (fun i x s => K (.exit i) (f76_l0_m i0 i1 i9 i10 i11 i12 i13 i14 i15 i17 i18 i19 i20 i21 i22 i23 i24 i25 i26 i27 i28 i29 i30 i31 x) s) (fun x s => K .ret (f76_l0_m i0 i1 i9 i10 i11 i12 i13 i14 i15 i17 i18 i19 i20 i21 i22 i23 i24 i25 i26 i27 i28 i29 i30 i31 x) s) m x s :=
   iter_eq (f76_l0_m i0 i1 i9 i10 i11 i12 i13 i14 i15 i17 i18 i19 i20 i21 i22 i23 i24 i25 i26 i27 i28 i29 i30 i31) (f76_l0 (dOps (H := H) Tryd.prog) C n i0 i1) (fun x s nx K => f76_l0_b C n i0 i1 i9 i10 i11 i12 i13 i14 i15 i17 i18 i19 i20 i21 i22 i23 i24 i25 i26 i27 i28 i29 i30 i31 x s nx K) K m x s
noncomputable def f76 (O : Ops H) (C : OracleJ H) (n : Nat) (a0 : Value) (a1 : Value) (a2 : Value) (s : St H) : Option (List (Value × St H)) :=
 (C (.fn 87) [a0] s).bind fun L1 => manyK L1 fun v2 s3 =>
 (O.uop .not v2).bind fun v4 =>
 (O.boolO v4).bind fun b5 => cond b5 (
 some [((Value.int IntKind.i64 1), s3)]) (
 (O.bop .lss 3 a2 (Value.int IntKind.i64 0)).bind fun v6 =>
 gd v6 (
 some [((Value.int IntKind.i64 2), s3)]) (
 (O.bop .gtr 3 a2 (Value.int IntKind.i64 64)).bind fun v7 =>
 (O.boolO v7).bind fun b10 => cond b10 (
 some [((Value.int IntKind.i64 2), s3)]) (
 (O.nilCheck a0).bind fun v11 =>
 (O.fieldAddr 140 v11 0).bind fun v12 =>
 (O.fieldAddr 138 v12 1).bind fun v13 =>
 (O.load s3 3 v13).bind fun v14 =>
 (O.bop .add 3 v14 a2).bind fun v15 =>
 (O.bop .gtr 3 v15 (Value.int IntKind.i64 524288)).bind fun v16 =>
 (O.boolO v16).bind fun b17 => cond b17 (
 some [((Value.int IntKind.i64 3), s3)]) (
 (C (.fn 96) [a1, a2] s3).bind fun L18 => manyK L18 fun v19 s20 =>
 iterS (f76_l0 O C n a0 v19 )
 (fun i36 x37 s38 => (bif Nat.beq i36 1 then
 some [((Value.int IntKind.i64 0), s38)] else none))
 (fun x39 s40 => some [((Value.int IntKind.i64 0), s40)]) n (a2, undefV, undefV) s20))) (
 none))
theorem f76_l0_k (C : OracleJ H) (n : Nat) (i0 i1 i9 i10 i11 i12 i13 i14 i15 i17 i18 i19 i20 i21 i22 i23 i24 i25 i26 i27 i28 i29 i30 i31 : Value) (i : Nat) (x : Value × Value × Value) (s : St H) : (kBlock 1 (kSeq Tryd.prog false C n 76 none (cdp Tryd.f76 [1, 1, 1, 1]) (kFun Tryd.prog Tryd.f76))) (.exit i) (f76_l0_m i0 i1 i9 i10 i11 i12 i13 i14 i15 i17 i18 i19 i20 i21 i22 i23 i24 i25 i26 i27 i28 i29 i30 i31 x) s =
 (bif Nat.beq i 1 then
 some [((Value.int IntKind.i64 0), s)] else none) := by kernel_rfl
theorem f76_r (C : OracleJ H) (n : Nat) (a0 : Value) (a1 : Value) (a2 : Value) (s : St H) : bodyD Tryd.prog false C n 76 Tryd.f76 [a0, a1, a2] s = f76 (dOps (H := H) Tryd.prog) C n a0 a1 a2 s := by
  have h1 : bodyD Tryd.prog false C n 76 Tryd.f76 [a0, a1, a2] s =
 (C (.fn 87) [a0] s).bind fun L41 => manyK L41 fun v42 s43 =>
 ((dOps (H := H) Tryd.prog).uop .not v42).bind fun v44 =>
 ((dOps (H := H) Tryd.prog).boolO v44).bind fun b45 => cond b45 (
 some [((Value.int IntKind.i64 1), s43)]) (
 ((dOps (H := H) Tryd.prog).bop .lss 3 a2 (Value.int IntKind.i64 0)).bind fun v46 =>
 gd v46 (
 some [((Value.int IntKind.i64 2), s43)]) (
 ((dOps (H := H) Tryd.prog).bop .gtr 3 a2 (Value.int IntKind.i64 64)).bind fun v47 =>
 ((dOps (H := H) Tryd.prog).boolO v47).bind fun b50 => cond b50 (
 some [((Value.int IntKind.i64 2), s43)]) (
 ((dOps (H := H) Tryd.prog).nilCheck a0).bind fun v51 =>
 ((dOps (H := H) Tryd.prog).fieldAddr 140 v51 0).bind fun v52 =>
 ((dOps (H := H) Tryd.prog).fieldAddr 138 v52 1).bind fun v53 =>
 ((dOps (H := H) Tryd.prog).load s43 3 v53).bind fun v54 =>
 ((dOps (H := H) Tryd.prog).bop .add 3 v54 a2).bind fun v55 =>
 ((dOps (H := H) Tryd.prog).bop .gtr 3 v55 (Value.int IntKind.i64 524288)).bind fun v56 =>
 ((dOps (H := H) Tryd.prog).boolO v56).bind fun b57 => cond b57 (
 some [((Value.int IntKind.i64 3), s43)]) (
 (C (.fn 96) [a1, a2] s43).bind fun L58 => manyK L58 fun v59 s60 =>
 iter (fun t s k => exec Tryd.prog false C n 76 none (cdp Tryd.f76 [1, 1, 1, 0, 0, 0]) t s k) (scratch (cdp Tryd.f76 [1, 1, 1, 0, 0, 0])) n (f76_l0_m a0 v59 v44 a0 v42 v44 v47 a2 v46 a2 v47 v47 v56 a0 v51 v52 v53 v54 a2 v55 v56 a1 a2 v59 (a2, undefV, undefV)) s60 (kBlock 1 (kSeq Tryd.prog false C n 76 none (cdp Tryd.f76 [1, 1, 1, 1]) (kFun Tryd.prog Tryd.f76)))))) (
 none)) := by kernel_rfl
  rw [h1]
  simp only [f76_l0_e, f76_l0_k]
  show _ = f76 (dOps (H := H) Tryd.prog) C n a0 a1 a2 s
  kernel_rfl
/-! tidepole/stamp.of -/
def f77_l0_m (i0 i5 : Value) (x : Value × Value × Value) : List Value := [i0, undefV, x.1, x.2.1, dc, i5, x.2.2, dc, dc, dc, dc, dc, dc, dc, dc]
noncomputable def f77_l0 (O : Ops H) (C : OracleJ H) (n : Nat) (i0 i5 : Value) (nx : (Value × Value × Value) → St H → Option (List (Value × St H))) (kx : Nat → (Value × Value × Value) → St H → Option (List (Value × St H))) (kr : (Value × Value × Value) → St H → Option (List (Value × St H))) (x : Value × Value × Value) (s : St H) : Option (List (Value × St H)) :=
 (O.bop .lss 3 x.2.2 (Value.int IntKind.i64 5)).bind fun v2 =>
 (O.boolO v2).bind fun b3 => cond b3 (
 (O.index 148 i5 x.2.2).bind fun v4 =>
 (O.alloc s 147).bind fun p5 =>
 (O.store p5.2 147 p5.1 v4).bind fun s6 =>
 (O.load s6 147 p5.1).bind fun v7 =>
 (C (.fn 100) [v7, i0] s6).bind fun L8 => manyK L8 fun v9 s10 =>
 (O.boolO v9).bind fun b11 => cond b11 (
 kr (x.2.2, x.2.2, x.2.2) s10) (
 (O.bop .add 3 x.2.2 (Value.int IntKind.i64 1)).bind fun v12 =>
 nx (x.1, x.2.2, v12) s10)) (
 kx 0 (x.1, x.2.1, x.2.2) s)
theorem f77_l0_b (C : OracleJ H) (n : Nat) (i0 i5 : Value) (x : Value × Value × Value) (s : St H) (nx : List Value → St H → Option (List (Value × St H))) (K : Ex → List Value → St H → Option (List (Value × St H))) :
 exec Tryd.prog false C n 77 none (cdp Tryd.f77 [1, 0, 1, 0, 0]) (f77_l0_m i0 i5 x) s (kIter (scratch (cdp Tryd.f77 [1, 0, 1, 0, 0])) nx K) = f77_l0 (dOps (H := H) Tryd.prog) C n i0 i5 (fun x s => nx (f77_l0_m i0 i5 x) s) (fun i x s => K (.exit i) (f77_l0_m i0 i5 x) s) (fun x s => K .ret (f77_l0_m i0 i5 x) s) x s := by kernel_rfl
theorem f77_l0_e (C : OracleJ H) (n : Nat) (i0 i5 : Value) (m : Nat) (x : Value × Value × Value) (s : St H) (K : Ex → List Value → St H → Option (List (Value × St H))) :
 iter (fun t s k => exec Tryd.prog false C n 77 none (cdp Tryd.f77 [1, 0, 1, 0, 0]) t s k) (scratch (cdp Tryd.f77 [1, 0, 1, 0, 0])) m (f77_l0_m i0 i5 x) s K = iterS (f77_l0 (dOps (H := H) Tryd.prog) C n i0 i5) (fun i x s => K (.exit i) (f77_l0_m i0 i5 x) s) (fun x s => K .ret (f77_l0_m i0 i5 x) s) m x s :=
   iter_eq (f77_l0_m i0 i5) (f77_l0 (dOps (H := H) Tryd.prog) C n i0 i5) (fun x s nx K => f77_l0_b C n i0 i5 x s nx K) K m x s
noncomputable def f77 (O : Ops H) (C : OracleJ H) (n : Nat) (a0 : Value) (s : St H) : Option (List (Value × St H)) :=
 (O.load s 148 (gpV 0 0)).bind fun v1 =>
 iterS (f77_l0 O C n a0 v1 )
 (fun i13 x14 s15 => (bif Nat.beq i13 0 then
 some [((Value.int IntKind.i64 5), s15)] else none))
 (fun x16 s17 => some [(x16.1, s17)]) n ((Value.int IntKind.i64 0), undefV, (Value.int IntKind.i64 0)) s
theorem f77_l0_k (C : OracleJ H) (n : Nat) (i0 i5 : Value) (i : Nat) (x : Value × Value × Value) (s : St H) : (kBlock 0 (kSeq Tryd.prog false C n 77 none (cdp Tryd.f77 [1, 1]) (kFun Tryd.prog Tryd.f77))) (.exit i) (f77_l0_m i0 i5 x) s =
 (bif Nat.beq i 0 then
 some [((Value.int IntKind.i64 5), s)] else none) := by kernel_rfl
theorem f77_r (C : OracleJ H) (n : Nat) (a0 : Value) (s : St H) : bodyD Tryd.prog false C n 77 Tryd.f77 [a0] s = f77 (dOps (H := H) Tryd.prog) C n a0 s := by
  have h1 : bodyD Tryd.prog false C n 77 Tryd.f77 [a0] s =
 ((dOps (H := H) Tryd.prog).load s 148 (gpV 0 0)).bind fun v18 =>
 iter (fun t s k => exec Tryd.prog false C n 77 none (cdp Tryd.f77 [1, 0, 1, 0, 0]) t s k) (scratch (cdp Tryd.f77 [1, 0, 1, 0, 0])) n (f77_l0_m a0 v18 ((Value.int IntKind.i64 0), undefV, (Value.int IntKind.i64 0))) s (kBlock 0 (kSeq Tryd.prog false C n 77 none (cdp Tryd.f77 [1, 1]) (kFun Tryd.prog Tryd.f77))) := by kernel_rfl
  rw [h1]
  simp only [f77_l0_e, f77_l0_k]
  show _ = f77 (dOps (H := H) Tryd.prog) C n a0 s
  kernel_rfl
/-! (tidepole/xor.State).right -/
noncomputable def f78 (O : Ops H) (C : OracleJ H) (n : Nat) (a0 : Value) (s : St H) : Option (List (Value × St H)) :=
 (O.box s a0).bind fun p1 =>
 (O.load p1.2 100 p1.1).bind fun v2 =>
 (C (.fn 79) [v2] p1.2).bind fun L3 => manyK L3 fun v4 s5 =>
 (O.alloc s5 151).bind fun p6 =>
 (O.store p6.2 151 p6.1 v4).bind fun s7 =>
 (O.fieldAddr 100 p1.1 0).bind fun v8 =>
 (O.load s7 3 v8).bind fun v9 =>
 (O.bop .lss 3 v9 (Value.int IntKind.i64 0)).bind fun v10 =>
 gd v10 (
 some [((.bool false), s7)]) (
 (O.fieldAddr 100 p1.1 0).bind fun v11 =>
 (O.load s7 3 v11).bind fun v12 =>
 (O.bop .gtr 3 v12 (Value.int IntKind.i64 4096)).bind fun v13 =>
 (O.boolO v13).bind fun b16 => cond b16 (
 some [((.bool false), s7)]) (
 (O.load s7 151 p6.1).bind fun v17 =>
 (O.build 151 [(0, (Value.int IntKind.i64 64)), (1, (Value.int IntKind.i64 0))]).bind fun v18 =>
 (O.bop .eql 151 v17 v18).bind fun v19 =>
 gd v19 (
 some [((.bool true), s7)]) (
 (O.fieldAddr 151 p6.1 0).bind fun v20 =>
 (O.load s7 3 v20).bind fun v21 =>
 (O.bop .geq 3 v21 (Value.int IntKind.i64 0)).bind fun v22 =>
 gd v22 (
 (O.fieldAddr 151 p6.1 1).bind fun v23 =>
 (O.load s7 3 v23).bind fun v24 =>
 (O.bop .geq 3 v24 (Value.int IntKind.i64 0)).bind fun v25 =>
 gd v25 (
 (O.fieldAddr 151 p6.1 0).bind fun v26 =>
 (O.load s7 3 v26).bind fun v27 =>
 (O.bop .lss 3 v27 (Value.int IntKind.i64 64)).bind fun v28 =>
 gd v28 (
 (O.fieldAddr 151 p6.1 1).bind fun v29 =>
 (O.load s7 3 v29).bind fun v30 =>
 (O.bop .lss 3 v30 (Value.int IntKind.i64 64)).bind fun v31 =>
 gd v31 (
 (O.load s7 151 p6.1).bind fun v32 =>
 (C (.fn 83) [v32] s7).bind fun L33 => manyK L33 fun v34 s35 =>
 (O.bop .gtr 3 v34 (Value.int IntKind.i64 0)).bind fun v36 =>
 some [(v36, s35)]) (
 some [((.bool false), s7)]) (
 none)) (
 some [((.bool false), s7)]) (
 none)) (
 some [((.bool false), s7)]) (
 none)) (
 some [((.bool false), s7)]) (
 none)) (
 none))) (
 none)
theorem f78_r (C : OracleJ H) (n : Nat) (a0 : Value) (s : St H) : bodyD Tryd.prog false C n 78 Tryd.f78 [a0] s = f78 (dOps (H := H) Tryd.prog) C n a0 s := by kernel_rfl
/-! (tidepole/xor.State).window -/
noncomputable def f79 (O : Ops H) (C : OracleJ H) (n : Nat) (a0 : Value) (s : St H) : Option (List (Value × St H)) :=
 (O.box s a0).bind fun p1 =>
 (O.alloc p1.2 151).bind fun p2 =>
 (O.fieldAddr 100 p1.1 2).bind fun v3 =>
 (O.load p2.2 3 v3).bind fun v4 =>
 (O.fieldAddr 100 p1.1 3).bind fun v5 =>
 (O.load p2.2 3 v5).bind fun v6 =>
 (O.build 151 [(0, v4), (1, v6)]).bind fun v7 =>
 (O.store p2.2 151 p2.1 v7).bind fun s8 =>
 (O.load s8 151 p2.1).bind fun v9 => some [(v9, s8)]
theorem f79_r (C : OracleJ H) (n : Nat) (a0 : Value) (s : St H) : bodyD Tryd.prog false C n 79 Tryd.f79 [a0] s = f79 (dOps (H := H) Tryd.prog) C n a0 s := by kernel_rfl
/-! tidepole/xor.write -/
def f80_l0_m (i0 i1 i8 i9 : Value) (x : Value × Value × Value) : List Value := [i0, i1, undefV, undefV, x.1, undefV, dc, x.2.1, i8, i9, x.2.2, dc, dc, dc, dc, dc, dc, dc, dc, dc, dc, dc, dc, dc]
noncomputable def f80_l0 (O : Ops H) (C : OracleJ H) (n : Nat) (i0 i8 i9 : Value) (nx : (Value × Value × Value) → St H → Option (List (Value × St H))) (kx : Nat → (Value × Value × Value) → St H → Option (List (Value × St H))) (kr : (Value × Value × Value) → St H → Option (List (Value × St H))) (x : Value × Value × Value) (s : St H) : Option (List (Value × St H)) :=
 (O.bop .lss 3 x.2.2 i9).bind fun v2 =>
 (O.boolO v2).bind fun b3 => cond b3 (
 (O.indexAddr 170 i8 x.2.2).bind fun v4 =>
 (O.load s 155 v4).bind fun v5 =>
 (O.alloc s 155).bind fun p6 =>
 (O.store p6.2 155 p6.1 v5).bind fun s7 =>
 (O.fieldAddr 155 p6.1 0).bind fun v8 =>
 (O.load s7 38 v8).bind fun v9 =>
 (O.fieldAddr 155 p6.1 1).bind fun v10 =>
 (O.load s7 3 v10).bind fun v11 =>
 (C (.fn 76) [i0, v9, v11] s7).bind fun L12 => manyK L12 fun v13 s14 =>
 (O.bop .neq 25 v13 (Value.int IntKind.i64 0)).bind fun v15 =>
 (O.boolO v15).bind fun b16 => cond b16 (
 kr (v13, v13, x.2.2) s14) (
 (O.bop .add 3 x.2.2 (Value.int IntKind.i64 1)).bind fun v17 =>
 nx (x.1, v13, v17) s14)) (
 kx 0 (x.1, x.2.1, x.2.2) s)
theorem f80_l0_b (C : OracleJ H) (n : Nat) (i0 i1 i8 i9 : Value) (x : Value × Value × Value) (s : St H) (nx : List Value → St H → Option (List (Value × St H))) (K : Ex → List Value → St H → Option (List (Value × St H))) :
 exec Tryd.prog false C n 80 none (cdp Tryd.f80 [1, 0, 1, 0, 0]) (f80_l0_m i0 i1 i8 i9 x) s (kIter (scratch (cdp Tryd.f80 [1, 0, 1, 0, 0])) nx K) = f80_l0 (dOps (H := H) Tryd.prog) C n i0 i8 i9 (fun x s => nx (f80_l0_m i0 i1 i8 i9 x) s) (fun i x s => K (.exit i) (f80_l0_m i0 i1 i8 i9 x) s) (fun x s => K .ret (f80_l0_m i0 i1 i8 i9 x) s) x s := by kernel_rfl
theorem f80_l0_e (C : OracleJ H) (n : Nat) (i0 i1 i8 i9 : Value) (m : Nat) (x : Value × Value × Value) (s : St H) (K : Ex → List Value → St H → Option (List (Value × St H))) :
 iter (fun t s k => exec Tryd.prog false C n 80 none (cdp Tryd.f80 [1, 0, 1, 0, 0]) t s k) (scratch (cdp Tryd.f80 [1, 0, 1, 0, 0])) m (f80_l0_m i0 i1 i8 i9 x) s K = iterS (f80_l0 (dOps (H := H) Tryd.prog) C n i0 i8 i9) (fun i x s => K (.exit i) (f80_l0_m i0 i1 i8 i9 x) s) (fun x s => K .ret (f80_l0_m i0 i1 i8 i9 x) s) m x s :=
   iter_eq (f80_l0_m i0 i1 i8 i9) (f80_l0 (dOps (H := H) Tryd.prog) C n i0 i8 i9) (fun x s nx K => f80_l0_b C n i0 i1 i8 i9 x s nx K) K m x s
noncomputable def f80 (O : Ops H) (C : OracleJ H) (n : Nat) (a0 : Value) (a1 : Value) (s : St H) : Option (List (Value × St H)) :=
 (O.len s 170 a1).bind fun v1 =>
 iterS (f80_l0 O C n a0 a1 v1 )
 (fun i18 x19 s20 => (bif Nat.beq i18 0 then
 some [((Value.int IntKind.i64 0), s20)] else none))
 (fun x21 s22 => some [(x21.1, s22)]) n ((Value.int IntKind.i64 0), undefV, (Value.int IntKind.i64 0)) s
theorem f80_l0_k (C : OracleJ H) (n : Nat) (i0 i1 i8 i9 : Value) (i : Nat) (x : Value × Value × Value) (s : St H) : (kBlock 0 (kSeq Tryd.prog false C n 80 none (cdp Tryd.f80 [1, 1]) (kFun Tryd.prog Tryd.f80))) (.exit i) (f80_l0_m i0 i1 i8 i9 x) s =
 (bif Nat.beq i 0 then
 some [((Value.int IntKind.i64 0), s)] else none) := by kernel_rfl
theorem f80_r (C : OracleJ H) (n : Nat) (a0 : Value) (a1 : Value) (s : St H) : bodyD Tryd.prog false C n 80 Tryd.f80 [a0, a1] s = f80 (dOps (H := H) Tryd.prog) C n a0 a1 s := by
  have h1 : bodyD Tryd.prog false C n 80 Tryd.f80 [a0, a1] s =
 ((dOps (H := H) Tryd.prog).len s 170 a1).bind fun v23 =>
 iter (fun t s k => exec Tryd.prog false C n 80 none (cdp Tryd.f80 [1, 0, 1, 0, 0]) t s k) (scratch (cdp Tryd.f80 [1, 0, 1, 0, 0])) n (f80_l0_m a0 a1 a1 v23 ((Value.int IntKind.i64 0), undefV, (Value.int IntKind.i64 0))) s (kBlock 0 (kSeq Tryd.prog false C n 80 none (cdp Tryd.f80 [1, 1]) (kFun Tryd.prog Tryd.f80))) := by kernel_rfl
  rw [h1]
  simp only [f80_l0_e, f80_l0_k]
  show _ = f80 (dOps (H := H) Tryd.prog) C n a0 a1 s
  kernel_rfl
/-! (tidepole/xor.window).holds -/
noncomputable def f81 (O : Ops H) (C : OracleJ H) (n : Nat) (a0 : Value) (a1 : Value) (s : St H) : Option (List (Value × St H)) :=
 (O.box s a0).bind fun p1 =>
 (O.box p1.2 a1).bind fun p2 =>
 (O.fieldAddr 151 p1.1 0).bind fun v3 =>
 (O.load p2.2 3 v3).bind fun v4 =>
 (O.bop .lss 3 v4 (Value.int IntKind.i64 64)).bind fun v5 =>
 gd v5 (
 (O.fieldAddr 151 p2.1 0).bind fun v6 =>
 (O.load p2.2 3 v6).bind fun v7 =>
 (O.fieldAddr 151 p1.1 0).bind fun v8 =>
 (O.load p2.2 3 v8).bind fun v9 =>
 (O.bop .geq 3 v7 v9).bind fun v10 =>
 gd v10 (
 (O.fieldAddr 151 p2.1 1).bind fun v11 =>
 (O.load p2.2 3 v11).bind fun v12 =>
 (O.fieldAddr 151 p1.1 1).bind fun v13 =>
 (O.load p2.2 3 v13).bind fun v14 =>
 (O.bop .geq 3 v12 v14).bind fun v15 =>
 some [(v15, p2.2)]) (
 some [((.bool false), p2.2)]) (
 none)) (
 some [((.bool false), p2.2)]) (
 none)
theorem f81_r (C : OracleJ H) (n : Nat) (a0 : Value) (a1 : Value) (s : St H) : bodyD Tryd.prog false C n 81 Tryd.f81 [a0, a1] s = f81 (dOps (H := H) Tryd.prog) C n a0 a1 s := by kernel_rfl
/-! tidepole/xor.around[uint64] -/
noncomputable def f82 (O : Ops H) (C : OracleJ H) (n : Nat) (a0 : Value) (s : St H) : Option (List (Value × St H)) :=
 (O.alloc s 151).bind fun p1 =>
 (C (.fn 101) [a0] p1.2).bind fun L2 => manyK L2 fun v3 s4 =>
 (C (.fn 102) [a0] s4).bind fun L5 => manyK L5 fun v6 s7 =>
 (O.build 151 [(0, v3), (1, v6)]).bind fun v8 =>
 (O.store s7 151 p1.1 v8).bind fun s9 =>
 (O.load s9 151 p1.1).bind fun v10 => some [(v10, s9)]
theorem f82_r (C : OracleJ H) (n : Nat) (a0 : Value) (s : St H) : bodyD Tryd.prog false C n 82 Tryd.f82 [a0] s = f82 (dOps (H := H) Tryd.prog) C n a0 s := by kernel_rfl
/-! (tidepole/xor.window).size -/
noncomputable def f83 (O : Ops H) (C : OracleJ H) (n : Nat) (a0 : Value) (s : St H) : Option (List (Value × St H)) :=
 (O.box s a0).bind fun p1 =>
 (O.fieldAddr 151 p1.1 0).bind fun v2 =>
 (O.load p1.2 3 v2).bind fun v3 =>
 (O.bop .sub 3 (Value.int IntKind.i64 64) v3).bind fun v4 =>
 (O.fieldAddr 151 p1.1 1).bind fun v5 =>
 (O.load p1.2 3 v5).bind fun v6 =>
 (O.bop .sub 3 v4 v6).bind fun v7 =>
 some [(v7, p1.2)]
theorem f83_r (C : OracleJ H) (n : Nat) (a0 : Value) (s : St H) : bodyD Tryd.prog false C n 83 Tryd.f83 [a0] s = f83 (dOps (H := H) Tryd.prog) C n a0 s := by kernel_rfl
/-! (tidepole/xor.State).next -/
noncomputable def f84 (O : Ops H) (C : OracleJ H) (n : Nat) (a0 : Value) (a1 : Value) (a2 : Value) (s : St H) : Option (List (Value × St H)) :=
 (O.box s a0).bind fun p1 =>
 (O.box p1.2 a2).bind fun p2 =>
 (O.alloc p2.2 100).bind fun p3 =>
 (O.fieldAddr 100 p1.1 0).bind fun v4 =>
 (O.load p3.2 3 v4).bind fun v5 =>
 (O.bop .add 3 v5 (Value.int IntKind.i64 1)).bind fun v6 =>
 (O.fieldAddr 151 p2.1 0).bind fun v7 =>
 (O.load p3.2 3 v7).bind fun v8 =>
 (O.fieldAddr 151 p2.1 1).bind fun v9 =>
 (O.load p3.2 3 v9).bind fun v10 =>
 (O.build 100 [(0, v6), (1, a1), (2, v8), (3, v10)]).bind fun v11 =>
 (O.store p3.2 100 p3.1 v11).bind fun s12 =>
 (O.load s12 100 p3.1).bind fun v13 => some [(v13, s12)]
theorem f84_r (C : OracleJ H) (n : Nat) (a0 : Value) (a1 : Value) (a2 : Value) (s : St H) : bodyD Tryd.prog false C n 84 Tryd.f84 [a0, a1, a2] s = f84 (dOps (H := H) Tryd.prog) C n a0 a1 a2 s := by kernel_rfl
/-! tidepole/vint.put[uint64] -/
def f85_l0_m (i0 i1 i2 i6 i9 i10 i11 i12 i13 i14 i15 i16 i17 : Value) (x : Value × Value) : List Value := [i0, i1, i2, undefV, undefV, undefV, i6, x.1, x.2, i9, i10, i11, i12, i13, i14, i15, i16, i17, dc, dc, dc, dc, dc, dc, dc, dc, dc, dc, undefV, undefV, undefV, undefV, undefV]
noncomputable def f85_l0 (O : Ops H) (C : OracleJ H) (n : Nat) (nx : (Value × Value) → St H → Option (List (Value × St H))) (kx : Nat → (Value × Value) → St H → Option (List (Value × St H))) (kr : (Value × Value) → St H → Option (List (Value × St H))) (x : Value × Value) (s : St H) : Option (List (Value × St H)) :=
 (O.bop .gtr 38 x.2 (Value.int IntKind.u64 127)).bind fun v9 =>
 (O.boolO v9).bind fun b10 => cond b10 (
 (O.conv false s 38 5 x.2).bind fun p11 =>
 (O.bop .or 5 p11.1 (Value.int IntKind.u8 128)).bind fun v12 =>
 (O.buildSlice false p11.2 22 1 [(0, v12)]).bind fun p13 =>
 (O.append false p13.2 22 22 x.1 p13.1).bind fun p14 =>
 (O.bop .shr 38 x.2 (Value.int IntKind.u64 7)).bind fun v15 =>
 nx (p14.1, v15) p14.2) (
 kx 0 (x.1, x.2) s)
theorem f85_l0_b (C : OracleJ H) (n : Nat) (i0 i1 i2 i6 i9 i10 i11 i12 i13 i14 i15 i16 i17 : Value) (x : Value × Value) (s : St H) (nx : List Value → St H → Option (List (Value × St H))) (K : Ex → List Value → St H → Option (List (Value × St H))) :
 exec Tryd.prog false C n 85 none (cdp Tryd.f85 [1, 1, 1, 0, 0, 0]) (f85_l0_m i0 i1 i2 i6 i9 i10 i11 i12 i13 i14 i15 i16 i17 x) s (kIter (scratch (cdp Tryd.f85 [1, 1, 1, 0, 0, 0])) nx K) = f85_l0 (dOps (H := H) Tryd.prog) C n (fun x s => nx (f85_l0_m i0 i1 i2 i6 i9 i10 i11 i12 i13 i14 i15 i16 i17 x) s) (fun i x s => K (.exit i) (f85_l0_m i0 i1 i2 i6 i9 i10 i11 i12 i13 i14 i15 i16 i17 x) s) (fun x s => K .ret (f85_l0_m i0 i1 i2 i6 i9 i10 i11 i12 i13 i14 i15 i16 i17 x) s) x s := by kernel_rfl
theorem f85_l0_e (C : OracleJ H) (n : Nat) (i0 i1 i2 i6 i9 i10 i11 i12 i13 i14 i15 i16 i17 : Value) (m : Nat) (x : Value × Value) (s : St H) (K : Ex → List Value → St H → Option (List (Value × St H))) :
 iter (fun t s k => exec Tryd.prog false C n 85 none (cdp Tryd.f85 [1, 1, 1, 0, 0, 0]) t s k) (scratch (cdp Tryd.f85 [1, 1, 1, 0, 0, 0])) m (f85_l0_m i0 i1 i2 i6 i9 i10 i11 i12 i13 i14 i15 i16 i17 x) s K = iterS (f85_l0 (dOps (H := H) Tryd.prog) C n) (fun i x s => K (.exit i) (f85_l0_m i0 i1 i2 i6 i9 i10 i11 i12 i13 i14 i15 i16 i17 x) s) (fun x s => K .ret (f85_l0_m i0 i1 i2 i6 i9 i10 i11 i12 i13 i14 i15 i16 i17 x) s) m x s :=
   iter_eq (f85_l0_m i0 i1 i2 i6 i9 i10 i11 i12 i13 i14 i15 i16 i17) (f85_l0 (dOps (H := H) Tryd.prog) C n) (fun x s nx K => f85_l0_b C n i0 i1 i2 i6 i9 i10 i11 i12 i13 i14 i15 i16 i17 x s nx K) K m x s
noncomputable def f85 (O : Ops H) (C : OracleJ H) (n : Nat) (a0 : Value) (a1 : Value) (a2 : Value) (s : St H) : Option (List (Value × St H)) :=
 (O.len s 22 a0).bind fun v1 =>
 (O.bop .add 3 v1 (Value.int IntKind.i64 10)).bind fun v2 =>
 (O.makeSlice false s 22 (Value.int IntKind.i64 0) v2).bind fun p3 =>
 (O.append false p3.2 22 22 p3.1 a0).bind fun p4 =>
 (O.tgt a2 [a1]).bind fun g5 => (C g5.1 g5.2 p4.2).bind fun L6 => manyK L6 fun v7 s8 =>
 iterS (f85_l0 O C n )
 (fun i16 x17 s18 => (bif Nat.beq i16 0 then
 (O.conv false s18 38 5 x17.2).bind fun p21 =>
 (O.buildSlice false p21.2 22 1 [(0, p21.1)]).bind fun p22 =>
 (O.append false p22.2 22 22 x17.1 p22.1).bind fun p23 =>
 some [(p23.1, p23.2)] else none))
 (fun x19 s20 => some [((fzV 2 #[]), s20)]) n (p4.1, v7) s8
theorem f85_l0_k (C : OracleJ H) (n : Nat) (i0 i1 i2 i6 i9 i10 i11 i12 i13 i14 i15 i16 i17 : Value) (i : Nat) (x : Value × Value) (s : St H) : (kBlock 0 (kSeq Tryd.prog false C n 85 none (cdp Tryd.f85 [1, 1, 1, 1]) (kFun Tryd.prog Tryd.f85))) (.exit i) (f85_l0_m i0 i1 i2 i6 i9 i10 i11 i12 i13 i14 i15 i16 i17 x) s =
 (bif Nat.beq i 0 then
 ((dOps (H := H) Tryd.prog).conv false s 38 5 x.2).bind fun p35 =>
 ((dOps (H := H) Tryd.prog).buildSlice false p35.2 22 1 [(0, p35.1)]).bind fun p36 =>
 ((dOps (H := H) Tryd.prog).append false p36.2 22 22 x.1 p36.1).bind fun p37 =>
 some [(p37.1, p37.2)] else none) := by kernel_rfl
theorem f85_r (C : OracleJ H) (n : Nat) (a0 : Value) (a1 : Value) (a2 : Value) (s : St H) : bodyD Tryd.prog false C n 85 Tryd.f85 [a0, a1, a2] s = f85 (dOps (H := H) Tryd.prog) C n a0 a1 a2 s := by
  have h1 : bodyD Tryd.prog false C n 85 Tryd.f85 [a0, a1, a2] s =
 ((dOps (H := H) Tryd.prog).len s 22 a0).bind fun v24 =>
 ((dOps (H := H) Tryd.prog).bop .add 3 v24 (Value.int IntKind.i64 10)).bind fun v25 =>
 ((dOps (H := H) Tryd.prog).makeSlice false s 22 (Value.int IntKind.i64 0) v25).bind fun p26 =>
 ((dOps (H := H) Tryd.prog).append false p26.2 22 22 p26.1 a0).bind fun p27 =>
 ((dOps (H := H) Tryd.prog).tgt a2 [a1]).bind fun g28 => (C g28.1 g28.2 p27.2).bind fun L29 => manyK L29 fun v30 s31 =>
 iter (fun t s k => exec Tryd.prog false C n 85 none (cdp Tryd.f85 [1, 1, 1, 0, 0, 0]) t s k) (scratch (cdp Tryd.f85 [1, 1, 1, 0, 0, 0])) n (f85_l0_m a0 a1 a2 (fzV 2 #[]) a0 v24 v25 p26.1 a0 p27.1 a2 a1 v30 (p27.1, v30)) s31 (kBlock 0 (kSeq Tryd.prog false C n 85 none (cdp Tryd.f85 [1, 1, 1, 1]) (kFun Tryd.prog Tryd.f85))) := by kernel_rfl
  rw [h1]
  simp only [f85_l0_e, f85_l0_k]
  show _ = f85 (dOps (H := H) Tryd.prog) C n a0 a1 a2 s
  kernel_rfl
/-! tidepole/vint.plain -/
noncomputable def f86 (O : Ops H) (C : OracleJ H) (n : Nat) (a0 : Value) (s : St H) : Option (List (Value × St H)) :=
 some [(a0, s)]
theorem f86_r (C : OracleJ H) (n : Nat) (a0 : Value) (s : St H) : bodyD Tryd.prog false C n 86 Tryd.f86 [a0] s = f86 (dOps (H := H) Tryd.prog) C n a0 s := by kernel_rfl
/-! (*tidepole/bits.Writer).is -/
noncomputable def f87 (O : Ops H) (C : OracleJ H) (n : Nat) (a0 : Value) (s : St H) : Option (List (Value × St H)) :=
 (O.bop .neq 105 a0 (Go.Value.pointer none)).bind fun v1 =>
 gd v1 (
 (O.nilCheck a0).bind fun v2 =>
 (O.fieldAddr 140 v2 0).bind fun v3 =>
 (O.fieldAddr 138 v3 2).bind fun v4 =>
 (O.load s 4 v4).bind fun v5 =>
 some [(v5, s)]) (
 some [((.bool false), s)]) (
 none)
theorem f87_r (C : OracleJ H) (n : Nat) (a0 : Value) (s : St H) : bodyD Tryd.prog false C n 87 Tryd.f87 [a0] s = f87 (dOps (H := H) Tryd.prog) C n a0 s := by kernel_rfl
/-! tidepole/crc.Put -/
def f88_l0_m (i0 i1 i4 i7 i8 i9 i10 i11 i12 : Value) (x : Value × Value × Value) : List Value := [i0, i1, undefV, undefV, i4, x.1, x.2.1, i7, i8, i9, i10, i11, i12, x.2.2, dc, dc, dc, dc, dc, dc, dc, dc, dc, dc, dc, undefV]
noncomputable def f88_l0 (O : Ops H) (C : OracleJ H) (n : Nat) (i1 : Value) (nx : (Value × Value × Value) → St H → Option (List (Value × St H))) (kx : Nat → (Value × Value × Value) → St H → Option (List (Value × St H))) (kr : (Value × Value × Value) → St H → Option (List (Value × St H))) (x : Value × Value × Value) (s : St H) : Option (List (Value × St H)) :=
 (O.bop .lss 3 x.2.2 (Value.int IntKind.i64 4)).bind fun v5 =>
 (O.boolO v5).bind fun b6 => cond b6 (
 (O.bop .mul 3 (Value.int IntKind.i64 8) x.2.2).bind fun v7 =>
 (O.bop .shr 127 i1 v7).bind fun v8 =>
 (O.conv false s 127 5 v8).bind fun p9 =>
 (O.buildSlice false p9.2 22 1 [(0, p9.1)]).bind fun p10 =>
 (O.append false p10.2 22 22 x.1 p10.1).bind fun p11 =>
 (O.bop .add 3 x.2.2 (Value.int IntKind.i64 1)).bind fun v12 =>
 nx (p11.1, x.2.2, v12) p11.2) (
 kx 0 (x.1, x.2.1, x.2.2) s)
theorem f88_l0_b (C : OracleJ H) (n : Nat) (i0 i1 i4 i7 i8 i9 i10 i11 i12 : Value) (x : Value × Value × Value) (s : St H) (nx : List Value → St H → Option (List (Value × St H))) (K : Ex → List Value → St H → Option (List (Value × St H))) :
 exec Tryd.prog false C n 88 none (cdp Tryd.f88 [1, 1, 0, 1, 0, 0]) (f88_l0_m i0 i1 i4 i7 i8 i9 i10 i11 i12 x) s (kIter (scratch (cdp Tryd.f88 [1, 1, 0, 1, 0, 0])) nx K) = f88_l0 (dOps (H := H) Tryd.prog) C n i1 (fun x s => nx (f88_l0_m i0 i1 i4 i7 i8 i9 i10 i11 i12 x) s) (fun i x s => K (.exit i) (f88_l0_m i0 i1 i4 i7 i8 i9 i10 i11 i12 x) s) (fun x s => K .ret (f88_l0_m i0 i1 i4 i7 i8 i9 i10 i11 i12 x) s) x s := by kernel_rfl
theorem f88_l0_e (C : OracleJ H) (n : Nat) (i0 i1 i4 i7 i8 i9 i10 i11 i12 : Value) (m : Nat) (x : Value × Value × Value) (s : St H) (K : Ex → List Value → St H → Option (List (Value × St H))) :
 iter (fun t s k => exec Tryd.prog false C n 88 none (cdp Tryd.f88 [1, 1, 0, 1, 0, 0]) t s k) (scratch (cdp Tryd.f88 [1, 1, 0, 1, 0, 0])) m (f88_l0_m i0 i1 i4 i7 i8 i9 i10 i11 i12 x) s K = iterS (f88_l0 (dOps (H := H) Tryd.prog) C n i1) (fun i x s => K (.exit i) (f88_l0_m i0 i1 i4 i7 i8 i9 i10 i11 i12 x) s) (fun x s => K .ret (f88_l0_m i0 i1 i4 i7 i8 i9 i10 i11 i12 x) s) m x s :=
   iter_eq (f88_l0_m i0 i1 i4 i7 i8 i9 i10 i11 i12) (f88_l0 (dOps (H := H) Tryd.prog) C n i1) (fun x s nx K => f88_l0_b C n i0 i1 i4 i7 i8 i9 i10 i11 i12 x s nx K) K m x s
noncomputable def f88 (O : Ops H) (C : OracleJ H) (n : Nat) (a0 : Value) (a1 : Value) (s : St H) : Option (List (Value × St H)) :=
 (O.len s 22 a0).bind fun v1 =>
 (O.bop .add 3 v1 (Value.int IntKind.i64 4)).bind fun v2 =>
 (O.makeSlice false s 22 (Value.int IntKind.i64 0) v2).bind fun p3 =>
 (O.append false p3.2 22 22 p3.1 a0).bind fun p4 =>
 iterS (f88_l0 O C n a1 )
 (fun i13 x14 s15 => (bif Nat.beq i13 0 then
 some [(x14.1, s15)] else none))
 (fun x16 s17 => some [((fzV 2 #[]), s17)]) n (p4.1, undefV, (Value.int IntKind.i64 0)) p4.2
theorem f88_l0_k (C : OracleJ H) (n : Nat) (i0 i1 i4 i7 i8 i9 i10 i11 i12 : Value) (i : Nat) (x : Value × Value × Value) (s : St H) : (kBlock 0 (kSeq Tryd.prog false C n 88 none (cdp Tryd.f88 [1, 1, 1]) (kFun Tryd.prog Tryd.f88))) (.exit i) (f88_l0_m i0 i1 i4 i7 i8 i9 i10 i11 i12 x) s =
 (bif Nat.beq i 0 then
 some [(x.1, s)] else none) := by kernel_rfl
theorem f88_r (C : OracleJ H) (n : Nat) (a0 : Value) (a1 : Value) (s : St H) : bodyD Tryd.prog false C n 88 Tryd.f88 [a0, a1] s = f88 (dOps (H := H) Tryd.prog) C n a0 a1 s := by
  have h1 : bodyD Tryd.prog false C n 88 Tryd.f88 [a0, a1] s =
 ((dOps (H := H) Tryd.prog).len s 22 a0).bind fun v18 =>
 ((dOps (H := H) Tryd.prog).bop .add 3 v18 (Value.int IntKind.i64 4)).bind fun v19 =>
 ((dOps (H := H) Tryd.prog).makeSlice false s 22 (Value.int IntKind.i64 0) v19).bind fun p20 =>
 ((dOps (H := H) Tryd.prog).append false p20.2 22 22 p20.1 a0).bind fun p21 =>
 iter (fun t s k => exec Tryd.prog false C n 88 none (cdp Tryd.f88 [1, 1, 0, 1, 0, 0]) t s k) (scratch (cdp Tryd.f88 [1, 1, 0, 1, 0, 0])) n (f88_l0_m a0 a1 (fzV 2 #[]) a0 v18 v19 p20.1 a0 p21.1 (p21.1, undefV, (Value.int IntKind.i64 0))) p21.2 (kBlock 0 (kSeq Tryd.prog false C n 88 none (cdp Tryd.f88 [1, 1, 1]) (kFun Tryd.prog Tryd.f88))) := by kernel_rfl
  rw [h1]
  simp only [f88_l0_e, f88_l0_k]
  show _ = f88 (dOps (H := H) Tryd.prog) C n a0 a1 s
  kernel_rfl
/-! tidepole/crc.Sum -/
noncomputable def f89 (O : Ops H) (C : OracleJ H) (n : Nat) (a0 : Value) (s : St H) : Option (List (Value × St H)) :=
 (C (.fn 103) [(Value.int IntKind.u32 0), a0] s).bind fun L1 => manyK L1 fun v2 s3 =>
 some [(v2, s3)]
theorem f89_r (C : OracleJ H) (n : Nat) (a0 : Value) (s : St H) : bodyD Tryd.prog false C n 89 Tryd.f89 [a0] s = f89 (dOps (H := H) Tryd.prog) C n a0 s := by kernel_rfl
/-! slices.Chunk[[]tidepole/api.Sample,tidepole/api.Sample]$1 -/
/-! tidepole/crc.Read -/
def f92_l0_m (i0 i6 i7 i8 : Value) (x : Value × Value × Value) : List Value := [i0, undefV, (Value.int IntKind.u32 0), (Value.int IntKind.i64 0), x.1, x.2.1, i6, i7, i8, x.2.2, dc, dc, dc, dc, dc, dc, dc, dc, dc, dc, dc, dc, dc, undefV]
noncomputable def f92_l0 (O : Ops H) (C : OracleJ H) (n : Nat) (i0 : Value) (nx : (Value × Value × Value) → St H → Option (List (Value × St H))) (kx : Nat → (Value × Value × Value) → St H → Option (List (Value × St H))) (kr : (Value × Value × Value) → St H → Option (List (Value × St H))) (x : Value × Value × Value) (s : St H) : Option (List (Value × St H)) :=
 (O.bop .lss 3 x.2.2 (Value.int IntKind.i64 4)).bind fun v4 =>
 (O.boolO v4).bind fun b5 => cond b5 (
 (O.indexAddr 22 i0 x.2.2).bind fun v6 =>
 (O.load s 5 v6).bind fun v7 =>
 (O.conv false s 5 127 v7).bind fun p8 =>
 (O.bop .mul 3 (Value.int IntKind.i64 8) x.2.2).bind fun v9 =>
 (O.bop .shl 127 p8.1 v9).bind fun v10 =>
 (O.bop .or 127 x.1 v10).bind fun v11 =>
 (O.bop .add 3 x.2.2 (Value.int IntKind.i64 1)).bind fun v12 =>
 nx (v11, x.2.2, v12) p8.2) (
 kx 0 (x.1, x.2.1, x.2.2) s)
theorem f92_l0_b (C : OracleJ H) (n : Nat) (i0 i6 i7 i8 : Value) (x : Value × Value × Value) (s : St H) (nx : List Value → St H → Option (List (Value × St H))) (K : Ex → List Value → St H → Option (List (Value × St H))) :
 exec Tryd.prog false C n 92 none (cdp Tryd.f92 [1, 1, 1, 0, 1, 0, 0]) (f92_l0_m i0 i6 i7 i8 x) s (kIter (scratch (cdp Tryd.f92 [1, 1, 1, 0, 1, 0, 0])) nx K) = f92_l0 (dOps (H := H) Tryd.prog) C n i0 (fun x s => nx (f92_l0_m i0 i6 i7 i8 x) s) (fun i x s => K (.exit i) (f92_l0_m i0 i6 i7 i8 x) s) (fun x s => K .ret (f92_l0_m i0 i6 i7 i8 x) s) x s := by kernel_rfl
theorem f92_l0_e (C : OracleJ H) (n : Nat) (i0 i6 i7 i8 : Value) (m : Nat) (x : Value × Value × Value) (s : St H) (K : Ex → List Value → St H → Option (List (Value × St H))) :
 iter (fun t s k => exec Tryd.prog false C n 92 none (cdp Tryd.f92 [1, 1, 1, 0, 1, 0, 0]) t s k) (scratch (cdp Tryd.f92 [1, 1, 1, 0, 1, 0, 0])) m (f92_l0_m i0 i6 i7 i8 x) s K = iterS (f92_l0 (dOps (H := H) Tryd.prog) C n i0) (fun i x s => K (.exit i) (f92_l0_m i0 i6 i7 i8 x) s) (fun x s => K .ret (f92_l0_m i0 i6 i7 i8 x) s) m x s :=
   iter_eq (f92_l0_m i0 i6 i7 i8) (f92_l0 (dOps (H := H) Tryd.prog) C n i0) (fun x s nx K => f92_l0_b C n i0 i6 i7 i8 x s nx K) K m x s
noncomputable def f92 (O : Ops H) (C : OracleJ H) (n : Nat) (a0 : Value) (s : St H) : Option (List (Value × St H)) :=
 (O.len s 22 a0).bind fun v1 =>
 (O.bop .lss 3 v1 (Value.int IntKind.i64 4)).bind fun v2 =>
 (O.boolO v2).bind fun b3 => cond b3 (
 some [(.tuple #[(Value.int IntKind.u32 0), (Value.int IntKind.i64 7)], s)]) (
 iterS (f92_l0 O C n a0 )
 (fun i13 x14 s15 => (bif Nat.beq i13 0 then
 some [(.tuple #[x14.1, (Value.int IntKind.i64 0)], s15)] else none))
 (fun x16 s17 => some [(.tuple #[(Value.int IntKind.u32 0), (Value.int IntKind.i64 0)], s17)]) n ((Value.int IntKind.u32 0), undefV, (Value.int IntKind.i64 0)) s)
theorem f92_l0_k (C : OracleJ H) (n : Nat) (i0 i6 i7 i8 : Value) (i : Nat) (x : Value × Value × Value) (s : St H) : (kBlock 0 (kSeq Tryd.prog false C n 92 none (cdp Tryd.f92 [1, 1, 1, 1]) (kFun Tryd.prog Tryd.f92))) (.exit i) (f92_l0_m i0 i6 i7 i8 x) s =
 (bif Nat.beq i 0 then
 some [(.tuple #[x.1, (Value.int IntKind.i64 0)], s)] else none) := by kernel_rfl
theorem f92_r (C : OracleJ H) (n : Nat) (a0 : Value) (s : St H) : bodyD Tryd.prog false C n 92 Tryd.f92 [a0] s = f92 (dOps (H := H) Tryd.prog) C n a0 s := by
  have h1 : bodyD Tryd.prog false C n 92 Tryd.f92 [a0] s =
 ((dOps (H := H) Tryd.prog).len s 22 a0).bind fun v18 =>
 ((dOps (H := H) Tryd.prog).bop .lss 3 v18 (Value.int IntKind.i64 4)).bind fun v19 =>
 ((dOps (H := H) Tryd.prog).boolO v19).bind fun b20 => cond b20 (
 some [(.tuple #[(Value.int IntKind.u32 0), (Value.int IntKind.i64 7)], s)]) (
 iter (fun t s k => exec Tryd.prog false C n 92 none (cdp Tryd.f92 [1, 1, 1, 0, 1, 0, 0]) t s k) (scratch (cdp Tryd.f92 [1, 1, 1, 0, 1, 0, 0])) n (f92_l0_m a0 a0 v18 v19 ((Value.int IntKind.u32 0), undefV, (Value.int IntKind.i64 0))) s (kBlock 0 (kSeq Tryd.prog false C n 92 none (cdp Tryd.f92 [1, 1, 1, 1]) (kFun Tryd.prog Tryd.f92)))) := by kernel_rfl
  rw [h1]
  simp only [f92_l0_e, f92_l0_k]
  show _ = f92 (dOps (H := H) Tryd.prog) C n a0 s
  kernel_rfl
/-! tidepole/stamp.difference -/
noncomputable def f93 (O : Ops H) (C : OracleJ H) (n : Nat) (a0 : Value) (s : St H) : Option (List (Value × St H)) :=
 (C (.fn 105) [a0] s).bind fun L1 => manyK L1 fun v2 s3 =>
 (O.extract v2 0).bind fun v4 =>
 (O.extract v2 1).bind fun v5 =>
 (O.bop .neq 25 v5 (Value.int IntKind.i64 0)).bind fun v6 =>
 (O.boolO v6).bind fun b7 => cond b7 (
 some [(.tuple #[(Value.int IntKind.i64 0), v5], s3)]) (
 (O.indexAddr 148 (gpV 0 0) v4).bind fun v8 =>
 (O.fieldAddr 147 v8 2).bind fun v9 =>
 (O.load s3 3 v9).bind fun v10 =>
 (C (.fn 64) [a0, v10] s3).bind fun L11 => manyK L11 fun v12 s13 =>
 (O.extract v12 0).bind fun v14 =>
 (O.extract v12 1).bind fun v15 =>
 (O.bop .neq 25 v15 (Value.int IntKind.i64 0)).bind fun v16 =>
 (O.boolO v16).bind fun b17 => cond b17 (
 some [(.tuple #[(Value.int IntKind.i64 0), v15], s13)]) (
 (C (.fn 77) [v14] s13).bind fun L18 => manyK L18 fun v19 s20 =>
 (O.bop .neq 3 v19 v4).bind fun v21 =>
 (O.boolO v21).bind fun b22 => cond b22 (
 some [(.tuple #[(Value.int IntKind.i64 0), (Value.int IntKind.i64 60)], s20)]) (
 (O.bop .shr 38 v14 (Value.int IntKind.u64 1)).bind fun v23 =>
 (O.conv false s20 38 3 v23).bind fun p24 =>
 (O.bop .and 38 v14 (Value.int IntKind.u64 1)).bind fun v25 =>
 (O.conv false p24.2 38 3 v25).bind fun p26 =>
 (O.uop .neg p26.1).bind fun v27 =>
 (O.bop .xor 3 p24.1 v27).bind fun v28 =>
 some [(.tuple #[v28, v15], p26.2)])))
theorem f93_r (C : OracleJ H) (n : Nat) (a0 : Value) (s : St H) : bodyD Tryd.prog false C n 93 Tryd.f93 [a0] s = f93 (dOps (H := H) Tryd.prog) C n a0 s := by kernel_rfl
/-! tidepole/xor.differs -/
noncomputable def f94 (O : Ops H) (C : OracleJ H) (n : Nat) (a0 : Value) (a1 : Value) (s : St H) : Option (List (Value × St H)) :=
 (O.box s a1).bind fun p1 =>
 (O.alloc p1.2 151).bind fun p2 =>
 (O.buildSlice false p2.2 45 1 [(0, (Value.int IntKind.i64 1))]).bind fun p3 =>
 (C (.fn 106) [a0, p3.1] p3.2).bind fun L4 => manyK L4 fun v5 s6 =>
 (O.extract v5 0).bind fun v7 =>
 (O.extract v5 1).bind fun v8 =>
 jn (fun (j711_23 : Value) =>
 (O.boolO j711_23).bind fun b17 => cond b17 (
 (O.load s6 151 p1.1).bind fun v18 =>
 (O.store s6 151 p2.1 v18).bind fun s19 =>
 (O.load s19 151 p2.1).bind fun v20 => some [(.tuple #[(Value.int IntKind.u64 0), v20, v8], s19)]) (
 (O.buildSlice false s6 45 1 [(0, (Value.int IntKind.i64 1))]).bind fun p21 =>
 (C (.fn 106) [a0, p21.1] p21.2).bind fun L22 => manyK L22 fun v23 s24 =>
 (O.extract v23 0).bind fun v25 =>
 (O.extract v23 1).bind fun v26 =>
 (O.bop .neq 25 v26 (Value.int IntKind.i64 0)).bind fun v27 =>
 (O.boolO v27).bind fun b28 => cond b28 (
 (O.load s24 151 p1.1).bind fun v29 =>
 (O.store s24 151 p2.1 v29).bind fun s30 =>
 (O.load s30 151 p2.1).bind fun v31 => some [(.tuple #[(Value.int IntKind.u64 0), v31, v26], s30)]) (
 (O.indexAddr 46 v25 (Value.int IntKind.i64 0)).bind fun v32 =>
 (O.load s24 38 v32).bind fun v33 =>
 (O.bop .eql 38 v33 (Value.int IntKind.u64 1)).bind fun v34 =>
 (O.boolO v34).bind fun b35 => cond b35 (
 (O.load s24 151 p1.1).bind fun v36 =>
 (C (.fn 107) [a0, v36] s24).bind fun L37 => manyK L37 fun v38 s39 =>
 (O.extract v38 0).bind fun v40 =>
 (O.extract v38 1).bind fun v41 =>
 (O.extract v38 2).bind fun v42 =>
 (O.store s39 151 p2.1 v41).bind fun s43 =>
 (O.load s43 151 p2.1).bind fun v44 => some [(.tuple #[v40, v44, v42], s43)]) (
 (O.fieldAddr 151 p1.1 0).bind fun v45 =>
 (O.load s24 3 v45).bind fun v46 =>
 (O.bop .eql 3 v46 (Value.int IntKind.i64 64)).bind fun v47 =>
 (O.boolO v47).bind fun b48 => cond b48 (
 (O.load s24 151 p1.1).bind fun v49 =>
 (O.store s24 151 p2.1 v49).bind fun s50 =>
 (O.load s50 151 p2.1).bind fun v51 => some [(.tuple #[(Value.int IntKind.u64 0), v51, (Value.int IntKind.i64 50)], s50)]) (
 (O.load s24 151 p1.1).bind fun v52 =>
 (C (.fn 108) [a0, v52] s24).bind fun L53 => manyK L53 fun v54 s55 =>
 (O.extract v54 0).bind fun v56 =>
 (O.extract v54 1).bind fun v57 =>
 (O.load s55 151 p1.1).bind fun v58 =>
 (O.store s55 151 p2.1 v58).bind fun s59 =>
 (O.load s59 151 p2.1).bind fun v60 => some [(.tuple #[v56, v60, v57], s59)]))))) fun k711 =>
 (O.bop .neq 25 v8 (Value.int IntKind.i64 0)).bind fun v9 =>
 gd v9 (
 k711 (.bool true)) (
 (O.indexAddr 46 v7 (Value.int IntKind.i64 0)).bind fun v10 =>
 (O.load s6 38 v10).bind fun v11 =>
 (O.bop .eql 38 v11 (Value.int IntKind.u64 0)).bind fun v12 =>
 k711 v12) (
 none)
theorem f94_r (C : OracleJ H) (n : Nat) (a0 : Value) (a1 : Value) (s : St H) : bodyD Tryd.prog false C n 94 Tryd.f94 [a0, a1] s = f94 (dOps (H := H) Tryd.prog) C n a0 a1 s := by kernel_rfl
/-! (*tidepole/bits.Reader).is -/
noncomputable def f95 (O : Ops H) (C : OracleJ H) (n : Nat) (a0 : Value) (s : St H) : Option (List (Value × St H)) :=
 (O.bop .neq 64 a0 (Go.Value.pointer none)).bind fun v1 =>
 gd v1 (
 (O.nilCheck a0).bind fun v2 =>
 (O.fieldAddr 120 v2 2).bind fun v3 =>
 (O.load s 4 v3).bind fun v4 =>
 some [(v4, s)]) (
 some [((.bool false), s)]) (
 none)
theorem f95_r (C : OracleJ H) (n : Nat) (a0 : Value) (s : St H) : bodyD Tryd.prog false C n 95 Tryd.f95 [a0] s = f95 (dOps (H := H) Tryd.prog) C n a0 s := by kernel_rfl
/-! tidepole/bits.low[uint64] -/
noncomputable def f96 (O : Ops H) (C : OracleJ H) (n : Nat) (a0 : Value) (a1 : Value) (s : St H) : Option (List (Value × St H)) :=
 (O.bop .geq 3 a1 (Value.int IntKind.i64 64)).bind fun v1 =>
 (O.boolO v1).bind fun b2 => cond b2 (
 some [(a0, s)]) (
 (O.bop .shl 38 (Value.int IntKind.u64 1) a1).bind fun v3 =>
 (O.bop .sub 38 v3 (Value.int IntKind.u64 1)).bind fun v4 =>
 (O.bop .and 38 a0 v4).bind fun v5 =>
 some [(v5, s)])
theorem f96_r (C : OracleJ H) (n : Nat) (a0 : Value) (a1 : Value) (s : St H) : bodyD Tryd.prog false C n 96 Tryd.f96 [a0, a1] s = f96 (dOps (H := H) Tryd.prog) C n a0 a1 s := by kernel_rfl
/-! (tidepole/stamp.State).right$1 -/
noncomputable def f98 (O : Ops H) (C : OracleJ H) (n : Nat) (a0 : Value) (a1 : Value) (s : St H) : Option (List (Value × St H)) :=
 (O.bop .geq 3 a0 (Value.int IntKind.i64 0)).bind fun v1 =>
 gd v1 (
 (O.bop .leq 3 a0 a1).bind fun v2 =>
 some [(v2, s)]) (
 some [((.bool false), s)]) (
 none)
theorem f98_r (C : OracleJ H) (n : Nat) (a0 : Value) (a1 : Value) (s : St H) : bodyD Tryd.prog false C n 98 Tryd.f98 [a0, a1] s = f98 (dOps (H := H) Tryd.prog) C n a0 a1 s := by kernel_rfl
/-! (*tidepole/bits.buffer).add -/
noncomputable def f99 (O : Ops H) (C : OracleJ H) (n : Nat) (a0 : Value) (a1 : Value) (a2 : Value) (s : St H) : Option (List (Value × St H)) :=
 (O.nilCheck a0).bind fun v1 =>
 (O.fieldAddr 138 v1 0).bind fun v2 =>
 (O.load s 22 v2).bind fun v3 =>
 (O.len s 22 v3).bind fun v4 =>
 (O.bop .mul 3 v4 (Value.int IntKind.i64 8)).bind fun v5 =>
 (O.nilCheck a0).bind fun v6 =>
 (O.fieldAddr 138 v6 1).bind fun v7 =>
 (O.load s 3 v7).bind fun v8 =>
 (O.bop .sub 3 v5 v8).bind fun v9 =>
 (O.bop .eql 3 v9 (Value.int IntKind.i64 0)).bind fun v10 =>
 jn (fun (j739_6 : Value) (js739 : St H) =>
 (O.nilCheck a0).bind fun v43 =>
 (O.fieldAddr 138 v43 0).bind fun v44 =>
 (O.load js739 22 v44).bind fun v45 =>
 (O.nilCheck a0).bind fun v46 =>
 (O.fieldAddr 138 v46 0).bind fun v47 =>
 (O.load js739 22 v47).bind fun v48 =>
 (O.len js739 22 v48).bind fun v49 =>
 (O.bop .sub 3 v49 (Value.int IntKind.i64 1)).bind fun v50 =>
 (O.indexAddr 22 v45 v50).bind fun v51 =>
 (O.load js739 5 v51).bind fun v52 =>
 (O.bop .sub 3 j739_6 a2).bind fun v53 =>
 (O.bop .shl 38 a1 v53).bind fun v54 =>
 (O.conv true js739 38 5 v54).bind fun p55 =>
 (O.bop .or 5 v52 p55.1).bind fun v56 =>
 (O.indexAddr 22 v45 v50).bind fun v57 =>
 (O.store p55.2 5 v57 v56).bind fun s58 =>
 (O.nilCheck a0).bind fun v59 =>
 (O.fieldAddr 138 v59 1).bind fun v60 =>
 (O.load s58 3 v60).bind fun v61 =>
 (O.bop .add 3 v61 a2).bind fun v62 =>
 (O.nilCheck a0).bind fun v63 =>
 (O.fieldAddr 138 v63 1).bind fun v64 =>
 (O.store s58 3 v64 v62).bind fun s65 =>
 some [(.tuple #[], s65)]) fun k739 =>
 (O.boolO v10).bind fun b11 => cond b11 (
 (O.nilCheck a0).bind fun v12 =>
 (O.fieldAddr 138 v12 0).bind fun v13 =>
 (O.load s 22 v13).bind fun v14 =>
 (O.buildSlice true s 22 1 [(0, (Value.int IntKind.u8 0))]).bind fun p15 =>
 (O.append true p15.2 22 22 v14 p15.1).bind fun p16 =>
 (O.nilCheck a0).bind fun v17 =>
 (O.fieldAddr 138 v17 0).bind fun v18 =>
 (O.store p16.2 22 v18 p16.1).bind fun s19 =>
 k739 (Value.int IntKind.i64 8) s19) (
 k739 v9 s)
theorem f99_r (C : OracleJ H) (n : Nat) (a0 : Value) (a1 : Value) (a2 : Value) (s : St H) : bodyD Tryd.prog true C n 99 Tryd.f99 [a0, a1, a2] s = f99 (dOps (H := H) Tryd.prog) C n a0 a1 a2 s := by kernel_rfl
/-! (tidepole/stamp.class).holds -/
noncomputable def f100 (O : Ops H) (C : OracleJ H) (n : Nat) (a0 : Value) (a1 : Value) (s : St H) : Option (List (Value × St H)) :=
 (O.box s a0).bind fun p1 =>
 (O.fieldAddr 147 p1.1 2).bind fun v2 =>
 (O.load p1.2 3 v2).bind fun v3 =>
 (O.bop .shr 38 a1 v3).bind fun v4 =>
 (O.bop .eql 38 v4 (Value.int IntKind.u64 0)).bind fun v5 =>
 some [(v5, p1.2)]
theorem f100_r (C : OracleJ H) (n : Nat) (a0 : Value) (a1 : Value) (s : St H) : bodyD Tryd.prog false C n 100 Tryd.f100 [a0, a1] s = f100 (dOps (H := H) Tryd.prog) C n a0 a1 s := by kernel_rfl
/-! math/bits.LeadingZeros64 -/
noncomputable def f101 (O : Ops H) (C : OracleJ H) (n : Nat) (a0 : Value) (s : St H) : Option (List (Value × St H)) :=
 (C (.fn 110) [a0] s).bind fun L1 => manyK L1 fun v2 s3 =>
 (O.bop .sub 3 (Value.int IntKind.i64 64) v2).bind fun v4 =>
 some [(v4, s3)]
theorem f101_r (C : OracleJ H) (n : Nat) (a0 : Value) (s : St H) : bodyD Tryd.prog false C n 101 Tryd.f101 [a0] s = f101 (dOps (H := H) Tryd.prog) C n a0 s := by kernel_rfl
/-! math/bits.TrailingZeros64 -/
noncomputable def f102 (O : Ops H) (C : OracleJ H) (n : Nat) (a0 : Value) (s : St H) : Option (List (Value × St H)) :=
 (O.bop .eql 38 a0 (Value.int IntKind.u64 0)).bind fun v1 =>
 (O.boolO v1).bind fun b2 => cond b2 (
 some [((Value.int IntKind.i64 64), s)]) (
 (O.uop .neg a0).bind fun v3 =>
 (O.bop .and 38 a0 v3).bind fun v4 =>
 (O.bop .mul 38 v4 (Value.int IntKind.u64 285870213051353865)).bind fun v5 =>
 (O.bop .shr 38 v5 (Value.int IntKind.u64 58)).bind fun v6 =>
 (O.indexAddr 176 (gpV 1 0) v6).bind fun v7 =>
 (O.load s 5 v7).bind fun v8 =>
 (O.conv false s 5 3 v8).bind fun p9 =>
 some [(p9.1, p9.2)])
theorem f102_r (C : OracleJ H) (n : Nat) (a0 : Value) (s : St H) : bodyD Tryd.prog false C n 102 Tryd.f102 [a0] s = f102 (dOps (H := H) Tryd.prog) C n a0 s := by kernel_rfl
/-! tidepole/crc.More -/
def f103_l0_m (i0 i1 i8 i9 i10 i11 : Value) (x : Value × Value × Value) : List Value := [i0, i1, undefV, undefV, (Value.int IntKind.u32 0), x.1, undefV, x.2.1, i8, i9, i10, i11, x.2.2, dc, dc, dc, dc, dc, dc, dc, dc, dc, undefV, undefV]
noncomputable def f103_l0 (O : Ops H) (C : OracleJ H) (n : Nat) (i10 i11 : Value) (nx : (Value × Value × Value) → St H → Option (List (Value × St H))) (kx : Nat → (Value × Value × Value) → St H → Option (List (Value × St H))) (kr : (Value × Value × Value) → St H → Option (List (Value × St H))) (x : Value × Value × Value) (s : St H) : Option (List (Value × St H)) :=
 (O.bop .lss 3 x.2.2 i11).bind fun v3 =>
 (O.boolO v3).bind fun b4 => cond b4 (
 (O.indexAddr 22 i10 x.2.2).bind fun v5 =>
 (O.load s 5 v5).bind fun v6 =>
 (O.conv false s 5 127 v6).bind fun p7 =>
 (O.bop .xor 127 x.1 p7.1).bind fun v8 =>
 (C (.fn 111) [v8] p7.2).bind fun L9 => manyK L9 fun v10 s11 =>
 (O.bop .add 3 x.2.2 (Value.int IntKind.i64 1)).bind fun v12 =>
 nx (v10, v6, v12) s11) (
 kx 0 (x.1, x.2.1, x.2.2) s)
theorem f103_l0_b (C : OracleJ H) (n : Nat) (i0 i1 i8 i9 i10 i11 : Value) (x : Value × Value × Value) (s : St H) (nx : List Value → St H → Option (List (Value × St H))) (K : Ex → List Value → St H → Option (List (Value × St H))) :
 exec Tryd.prog false C n 103 none (cdp Tryd.f103 [1, 1, 0, 1, 0, 0]) (f103_l0_m i0 i1 i8 i9 i10 i11 x) s (kIter (scratch (cdp Tryd.f103 [1, 1, 0, 1, 0, 0])) nx K) = f103_l0 (dOps (H := H) Tryd.prog) C n i10 i11 (fun x s => nx (f103_l0_m i0 i1 i8 i9 i10 i11 x) s) (fun i x s => K (.exit i) (f103_l0_m i0 i1 i8 i9 i10 i11 x) s) (fun x s => K .ret (f103_l0_m i0 i1 i8 i9 i10 i11 x) s) x s := by kernel_rfl
theorem f103_l0_e (C : OracleJ H) (n : Nat) (i0 i1 i8 i9 i10 i11 : Value) (m : Nat) (x : Value × Value × Value) (s : St H) (K : Ex → List Value → St H → Option (List (Value × St H))) :
 iter (fun t s k => exec Tryd.prog false C n 103 none (cdp Tryd.f103 [1, 1, 0, 1, 0, 0]) t s k) (scratch (cdp Tryd.f103 [1, 1, 0, 1, 0, 0])) m (f103_l0_m i0 i1 i8 i9 i10 i11 x) s K = iterS (f103_l0 (dOps (H := H) Tryd.prog) C n i10 i11) (fun i x s => K (.exit i) (f103_l0_m i0 i1 i8 i9 i10 i11 x) s) (fun x s => K .ret (f103_l0_m i0 i1 i8 i9 i10 i11 x) s) m x s :=
   iter_eq (f103_l0_m i0 i1 i8 i9 i10 i11) (f103_l0 (dOps (H := H) Tryd.prog) C n i10 i11) (fun x s nx K => f103_l0_b C n i0 i1 i8 i9 i10 i11 x s nx K) K m x s
noncomputable def f103 (O : Ops H) (C : OracleJ H) (n : Nat) (a0 : Value) (a1 : Value) (s : St H) : Option (List (Value × St H)) :=
 (O.uop .xor a0).bind fun v1 =>
 (O.len s 22 a1).bind fun v2 =>
 iterS (f103_l0 O C n a1 v2 )
 (fun i13 x14 s15 => (bif Nat.beq i13 0 then
 (O.uop .xor x14.1).bind fun v18 =>
 some [(v18, s15)] else none))
 (fun x16 s17 => some [((Value.int IntKind.u32 0), s17)]) n (v1, undefV, (Value.int IntKind.i64 0)) s
theorem f103_l0_k (C : OracleJ H) (n : Nat) (i0 i1 i8 i9 i10 i11 : Value) (i : Nat) (x : Value × Value × Value) (s : St H) : (kBlock 0 (kSeq Tryd.prog false C n 103 none (cdp Tryd.f103 [1, 1, 1]) (kFun Tryd.prog Tryd.f103))) (.exit i) (f103_l0_m i0 i1 i8 i9 i10 i11 x) s =
 (bif Nat.beq i 0 then
 ((dOps (H := H) Tryd.prog).uop .xor x.1).bind fun v22 =>
 some [(v22, s)] else none) := by kernel_rfl
theorem f103_r (C : OracleJ H) (n : Nat) (a0 : Value) (a1 : Value) (s : St H) : bodyD Tryd.prog false C n 103 Tryd.f103 [a0, a1] s = f103 (dOps (H := H) Tryd.prog) C n a0 a1 s := by
  have h1 : bodyD Tryd.prog false C n 103 Tryd.f103 [a0, a1] s =
 ((dOps (H := H) Tryd.prog).uop .xor a0).bind fun v19 =>
 ((dOps (H := H) Tryd.prog).len s 22 a1).bind fun v20 =>
 iter (fun t s k => exec Tryd.prog false C n 103 none (cdp Tryd.f103 [1, 1, 0, 1, 0, 0]) t s k) (scratch (cdp Tryd.f103 [1, 1, 0, 1, 0, 0])) n (f103_l0_m a0 a1 a0 v19 a1 v20 (v19, undefV, (Value.int IntKind.i64 0))) s (kBlock 0 (kSeq Tryd.prog false C n 103 none (cdp Tryd.f103 [1, 1, 1]) (kFun Tryd.prog Tryd.f103))) := by kernel_rfl
  rw [h1]
  simp only [f103_l0_e, f103_l0_k]
  show _ = f103 (dOps (H := H) Tryd.prog) C n a0 a1 s
  kernel_rfl
/-! tidepole/stamp.lead -/
def f105_l0_m (i0 : Value) (x : Value × Value × Value × Value × Value × Value) : List Value := [i0, undefV, x.1, x.2.1, x.2.2.1, x.2.2.2.1, x.2.2.2.2.1, x.2.2.2.2.2, dc, dc, dc, dc, dc, dc, dc, dc, dc, dc, dc, dc, dc, dc, dc, dc]
noncomputable def f105_l0 (O : Ops H) (C : OracleJ H) (n : Nat) (i0 : Value) (nx : (Value × Value × Value × Value × Value × Value) → St H → Option (List (Value × St H))) (kx : Nat → (Value × Value × Value × Value × Value × Value) → St H → Option (List (Value × St H))) (kr : (Value × Value × Value × Value × Value × Value) → St H → Option (List (Value × St H))) (x : Value × Value × Value × Value × Value × Value) (s : St H) : Option (List (Value × St H)) :=
 (O.bop .lss 3 x.2.2.2.2.2 (Value.int IntKind.i64 4)).bind fun v1 =>
 (O.boolO v1).bind fun b2 => cond b2 (
 (C (.fn 64) [i0, (Value.int IntKind.i64 1)] s).bind fun L3 => manyK L3 fun v4 s5 =>
 (O.extract v4 0).bind fun v6 =>
 (O.extract v4 1).bind fun v7 =>
 (O.bop .neq 25 v7 (Value.int IntKind.i64 0)).bind fun v8 =>
 gd v8 (
 kr (x.2.2.2.2.2, v7, x.2.2.2.2.2, v6, v7, x.2.2.2.2.2) s5) (
 (O.bop .eql 38 v6 (Value.int IntKind.u64 0)).bind fun v9 =>
 (O.boolO v9).bind fun b12 => cond b12 (
 kr (x.2.2.2.2.2, v7, x.2.2.2.2.2, v6, v7, x.2.2.2.2.2) s5) (
 (O.bop .add 3 x.2.2.2.2.2 (Value.int IntKind.i64 1)).bind fun v13 =>
 nx (x.1, x.2.1, x.2.2.2.2.2, v6, v7, v13) s5)) (
 none)) (
 kx 0 (x.1, x.2.1, x.2.2.1, x.2.2.2.1, x.2.2.2.2.1, x.2.2.2.2.2) s)
theorem f105_l0_b (C : OracleJ H) (n : Nat) (i0 : Value) (x : Value × Value × Value × Value × Value × Value) (s : St H) (nx : List Value → St H → Option (List (Value × St H))) (K : Ex → List Value → St H → Option (List (Value × St H))) :
 exec Tryd.prog false C n 105 none (cdp Tryd.f105 [1, 0, 1, 0, 0]) (f105_l0_m i0 x) s (kIter (scratch (cdp Tryd.f105 [1, 0, 1, 0, 0])) nx K) = f105_l0 (dOps (H := H) Tryd.prog) C n i0 (fun x s => nx (f105_l0_m i0 x) s) (fun i x s => K (.exit i) (f105_l0_m i0 x) s) (fun x s => K .ret (f105_l0_m i0 x) s) x s := by kernel_rfl
theorem f105_l0_e (C : OracleJ H) (n : Nat) (i0 : Value) (m : Nat) (x : Value × Value × Value × Value × Value × Value) (s : St H) (K : Ex → List Value → St H → Option (List (Value × St H))) :
 iter (fun t s k => exec Tryd.prog false C n 105 none (cdp Tryd.f105 [1, 0, 1, 0, 0]) t s k) (scratch (cdp Tryd.f105 [1, 0, 1, 0, 0])) m (f105_l0_m i0 x) s K = iterS (f105_l0 (dOps (H := H) Tryd.prog) C n i0) (fun i x s => K (.exit i) (f105_l0_m i0 x) s) (fun x s => K .ret (f105_l0_m i0 x) s) m x s :=
   iter_eq (f105_l0_m i0) (f105_l0 (dOps (H := H) Tryd.prog) C n i0) (fun x s nx K => f105_l0_b C n i0 x s nx K) K m x s
noncomputable def f105 (O : Ops H) (C : OracleJ H) (n : Nat) (a0 : Value) (s : St H) : Option (List (Value × St H)) :=
 iterS (f105_l0 O C n a0 )
 (fun i14 x15 s16 => (bif Nat.beq i14 0 then
 some [(.tuple #[(Value.int IntKind.i64 4), (Value.int IntKind.i64 0)], s16)] else none))
 (fun x17 s18 => some [(.tuple #[x17.1, x17.2.1], s18)]) n ((Value.int IntKind.i64 0), (Value.int IntKind.i64 0), undefV, undefV, undefV, (Value.int IntKind.i64 0)) s
theorem f105_l0_k (C : OracleJ H) (n : Nat) (i0 : Value) (i : Nat) (x : Value × Value × Value × Value × Value × Value) (s : St H) : (kBlock 0 (kSeq Tryd.prog false C n 105 none (cdp Tryd.f105 [1, 1]) (kFun Tryd.prog Tryd.f105))) (.exit i) (f105_l0_m i0 x) s =
 (bif Nat.beq i 0 then
 some [(.tuple #[(Value.int IntKind.i64 4), (Value.int IntKind.i64 0)], s)] else none) := by kernel_rfl
theorem f105_r (C : OracleJ H) (n : Nat) (a0 : Value) (s : St H) : bodyD Tryd.prog false C n 105 Tryd.f105 [a0] s = f105 (dOps (H := H) Tryd.prog) C n a0 s := by
  have h1 : bodyD Tryd.prog false C n 105 Tryd.f105 [a0] s =
 iter (fun t s k => exec Tryd.prog false C n 105 none (cdp Tryd.f105 [1, 0, 1, 0, 0]) t s k) (scratch (cdp Tryd.f105 [1, 0, 1, 0, 0])) n (f105_l0_m a0 ((Value.int IntKind.i64 0), (Value.int IntKind.i64 0), undefV, undefV, undefV, (Value.int IntKind.i64 0))) s (kBlock 0 (kSeq Tryd.prog false C n 105 none (cdp Tryd.f105 [1, 1]) (kFun Tryd.prog Tryd.f105))) := by kernel_rfl
  rw [h1]
  simp only [f105_l0_e, f105_l0_k]
  show _ = f105 (dOps (H := H) Tryd.prog) C n a0 s
  kernel_rfl
/-! tidepole/xor.read -/
def f106_l0_m (i0 i1 i11 i12 : Value) (x : Value × Value × Value × Value × Value × Value × Value) : List Value := [i0, i1, undefV, undefV, x.1, x.2.1, x.2.2.1, undefV, x.2.2.2.1, x.2.2.2.2.1, x.2.2.2.2.2.1, i11, i12, x.2.2.2.2.2.2, dc, dc, dc, dc, dc, dc, dc, dc, dc, dc, dc, dc, dc, dc, dc, dc, dc, undefV]
noncomputable def f106_l0 (O : Ops H) (C : OracleJ H) (n : Nat) (i0 i11 i12 : Value) (nx : (Value × Value × Value × Value × Value × Value × Value) → St H → Option (List (Value × St H))) (kx : Nat → (Value × Value × Value × Value × Value × Value × Value) → St H → Option (List (Value × St H))) (kr : (Value × Value × Value × Value × Value × Value × Value) → St H → Option (List (Value × St H))) (x : Value × Value × Value × Value × Value × Value × Value) (s : St H) : Option (List (Value × St H)) :=
 (O.bop .lss 3 x.2.2.2.2.2.2 i12).bind fun v2 =>
 (O.boolO v2).bind fun b3 => cond b3 (
 (O.indexAddr 45 i11 x.2.2.2.2.2.2).bind fun v4 =>
 (O.load s 3 v4).bind fun v5 =>
 (C (.fn 64) [i0, v5] s).bind fun L6 => manyK L6 fun v7 s8 =>
 (O.extract v7 0).bind fun v9 =>
 (O.extract v7 1).bind fun v10 =>
 (O.bop .neq 25 v10 (Value.int IntKind.i64 0)).bind fun v11 =>
 (O.boolO v11).bind fun b12 => cond b12 (
 kr ((fzV 2 #[]), v10, x.2.2.1, v5, v9, v10, x.2.2.2.2.2.2) s8) (
 (O.buildSlice false s8 46 1 [(0, v9)]).bind fun p13 =>
 (O.append false p13.2 46 46 x.2.2.1 p13.1).bind fun p14 =>
 (O.bop .add 3 x.2.2.2.2.2.2 (Value.int IntKind.i64 1)).bind fun v15 =>
 nx (x.1, x.2.1, p14.1, v5, v9, v10, v15) p14.2)) (
 kx 0 (x.1, x.2.1, x.2.2.1, x.2.2.2.1, x.2.2.2.2.1, x.2.2.2.2.2.1, x.2.2.2.2.2.2) s)
theorem f106_l0_b (C : OracleJ H) (n : Nat) (i0 i1 i11 i12 : Value) (x : Value × Value × Value × Value × Value × Value × Value) (s : St H) (nx : List Value → St H → Option (List (Value × St H))) (K : Ex → List Value → St H → Option (List (Value × St H))) :
 exec Tryd.prog false C n 106 none (cdp Tryd.f106 [1, 1, 0, 1, 0, 0]) (f106_l0_m i0 i1 i11 i12 x) s (kIter (scratch (cdp Tryd.f106 [1, 1, 0, 1, 0, 0])) nx K) = f106_l0 (dOps (H := H) Tryd.prog) C n i0 i11 i12 (fun x s => nx (f106_l0_m i0 i1 i11 i12 x) s) (fun i x s => K (.exit i) (f106_l0_m i0 i1 i11 i12 x) s) (fun x s => K .ret (f106_l0_m i0 i1 i11 i12 x) s) x s := by kernel_rfl
theorem f106_l0_e (C : OracleJ H) (n : Nat) (i0 i1 i11 i12 : Value) (m : Nat) (x : Value × Value × Value × Value × Value × Value × Value) (s : St H) (K : Ex → List Value → St H → Option (List (Value × St H))) :
 iter (fun t s k => exec Tryd.prog false C n 106 none (cdp Tryd.f106 [1, 1, 0, 1, 0, 0]) t s k) (scratch (cdp Tryd.f106 [1, 1, 0, 1, 0, 0])) m (f106_l0_m i0 i1 i11 i12 x) s K = iterS (f106_l0 (dOps (H := H) Tryd.prog) C n i0 i11 i12) (fun i x s => K (.exit i) (f106_l0_m i0 i1 i11 i12 x) s) (fun x s => K .ret (f106_l0_m i0 i1 i11 i12 x) s) m x s :=
   iter_eq (f106_l0_m i0 i1 i11 i12) (f106_l0 (dOps (H := H) Tryd.prog) C n i0 i11 i12) (fun x s nx K => f106_l0_b C n i0 i1 i11 i12 x s nx K) K m x s
noncomputable def f106 (O : Ops H) (C : OracleJ H) (n : Nat) (a0 : Value) (a1 : Value) (s : St H) : Option (List (Value × St H)) :=
 (O.len s 45 a1).bind fun v1 =>
 iterS (f106_l0 O C n a0 a1 v1 )
 (fun i16 x17 s18 => (bif Nat.beq i16 0 then
 some [(.tuple #[x17.2.2.1, (Value.int IntKind.i64 0)], s18)] else none))
 (fun x19 s20 => some [(.tuple #[x19.1, x19.2.1], s20)]) n ((fzV 2 #[]), (Value.int IntKind.i64 0), (fzV 2 #[]), undefV, undefV, undefV, (Value.int IntKind.i64 0)) s
theorem f106_l0_k (C : OracleJ H) (n : Nat) (i0 i1 i11 i12 : Value) (i : Nat) (x : Value × Value × Value × Value × Value × Value × Value) (s : St H) : (kBlock 0 (kSeq Tryd.prog false C n 106 none (cdp Tryd.f106 [1, 1, 1]) (kFun Tryd.prog Tryd.f106))) (.exit i) (f106_l0_m i0 i1 i11 i12 x) s =
 (bif Nat.beq i 0 then
 some [(.tuple #[x.2.2.1, (Value.int IntKind.i64 0)], s)] else none) := by kernel_rfl
theorem f106_r (C : OracleJ H) (n : Nat) (a0 : Value) (a1 : Value) (s : St H) : bodyD Tryd.prog false C n 106 Tryd.f106 [a0, a1] s = f106 (dOps (H := H) Tryd.prog) C n a0 a1 s := by
  have h1 : bodyD Tryd.prog false C n 106 Tryd.f106 [a0, a1] s =
 ((dOps (H := H) Tryd.prog).len s 45 a1).bind fun v21 =>
 iter (fun t s k => exec Tryd.prog false C n 106 none (cdp Tryd.f106 [1, 1, 0, 1, 0, 0]) t s k) (scratch (cdp Tryd.f106 [1, 1, 0, 1, 0, 0])) n (f106_l0_m a0 a1 a1 v21 ((fzV 2 #[]), (Value.int IntKind.i64 0), (fzV 2 #[]), undefV, undefV, undefV, (Value.int IntKind.i64 0))) s (kBlock 0 (kSeq Tryd.prog false C n 106 none (cdp Tryd.f106 [1, 1, 1]) (kFun Tryd.prog Tryd.f106))) := by kernel_rfl
  rw [h1]
  simp only [f106_l0_e, f106_l0_k]
  show _ = f106 (dOps (H := H) Tryd.prog) C n a0 a1 s
  kernel_rfl
/-! tidepole/xor.fresh -/
noncomputable def f107 (O : Ops H) (C : OracleJ H) (n : Nat) (a0 : Value) (a1 : Value) (s : St H) : Option (List (Value × St H)) :=
 (O.box s a1).bind fun p1 =>
 (O.alloc p1.2 151).bind fun p2 =>
 (O.buildSlice false p2.2 45 2 [(0, (Value.int IntKind.i64 6)), (1, (Value.int IntKind.i64 6))]).bind fun p3 =>
 (C (.fn 106) [a0, p3.1] p3.2).bind fun L4 => manyK L4 fun v5 s6 =>
 (O.extract v5 0).bind fun v7 =>
 (O.extract v5 1).bind fun v8 =>
 (O.bop .neq 25 v8 (Value.int IntKind.i64 0)).bind fun v9 =>
 (O.boolO v9).bind fun b10 => cond b10 (
 (O.build 151 []).bind fun v11 =>
 (O.store s6 151 p2.1 v11).bind fun s12 =>
 (O.load s12 151 p2.1).bind fun v13 => some [(.tuple #[(Value.int IntKind.u64 0), v13, v8], s12)]) (
 (O.indexAddr 46 v7 (Value.int IntKind.i64 0)).bind fun v14 =>
 (O.load s6 38 v14).bind fun v15 =>
 (O.conv false s6 38 3 v15).bind fun p16 =>
 (O.build 151 [(0, p16.1)]).bind fun v17 =>
 (O.alloc p16.2 151).bind fun p18 =>
 (O.store p18.2 151 p18.1 v17).bind fun s19 =>
 (O.fieldAddr 151 p18.1 0).bind fun v20 =>
 (O.load s19 3 v20).bind fun v21 =>
 (O.bop .sub 3 (Value.int IntKind.i64 64) v21).bind fun v22 =>
 (O.indexAddr 46 v7 (Value.int IntKind.i64 1)).bind fun v23 =>
 (O.load s19 38 v23).bind fun v24 =>
 (O.conv false s19 38 3 v24).bind fun p25 =>
 (O.bop .sub 3 v22 p25.1).bind fun v26 =>
 (O.bop .sub 3 v26 (Value.int IntKind.i64 1)).bind fun v27 =>
 (O.fieldAddr 151 p18.1 1).bind fun v28 =>
 (O.store p25.2 3 v28 v27).bind fun s29 =>
 (O.fieldAddr 151 p18.1 1).bind fun v30 =>
 (O.load s29 3 v30).bind fun v31 =>
 (O.bop .lss 3 v31 (Value.int IntKind.i64 0)).bind fun v32 =>
 (O.boolO v32).bind fun b33 => cond b33 (
 (O.build 151 []).bind fun v34 =>
 (O.store s29 151 p2.1 v34).bind fun s35 =>
 (O.load s35 151 p2.1).bind fun v36 => some [(.tuple #[(Value.int IntKind.u64 0), v36, (Value.int IntKind.i64 50)], s35)]) (
 (O.load s29 151 p18.1).bind fun v37 =>
 (C (.fn 108) [a0, v37] s29).bind fun L38 => manyK L38 fun v39 s40 =>
 (O.extract v39 0).bind fun v41 =>
 (O.extract v39 1).bind fun v42 =>
 jn (fun (j823_58 : Value) (js823 : St H) =>
 jn (fun (j826_8 : Value) =>
 (O.load js823 151 p18.1).bind fun v58 =>
 (O.store js823 151 p2.1 v58).bind fun s59 =>
 (O.load s59 151 p2.1).bind fun v60 => some [(.tuple #[v41, v60, j826_8], s59)]) fun k826 =>
 (O.boolO j823_58).bind fun b54 => cond b54 (
 k826 (Value.int IntKind.i64 50)) (
 k826 v42)) fun k823 =>
 (O.bop .eql 25 v42 (Value.int IntKind.i64 0)).bind fun v43 =>
 gd v43 (
 (oneO C (.fn 82) [v41] s40).bind fun p44 =>
 (O.load p44.2 151 p18.1).bind fun v45 =>
 (O.bop .neq 151 p44.1 v45).bind fun v46 =>
 gd v46 (
 bif (eqO H (O.load s40 151 p18.1) v45 && (eqO H (O.load p44.2 151 p18.1) v45 && (true))) && (true) then
 k823 (.bool true) p44.2
 else none) (
 (O.load p44.2 151 p1.1).bind fun v47 =>
 (O.load p44.2 151 p18.1).bind fun v48 =>
 (oneO C (.fn 81) [v47, v48] p44.2).bind fun p49 =>
 bif (eqO H (O.load s40 151 p18.1) v45 && (eqO H (O.load p44.2 151 p18.1) v45 && (true))) && (true) then
 k823 p49.1 p49.2
 else none) (
 none)) (
 k823 (.bool false) s40) (
 none)))
theorem f107_r (C : OracleJ H) (n : Nat) (a0 : Value) (a1 : Value) (s : St H) : bodyD Tryd.prog false C n 107 Tryd.f107 [a0, a1] s = f107 (dOps (H := H) Tryd.prog) C n a0 a1 s := by kernel_rfl
/-! tidepole/xor.within -/
noncomputable def f108 (O : Ops H) (C : OracleJ H) (n : Nat) (a0 : Value) (a1 : Value) (s : St H) : Option (List (Value × St H)) :=
 (O.box s a1).bind fun p1 =>
 (O.load p1.2 151 p1.1).bind fun v2 =>
 (C (.fn 83) [v2] p1.2).bind fun L3 => manyK L3 fun v4 s5 =>
 (O.buildSlice false s5 45 1 [(0, v4)]).bind fun p6 =>
 (C (.fn 106) [a0, p6.1] p6.2).bind fun L7 => manyK L7 fun v8 s9 =>
 (O.extract v8 0).bind fun v10 =>
 (O.extract v8 1).bind fun v11 =>
 (O.bop .neq 25 v11 (Value.int IntKind.i64 0)).bind fun v12 =>
 (O.boolO v12).bind fun b13 => cond b13 (
 some [(.tuple #[(Value.int IntKind.u64 0), v11], s9)]) (
 (O.indexAddr 46 v10 (Value.int IntKind.i64 0)).bind fun v14 =>
 (O.load s9 38 v14).bind fun v15 =>
 (O.fieldAddr 151 p1.1 1).bind fun v16 =>
 (O.load s9 3 v16).bind fun v17 =>
 (O.bop .shl 38 v15 v17).bind fun v18 =>
 (O.bop .eql 38 v18 (Value.int IntKind.u64 0)).bind fun v19 =>
 (O.boolO v19).bind fun b20 => cond b20 (
 some [(.tuple #[(Value.int IntKind.u64 0), (Value.int IntKind.i64 50)], s9)]) (
 some [(.tuple #[v18, v11], s9)]))
theorem f108_r (C : OracleJ H) (n : Nat) (a0 : Value) (a1 : Value) (s : St H) : bodyD Tryd.prog false C n 108 Tryd.f108 [a0, a1] s = f108 (dOps (H := H) Tryd.prog) C n a0 a1 s := by kernel_rfl
/-! math/bits.Len64 -/
noncomputable def f110 (O : Ops H) (C : OracleJ H) (n : Nat) (a0 : Value) (s : St H) : Option (List (Value × St H)) :=
 (O.bop .geq 38 a0 (Value.int IntKind.u64 4294967296)).bind fun v1 =>
 jn (fun (j842_0 : Value) (j842_2 : Value) =>
 (O.bop .geq 38 j842_0 (Value.int IntKind.u64 65536)).bind fun v32 =>
 jn (fun (j862_0 : Value) (j862_2 : Value) =>
 (O.bop .geq 38 j862_0 (Value.int IntKind.u64 256)).bind fun v48 =>
 jn (fun (j872_0 : Value) (j872_2 : Value) =>
 (O.conv false s 38 5 j872_0).bind fun p56 =>
 (O.index 9 (Go.Value.string { data := #[0, 1, 2, 2, 3, 3, 3, 3, 4, 4, 4, 4, 4, 4, 4, 4, 5, 5, 5, 5, 5, 5, 5, 5, 5, 5, 5, 5, 5, 5, 5, 5, 6, 6, 6, 6, 6, 6, 6, 6, 6, 6, 6, 6, 6, 6, 6, 6, 6, 6, 6, 6, 6, 6, 6, 6, 6, 6, 6, 6, 6, 6, 6, 6, 7, 7, 7, 7, 7, 7, 7, 7, 7, 7, 7, 7, 7, 7, 7, 7, 7, 7, 7, 7, 7, 7, 7, 7, 7, 7, 7, 7, 7, 7, 7, 7, 7, 7, 7, 7, 7, 7, 7, 7, 7, 7, 7, 7, 7, 7, 7, 7, 7, 7, 7, 7, 7, 7, 7, 7, 7, 7, 7, 7, 7, 7, 7, 7, 8, 8, 8, 8, 8, 8, 8, 8, 8, 8, 8, 8, 8, 8, 8, 8, 8, 8, 8, 8, 8, 8, 8, 8, 8, 8, 8, 8, 8, 8, 8, 8, 8, 8, 8, 8, 8, 8, 8, 8, 8, 8, 8, 8, 8, 8, 8, 8, 8, 8, 8, 8, 8, 8, 8, 8, 8, 8, 8, 8, 8, 8, 8, 8, 8, 8, 8, 8, 8, 8, 8, 8, 8, 8, 8, 8, 8, 8, 8, 8, 8, 8, 8, 8, 8, 8, 8, 8, 8, 8, 8, 8, 8, 8, 8, 8, 8, 8, 8, 8, 8, 8, 8, 8, 8, 8, 8, 8, 8, 8, 8, 8, 8, 8, 8, 8, 8, 8, 8, 8, 8, 8, 8, 8, 8, 8, 8, 8] }) p56.1).bind fun v57 =>
 (O.conv false p56.2 5 3 v57).bind fun p58 =>
 (O.bop .add 3 j872_2 p58.1).bind fun v59 =>
 some [(v59, p58.2)]) fun k872 =>
 (O.boolO v48).bind fun b49 => cond b49 (
 (O.bop .shr 38 j862_0 (Value.int IntKind.u64 8)).bind fun v50 =>
 (O.bop .add 3 j862_2 (Value.int IntKind.i64 8)).bind fun v51 =>
 k872 v50 v51) (
 k872 j862_0 j862_2)) fun k862 =>
 (O.boolO v32).bind fun b33 => cond b33 (
 (O.bop .shr 38 j842_0 (Value.int IntKind.u64 16)).bind fun v34 =>
 (O.bop .add 3 j842_2 (Value.int IntKind.i64 16)).bind fun v35 =>
 k862 v34 v35) (
 k862 j842_0 j842_2)) fun k842 =>
 (O.boolO v1).bind fun b2 => cond b2 (
 (O.bop .shr 38 a0 (Value.int IntKind.u64 32)).bind fun v3 =>
 k842 v3 (Value.int IntKind.i64 32)) (
 k842 a0 (Value.int IntKind.i64 0))
theorem f110_r (C : OracleJ H) (n : Nat) (a0 : Value) (s : St H) : bodyD Tryd.prog false C n 110 Tryd.f110 [a0] s = f110 (dOps (H := H) Tryd.prog) C n a0 s := by kernel_rfl
/-! tidepole/crc.step -/
noncomputable def f111 (O : Ops H) (C : OracleJ H) (n : Nat) (a0 : Value) (s : St H) : Option (List (Value × St H)) :=
 (O.box s a0).bind fun p1 =>
 (O.load p1.2 127 p1.1).bind fun v2 =>
 (C (.fn 112) [v2] p1.2).bind fun L3 => manyK L3 fun v4 s5 =>
 rngO Tryd.prog O C 111 v4 [a0, p1.1, (Value.int IntKind.u32 0), undefV, v2, v4, undefV, undefV, undefV] [6] (cdp Tryd.f111 [1, 0, 1, 0, 0]) (cdp Tryd.f111 [1, 0, 1, 0, 1]) s5
 (fun s6 => (O.load s6 127 p1.1).bind fun v11 =>
 some [(v11, s6)])
 (fun s7 => some [((Value.int IntKind.u32 0), s7)])
 (fun i9 s8 => (bif Nat.beq i9 0 then
 (O.load s8 127 p1.1).bind fun v12 =>
 some [(v12, s8)] else none))
theorem f111_r (C : OracleJ H) (n : Nat) (a0 : Value) (s : St H) : bodyD Tryd.prog false C n 111 Tryd.f111 [a0] s = f111 (dOps (H := H) Tryd.prog) C n a0 s := by kernel_rfl
noncomputable def f111_r0 (O : Ops H) (C : OracleJ H) (n : Nat) (l : Nat) (i1 : Value) (x0 : Value) (s : St H) : Option (List (Value × St H)) :=
 (beginD s l).bind fun s13 =>
 (O.store s13 127 i1 x0).bind fun s14 =>
 (setLoopD s14 l 0 none).map fun s => [((.bool true), s)]
theorem f111_r0_x (C : OracleJ H) (n : Nat) (l : Nat) (i0 i1 i2 i3 i4 i5 i6 i7 i8 : Value) (x0 : Value) (s : St H) : exec Tryd.prog false C n 111 (some l) (cdp Tryd.f111 [1, 0, 1, 0, 0]) [i0, i1, i2, i3, i4, i5, x0, i7, i8] s (kAsg Tryd.prog false C n 111 l (cdp Tryd.f111 [1, 0, 1, 0, 1])) = f111_r0 (dOps (H := H) Tryd.prog) C n l i1 x0 s := by kernel_rfl
theorem f111_r0_e {C : OracleJ H} {rw : FuncId → Bool} {n l : Nat} {pe : Option Code} {i0 i1 i2 i3 i4 i5 i6 i7 i8 : Value} {s : St H} (hrw : rw 111 = false) (h : loopD s l = some (0, pe, 111, [i0, i1, i2, i3, i4, i5, i6, i7, i8], [6], cdp Tryd.f111 [1, 0, 1, 0, 0], cdp Tryd.f111 [1, 0, 1, 0, 1])) (x0 : Value) : roundD Tryd.prog rw C n l [x0] s = f111_r0 (dOps (H := H) Tryd.prog) C n l i1 x0 s := by (unfold roundD; rw [h, bindS, hrw]; exact f111_r0_x C n l i0 i1 i2 i3 i4 i5 i6 i7 i8 x0 s)
/-! tidepole/crc.bits -/
noncomputable def f112 (O : Ops H) (C : OracleJ H) (n : Nat) (a0 : Value) (s : St H) : Option (List (Value × St H)) :=
 (O.box s a0).bind fun p1 =>
 some [((.func (.func 113) #[] #[p1.1]), p1.2)]
theorem f112_r (C : OracleJ H) (n : Nat) (a0 : Value) (s : St H) : bodyD Tryd.prog false C n 112 Tryd.f112 [a0] s = f112 (dOps (H := H) Tryd.prog) C n a0 s := by kernel_rfl
/-! tidepole/crc.bits$1 -/
def f113_l0_m (i0 i1 : Value) (x : Value) : List Value := [i0, i1, undefV, x, dc, dc, dc, dc, dc, dc, dc, dc, dc, dc, dc, dc, dc]
noncomputable def f113_l0 (O : Ops H) (C : OracleJ H) (n : Nat) (i0 i1 : Value) (nx : Value → St H → Option (List (Value × St H))) (kx : Nat → Value → St H → Option (List (Value × St H))) (kr : Value → St H → Option (List (Value × St H))) (x : Value) (s : St H) : Option (List (Value × St H)) :=
 (O.bop .lss 3 x (Value.int IntKind.i64 8)).bind fun v1 =>
 (O.boolO v1).bind fun b2 => cond b2 (
 (O.load s 127 i1).bind fun v3 =>
 (O.bop .shr 127 v3 (Value.int IntKind.u64 1)).bind fun v4 =>
 (O.load s 127 i1).bind fun v5 =>
 (O.bop .and 127 v5 (Value.int IntKind.u32 1)).bind fun v6 =>
 (O.uop .neg v6).bind fun v7 =>
 (O.bop .and 127 v7 (Value.int IntKind.u32 2197175160)).bind fun v8 =>
 (O.bop .xor 127 v4 v8).bind fun v9 =>
 (O.store s 127 i1 v9).bind fun s10 =>
 (O.load s10 127 i1).bind fun v11 =>
 (O.tgt i0 [v11]).bind fun g12 => (C g12.1 g12.2 s10).bind fun L13 => manyK L13 fun v14 s15 =>
 (O.uop .not v14).bind fun v16 =>
 (O.boolO v16).bind fun b17 => cond b17 (
 kr x s15) (
 (O.bop .add 3 x (Value.int IntKind.i64 1)).bind fun v18 =>
 nx v18 s15)) (
 kx 0 x s)
theorem f113_l0_b (C : OracleJ H) (n : Nat) (i0 i1 : Value) (x : Value) (s : St H) (nx : List Value → St H → Option (List (Value × St H))) (K : Ex → List Value → St H → Option (List (Value × St H))) :
 exec Tryd.prog false C n 113 none (cdp Tryd.f113 [1, 0, 0]) (f113_l0_m i0 i1 x) s (kIter (scratch (cdp Tryd.f113 [1, 0, 0])) nx K) = f113_l0 (dOps (H := H) Tryd.prog) C n i0 i1 (fun x s => nx (f113_l0_m i0 i1 x) s) (fun i x s => K (.exit i) (f113_l0_m i0 i1 x) s) (fun x s => K .ret (f113_l0_m i0 i1 x) s) x s := by kernel_rfl
theorem f113_l0_e (C : OracleJ H) (n : Nat) (i0 i1 : Value) (m : Nat) (x : Value) (s : St H) (K : Ex → List Value → St H → Option (List (Value × St H))) :
 iter (fun t s k => exec Tryd.prog false C n 113 none (cdp Tryd.f113 [1, 0, 0]) t s k) (scratch (cdp Tryd.f113 [1, 0, 0])) m (f113_l0_m i0 i1 x) s K = iterS (f113_l0 (dOps (H := H) Tryd.prog) C n i0 i1) (fun i x s => K (.exit i) (f113_l0_m i0 i1 x) s) (fun x s => K .ret (f113_l0_m i0 i1 x) s) m x s :=
   iter_eq (f113_l0_m i0 i1) (f113_l0 (dOps (H := H) Tryd.prog) C n i0 i1) (fun x s nx K => f113_l0_b C n i0 i1 x s nx K) K m x s
noncomputable def f113 (O : Ops H) (C : OracleJ H) (n : Nat) (a0 : Value) (a1 : Value) (s : St H) : Option (List (Value × St H)) :=
 iterS (f113_l0 O C n a0 a1 )
 (fun i19 x20 s21 => (bif Nat.beq i19 0 then
 some [(.tuple #[], s21)] else none))
 (fun x22 s23 => some [(.tuple #[], s23)]) n (Value.int IntKind.i64 0) s
theorem f113_l0_k (C : OracleJ H) (n : Nat) (i0 i1 : Value) (i : Nat) (x : Value) (s : St H) : (kBlock 0 (kFun Tryd.prog Tryd.f113)) (.exit i) (f113_l0_m i0 i1 x) s =
 (bif Nat.beq i 0 then
 some [(.tuple #[], s)] else none) := by kernel_rfl
theorem f113_r (C : OracleJ H) (n : Nat) (a0 : Value) (a1 : Value) (s : St H) : bodyD Tryd.prog false C n 113 Tryd.f113 [a0, a1] s = f113 (dOps (H := H) Tryd.prog) C n a0 a1 s := by
  have h1 : bodyD Tryd.prog false C n 113 Tryd.f113 [a0, a1] s =
 iter (fun t s k => exec Tryd.prog false C n 113 none (cdp Tryd.f113 [1, 0, 0]) t s k) (scratch (cdp Tryd.f113 [1, 0, 0])) n (f113_l0_m a0 a1 (Value.int IntKind.i64 0)) s (kBlock 0 (kFun Tryd.prog Tryd.f113)) := by kernel_rfl
  rw [h1]
  simp only [f113_l0_e, f113_l0_k]
  show _ = f113 (dOps (H := H) Tryd.prog) C n a0 a1 s
  kernel_rfl
end Go.Proofs.YtmhmbmogodofeaaDoor.S
