/- The plain runs of functions (printed by shal.py). -/
import Derived.Test.YtdbmfggipeoklaaGreatDoorFv
import Derived.ProofKit
import Derived.Test.YtdbmfggipeoklaaGreatDoorRows
set_option autoImplicit false
set_option linter.unusedVariables false
set_option maxRecDepth 100000
namespace Go.Proofs.YtdbmfggipeoklaaGreatDoor.S
open Go.FS Go.RowKit
variable {H : HeapI}
/-! tidepole/head.New -/
noncomputable def f9 (O : Ops H) (C : OracleJ H) (n : Nat) (s : St H) : Option (List (Value × St H)) :=
 (O.makeMap s 66 none).bind fun p1 =>
 (O.build 68 [(0, p1.1)]).bind fun v2 =>
 (O.box p1.2 v2).bind fun p3 =>
 some [(p3.1, p3.2)]
theorem f9_r (C : OracleJ H) (n : Nat) (s : St H) : bodyD Tryz.prog false C n 9 Tryz.f9 [] s = f9 (dOps (H := H) Tryz.prog) C n s := by kernel_rfl
/-! (*tidepole/head.Head).Days -/
def f19_l0_m (i0 : Value) (i2 : Value) (i3 : Value) (i7 : Value) (i8 : Value) (i9 : Value) (x : Value × Value) : List Value := [i0, undefV, i2, i3, undefV, x.1, dc, i7, i8, i9, x.2, dc, dc, dc, dc, dc, dc, dc, dc, dc, dc, dc, dc, dc, dc, dc, dc, dc, dc, undefV, undefV, undefV, undefV]
noncomputable def f19_l0 (O : Ops H) (C : OracleJ H) (n : Nat) (i0 : Value) (i2 : Value) (i3 : Value) (i7 : Value) (i8 : Value) (i9 : Value) (nx : (Value × Value) → St H → Option (List (Value × St H))) (kx : Nat → (Value × Value) → St H → Option (List (Value × St H))) (kr : (Value × Value) → St H → Option (List (Value × St H))) (x : Value × Value) (s : St H) : Option (List (Value × St H)) :=
 (O.bop .lss 3 x.2 i9).bind fun v6 =>
 (O.boolO v6).bind fun b7 => cond b7 (
 (O.indexAddr 39 i8 x.2).bind fun v8 =>
 (O.load s 26 v8).bind fun v9 =>
 (O.nilCheck i0).bind fun v10 =>
 (O.fieldAddr 68 v10 0).bind fun v11 =>
 (O.load s 66 v11).bind fun v12 =>
 (O.lookup s 66 v12 v9 false).bind fun v13 =>
 (C (.fn 43) [v13] s).bind fun L14 => manyK L14 fun v15 s16 =>
 jn (fun (js12 : St H) =>
 (O.bop .add 3 x.2 (Go.Value.int Go.IntKind.i64 1)).bind fun v23 =>
 nx (v9, v23) js12) fun k12 =>
 rngO Tryz.prog O C 19 v15 [i0, undefV, i2, i3, undefV, v9, dc, i7, i8, i9, x.2, v6, v8, v9, i0, v10, v11, v12, v9, v13, v15, dc, dc, dc, dc, dc, dc, dc, dc, undefV, undefV, undefV, undefV] [21] (cdp Tryz.f19 [1, 1, 0, 1, 0, 0, 1, 1, 0, 0, 1, 1, 0, 0]) (cdp Tryz.f19 [1, 1, 0, 1, 0, 0, 1, 1, 0, 0, 1, 1, 0, 1]) s16
 (fun s17 => k12 s17)
 (fun s18 => kr (v9, x.2) s18)
 (fun i20 s19 => (bif Nat.beq i20 2 then
 k12 s19 else (bif Nat.beq i20 1 then
 (O.bop .add 3 x.2 (Go.Value.int Go.IntKind.i64 1)).bind fun v22 =>
 nx (v9, v22) s19 else kx i20 (v9, x.2) s19)))) (
 kx 0 (x.1, x.2) s)
theorem f19_l0_b (C : OracleJ H) (n : Nat) (i0 : Value) (i2 : Value) (i3 : Value) (i7 : Value) (i8 : Value) (i9 : Value) (x : Value × Value) (s : St H) (nx : List Value → St H → Option (List (Value × St H))) (K : Ex → List Value → St H → Option (List (Value × St H))) :
 exec Tryz.prog false C n 19 none (cdp Tryz.f19 [1, 1, 0, 1, 0, 0]) (f19_l0_m i0 i2 i3 i7 i8 i9 x) s (kIter (scratch (cdp Tryz.f19 [1, 1, 0, 1, 0, 0])) nx K) = f19_l0 (dOps (H := H) Tryz.prog) C n i0 i2 i3 i7 i8 i9 (fun x s => nx (f19_l0_m i0 i2 i3 i7 i8 i9 x) s) (fun i x s => K (.exit i) (f19_l0_m i0 i2 i3 i7 i8 i9 x) s) (fun x s => K .ret (f19_l0_m i0 i2 i3 i7 i8 i9 x) s) x s := by kernel_rfl
theorem f19_l0_e (C : OracleJ H) (n : Nat) (i0 : Value) (i2 : Value) (i3 : Value) (i7 : Value) (i8 : Value) (i9 : Value) (m : Nat) (x : Value × Value) (s : St H) (K : Ex → List Value → St H → Option (List (Value × St H))) :
 iter (fun t s k => exec Tryz.prog false C n 19 none (cdp Tryz.f19 [1, 1, 0, 1, 0, 0]) t s k) (scratch (cdp Tryz.f19 [1, 1, 0, 1, 0, 0])) m (f19_l0_m i0 i2 i3 i7 i8 i9 x) s K = iterS (f19_l0 (dOps (H := H) Tryz.prog) C n i0 i2 i3 i7 i8 i9) (fun i x s => K (.exit i) (f19_l0_m i0 i2 i3 i7 i8 i9 x) s) (fun x s => K .ret (f19_l0_m i0 i2 i3 i7 i8 i9 x) s) m x s :=
   iter_eq (f19_l0_m i0 i2 i3 i7 i8 i9) (f19_l0 (dOps (H := H) Tryz.prog) C n i0 i2 i3 i7 i8 i9) (fun x s nx K => f19_l0_b C n i0 i2 i3 i7 i8 i9 x s nx K) K m x s
noncomputable def f19 (O : Ops H) (C : OracleJ H) (n : Nat) (a0 : Value) (s : St H) : Option (List (Value × St H)) :=
 (O.alloc s 47).bind fun p1 =>
 (C (.fn 17) [a0] p1.2).bind fun L2 => manyK L2 fun v3 s4 =>
 (O.len s4 39 v3).bind fun v5 =>
 iterS (f19_l0 O C n a0 (fzV 2 #[]) p1.1 a0 v3 v5 )
 (fun i24 x25 s26 => (bif Nat.beq i24 0 then
 (O.load s26 47 p1.1).bind fun v29 =>
 (C (.fn 44) [v29] s26).bind fun L30 => manyK L30 fun v31 s32 =>
 (O.load s32 47 p1.1).bind fun v33 =>
 (C (.fn 45) [v33] s32).bind fun L34 => manyK L34 fun v35 s36 =>
 some [(v35, s36)] else none))
 (fun x27 s28 => some [((fzV 2 #[]), s28)]) n (undefV, (Go.Value.int Go.IntKind.i64 0)) s4
theorem f19_l0_k (C : OracleJ H) (n : Nat) (i0 : Value) (i2 : Value) (i3 : Value) (i7 : Value) (i8 : Value) (i9 : Value) (i : Nat) (x : Value × Value) (s : St H) : (kBlock 0 (kSeq Tryz.prog false C n 19 none (cdp Tryz.f19 [1, 1, 1]) (kFun Tryz.prog Tryz.f19))) (.exit i) (f19_l0_m i0 i2 i3 i7 i8 i9 x) s =
 (bif Nat.beq i 0 then
 ((dOps (H := H) Tryz.prog).load s 47 i3).bind fun v50 =>
 (C (.fn 44) [v50] s).bind fun L51 => manyK L51 fun v52 s53 =>
 ((dOps (H := H) Tryz.prog).load s53 47 i3).bind fun v54 =>
 (C (.fn 45) [v54] s53).bind fun L55 => manyK L55 fun v56 s57 =>
 some [(v56, s57)] else none) := by kernel_rfl
theorem f19_r (C : OracleJ H) (n : Nat) (a0 : Value) (s : St H) : bodyD Tryz.prog false C n 19 Tryz.f19 [a0] s = f19 (dOps (H := H) Tryz.prog) C n a0 s := by
  have h1 : bodyD Tryz.prog false C n 19 Tryz.f19 [a0] s =
 ((dOps (H := H) Tryz.prog).alloc s 47).bind fun p37 =>
 (C (.fn 17) [a0] p37.2).bind fun L38 => manyK L38 fun v39 s40 =>
 ((dOps (H := H) Tryz.prog).len s40 39 v39).bind fun v41 =>
 iter (fun t s k => exec Tryz.prog false C n 19 none (cdp Tryz.f19 [1, 1, 0, 1, 0, 0]) t s k) (scratch (cdp Tryz.f19 [1, 1, 0, 1, 0, 0])) n (f19_l0_m a0 (fzV 2 #[]) p37.1 a0 v39 v41 (undefV, (Go.Value.int Go.IntKind.i64 0))) s40 (kBlock 0 (kSeq Tryz.prog false C n 19 none (cdp Tryz.f19 [1, 1, 1]) (kFun Tryz.prog Tryz.f19))) := by kernel_rfl
  rw [h1]
  simp only [f19_l0_e, f19_l0_k]
  show _ = f19 (dOps (H := H) Tryz.prog) C n a0 s
  kernel_rfl
/-! tidepole/head.day -/
noncomputable def f31 (O : Ops H) (C : OracleJ H) (n : Nat) (a0 : Value) (s : St H) : Option (List (Value × St H)) :=
 (C (.fn 55) [a0, (Go.Value.int Go.IntKind.i64 1000)] s).bind fun L1 => manyK L1 fun v2 s3 =>
 some [(v2, s3)]
theorem f31_r (C : OracleJ H) (n : Nat) (a0 : Value) (s : St H) : bodyD Tryz.prog false C n 31 Tryz.f31 [a0] s = f31 (dOps (H := H) Tryz.prog) C n a0 s := by kernel_rfl
/-! tidepole/head.makeSeries -/
noncomputable def f35 (O : Ops H) (C : OracleJ H) (n : Nat) (a0 : Value) (s : St H) : Option (List (Value × St H)) :=
 (O.box s a0).bind fun p1 =>
 (oneO C (.fn 56) [] p1.2).bind fun p2 =>
 (O.load p2.2 28 p1.1).bind fun v3 =>
 (O.build 79 [(0, p2.1), (2, v3)]).bind fun v4 =>
 (O.box p2.2 v4).bind fun p5 =>
 bif (eqO H (O.load p1.2 28 p1.1) v3 && (eqO H (O.load p2.2 28 p1.1) v3 && (true))) && (true) then
 some [(p5.1, p5.2)]
 else none
theorem f35_r (C : OracleJ H) (n : Nat) (a0 : Value) (s : St H) : bodyD Tryz.prog false C n 35 Tryz.f35 [a0] s = f35 (dOps (H := H) Tryz.prog) C n a0 s := by kernel_rfl
/-! maps.Keys[map[uint64]*tidepole/head.series,uint64,*tidepole/head.series] -/
noncomputable def f39 (O : Ops H) (C : OracleJ H) (n : Nat) (a0 : Value) (s : St H) : Option (List (Value × St H)) :=
 (O.box s a0).bind fun p1 =>
 some [((.func (.func 63) #[] #[p1.1]), p1.2)]
theorem f39_r (C : OracleJ H) (n : Nat) (a0 : Value) (s : St H) : bodyD Tryz.prog false C n 39 Tryz.f39 [a0] s = f39 (dOps (H := H) Tryz.prog) C n a0 s := by kernel_rfl
/-! tidepole/chunk.Within -/
def f46_l0_m (i0 : Value) (i1 : Value) (i3 : Value) (i4 : Value) (i8 : Value) (i9 : Value) (x : Value × Value) : List Value := [i0, i1, undefV, i3, i4, x.1, undefV, dc, i8, i9, x.2, dc, dc, dc, dc, dc, dc, dc, dc, dc, dc, dc, dc, dc, dc, dc, dc, dc, dc, dc, dc, undefV]
noncomputable def f46_l0 (O : Ops H) (C : OracleJ H) (n : Nat) (i3 : Value) (i8 : Value) (i9 : Value) (nx : (Value × Value) → St H → Option (List (Value × St H))) (kx : Nat → (Value × Value) → St H → Option (List (Value × St H))) (kr : (Value × Value) → St H → Option (List (Value × St H))) (x : Value × Value) (s : St H) : Option (List (Value × St H)) :=
 (O.bop .lss 3 x.2 i9).bind fun v3 =>
 (O.boolO v3).bind fun b4 => cond b4 (
 (O.indexAddr 51 i8 x.2).bind fun v5 =>
 (O.load s 28 v5).bind fun v6 =>
 (O.alloc s 28).bind fun p7 =>
 (O.store p7.2 28 p7.1 v6).bind fun s8 =>
 jn (fun (j40_25 : Value) =>
 jn (fun (j43_5 : Value) (js43 : St H) =>
 (O.bop .add 3 x.2 (Go.Value.int Go.IntKind.i64 1)).bind fun v27 =>
 nx (j43_5, v27) js43) fun k43 =>
 (O.boolO j40_25).bind fun b23 => cond b23 (
 (O.load s8 28 p7.1).bind fun v24 =>
 (O.buildSlice false s8 51 1 [(0, v24)]).bind fun p25 =>
 (O.append false p25.2 51 51 x.1 p25.1).bind fun p26 =>
 k43 p26.1 p26.2) (
 k43 x.1 s8)) fun k40 =>
 (O.fieldAddr 28 p7.1 0).bind fun v9 =>
 (O.load s8 3 v9).bind fun v10 =>
 (O.fieldAddr 56 i3 0).bind fun v11 =>
 (O.load s8 3 v11).bind fun v12 =>
 (O.bop .geq 3 v10 v12).bind fun v13 =>
 gd v13 (
 (O.fieldAddr 28 p7.1 0).bind fun v14 =>
 (O.load s8 3 v14).bind fun v15 =>
 (O.fieldAddr 56 i3 1).bind fun v16 =>
 (O.load s8 3 v16).bind fun v17 =>
 (O.bop .leq 3 v15 v17).bind fun v18 =>
 k40 v18) (
 k40 (.bool false)) (
 none)) (
 kx 0 (x.1, x.2) s)
theorem f46_l0_b (C : OracleJ H) (n : Nat) (i0 : Value) (i1 : Value) (i3 : Value) (i4 : Value) (i8 : Value) (i9 : Value) (x : Value × Value) (s : St H) (nx : List Value → St H → Option (List (Value × St H))) (K : Ex → List Value → St H → Option (List (Value × St H))) :
 exec Tryz.prog false C n 46 none (cdp Tryz.f46 [1, 1, 0, 1, 0, 0]) (f46_l0_m i0 i1 i3 i4 i8 i9 x) s (kIter (scratch (cdp Tryz.f46 [1, 1, 0, 1, 0, 0])) nx K) = f46_l0 (dOps (H := H) Tryz.prog) C n i3 i8 i9 (fun x s => nx (f46_l0_m i0 i1 i3 i4 i8 i9 x) s) (fun i x s => K (.exit i) (f46_l0_m i0 i1 i3 i4 i8 i9 x) s) (fun x s => K .ret (f46_l0_m i0 i1 i3 i4 i8 i9 x) s) x s := by kernel_rfl
theorem f46_l0_e (C : OracleJ H) (n : Nat) (i0 : Value) (i1 : Value) (i3 : Value) (i4 : Value) (i8 : Value) (i9 : Value) (m : Nat) (x : Value × Value) (s : St H) (K : Ex → List Value → St H → Option (List (Value × St H))) :
 iter (fun t s k => exec Tryz.prog false C n 46 none (cdp Tryz.f46 [1, 1, 0, 1, 0, 0]) t s k) (scratch (cdp Tryz.f46 [1, 1, 0, 1, 0, 0])) m (f46_l0_m i0 i1 i3 i4 i8 i9 x) s K = iterS (f46_l0 (dOps (H := H) Tryz.prog) C n i3 i8 i9) (fun i x s => K (.exit i) (f46_l0_m i0 i1 i3 i4 i8 i9 x) s) (fun x s => K .ret (f46_l0_m i0 i1 i3 i4 i8 i9 x) s) m x s :=
   iter_eq (f46_l0_m i0 i1 i3 i4 i8 i9) (f46_l0 (dOps (H := H) Tryz.prog) C n i3 i8 i9) (fun x s nx K => f46_l0_b C n i0 i1 i3 i4 i8 i9 x s nx K) K m x s
noncomputable def f46 (O : Ops H) (C : OracleJ H) (n : Nat) (a0 : Value) (a1 : Value) (s : St H) : Option (List (Value × St H)) :=
 (O.box s a1).bind fun p1 =>
 (O.len p1.2 51 a0).bind fun v2 =>
 iterS (f46_l0 O C n p1.1 a0 v2 )
 (fun i28 x29 s30 => (bif Nat.beq i28 0 then
 some [(x29.1, s30)] else none))
 (fun x31 s32 => some [((fzV 2 #[]), s32)]) n ((fzV 2 #[]), (Go.Value.int Go.IntKind.i64 0)) p1.2
theorem f46_l0_k (C : OracleJ H) (n : Nat) (i0 : Value) (i1 : Value) (i3 : Value) (i4 : Value) (i8 : Value) (i9 : Value) (i : Nat) (x : Value × Value) (s : St H) : (kBlock 0 (kSeq Tryz.prog false C n 46 none (cdp Tryz.f46 [1, 1, 1]) (kFun Tryz.prog Tryz.f46))) (.exit i) (f46_l0_m i0 i1 i3 i4 i8 i9 x) s =
 (bif Nat.beq i 0 then
 some [(x.1, s)] else none) := by kernel_rfl
theorem f46_r (C : OracleJ H) (n : Nat) (a0 : Value) (a1 : Value) (s : St H) : bodyD Tryz.prog false C n 46 Tryz.f46 [a0, a1] s = f46 (dOps (H := H) Tryz.prog) C n a0 a1 s := by
  have h1 : bodyD Tryz.prog false C n 46 Tryz.f46 [a0, a1] s =
 ((dOps (H := H) Tryz.prog).box s a1).bind fun p33 =>
 ((dOps (H := H) Tryz.prog).len p33.2 51 a0).bind fun v34 =>
 iter (fun t s k => exec Tryz.prog false C n 46 none (cdp Tryz.f46 [1, 1, 0, 1, 0, 0]) t s k) (scratch (cdp Tryz.f46 [1, 1, 0, 1, 0, 0])) n (f46_l0_m a0 a1 p33.1 (fzV 2 #[]) a0 v34 ((fzV 2 #[]), (Go.Value.int Go.IntKind.i64 0))) p33.2 (kBlock 0 (kSeq Tryz.prog false C n 46 none (cdp Tryz.f46 [1, 1, 1]) (kFun Tryz.prog Tryz.f46))) := by kernel_rfl
  rw [h1]
  simp only [f46_l0_e, f46_l0_k]
  show _ = f46 (dOps (H := H) Tryz.prog) C n a0 a1 s
  kernel_rfl
/-! cmp.Compare[int] -/
noncomputable def f57 (O : Ops H) (C : OracleJ H) (n : Nat) (a0 : Value) (a1 : Value) (s : St H) : Option (List (Value × St H)) :=
 (C (.fn 76) [a0] s).bind fun L1 => manyK L1 fun v2 s3 =>
 (C (.fn 76) [a1] s3).bind fun L4 => manyK L4 fun v5 s6 =>
 (O.boolO v2).bind fun b7 => cond b7 (
 (O.boolO v5).bind fun b8 => cond b8 (
 some [((Go.Value.int Go.IntKind.i64 0), s6)]) (
 some [((Go.Value.int Go.IntKind.i64 (-1)), s6)])) (
 (O.boolO v5).bind fun b9 => cond b9 (
 some [((Go.Value.int Go.IntKind.i64 1), s6)]) (
 (O.bop .lss 3 a0 a1).bind fun v10 =>
 (O.boolO v10).bind fun b11 => cond b11 (
 some [((Go.Value.int Go.IntKind.i64 (-1)), s6)]) (
 (O.bop .gtr 3 a0 a1).bind fun v12 =>
 (O.boolO v12).bind fun b13 => cond b13 (
 some [((Go.Value.int Go.IntKind.i64 1), s6)]) (
 some [((Go.Value.int Go.IntKind.i64 0), s6)]))))
theorem f57_r (C : OracleJ H) (n : Nat) (a0 : Value) (a1 : Value) (s : St H) : bodyD Tryz.prog false C n 57 Tryz.f57 [a0, a1] s = f57 (dOps (H := H) Tryz.prog) C n a0 a1 s := by kernel_rfl
/-! slices.Collect[uint64] -/
noncomputable def f61 (O : Ops H) (C : OracleJ H) (n : Nat) (a0 : Value) (s : St H) : Option (List (Value × St H)) :=
 (C (.fn 85) [(fzV 2 #[]), a0] s).bind fun L1 => manyK L1 fun v2 s3 =>
 some [(v2, s3)]
theorem f61_r (C : OracleJ H) (n : Nat) (a0 : Value) (s : St H) : bodyD Tryz.prog false C n 61 Tryz.f61 [a0] s = f61 (dOps (H := H) Tryz.prog) C n a0 s := by kernel_rfl
/-! (*tidepole/head.series).chunks -/
noncomputable def f68 (O : Ops H) (C : OracleJ H) (n : Nat) (a0 : Value) (s : St H) : Option (List (Value × St H)) :=
 (O.box s a0).bind fun p1 =>
 some [((.func (.func 87) #[] #[p1.1]), p1.2)]
theorem f68_r (C : OracleJ H) (n : Nat) (a0 : Value) (s : St H) : bodyD Tryz.prog false C n 68 Tryz.f68 [a0] s = f68 (dOps (H := H) Tryz.prog) C n a0 s := by kernel_rfl
/-! tidepole/xor.Begin -/
noncomputable def f74 (O : Ops H) (C : OracleJ H) (n : Nat) (s : St H) : Option (List (Value × St H)) :=
 (O.alloc s 118).bind fun p1 =>
 (O.build 118 [(2, (Go.Value.int Go.IntKind.i64 64))]).bind fun v2 =>
 (O.store p1.2 118 p1.1 v2).bind fun s3 =>
 (O.load s3 118 p1.1).bind fun v4 => some [(v4, s3)]
theorem f74_r (C : OracleJ H) (n : Nat) (s : St H) : bodyD Tryz.prog false C n 74 Tryz.f74 [] s = f74 (dOps (H := H) Tryz.prog) C n s := by kernel_rfl
/-! tidepole/vint.PutBytes -/
noncomputable def f78 (O : Ops H) (C : OracleJ H) (n : Nat) (a0 : Value) (a1 : Value) (s : St H) : Option (List (Value × St H)) :=
 (O.len s 99 a1).bind fun v1 =>
 (O.bop .gtr 3 v1 (Go.Value.int Go.IntKind.i64 65536)).bind fun v2 =>
 (O.boolO v2).bind fun b3 => cond b3 (
 some [(.tuple #[(fzV 2 #[]), (Go.Value.int Go.IntKind.i64 3)], s)]) (
 (O.len s 99 a1).bind fun v4 =>
 (O.conv false s 3 26 v4).bind fun p5 =>
 (C (.fn 79) [a0, p5.1] p5.2).bind fun L6 => manyK L6 fun v7 s8 =>
 (O.append false s8 99 99 v7 a1).bind fun p9 =>
 some [(.tuple #[p9.1, (Go.Value.int Go.IntKind.i64 0)], p9.2)])
theorem f78_r (C : OracleJ H) (n : Nat) (a0 : Value) (a1 : Value) (s : St H) : bodyD Tryz.prog false C n 78 Tryz.f78 [a0, a1] s = f78 (dOps (H := H) Tryz.prog) C n a0 a1 s := by kernel_rfl
/-! (*tidepole/chunk.states).may -/
noncomputable def f82 (O : Ops H) (C : OracleJ H) (n : Nat) (a0 : Value) (a1 : Value) (s : St H) : Option (List (Value × St H)) :=
 (O.bop .geq 3 a1 (Go.Value.int Go.IntKind.i64 0)).bind fun v1 =>
 gd v1 (
 (O.bop .leq 3 a1 (Go.Value.int Go.IntKind.i64 35184372088832)).bind fun v2 =>
 gd v2 (
 (O.nilCheck a0).bind fun v3 =>
 (O.fieldAddr 123 v3 0).bind fun v4 =>
 (O.fieldAddr 121 v4 0).bind fun v5 =>
 (O.load s 3 v5).bind fun v6 =>
 (O.bop .eql 3 v6 (Go.Value.int Go.IntKind.i64 0)).bind fun v7 =>
 gd v7 (
 some [((.bool true), s)]) (
 (O.nilCheck a0).bind fun v8 =>
 (O.fieldAddr 123 v8 0).bind fun v9 =>
 (O.fieldAddr 121 v9 1).bind fun v10 =>
 (O.load s 3 v10).bind fun v11 =>
 (O.bop .gtr 3 a1 v11).bind fun v12 =>
 some [(v12, s)]) (
 none)) (
 some [((.bool false), s)]) (
 none)) (
 some [((.bool false), s)]) (
 none)
theorem f82_r (C : OracleJ H) (n : Nat) (a0 : Value) (a1 : Value) (s : St H) : bodyD Tryz.prog false C n 82 Tryz.f82 [a0, a1] s = f82 (dOps (H := H) Tryz.prog) C n a0 a1 s := by kernel_rfl
/-! (*tidepole/head.series).chunks$1 -/
def f87_l0_m (i0 : Value) (i1 : Value) (i7 : Value) (i8 : Value) (i9 : Value) (i10 : Value) (i11 : Value) (x : Value × Value) : List Value := [i0, i1, undefV, undefV, x.1, undefV, undefV, i7, i8, i9, i10, i11, x.2, dc, dc, dc, dc, dc, dc, dc, dc, undefV, undefV, undefV, undefV, undefV, undefV, undefV, undefV, undefV, undefV, undefV, undefV, undefV]
noncomputable def f87_l0 (O : Ops H) (C : OracleJ H) (n : Nat) (i0 : Value) (i10 : Value) (i11 : Value) (nx : (Value × Value) → St H → Option (List (Value × St H))) (kx : Nat → (Value × Value) → St H → Option (List (Value × St H))) (kr : (Value × Value) → St H → Option (List (Value × St H))) (x : Value × Value) (s : St H) : Option (List (Value × St H)) :=
 (O.bop .lss 3 x.2 i11).bind fun v6 =>
 (O.boolO v6).bind fun b7 => cond b7 (
 (O.indexAddr 77 i10 x.2).bind fun v8 =>
 (O.load s 99 v8).bind fun v9 =>
 (O.tgt i0 [v9]).bind fun g10 => (C g10.1 g10.2 s).bind fun L11 => manyK L11 fun v12 s13 =>
 (O.uop .not v12).bind fun v14 =>
 (O.boolO v14).bind fun b15 => cond b15 (
 kr (v9, x.2) s13) (
 (O.bop .add 3 x.2 (Go.Value.int Go.IntKind.i64 1)).bind fun v16 =>
 nx (v9, v16) s13)) (
 kx 0 (x.1, x.2) s)
theorem f87_l0_b (C : OracleJ H) (n : Nat) (i0 : Value) (i1 : Value) (i7 : Value) (i8 : Value) (i9 : Value) (i10 : Value) (i11 : Value) (x : Value × Value) (s : St H) (nx : List Value → St H → Option (List (Value × St H))) (K : Ex → List Value → St H → Option (List (Value × St H))) :
 exec Tryz.prog false C n 87 none (cdp Tryz.f87 [0, 1, 0, 0]) (f87_l0_m i0 i1 i7 i8 i9 i10 i11 x) s (kIter (scratch (cdp Tryz.f87 [0, 1, 0, 0])) nx K) = f87_l0 (dOps (H := H) Tryz.prog) C n i0 i10 i11 (fun x s => nx (f87_l0_m i0 i1 i7 i8 i9 i10 i11 x) s) (fun i x s => K (.exit i) (f87_l0_m i0 i1 i7 i8 i9 i10 i11 x) s) (fun x s => K .ret (f87_l0_m i0 i1 i7 i8 i9 i10 i11 x) s) x s := by kernel_rfl
theorem f87_l0_e (C : OracleJ H) (n : Nat) (i0 : Value) (i1 : Value) (i7 : Value) (i8 : Value) (i9 : Value) (i10 : Value) (i11 : Value) (m : Nat) (x : Value × Value) (s : St H) (K : Ex → List Value → St H → Option (List (Value × St H))) :
 iter (fun t s k => exec Tryz.prog false C n 87 none (cdp Tryz.f87 [0, 1, 0, 0]) t s k) (scratch (cdp Tryz.f87 [0, 1, 0, 0])) m (f87_l0_m i0 i1 i7 i8 i9 i10 i11 x) s K = iterS (f87_l0 (dOps (H := H) Tryz.prog) C n i0 i10 i11) (fun i x s => K (.exit i) (f87_l0_m i0 i1 i7 i8 i9 i10 i11 x) s) (fun x s => K .ret (f87_l0_m i0 i1 i7 i8 i9 i10 i11 x) s) m x s :=
   iter_eq (f87_l0_m i0 i1 i7 i8 i9 i10 i11) (f87_l0 (dOps (H := H) Tryz.prog) C n i0 i10 i11) (fun x s nx K => f87_l0_b C n i0 i1 i7 i8 i9 i10 i11 x s nx K) K m x s
noncomputable def f87 (O : Ops H) (C : OracleJ H) (n : Nat) (a0 : Value) (a1 : Value) (s : St H) : Option (List (Value × St H)) :=
 (O.load s 72 a1).bind fun v1 =>
 (O.nilCheck v1).bind fun v2 =>
 (O.fieldAddr 79 v2 1).bind fun v3 =>
 (O.load s 77 v3).bind fun v4 =>
 (O.len s 77 v4).bind fun v5 =>
 iterS (f87_l0 O C n a0 v4 v5 )
 (fun i17 x18 s19 => (bif Nat.beq i17 0 then
 (O.load s19 72 a1).bind fun v22 =>
 (O.nilCheck v22).bind fun v23 =>
 (O.fieldAddr 79 v23 0).bind fun v24 =>
 (O.load s19 76 v24).bind fun v25 =>
 (C (.fn 59) [v25] s19).bind fun L26 => manyK L26 fun v27 s28 =>
 (O.extract v27 0).bind fun v29 =>
 (O.extract v27 1).bind fun v30 =>
 (O.bop .eql 32 v30 (Go.Value.int Go.IntKind.i64 0)).bind fun v31 =>
 (O.boolO v31).bind fun b32 => cond b32 (
 (O.tgt a0 [v29]).bind fun g33 => (C g33.1 g33.2 s28).bind fun L34 => manyK L34 fun v35 s36 =>
 some [(.tuple #[], s36)]) (
 some [(.tuple #[], s28)]) else none))
 (fun x20 s21 => some [(.tuple #[], s21)]) n (undefV, (Go.Value.int Go.IntKind.i64 0)) s
theorem f87_l0_k (C : OracleJ H) (n : Nat) (i0 : Value) (i1 : Value) (i7 : Value) (i8 : Value) (i9 : Value) (i10 : Value) (i11 : Value) (i : Nat) (x : Value × Value) (s : St H) : (kBlock 0 (kSeq Tryz.prog false C n 87 none (cdp Tryz.f87 [1]) (kFun Tryz.prog Tryz.f87))) (.exit i) (f87_l0_m i0 i1 i7 i8 i9 i10 i11 x) s =
 (bif Nat.beq i 0 then
 ((dOps (H := H) Tryz.prog).load s 72 i1).bind fun v57 =>
 ((dOps (H := H) Tryz.prog).nilCheck v57).bind fun v58 =>
 ((dOps (H := H) Tryz.prog).fieldAddr 79 v58 0).bind fun v59 =>
 ((dOps (H := H) Tryz.prog).load s 76 v59).bind fun v60 =>
 (C (.fn 59) [v60] s).bind fun L61 => manyK L61 fun v62 s63 =>
 ((dOps (H := H) Tryz.prog).extract v62 0).bind fun v64 =>
 ((dOps (H := H) Tryz.prog).extract v62 1).bind fun v65 =>
 ((dOps (H := H) Tryz.prog).bop .eql 32 v65 (Go.Value.int Go.IntKind.i64 0)).bind fun v66 =>
 ((dOps (H := H) Tryz.prog).boolO v66).bind fun b67 => cond b67 (
 ((dOps (H := H) Tryz.prog).tgt i0 [v64]).bind fun g68 => (C g68.1 g68.2 s63).bind fun L69 => manyK L69 fun v70 s71 =>
 some [(.tuple #[], s71)]) (
 some [(.tuple #[], s63)]) else none) := by kernel_rfl
theorem f87_r (C : OracleJ H) (n : Nat) (a0 : Value) (a1 : Value) (s : St H) : bodyD Tryz.prog false C n 87 Tryz.f87 [a0, a1] s = f87 (dOps (H := H) Tryz.prog) C n a0 a1 s := by
  have h1 : bodyD Tryz.prog false C n 87 Tryz.f87 [a0, a1] s =
 ((dOps (H := H) Tryz.prog).load s 72 a1).bind fun v37 =>
 ((dOps (H := H) Tryz.prog).nilCheck v37).bind fun v38 =>
 ((dOps (H := H) Tryz.prog).fieldAddr 79 v38 1).bind fun v39 =>
 ((dOps (H := H) Tryz.prog).load s 77 v39).bind fun v40 =>
 ((dOps (H := H) Tryz.prog).len s 77 v40).bind fun v41 =>
 iter (fun t s k => exec Tryz.prog false C n 87 none (cdp Tryz.f87 [0, 1, 0, 0]) t s k) (scratch (cdp Tryz.f87 [0, 1, 0, 0])) n (f87_l0_m a0 a1 v37 v38 v39 v40 v41 (undefV, (Go.Value.int Go.IntKind.i64 0))) s (kBlock 0 (kSeq Tryz.prog false C n 87 none (cdp Tryz.f87 [1]) (kFun Tryz.prog Tryz.f87))) := by kernel_rfl
  rw [h1]
  simp only [f87_l0_e, f87_l0_k]
  show _ = f87 (dOps (H := H) Tryz.prog) C n a0 a1 s
  kernel_rfl
/-! slices.breakPatternsOrdered[int] -/
def f91_l0_m (i0 : Value) (i1 : Value) (i2 : Value) (i6 : Value) (i7 : Value) (i8 : Value) (i11 : Value) (i12 : Value) (i13 : Value) (i14 : Value) (i15 : Value) (i16 : Value) (i17 : Value) (i18 : Value) (i19 : Value) (i20 : Value) (i21 : Value) (i22 : Value) (i23 : Value) (i24 : Value) (i25 : Value) (x : Value × Value) : List Value := [i0, i1, i2, undefV, undefV, undefV, i6, i7, i8, x.1, x.2, i11, i12, i13, i14, i15, i16, i17, i18, i19, i20, i21, i22, i23, i24, i25, dc, dc, dc, dc, dc, dc, dc, dc, dc, dc, dc, dc, dc, dc, dc, dc, dc, dc, dc, dc, dc, dc, dc, dc, dc, dc, dc, dc, dc, dc, dc, dc, dc, dc, dc, dc, dc, dc, dc]
noncomputable def f91_l0 (O : Ops H) (C : OracleJ H) (n : Nat) (i0 : Value) (i1 : Value) (i6 : Value) (i7 : Value) (i8 : Value) (nx : (Value × Value) → St H → Option (List (Value × St H))) (kx : Nat → (Value × Value) → St H → Option (List (Value × St H))) (kr : (Value × Value) → St H → Option (List (Value × St H))) (x : Value × Value) (s : St H) : Option (List (Value × St H)) :=
 (O.bop .quo 3 i6 (Go.Value.int Go.IntKind.i64 4)).bind fun v14 =>
 (O.bop .mul 3 v14 (Go.Value.int Go.IntKind.i64 2)).bind fun v15 =>
 (O.bop .add 3 i1 v15).bind fun v16 =>
 (O.bop .add 3 v16 (Go.Value.int Go.IntKind.i64 1)).bind fun v17 =>
 (O.bop .leq 3 x.1 v17).bind fun v18 =>
 (O.boolO v18).bind fun b19 => cond b19 (
 (C (.fn 132) [i7] s).bind fun L20 => manyK L20 fun v21 s22 =>
 (O.bop .sub 114 i8 (Go.Value.int Go.IntKind.u64 1)).bind fun v23 =>
 (O.bop .and 114 v21 v23).bind fun v24 =>
 (O.conv false s22 114 3 v24).bind fun p25 =>
 (O.bop .geq 3 p25.1 i6).bind fun v26 =>
 jn (fun (j120_10 : Value) =>
 (O.bop .add 3 i1 j120_10).bind fun v39 =>
 (O.bop .add 3 i1 j120_10).bind fun v40 =>
 (O.indexAddr 47 i0 v40).bind fun v41 =>
 (O.load p25.2 3 v41).bind fun v42 =>
 (O.indexAddr 47 i0 x.1).bind fun v43 =>
 (O.load p25.2 3 v43).bind fun v44 =>
 (O.indexAddr 47 i0 x.1).bind fun v45 =>
 (O.store p25.2 3 v45 v42).bind fun s46 =>
 (O.indexAddr 47 i0 v39).bind fun v47 =>
 (O.store s46 3 v47 v44).bind fun s48 =>
 (O.bop .add 3 x.1 (Go.Value.int Go.IntKind.i64 1)).bind fun v49 =>
 nx (v49, j120_10) s48) fun k120 =>
 (O.boolO v26).bind fun b27 => cond b27 (
 (O.bop .sub 3 p25.1 i6).bind fun v28 =>
 k120 v28) (
 k120 p25.1)) (
 kx 0 (x.1, x.2) s)
theorem f91_l0_b (C : OracleJ H) (n : Nat) (i0 : Value) (i1 : Value) (i2 : Value) (i6 : Value) (i7 : Value) (i8 : Value) (i11 : Value) (i12 : Value) (i13 : Value) (i14 : Value) (i15 : Value) (i16 : Value) (i17 : Value) (i18 : Value) (i19 : Value) (i20 : Value) (i21 : Value) (i22 : Value) (i23 : Value) (i24 : Value) (i25 : Value) (x : Value × Value) (s : St H) (nx : List Value → St H → Option (List (Value × St H))) (K : Ex → List Value → St H → Option (List (Value × St H))) :
 exec Tryz.prog false C n 91 none (cdp Tryz.f91 [1, 1, 0, 1, 1, 1, 0, 0]) (f91_l0_m i0 i1 i2 i6 i7 i8 i11 i12 i13 i14 i15 i16 i17 i18 i19 i20 i21 i22 i23 i24 i25 x) s (kIter (scratch (cdp Tryz.f91 [1, 1, 0, 1, 1, 1, 0, 0])) nx K) = f91_l0 (dOps (H := H) Tryz.prog) C n i0 i1 i6 i7 i8 (fun x s => nx (f91_l0_m i0 i1 i2 i6 i7 i8 i11 i12 i13 i14 i15 i16 i17 i18 i19 i20 i21 i22 i23 i24 i25 x) s) (fun i x s => K (.exit i) (f91_l0_m i0 i1 i2 i6 i7 i8 i11 i12 i13 i14 i15 i16 i17 i18 i19 i20 i21 i22 i23 i24 i25 x) s) (fun x s => K .ret (f91_l0_m i0 i1 i2 i6 i7 i8 i11 i12 i13 i14 i15 i16 i17 i18 i19 i20 i21 i22 i23 i24 i25 x) s) x s := by kernel_rfl
theorem f91_l0_e (C : OracleJ H) (n : Nat) (i0 : Value) (i1 : Value) (i2 : Value) (i6 : Value) (i7 : Value) (i8 : Value) (i11 : Value) (i12 : Value) (i13 : Value) (i14 : Value) (i15 : Value) (i16 : Value) (i17 : Value) (i18 : Value) (i19 : Value) (i20 : Value) (i21 : Value) (i22 : Value) (i23 : Value) (i24 : Value) (i25 : Value) (m : Nat) (x : Value × Value) (s : St H) (K : Ex → List Value → St H → Option (List (Value × St H))) :
 iter (fun t s k => exec Tryz.prog false C n 91 none (cdp Tryz.f91 [1, 1, 0, 1, 1, 1, 0, 0]) t s k) (scratch (cdp Tryz.f91 [1, 1, 0, 1, 1, 1, 0, 0])) m (f91_l0_m i0 i1 i2 i6 i7 i8 i11 i12 i13 i14 i15 i16 i17 i18 i19 i20 i21 i22 i23 i24 i25 x) s K = iterS (f91_l0 (dOps (H := H) Tryz.prog) C n i0 i1 i6 i7 i8) (fun i x s => K (.exit i) (f91_l0_m i0 i1 i2 i6 i7 i8 i11 i12 i13 i14 i15 i16 i17 i18 i19 i20 i21 i22 i23 i24 i25 x) s) (fun x s => K .ret (f91_l0_m i0 i1 i2 i6 i7 i8 i11 i12 i13 i14 i15 i16 i17 i18 i19 i20 i21 i22 i23 i24 i25 x) s) m x s :=
   iter_eq (f91_l0_m i0 i1 i2 i6 i7 i8 i11 i12 i13 i14 i15 i16 i17 i18 i19 i20 i21 i22 i23 i24 i25) (f91_l0 (dOps (H := H) Tryz.prog) C n i0 i1 i6 i7 i8) (fun x s nx K => f91_l0_b C n i0 i1 i2 i6 i7 i8 i11 i12 i13 i14 i15 i16 i17 i18 i19 i20 i21 i22 i23 i24 i25 x s nx K) K m x s
noncomputable def f91 (O : Ops H) (C : OracleJ H) (n : Nat) (a0 : Value) (a1 : Value) (a2 : Value) (s : St H) : Option (List (Value × St H)) :=
 (O.bop .sub 3 a2 a1).bind fun v1 =>
 (O.bop .geq 3 v1 (Go.Value.int Go.IntKind.i64 8)).bind fun v2 =>
 (O.boolO v2).bind fun b3 => cond b3 (
 (O.conv false s 3 191 v1).bind fun p4 =>
 (O.alloc p4.2 191).bind fun p5 =>
 (O.store p5.2 191 p5.1 p4.1).bind fun s6 =>
 (C (.fn 131) [v1] s6).bind fun L7 => manyK L7 fun v8 s9 =>
 (O.bop .quo 3 v1 (Go.Value.int Go.IntKind.i64 4)).bind fun v10 =>
 (O.bop .mul 3 v10 (Go.Value.int Go.IntKind.i64 2)).bind fun v11 =>
 (O.bop .add 3 a1 v11).bind fun v12 =>
 (O.bop .sub 3 v12 (Go.Value.int Go.IntKind.i64 1)).bind fun v13 =>
 iterS (f91_l0 O C n a0 a1 v1 p5.1 v8 )
 (fun i50 x51 s52 => (bif Nat.beq i50 0 then
 some [(.tuple #[], s52)] else none))
 (fun x53 s54 => some [(.tuple #[], s54)]) n (v13, undefV) s9) (
 some [(.tuple #[], s)])
theorem f91_l0_k (C : OracleJ H) (n : Nat) (i0 : Value) (i1 : Value) (i2 : Value) (i6 : Value) (i7 : Value) (i8 : Value) (i11 : Value) (i12 : Value) (i13 : Value) (i14 : Value) (i15 : Value) (i16 : Value) (i17 : Value) (i18 : Value) (i19 : Value) (i20 : Value) (i21 : Value) (i22 : Value) (i23 : Value) (i24 : Value) (i25 : Value) (i : Nat) (x : Value × Value) (s : St H) : (kBlock 0 (kFun Tryz.prog Tryz.f91)) (.exit i) (f91_l0_m i0 i1 i2 i6 i7 i8 i11 i12 i13 i14 i15 i16 i17 i18 i19 i20 i21 i22 i23 i24 i25 x) s =
 (bif Nat.beq i 0 then
 some [(.tuple #[], s)] else none) := by kernel_rfl
theorem f91_r (C : OracleJ H) (n : Nat) (a0 : Value) (a1 : Value) (a2 : Value) (s : St H) : bodyD Tryz.prog false C n 91 Tryz.f91 [a0, a1, a2] s = f91 (dOps (H := H) Tryz.prog) C n a0 a1 a2 s := by
  have h1 : bodyD Tryz.prog false C n 91 Tryz.f91 [a0, a1, a2] s =
 ((dOps (H := H) Tryz.prog).bop .sub 3 a2 a1).bind fun v55 =>
 ((dOps (H := H) Tryz.prog).bop .geq 3 v55 (Go.Value.int Go.IntKind.i64 8)).bind fun v56 =>
 ((dOps (H := H) Tryz.prog).boolO v56).bind fun b57 => cond b57 (
 ((dOps (H := H) Tryz.prog).conv false s 3 191 v55).bind fun p58 =>
 ((dOps (H := H) Tryz.prog).alloc p58.2 191).bind fun p59 =>
 ((dOps (H := H) Tryz.prog).store p59.2 191 p59.1 p58.1).bind fun s60 =>
 (C (.fn 131) [v55] s60).bind fun L61 => manyK L61 fun v62 s63 =>
 ((dOps (H := H) Tryz.prog).bop .quo 3 v55 (Go.Value.int Go.IntKind.i64 4)).bind fun v64 =>
 ((dOps (H := H) Tryz.prog).bop .mul 3 v64 (Go.Value.int Go.IntKind.i64 2)).bind fun v65 =>
 ((dOps (H := H) Tryz.prog).bop .add 3 a1 v65).bind fun v66 =>
 ((dOps (H := H) Tryz.prog).bop .sub 3 v66 (Go.Value.int Go.IntKind.i64 1)).bind fun v67 =>
 iter (fun t s k => exec Tryz.prog false C n 91 none (cdp Tryz.f91 [1, 1, 0, 1, 1, 1, 0, 0]) t s k) (scratch (cdp Tryz.f91 [1, 1, 0, 1, 1, 1, 0, 0])) n (f91_l0_m a0 a1 a2 v55 p59.1 v62 a2 a1 v55 v55 v56 v55 p58.1 v55 v62 a1 v55 v64 v65 v66 v67 (v67, undefV)) s63 (kBlock 0 (kFun Tryz.prog Tryz.f91))) (
 some [(.tuple #[], s)]) := by kernel_rfl
  rw [h1]
  simp only [f91_l0_e, f91_l0_k]
  show _ = f91 (dOps (H := H) Tryz.prog) C n a0 a1 a2 s
  kernel_rfl
/-! slices.partitionEqualOrdered[int] -/
def f96_l1_m (i0 : Value) (i1 : Value) (i2 : Value) (i3 : Value) (i10 : Value) (i11 : Value) (i12 : Value) (i13 : Value) (i14 : Value) (i15 : Value) (i16 : Value) (i17 : Value) (i18 : Value) (i19 : Value) (i20 : Value) (i21 : Value) (i22 : Value) (i23 : Value) (i24 : Value) (i25 : Value) (i26 : Value) (i27 : Value) (i28 : Value) (x : Value) : List Value := [i0, i1, i2, i3, undefV, undefV, undefV, undefV, (Go.Value.int Go.IntKind.i64 0), x, i10, i11, i12, i13, i14, i15, i16, i17, i18, i19, i20, i21, i22, i23, i24, i25, i26, i27, i28, dc, dc, dc, dc, dc, dc, dc, dc, dc, dc, dc, dc, dc, dc, dc, dc, dc, dc, dc, dc, dc, dc, dc, dc, dc, dc, dc, dc, dc, dc, dc, dc, dc, dc, dc, dc, dc, dc, dc, dc, dc, dc, dc, dc, dc, dc, dc, dc, dc, dc, dc, dc, dc, dc, undefV]
noncomputable def f96_l1 (O : Ops H) (C : OracleJ H) (n : Nat) (i0 : Value) (i1 : Value) (i10 : Value) (nx : Value → St H → Option (List (Value × St H))) (kx : Nat → Value → St H → Option (List (Value × St H))) (kr : Value → St H → Option (List (Value × St H))) (x : Value) (s : St H) : Option (List (Value × St H)) :=
 jn (fun (j138_43 : Value) (js138 : St H) =>
 (O.boolO j138_43).bind fun b20 => cond b20 (
 (O.bop .add 3 x (Go.Value.int Go.IntKind.i64 1)).bind fun v21 =>
 nx v21 js138) (
 kx 2 x js138)) fun k138 =>
 (O.bop .leq 3 x i10).bind fun v11 =>
 gd v11 (
 (O.indexAddr 47 i0 i1).bind fun v12 =>
 (O.load s 3 v12).bind fun v13 =>
 (O.indexAddr 47 i0 x).bind fun v14 =>
 (O.load s 3 v14).bind fun v15 =>
 (oneO C (.fn 95) [v13, v15] s).bind fun p16 =>
 (O.uop .not p16.1).bind fun v17 =>
 k138 v17 p16.2) (
 k138 (.bool false) s) (
 none)
theorem f96_l1_b (C : OracleJ H) (n : Nat) (i0 : Value) (i1 : Value) (i2 : Value) (i3 : Value) (i10 : Value) (i11 : Value) (i12 : Value) (i13 : Value) (i14 : Value) (i15 : Value) (i16 : Value) (i17 : Value) (i18 : Value) (i19 : Value) (i20 : Value) (i21 : Value) (i22 : Value) (i23 : Value) (i24 : Value) (i25 : Value) (i26 : Value) (i27 : Value) (i28 : Value) (x : Value) (s : St H) (nx : List Value → St H → Option (List (Value × St H))) (K : Ex → List Value → St H → Option (List (Value × St H))) :
 exec Tryz.prog false C n 96 none (cdp Tryz.f96 [1, 1, 1, 0, 0, 0, 0, 0, 0, 0]) (f96_l1_m i0 i1 i2 i3 i10 i11 i12 i13 i14 i15 i16 i17 i18 i19 i20 i21 i22 i23 i24 i25 i26 i27 i28 x) s (kIter (scratch (cdp Tryz.f96 [1, 1, 1, 0, 0, 0, 0, 0, 0, 0])) nx K) = f96_l1 (dOps (H := H) Tryz.prog) C n i0 i1 i10 (fun x s => nx (f96_l1_m i0 i1 i2 i3 i10 i11 i12 i13 i14 i15 i16 i17 i18 i19 i20 i21 i22 i23 i24 i25 i26 i27 i28 x) s) (fun i x s => K (.exit i) (f96_l1_m i0 i1 i2 i3 i10 i11 i12 i13 i14 i15 i16 i17 i18 i19 i20 i21 i22 i23 i24 i25 i26 i27 i28 x) s) (fun x s => K .ret (f96_l1_m i0 i1 i2 i3 i10 i11 i12 i13 i14 i15 i16 i17 i18 i19 i20 i21 i22 i23 i24 i25 i26 i27 i28 x) s) x s := by kernel_rfl
theorem f96_l1_e (C : OracleJ H) (n : Nat) (i0 : Value) (i1 : Value) (i2 : Value) (i3 : Value) (i10 : Value) (i11 : Value) (i12 : Value) (i13 : Value) (i14 : Value) (i15 : Value) (i16 : Value) (i17 : Value) (i18 : Value) (i19 : Value) (i20 : Value) (i21 : Value) (i22 : Value) (i23 : Value) (i24 : Value) (i25 : Value) (i26 : Value) (i27 : Value) (i28 : Value) (m : Nat) (x : Value) (s : St H) (K : Ex → List Value → St H → Option (List (Value × St H))) :
 iter (fun t s k => exec Tryz.prog false C n 96 none (cdp Tryz.f96 [1, 1, 1, 0, 0, 0, 0, 0, 0, 0]) t s k) (scratch (cdp Tryz.f96 [1, 1, 1, 0, 0, 0, 0, 0, 0, 0])) m (f96_l1_m i0 i1 i2 i3 i10 i11 i12 i13 i14 i15 i16 i17 i18 i19 i20 i21 i22 i23 i24 i25 i26 i27 i28 x) s K = iterS (f96_l1 (dOps (H := H) Tryz.prog) C n i0 i1 i10) (fun i x s => K (.exit i) (f96_l1_m i0 i1 i2 i3 i10 i11 i12 i13 i14 i15 i16 i17 i18 i19 i20 i21 i22 i23 i24 i25 i26 i27 i28 x) s) (fun x s => K .ret (f96_l1_m i0 i1 i2 i3 i10 i11 i12 i13 i14 i15 i16 i17 i18 i19 i20 i21 i22 i23 i24 i25 i26 i27 i28 x) s) m x s :=
   iter_eq (f96_l1_m i0 i1 i2 i3 i10 i11 i12 i13 i14 i15 i16 i17 i18 i19 i20 i21 i22 i23 i24 i25 i26 i27 i28) (f96_l1 (dOps (H := H) Tryz.prog) C n i0 i1 i10) (fun x s nx K => f96_l1_b C n i0 i1 i2 i3 i10 i11 i12 i13 i14 i15 i16 i17 i18 i19 i20 i21 i22 i23 i24 i25 i26 i27 i28 x s nx K) K m x s
def f96_l2_m (i0 : Value) (i1 : Value) (i2 : Value) (i3 : Value) (i9 : Value) (i11 : Value) (i12 : Value) (i13 : Value) (i14 : Value) (i15 : Value) (i16 : Value) (i17 : Value) (i18 : Value) (i19 : Value) (i20 : Value) (i21 : Value) (i22 : Value) (i23 : Value) (i24 : Value) (i25 : Value) (i26 : Value) (i27 : Value) (i28 : Value) (x : Value) : List Value := [i0, i1, i2, i3, undefV, undefV, undefV, undefV, (Go.Value.int Go.IntKind.i64 0), i9, x, i11, i12, i13, i14, i15, i16, i17, i18, i19, i20, i21, i22, i23, i24, i25, i26, i27, i28, dc, dc, dc, dc, dc, dc, dc, dc, dc, dc, dc, dc, dc, dc, dc, dc, dc, dc, dc, dc, dc, dc, dc, dc, dc, dc, dc, dc, dc, dc, dc, dc, dc, dc, dc, dc, dc, dc, dc, dc, dc, dc, dc, dc, dc, dc, dc, dc, dc, dc, dc, dc, dc, dc, undefV]
noncomputable def f96_l2 (O : Ops H) (C : OracleJ H) (n : Nat) (i0 : Value) (i1 : Value) (i9 : Value) (nx : Value → St H → Option (List (Value × St H))) (kx : Nat → Value → St H → Option (List (Value × St H))) (kr : Value → St H → Option (List (Value × St H))) (x : Value) (s : St H) : Option (List (Value × St H)) :=
 jn (fun (j146_59 : Value) (js146 : St H) =>
 (O.boolO j146_59).bind fun b35 => cond b35 (
 (O.bop .sub 3 x (Go.Value.int Go.IntKind.i64 1)).bind fun v36 =>
 nx v36 js146) (
 kx 4 x js146)) fun k146 =>
 (O.bop .leq 3 i9 x).bind fun v27 =>
 gd v27 (
 (O.indexAddr 47 i0 i1).bind fun v28 =>
 (O.load s 3 v28).bind fun v29 =>
 (O.indexAddr 47 i0 x).bind fun v30 =>
 (O.load s 3 v30).bind fun v31 =>
 (oneO C (.fn 95) [v29, v31] s).bind fun p32 =>
 k146 p32.1 p32.2) (
 k146 (.bool false) s) (
 none)
theorem f96_l2_b (C : OracleJ H) (n : Nat) (i0 : Value) (i1 : Value) (i2 : Value) (i3 : Value) (i9 : Value) (i11 : Value) (i12 : Value) (i13 : Value) (i14 : Value) (i15 : Value) (i16 : Value) (i17 : Value) (i18 : Value) (i19 : Value) (i20 : Value) (i21 : Value) (i22 : Value) (i23 : Value) (i24 : Value) (i25 : Value) (i26 : Value) (i27 : Value) (i28 : Value) (x : Value) (s : St H) (nx : List Value → St H → Option (List (Value × St H))) (K : Ex → List Value → St H → Option (List (Value × St H))) :
 exec Tryz.prog false C n 96 none (cdp Tryz.f96 [1, 1, 1, 0, 0, 0, 0, 1, 0, 0, 0]) (f96_l2_m i0 i1 i2 i3 i9 i11 i12 i13 i14 i15 i16 i17 i18 i19 i20 i21 i22 i23 i24 i25 i26 i27 i28 x) s (kIter (scratch (cdp Tryz.f96 [1, 1, 1, 0, 0, 0, 0, 1, 0, 0, 0])) nx K) = f96_l2 (dOps (H := H) Tryz.prog) C n i0 i1 i9 (fun x s => nx (f96_l2_m i0 i1 i2 i3 i9 i11 i12 i13 i14 i15 i16 i17 i18 i19 i20 i21 i22 i23 i24 i25 i26 i27 i28 x) s) (fun i x s => K (.exit i) (f96_l2_m i0 i1 i2 i3 i9 i11 i12 i13 i14 i15 i16 i17 i18 i19 i20 i21 i22 i23 i24 i25 i26 i27 i28 x) s) (fun x s => K .ret (f96_l2_m i0 i1 i2 i3 i9 i11 i12 i13 i14 i15 i16 i17 i18 i19 i20 i21 i22 i23 i24 i25 i26 i27 i28 x) s) x s := by kernel_rfl
theorem f96_l2_e (C : OracleJ H) (n : Nat) (i0 : Value) (i1 : Value) (i2 : Value) (i3 : Value) (i9 : Value) (i11 : Value) (i12 : Value) (i13 : Value) (i14 : Value) (i15 : Value) (i16 : Value) (i17 : Value) (i18 : Value) (i19 : Value) (i20 : Value) (i21 : Value) (i22 : Value) (i23 : Value) (i24 : Value) (i25 : Value) (i26 : Value) (i27 : Value) (i28 : Value) (m : Nat) (x : Value) (s : St H) (K : Ex → List Value → St H → Option (List (Value × St H))) :
 iter (fun t s k => exec Tryz.prog false C n 96 none (cdp Tryz.f96 [1, 1, 1, 0, 0, 0, 0, 1, 0, 0, 0]) t s k) (scratch (cdp Tryz.f96 [1, 1, 1, 0, 0, 0, 0, 1, 0, 0, 0])) m (f96_l2_m i0 i1 i2 i3 i9 i11 i12 i13 i14 i15 i16 i17 i18 i19 i20 i21 i22 i23 i24 i25 i26 i27 i28 x) s K = iterS (f96_l2 (dOps (H := H) Tryz.prog) C n i0 i1 i9) (fun i x s => K (.exit i) (f96_l2_m i0 i1 i2 i3 i9 i11 i12 i13 i14 i15 i16 i17 i18 i19 i20 i21 i22 i23 i24 i25 i26 i27 i28 x) s) (fun x s => K .ret (f96_l2_m i0 i1 i2 i3 i9 i11 i12 i13 i14 i15 i16 i17 i18 i19 i20 i21 i22 i23 i24 i25 i26 i27 i28 x) s) m x s :=
   iter_eq (f96_l2_m i0 i1 i2 i3 i9 i11 i12 i13 i14 i15 i16 i17 i18 i19 i20 i21 i22 i23 i24 i25 i26 i27 i28) (f96_l2 (dOps (H := H) Tryz.prog) C n i0 i1 i9) (fun x s nx K => f96_l2_b C n i0 i1 i2 i3 i9 i11 i12 i13 i14 i15 i16 i17 i18 i19 i20 i21 i22 i23 i24 i25 i26 i27 i28 x s nx K) K m x s
def f96_l0_m (i0 : Value) (i1 : Value) (i2 : Value) (i3 : Value) (i11 : Value) (i12 : Value) (i13 : Value) (i14 : Value) (i15 : Value) (i16 : Value) (i17 : Value) (i18 : Value) (i19 : Value) (i20 : Value) (i21 : Value) (i22 : Value) (i23 : Value) (i24 : Value) (i25 : Value) (i26 : Value) (i27 : Value) (i28 : Value) (x : Value × Value) : List Value := [i0, i1, i2, i3, undefV, undefV, undefV, undefV, (Go.Value.int Go.IntKind.i64 0), x.1, x.2, i11, i12, i13, i14, i15, i16, i17, i18, i19, i20, i21, i22, i23, i24, i25, i26, i27, i28, dc, dc, dc, dc, dc, dc, dc, dc, dc, dc, dc, dc, dc, dc, dc, dc, dc, dc, dc, dc, dc, dc, dc, dc, dc, dc, dc, dc, dc, dc, dc, dc, dc, dc, dc, dc, dc, dc, dc, dc, dc, dc, dc, dc, dc, dc, dc, dc, dc, dc, dc, dc, dc, dc, undefV]
noncomputable def f96_l0 (O : Ops H) (C : OracleJ H) (n : Nat) (i0 : Value) (i1 : Value) (i22 : Value) (nx : (Value × Value) → St H → Option (List (Value × St H))) (kx : Nat → (Value × Value) → St H → Option (List (Value × St H))) (kr : (Value × Value) → St H → Option (List (Value × St H))) (x : Value × Value) (s : St H) : Option (List (Value × St H)) :=
 iterS (f96_l1 O C n i0 i1 x.2 )
 (fun i22 x23 s24 => (bif Nat.beq i22 2 then
 iterS (f96_l2 O C n i0 i1 x23 )
 (fun i37 x38 s39 => (bif Nat.beq i37 4 then
 (O.bop .gtr 3 x23 x38).bind fun v42 =>
 (O.boolO v42).bind fun b43 => cond b43 (
 kx 0 (x23, x38) s39) (
 (O.indexAddr 47 i0 x38).bind fun v44 =>
 (O.load s39 3 v44).bind fun v45 =>
 (O.indexAddr 47 i0 x23).bind fun v46 =>
 (O.load s39 3 v46).bind fun v47 =>
 (O.indexAddr 47 i0 x23).bind fun v48 =>
 (O.store s39 3 v48 v45).bind fun s49 =>
 (O.indexAddr 47 i0 x38).bind fun v50 =>
 (O.store s49 3 v50 v47).bind fun s51 =>
 (O.bop .add 3 x23 (Go.Value.int Go.IntKind.i64 1)).bind fun v52 =>
 (O.bop .sub 3 x38 (Go.Value.int Go.IntKind.i64 1)).bind fun v53 =>
 nx (v52, v53) s51) else (bif Nat.beq i37 1 then
 nx (x23, x38) s39 else kx i37 (x23, x38) s39)))
 (fun x40 s41 => kr (x23, x40) s41) n x.2 s24 else (bif Nat.beq i22 1 then
 nx (x23, x.2) s24 else kx i22 (x23, x.2) s24)))
 (fun x25 s26 => kr (x25, x.2) s26) n x.1 s
theorem f96_l2_k (C : OracleJ H) (n : Nat) (i0 : Value) (i1 : Value) (i2 : Value) (i3 : Value) (i9 : Value) (i11 : Value) (i12 : Value) (i13 : Value) (i14 : Value) (i15 : Value) (i16 : Value) (i17 : Value) (i18 : Value) (i19 : Value) (i20 : Value) (i21 : Value) (i22 : Value) (i23 : Value) (i24 : Value) (i25 : Value) (i26 : Value) (i27 : Value) (i28 : Value) (nx : List Value → St H → Option (List (Value × St H))) (K : Ex → List Value → St H → Option (List (Value × St H))) (i : Nat) (x : Value) (s : St H) : (kBlock 4 (kSeq Tryz.prog false C n 96 none (cdp Tryz.f96 [1, 1, 1, 0, 0, 0, 0, 1, 1]) (kBlock 1 (kIter (scratch (cdp Tryz.f96 [1, 1, 1, 0, 0, 0])) nx K)))) (.exit i) (f96_l2_m i0 i1 i2 i3 i9 i11 i12 i13 i14 i15 i16 i17 i18 i19 i20 i21 i22 i23 i24 i25 i26 i27 i28 x) s =
 (bif Nat.beq i 4 then
 ((dOps (H := H) Tryz.prog).bop .gtr 3 i9 x).bind fun v66 =>
 ((dOps (H := H) Tryz.prog).boolO v66).bind fun b67 => cond b67 (
 K (.exit 0) (f96_l0_m i0 i1 i2 i3 i11 i12 i13 i14 i15 i16 i17 i18 i19 i20 i21 i22 i23 i24 i25 i26 i27 i28 (i9, x)) s) (
 ((dOps (H := H) Tryz.prog).indexAddr 47 i0 x).bind fun v68 =>
 ((dOps (H := H) Tryz.prog).load s 3 v68).bind fun v69 =>
 ((dOps (H := H) Tryz.prog).indexAddr 47 i0 i9).bind fun v70 =>
 ((dOps (H := H) Tryz.prog).load s 3 v70).bind fun v71 =>
 ((dOps (H := H) Tryz.prog).indexAddr 47 i0 i9).bind fun v72 =>
 ((dOps (H := H) Tryz.prog).store s 3 v72 v69).bind fun s73 =>
 ((dOps (H := H) Tryz.prog).indexAddr 47 i0 x).bind fun v74 =>
 ((dOps (H := H) Tryz.prog).store s73 3 v74 v71).bind fun s75 =>
 ((dOps (H := H) Tryz.prog).bop .add 3 i9 (Go.Value.int Go.IntKind.i64 1)).bind fun v76 =>
 ((dOps (H := H) Tryz.prog).bop .sub 3 x (Go.Value.int Go.IntKind.i64 1)).bind fun v77 =>
 nx (f96_l0_m i0 i1 i2 i3 i11 i12 i13 i14 i15 i16 i17 i18 i19 i20 i21 i22 i23 i24 i25 i26 i27 i28 (v76, v77)) s75) else (bif Nat.beq i 1 then
 nx (f96_l0_m i0 i1 i2 i3 i11 i12 i13 i14 i15 i16 i17 i18 i19 i20 i21 i22 i23 i24 i25 i26 i27 i28 (i9, x)) s else K (.exit i) (f96_l0_m i0 i1 i2 i3 i11 i12 i13 i14 i15 i16 i17 i18 i19 i20 i21 i22 i23 i24 i25 i26 i27 i28 (i9, x)) s)) := by kernel_rfl
theorem f96_l1_k (C : OracleJ H) (n : Nat) (i0 : Value) (i1 : Value) (i2 : Value) (i3 : Value) (i10 : Value) (i11 : Value) (i12 : Value) (i13 : Value) (i14 : Value) (i15 : Value) (i16 : Value) (i17 : Value) (i18 : Value) (i19 : Value) (i20 : Value) (i21 : Value) (i22 : Value) (i23 : Value) (i24 : Value) (i25 : Value) (i26 : Value) (i27 : Value) (i28 : Value) (nx : List Value → St H → Option (List (Value × St H))) (K : Ex → List Value → St H → Option (List (Value × St H))) (i : Nat) (x : Value) (s : St H) : (kBlock 2 (kSeq Tryz.prog false C n 96 none (cdp Tryz.f96 [1, 1, 1, 0, 0, 0, 0, 1]) (kBlock 1 (kIter (scratch (cdp Tryz.f96 [1, 1, 1, 0, 0, 0])) nx K)))) (.exit i) (f96_l1_m i0 i1 i2 i3 i10 i11 i12 i13 i14 i15 i16 i17 i18 i19 i20 i21 i22 i23 i24 i25 i26 i27 i28 x) s =
 (bif Nat.beq i 2 then
 iterS (f96_l2 (dOps (H := H) Tryz.prog) C n i0 i1 x )
 (fun i78 x79 s80 => (bif Nat.beq i78 4 then
 ((dOps (H := H) Tryz.prog).bop .gtr 3 x x79).bind fun v83 =>
 ((dOps (H := H) Tryz.prog).boolO v83).bind fun b84 => cond b84 (
 K (.exit 0) (f96_l0_m i0 i1 i2 i3 i11 i12 i13 i14 i15 i16 i17 i18 i19 i20 i21 i22 i23 i24 i25 i26 i27 i28 (x, x79)) s80) (
 ((dOps (H := H) Tryz.prog).indexAddr 47 i0 x79).bind fun v85 =>
 ((dOps (H := H) Tryz.prog).load s80 3 v85).bind fun v86 =>
 ((dOps (H := H) Tryz.prog).indexAddr 47 i0 x).bind fun v87 =>
 ((dOps (H := H) Tryz.prog).load s80 3 v87).bind fun v88 =>
 ((dOps (H := H) Tryz.prog).indexAddr 47 i0 x).bind fun v89 =>
 ((dOps (H := H) Tryz.prog).store s80 3 v89 v86).bind fun s90 =>
 ((dOps (H := H) Tryz.prog).indexAddr 47 i0 x79).bind fun v91 =>
 ((dOps (H := H) Tryz.prog).store s90 3 v91 v88).bind fun s92 =>
 ((dOps (H := H) Tryz.prog).bop .add 3 x (Go.Value.int Go.IntKind.i64 1)).bind fun v93 =>
 ((dOps (H := H) Tryz.prog).bop .sub 3 x79 (Go.Value.int Go.IntKind.i64 1)).bind fun v94 =>
 nx (f96_l0_m i0 i1 i2 i3 i11 i12 i13 i14 i15 i16 i17 i18 i19 i20 i21 i22 i23 i24 i25 i26 i27 i28 (v93, v94)) s92) else (bif Nat.beq i78 1 then
 nx (f96_l0_m i0 i1 i2 i3 i11 i12 i13 i14 i15 i16 i17 i18 i19 i20 i21 i22 i23 i24 i25 i26 i27 i28 (x, x79)) s80 else K (.exit i78) (f96_l0_m i0 i1 i2 i3 i11 i12 i13 i14 i15 i16 i17 i18 i19 i20 i21 i22 i23 i24 i25 i26 i27 i28 (x, x79)) s80)))
 (fun x81 s82 => K .ret (f96_l0_m i0 i1 i2 i3 i11 i12 i13 i14 i15 i16 i17 i18 i19 i20 i21 i22 i23 i24 i25 i26 i27 i28 (x, x81)) s82) n i10 s else (bif Nat.beq i 1 then
 nx (f96_l0_m i0 i1 i2 i3 i11 i12 i13 i14 i15 i16 i17 i18 i19 i20 i21 i22 i23 i24 i25 i26 i27 i28 (x, i10)) s else K (.exit i) (f96_l0_m i0 i1 i2 i3 i11 i12 i13 i14 i15 i16 i17 i18 i19 i20 i21 i22 i23 i24 i25 i26 i27 i28 (x, i10)) s)) := by
  have h1 : (kBlock 2 (kSeq Tryz.prog false C n 96 none (cdp Tryz.f96 [1, 1, 1, 0, 0, 0, 0, 1]) (kBlock 1 (kIter (scratch (cdp Tryz.f96 [1, 1, 1, 0, 0, 0])) nx K)))) (.exit i) (f96_l1_m i0 i1 i2 i3 i10 i11 i12 i13 i14 i15 i16 i17 i18 i19 i20 i21 i22 i23 i24 i25 i26 i27 i28 x) s =
 (bif Nat.beq i 2 then
 iter (fun t s k => exec Tryz.prog false C n 96 none (cdp Tryz.f96 [1, 1, 1, 0, 0, 0, 0, 1, 0, 0, 0]) t s k) (scratch (cdp Tryz.f96 [1, 1, 1, 0, 0, 0, 0, 1, 0, 0, 0])) n (f96_l2_m i0 i1 i2 i3 x i11 i12 i13 i14 i15 i16 i17 i18 i19 i20 i21 i22 i23 i24 i25 i26 i27 i28 i10) s (kBlock 4 (kSeq Tryz.prog false C n 96 none (cdp Tryz.f96 [1, 1, 1, 0, 0, 0, 0, 1, 1]) (kBlock 1 (kIter (scratch (cdp Tryz.f96 [1, 1, 1, 0, 0, 0])) nx K)))) else (bif Nat.beq i 1 then
 nx (f96_l0_m i0 i1 i2 i3 i11 i12 i13 i14 i15 i16 i17 i18 i19 i20 i21 i22 i23 i24 i25 i26 i27 i28 (x, i10)) s else K (.exit i) (f96_l0_m i0 i1 i2 i3 i11 i12 i13 i14 i15 i16 i17 i18 i19 i20 i21 i22 i23 i24 i25 i26 i27 i28 (x, i10)) s)) := by kernel_rfl
  rw [h1]
  simp only [f96_l2_e, f96_l2_k]
  show _ = (bif Nat.beq i 2 then
 iterS (f96_l2 (dOps (H := H) Tryz.prog) C n i0 i1 x )
 (fun i78 x79 s80 => (bif Nat.beq i78 4 then
 ((dOps (H := H) Tryz.prog).bop .gtr 3 x x79).bind fun v83 =>
 ((dOps (H := H) Tryz.prog).boolO v83).bind fun b84 => cond b84 (
 K (.exit 0) (f96_l0_m i0 i1 i2 i3 i11 i12 i13 i14 i15 i16 i17 i18 i19 i20 i21 i22 i23 i24 i25 i26 i27 i28 (x, x79)) s80) (
 ((dOps (H := H) Tryz.prog).indexAddr 47 i0 x79).bind fun v85 =>
 ((dOps (H := H) Tryz.prog).load s80 3 v85).bind fun v86 =>
 ((dOps (H := H) Tryz.prog).indexAddr 47 i0 x).bind fun v87 =>
 ((dOps (H := H) Tryz.prog).load s80 3 v87).bind fun v88 =>
 ((dOps (H := H) Tryz.prog).indexAddr 47 i0 x).bind fun v89 =>
 ((dOps (H := H) Tryz.prog).store s80 3 v89 v86).bind fun s90 =>
 ((dOps (H := H) Tryz.prog).indexAddr 47 i0 x79).bind fun v91 =>
 ((dOps (H := H) Tryz.prog).store s90 3 v91 v88).bind fun s92 =>
 ((dOps (H := H) Tryz.prog).bop .add 3 x (Go.Value.int Go.IntKind.i64 1)).bind fun v93 =>
 ((dOps (H := H) Tryz.prog).bop .sub 3 x79 (Go.Value.int Go.IntKind.i64 1)).bind fun v94 =>
 nx (f96_l0_m i0 i1 i2 i3 i11 i12 i13 i14 i15 i16 i17 i18 i19 i20 i21 i22 i23 i24 i25 i26 i27 i28 (v93, v94)) s92) else (bif Nat.beq i78 1 then
 nx (f96_l0_m i0 i1 i2 i3 i11 i12 i13 i14 i15 i16 i17 i18 i19 i20 i21 i22 i23 i24 i25 i26 i27 i28 (x, x79)) s80 else K (.exit i78) (f96_l0_m i0 i1 i2 i3 i11 i12 i13 i14 i15 i16 i17 i18 i19 i20 i21 i22 i23 i24 i25 i26 i27 i28 (x, x79)) s80)))
 (fun x81 s82 => K .ret (f96_l0_m i0 i1 i2 i3 i11 i12 i13 i14 i15 i16 i17 i18 i19 i20 i21 i22 i23 i24 i25 i26 i27 i28 (x, x81)) s82) n i10 s else (bif Nat.beq i 1 then
 nx (f96_l0_m i0 i1 i2 i3 i11 i12 i13 i14 i15 i16 i17 i18 i19 i20 i21 i22 i23 i24 i25 i26 i27 i28 (x, i10)) s else K (.exit i) (f96_l0_m i0 i1 i2 i3 i11 i12 i13 i14 i15 i16 i17 i18 i19 i20 i21 i22 i23 i24 i25 i26 i27 i28 (x, i10)) s))
  kernel_rfl
theorem f96_l0_b (C : OracleJ H) (n : Nat) (i0 : Value) (i1 : Value) (i2 : Value) (i3 : Value) (i11 : Value) (i12 : Value) (i13 : Value) (i14 : Value) (i15 : Value) (i16 : Value) (i17 : Value) (i18 : Value) (i19 : Value) (i20 : Value) (i21 : Value) (i22 : Value) (i23 : Value) (i24 : Value) (i25 : Value) (i26 : Value) (i27 : Value) (i28 : Value) (x : Value × Value) (s : St H) (nx : List Value → St H → Option (List (Value × St H))) (K : Ex → List Value → St H → Option (List (Value × St H))) :
 exec Tryz.prog false C n 96 none (cdp Tryz.f96 [1, 1, 1, 0, 0, 0]) (f96_l0_m i0 i1 i2 i3 i11 i12 i13 i14 i15 i16 i17 i18 i19 i20 i21 i22 i23 i24 i25 i26 i27 i28 x) s (kIter (scratch (cdp Tryz.f96 [1, 1, 1, 0, 0, 0])) nx K) = f96_l0 (dOps (H := H) Tryz.prog) C n i0 i1 i22 (fun x s => nx (f96_l0_m i0 i1 i2 i3 i11 i12 i13 i14 i15 i16 i17 i18 i19 i20 i21 i22 i23 i24 i25 i26 i27 i28 x) s) (fun i x s => K (.exit i) (f96_l0_m i0 i1 i2 i3 i11 i12 i13 i14 i15 i16 i17 i18 i19 i20 i21 i22 i23 i24 i25 i26 i27 i28 x) s) (fun x s => K .ret (f96_l0_m i0 i1 i2 i3 i11 i12 i13 i14 i15 i16 i17 i18 i19 i20 i21 i22 i23 i24 i25 i26 i27 i28 x) s) x s := by
  have h1 : exec Tryz.prog false C n 96 none (cdp Tryz.f96 [1, 1, 1, 0, 0, 0]) (f96_l0_m i0 i1 i2 i3 i11 i12 i13 i14 i15 i16 i17 i18 i19 i20 i21 i22 i23 i24 i25 i26 i27 i28 x) s (kIter (scratch (cdp Tryz.f96 [1, 1, 1, 0, 0, 0])) nx K) =
 iter (fun t s k => exec Tryz.prog false C n 96 none (cdp Tryz.f96 [1, 1, 1, 0, 0, 0, 0, 0, 0, 0]) t s k) (scratch (cdp Tryz.f96 [1, 1, 1, 0, 0, 0, 0, 0, 0, 0])) n (f96_l1_m i0 i1 i2 i3 x.2 i11 i12 i13 i14 i15 i16 i17 i18 i19 i20 i21 i22 i23 i24 i25 i26 i27 i28 x.1) s (kBlock 2 (kSeq Tryz.prog false C n 96 none (cdp Tryz.f96 [1, 1, 1, 0, 0, 0, 0, 1]) (kBlock 1 (kIter (scratch (cdp Tryz.f96 [1, 1, 1, 0, 0, 0])) nx K)))) := by kernel_rfl
  rw [h1]
  simp only [f96_l1_e, f96_l1_k]
  show _ = f96_l0 (dOps (H := H) Tryz.prog) C n i0 i1 i22 (fun x s => nx (f96_l0_m i0 i1 i2 i3 i11 i12 i13 i14 i15 i16 i17 i18 i19 i20 i21 i22 i23 i24 i25 i26 i27 i28 x) s) (fun i x s => K (.exit i) (f96_l0_m i0 i1 i2 i3 i11 i12 i13 i14 i15 i16 i17 i18 i19 i20 i21 i22 i23 i24 i25 i26 i27 i28 x) s) (fun x s => K .ret (f96_l0_m i0 i1 i2 i3 i11 i12 i13 i14 i15 i16 i17 i18 i19 i20 i21 i22 i23 i24 i25 i26 i27 i28 x) s) x s
  kernel_rfl
theorem f96_l0_e (C : OracleJ H) (n : Nat) (i0 : Value) (i1 : Value) (i2 : Value) (i3 : Value) (i11 : Value) (i12 : Value) (i13 : Value) (i14 : Value) (i15 : Value) (i16 : Value) (i17 : Value) (i18 : Value) (i19 : Value) (i20 : Value) (i21 : Value) (i22 : Value) (i23 : Value) (i24 : Value) (i25 : Value) (i26 : Value) (i27 : Value) (i28 : Value) (m : Nat) (x : Value × Value) (s : St H) (K : Ex → List Value → St H → Option (List (Value × St H))) :
 iter (fun t s k => exec Tryz.prog false C n 96 none (cdp Tryz.f96 [1, 1, 1, 0, 0, 0]) t s k) (scratch (cdp Tryz.f96 [1, 1, 1, 0, 0, 0])) m (f96_l0_m i0 i1 i2 i3 i11 i12 i13 i14 i15 i16 i17 i18 i19 i20 i21 i22 i23 i24 i25 i26 i27 i28 x) s K = iterS (f96_l0 (dOps (H := H) Tryz.prog) C n i0 i1 i22) (fun i x s => K (.exit i) (f96_l0_m i0 i1 i2 i3 i11 i12 i13 i14 i15 i16 i17 i18 i19 i20 i21 i22 i23 i24 i25 i26 i27 i28 x) s) (fun x s => K .ret (f96_l0_m i0 i1 i2 i3 i11 i12 i13 i14 i15 i16 i17 i18 i19 i20 i21 i22 i23 i24 i25 i26 i27 i28 x) s) m x s :=
   iter_eq (f96_l0_m i0 i1 i2 i3 i11 i12 i13 i14 i15 i16 i17 i18 i19 i20 i21 i22 i23 i24 i25 i26 i27 i28) (f96_l0 (dOps (H := H) Tryz.prog) C n i0 i1 i22) (fun x s nx K => f96_l0_b C n i0 i1 i2 i3 i11 i12 i13 i14 i15 i16 i17 i18 i19 i20 i21 i22 i23 i24 i25 i26 i27 i28 x s nx K) K m x s
noncomputable def f96 (O : Ops H) (C : OracleJ H) (n : Nat) (a0 : Value) (a1 : Value) (a2 : Value) (a3 : Value) (s : St H) : Option (List (Value × St H)) :=
 (O.indexAddr 47 a0 a3).bind fun v1 =>
 (O.load s 3 v1).bind fun v2 =>
 (O.indexAddr 47 a0 a1).bind fun v3 =>
 (O.load s 3 v3).bind fun v4 =>
 (O.indexAddr 47 a0 a1).bind fun v5 =>
 (O.store s 3 v5 v2).bind fun s6 =>
 (O.indexAddr 47 a0 a3).bind fun v7 =>
 (O.store s6 3 v7 v4).bind fun s8 =>
 (O.bop .add 3 a1 (Go.Value.int Go.IntKind.i64 1)).bind fun v9 =>
 (O.bop .sub 3 a2 (Go.Value.int Go.IntKind.i64 1)).bind fun v10 =>
 iterS (f96_l0 O C n a0 a1 v4 )
 (fun i95 x96 s97 => (bif Nat.beq i95 0 then
 some [(x96.1, s97)] else none))
 (fun x98 s99 => some [((Go.Value.int Go.IntKind.i64 0), s99)]) n (v9, v10) s8
theorem f96_l0_k (C : OracleJ H) (n : Nat) (i0 : Value) (i1 : Value) (i2 : Value) (i3 : Value) (i11 : Value) (i12 : Value) (i13 : Value) (i14 : Value) (i15 : Value) (i16 : Value) (i17 : Value) (i18 : Value) (i19 : Value) (i20 : Value) (i21 : Value) (i22 : Value) (i23 : Value) (i24 : Value) (i25 : Value) (i26 : Value) (i27 : Value) (i28 : Value) (i : Nat) (x : Value × Value) (s : St H) : (kBlock 0 (kSeq Tryz.prog false C n 96 none (cdp Tryz.f96 [1, 1, 1, 1]) (kFun Tryz.prog Tryz.f96))) (.exit i) (f96_l0_m i0 i1 i2 i3 i11 i12 i13 i14 i15 i16 i17 i18 i19 i20 i21 i22 i23 i24 i25 i26 i27 i28 x) s =
 (bif Nat.beq i 0 then
 some [(x.1, s)] else none) := by kernel_rfl
theorem f96_r (C : OracleJ H) (n : Nat) (a0 : Value) (a1 : Value) (a2 : Value) (a3 : Value) (s : St H) : bodyD Tryz.prog false C n 96 Tryz.f96 [a0, a1, a2, a3] s = f96 (dOps (H := H) Tryz.prog) C n a0 a1 a2 a3 s := by
  have h1 : bodyD Tryz.prog false C n 96 Tryz.f96 [a0, a1, a2, a3] s =
 ((dOps (H := H) Tryz.prog).indexAddr 47 a0 a3).bind fun v100 =>
 ((dOps (H := H) Tryz.prog).load s 3 v100).bind fun v101 =>
 ((dOps (H := H) Tryz.prog).indexAddr 47 a0 a1).bind fun v102 =>
 ((dOps (H := H) Tryz.prog).load s 3 v102).bind fun v103 =>
 ((dOps (H := H) Tryz.prog).indexAddr 47 a0 a1).bind fun v104 =>
 ((dOps (H := H) Tryz.prog).store s 3 v104 v101).bind fun s105 =>
 ((dOps (H := H) Tryz.prog).indexAddr 47 a0 a3).bind fun v106 =>
 ((dOps (H := H) Tryz.prog).store s105 3 v106 v103).bind fun s107 =>
 ((dOps (H := H) Tryz.prog).bop .add 3 a1 (Go.Value.int Go.IntKind.i64 1)).bind fun v108 =>
 ((dOps (H := H) Tryz.prog).bop .sub 3 a2 (Go.Value.int Go.IntKind.i64 1)).bind fun v109 =>
 iter (fun t s k => exec Tryz.prog false C n 96 none (cdp Tryz.f96 [1, 1, 1, 0, 0, 0]) t s k) (scratch (cdp Tryz.f96 [1, 1, 1, 0, 0, 0])) n (f96_l0_m a0 a1 a2 a3 a0 a1 a0 a3 a0 a3 v100 v101 a0 a1 v102 v103 v104 v106 a1 v108 a2 v109 (v108, v109)) s107 (kBlock 0 (kSeq Tryz.prog false C n 96 none (cdp Tryz.f96 [1, 1, 1, 1]) (kFun Tryz.prog Tryz.f96))) := by kernel_rfl
  rw [h1]
  simp only [f96_l0_e, f96_l0_k]
  show _ = f96 (dOps (H := H) Tryz.prog) C n a0 a1 a2 a3 s
  kernel_rfl
/-! tidepole/vint.put[uint64] -/
def f100_l0_m (i0 : Value) (i1 : Value) (i2 : Value) (i6 : Value) (i9 : Value) (i10 : Value) (i11 : Value) (i12 : Value) (i13 : Value) (i14 : Value) (i15 : Value) (i16 : Value) (i17 : Value) (x : Value × Value) : List Value := [i0, i1, i2, undefV, undefV, undefV, i6, x.1, x.2, i9, i10, i11, i12, i13, i14, i15, i16, i17, dc, dc, dc, dc, dc, dc, dc, dc, dc, dc, undefV, undefV, undefV, undefV, undefV]
noncomputable def f100_l0 (O : Ops H) (C : OracleJ H) (n : Nat) (nx : (Value × Value) → St H → Option (List (Value × St H))) (kx : Nat → (Value × Value) → St H → Option (List (Value × St H))) (kr : (Value × Value) → St H → Option (List (Value × St H))) (x : Value × Value) (s : St H) : Option (List (Value × St H)) :=
 (O.bop .gtr 26 x.2 (Go.Value.int Go.IntKind.u64 127)).bind fun v9 =>
 (O.boolO v9).bind fun b10 => cond b10 (
 (O.conv false s 26 5 x.2).bind fun p11 =>
 (O.bop .or 5 p11.1 (Go.Value.int Go.IntKind.u8 128)).bind fun v12 =>
 (O.buildSlice false p11.2 99 1 [(0, v12)]).bind fun p13 =>
 (O.append false p13.2 99 99 x.1 p13.1).bind fun p14 =>
 (O.bop .shr 26 x.2 (Go.Value.int Go.IntKind.u64 7)).bind fun v15 =>
 nx (p14.1, v15) p14.2) (
 kx 0 (x.1, x.2) s)
theorem f100_l0_b (C : OracleJ H) (n : Nat) (i0 : Value) (i1 : Value) (i2 : Value) (i6 : Value) (i9 : Value) (i10 : Value) (i11 : Value) (i12 : Value) (i13 : Value) (i14 : Value) (i15 : Value) (i16 : Value) (i17 : Value) (x : Value × Value) (s : St H) (nx : List Value → St H → Option (List (Value × St H))) (K : Ex → List Value → St H → Option (List (Value × St H))) :
 exec Tryz.prog false C n 100 none (cdp Tryz.f100 [1, 1, 1, 0, 0, 0]) (f100_l0_m i0 i1 i2 i6 i9 i10 i11 i12 i13 i14 i15 i16 i17 x) s (kIter (scratch (cdp Tryz.f100 [1, 1, 1, 0, 0, 0])) nx K) = f100_l0 (dOps (H := H) Tryz.prog) C n (fun x s => nx (f100_l0_m i0 i1 i2 i6 i9 i10 i11 i12 i13 i14 i15 i16 i17 x) s) (fun i x s => K (.exit i) (f100_l0_m i0 i1 i2 i6 i9 i10 i11 i12 i13 i14 i15 i16 i17 x) s) (fun x s => K .ret (f100_l0_m i0 i1 i2 i6 i9 i10 i11 i12 i13 i14 i15 i16 i17 x) s) x s := by kernel_rfl
theorem f100_l0_e (C : OracleJ H) (n : Nat) (i0 : Value) (i1 : Value) (i2 : Value) (i6 : Value) (i9 : Value) (i10 : Value) (i11 : Value) (i12 : Value) (i13 : Value) (i14 : Value) (i15 : Value) (i16 : Value) (i17 : Value) (m : Nat) (x : Value × Value) (s : St H) (K : Ex → List Value → St H → Option (List (Value × St H))) :
 iter (fun t s k => exec Tryz.prog false C n 100 none (cdp Tryz.f100 [1, 1, 1, 0, 0, 0]) t s k) (scratch (cdp Tryz.f100 [1, 1, 1, 0, 0, 0])) m (f100_l0_m i0 i1 i2 i6 i9 i10 i11 i12 i13 i14 i15 i16 i17 x) s K = iterS (f100_l0 (dOps (H := H) Tryz.prog) C n) (fun i x s => K (.exit i) (f100_l0_m i0 i1 i2 i6 i9 i10 i11 i12 i13 i14 i15 i16 i17 x) s) (fun x s => K .ret (f100_l0_m i0 i1 i2 i6 i9 i10 i11 i12 i13 i14 i15 i16 i17 x) s) m x s :=
   iter_eq (f100_l0_m i0 i1 i2 i6 i9 i10 i11 i12 i13 i14 i15 i16 i17) (f100_l0 (dOps (H := H) Tryz.prog) C n) (fun x s nx K => f100_l0_b C n i0 i1 i2 i6 i9 i10 i11 i12 i13 i14 i15 i16 i17 x s nx K) K m x s
noncomputable def f100 (O : Ops H) (C : OracleJ H) (n : Nat) (a0 : Value) (a1 : Value) (a2 : Value) (s : St H) : Option (List (Value × St H)) :=
 (O.len s 99 a0).bind fun v1 =>
 (O.bop .add 3 v1 (Go.Value.int Go.IntKind.i64 10)).bind fun v2 =>
 (O.makeSlice false s 99 (Go.Value.int Go.IntKind.i64 0) v2).bind fun p3 =>
 (O.append false p3.2 99 99 p3.1 a0).bind fun p4 =>
 (O.tgt a2 [a1]).bind fun g5 => (C g5.1 g5.2 p4.2).bind fun L6 => manyK L6 fun v7 s8 =>
 iterS (f100_l0 O C n )
 (fun i16 x17 s18 => (bif Nat.beq i16 0 then
 (O.conv false s18 26 5 x17.2).bind fun p21 =>
 (O.buildSlice false p21.2 99 1 [(0, p21.1)]).bind fun p22 =>
 (O.append false p22.2 99 99 x17.1 p22.1).bind fun p23 =>
 some [(p23.1, p23.2)] else none))
 (fun x19 s20 => some [((fzV 2 #[]), s20)]) n (p4.1, v7) s8
theorem f100_l0_k (C : OracleJ H) (n : Nat) (i0 : Value) (i1 : Value) (i2 : Value) (i6 : Value) (i9 : Value) (i10 : Value) (i11 : Value) (i12 : Value) (i13 : Value) (i14 : Value) (i15 : Value) (i16 : Value) (i17 : Value) (i : Nat) (x : Value × Value) (s : St H) : (kBlock 0 (kSeq Tryz.prog false C n 100 none (cdp Tryz.f100 [1, 1, 1, 1]) (kFun Tryz.prog Tryz.f100))) (.exit i) (f100_l0_m i0 i1 i2 i6 i9 i10 i11 i12 i13 i14 i15 i16 i17 x) s =
 (bif Nat.beq i 0 then
 ((dOps (H := H) Tryz.prog).conv false s 26 5 x.2).bind fun p35 =>
 ((dOps (H := H) Tryz.prog).buildSlice false p35.2 99 1 [(0, p35.1)]).bind fun p36 =>
 ((dOps (H := H) Tryz.prog).append false p36.2 99 99 x.1 p36.1).bind fun p37 =>
 some [(p37.1, p37.2)] else none) := by kernel_rfl
theorem f100_r (C : OracleJ H) (n : Nat) (a0 : Value) (a1 : Value) (a2 : Value) (s : St H) : bodyD Tryz.prog false C n 100 Tryz.f100 [a0, a1, a2] s = f100 (dOps (H := H) Tryz.prog) C n a0 a1 a2 s := by
  have h1 : bodyD Tryz.prog false C n 100 Tryz.f100 [a0, a1, a2] s =
 ((dOps (H := H) Tryz.prog).len s 99 a0).bind fun v24 =>
 ((dOps (H := H) Tryz.prog).bop .add 3 v24 (Go.Value.int Go.IntKind.i64 10)).bind fun v25 =>
 ((dOps (H := H) Tryz.prog).makeSlice false s 99 (Go.Value.int Go.IntKind.i64 0) v25).bind fun p26 =>
 ((dOps (H := H) Tryz.prog).append false p26.2 99 99 p26.1 a0).bind fun p27 =>
 ((dOps (H := H) Tryz.prog).tgt a2 [a1]).bind fun g28 => (C g28.1 g28.2 p27.2).bind fun L29 => manyK L29 fun v30 s31 =>
 iter (fun t s k => exec Tryz.prog false C n 100 none (cdp Tryz.f100 [1, 1, 1, 0, 0, 0]) t s k) (scratch (cdp Tryz.f100 [1, 1, 1, 0, 0, 0])) n (f100_l0_m a0 a1 a2 (fzV 2 #[]) a0 v24 v25 p26.1 a0 p27.1 a2 a1 v30 (p27.1, v30)) s31 (kBlock 0 (kSeq Tryz.prog false C n 100 none (cdp Tryz.f100 [1, 1, 1, 1]) (kFun Tryz.prog Tryz.f100))) := by kernel_rfl
  rw [h1]
  simp only [f100_l0_e, f100_l0_k]
  show _ = f100 (dOps (H := H) Tryz.prog) C n a0 a1 a2 s
  kernel_rfl
/-! tidepole/crc.Sum -/
noncomputable def f104 (O : Ops H) (C : OracleJ H) (n : Nat) (a0 : Value) (s : St H) : Option (List (Value × St H)) :=
 (C (.fn 135) [(Go.Value.int Go.IntKind.u32 0), a0] s).bind fun L1 => manyK L1 fun v2 s3 =>
 some [(v2, s3)]
theorem f104_r (C : OracleJ H) (n : Nat) (a0 : Value) (s : St H) : bodyD Tryz.prog false C n 104 Tryz.f104 [a0] s = f104 (dOps (H := H) Tryz.prog) C n a0 s := by kernel_rfl
/-! (*tidepole/bits.Writer).Put -/
def f108_l0_m (i0 : Value) (i1 : Value) (i9 : Value) (i10 : Value) (i11 : Value) (i12 : Value) (i13 : Value) (i14 : Value) (i15 : Value) (i17 : Value) (i18 : Value) (i19 : Value) (i20 : Value) (i21 : Value) (i22 : Value) (i23 : Value) (i24 : Value) (i25 : Value) (i26 : Value) (i27 : Value) (i28 : Value) (i29 : Value) (i30 : Value) (i31 : Value) (x : Value × Value × Value) : List Value := [i0, i1, x.1, undefV, undefV, undefV, (Go.Value.int Go.IntKind.i64 0), x.2.1, x.2.2, i9, i10, i11, i12, i13, i14, i15, (.bool false), i17, i18, i19, i20, i21, i22, i23, i24, i25, i26, i27, i28, i29, i30, i31, dc, dc, dc, dc, dc, dc, dc, dc, dc, dc, dc, dc, dc, dc, dc, dc, dc, dc, dc, dc, dc, dc, dc, dc, dc]
noncomputable def f108_l0 (O : Ops H) (C : OracleJ H) (n : Nat) (i0 : Value) (i1 : Value) (nx : (Value × Value × Value) → St H → Option (List (Value × St H))) (kx : Nat → (Value × Value × Value) → St H → Option (List (Value × St H))) (kr : (Value × Value × Value) → St H → Option (List (Value × St H))) (x : Value × Value × Value) (s : St H) : Option (List (Value × St H)) :=
 (O.bop .gtr 3 x.1 (Go.Value.int Go.IntKind.i64 0)).bind fun v21 =>
 (O.boolO v21).bind fun b22 => cond b22 (
 (O.nilCheck i0).bind fun v23 =>
 (O.fieldAddr 155 v23 0).bind fun v24 =>
 (O.fieldAddr 153 v24 1).bind fun v25 =>
 (O.load s 3 v25).bind fun v26 =>
 (O.bop .rem 3 v26 (Go.Value.int Go.IntKind.i64 8)).bind fun v27 =>
 (O.bop .sub 3 (Go.Value.int Go.IntKind.i64 8) v27).bind fun v28 =>
 (O.minO x.1 [v28]).bind fun v29 =>
 (O.bop .sub 3 x.1 v29).bind fun v30 =>
 (O.nilCheck i0).bind fun v31 =>
 (O.fieldAddr 155 v31 0).bind fun v32 =>
 (O.bop .shr 26 i1 v30).bind fun v33 =>
 (oneO C (.fn 137) [v33, v29] s).bind fun p34 =>
 (oneO C (.fn 138) [v32, p34.1, v29] p34.2).bind fun p35 =>
 nx (v30, v28, v29) p35.2) (
 kx 1 (x.1, x.2.1, x.2.2) s)
theorem f108_l0_b (C : OracleJ H) (n : Nat) (i0 : Value) (i1 : Value) (i9 : Value) (i10 : Value) (i11 : Value) (i12 : Value) (i13 : Value) (i14 : Value) (i15 : Value) (i17 : Value) (i18 : Value) (i19 : Value) (i20 : Value) (i21 : Value) (i22 : Value) (i23 : Value) (i24 : Value) (i25 : Value) (i26 : Value) (i27 : Value) (i28 : Value) (i29 : Value) (i30 : Value) (i31 : Value) (x : Value × Value × Value) (s : St H) (nx : List Value → St H → Option (List (Value × St H))) (K : Ex → List Value → St H → Option (List (Value × St H))) :
 exec Tryz.prog false C n 108 none (cdp Tryz.f108 [1, 1, 1, 0, 0, 0]) (f108_l0_m i0 i1 i9 i10 i11 i12 i13 i14 i15 i17 i18 i19 i20 i21 i22 i23 i24 i25 i26 i27 i28 i29 i30 i31 x) s (kIter (scratch (cdp Tryz.f108 [1, 1, 1, 0, 0, 0])) nx K) = f108_l0 (dOps (H := H) Tryz.prog) C n i0 i1 (fun x s => nx (f108_l0_m i0 i1 i9 i10 i11 i12 i13 i14 i15 i17 i18 i19 i20 i21 i22 i23 i24 i25 i26 i27 i28 i29 i30 i31 x) s) (fun i x s => K (.exit i) (f108_l0_m i0 i1 i9 i10 i11 i12 i13 i14 i15 i17 i18 i19 i20 i21 i22 i23 i24 i25 i26 i27 i28 i29 i30 i31 x) s) (fun x s => K .ret (f108_l0_m i0 i1 i9 i10 i11 i12 i13 i14 i15 i17 i18 i19 i20 i21 i22 i23 i24 i25 i26 i27 i28 i29 i30 i31 x) s) x s := by kernel_rfl
theorem f108_l0_e (C : OracleJ H) (n : Nat) (i0 : Value) (i1 : Value) (i9 : Value) (i10 : Value) (i11 : Value) (i12 : Value) (i13 : Value) (i14 : Value) (i15 : Value) (i17 : Value) (i18 : Value) (i19 : Value) (i20 : Value) (i21 : Value) (i22 : Value) (i23 : Value) (i24 : Value) (i25 : Value) (i26 : Value) (i27 : Value) (i28 : Value) (i29 : Value) (i30 : Value) (i31 : Value) (m : Nat) (x : Value × Value × Value) (s : St H) (K : Ex → List Value → St H → Option (List (Value × St H))) :
 iter (fun t s k => exec Tryz.prog false C n 108 none (cdp Tryz.f108 [1, 1, 1, 0, 0, 0]) t s k) (scratch (cdp Tryz.f108 [1, 1, 1, 0, 0, 0])) m (f108_l0_m i0 i1 i9 i10 i11 i12 i13 i14 i15 i17 i18 i19 i20 i21 i22 i23 i24 i25 i26 i27 i28 i29 i30 i31 x) s K = iterS (f108_l0 (dOps (H := H) Tryz.prog) C n i0 i1) (fun i x s => K (.exit i) (f108_l0_m i0 i1 i9 i10 i11 i12 i13 i14 i15 i17 i18 i19 i20 i21 i22 i23 i24 i25 i26 i27 i28 i29 i30 i31 x) s) (fun x s => K .ret (f108_l0_m i0 i1 i9 i10 i11 i12 i13 i14 i15 i17 i18 i19 i20 i21 i22 i23 i24 i25 i26 i27 i28 i29 i30 i31 x) s) m x s :=
   iter_eq (f108_l0_m i0 i1 i9 i10 i11 i12 i13 i14 i15 i17 i18 i19 i20 i21 i22 i23 i24 i25 i26 i27 i28 i29 i30 i31) (f108_l0 (dOps (H := H) Tryz.prog) C n i0 i1) (fun x s nx K => f108_l0_b C n i0 i1 i9 i10 i11 i12 i13 i14 i15 i17 i18 i19 i20 i21 i22 i23 i24 i25 i26 i27 i28 i29 i30 i31 x s nx K) K m x s
noncomputable def f108 (O : Ops H) (C : OracleJ H) (n : Nat) (a0 : Value) (a1 : Value) (a2 : Value) (s : St H) : Option (List (Value × St H)) :=
 (C (.fn 102) [a0] s).bind fun L1 => manyK L1 fun v2 s3 =>
 (O.uop .not v2).bind fun v4 =>
 (O.boolO v4).bind fun b5 => cond b5 (
 some [((Go.Value.int Go.IntKind.i64 1), s3)]) (
 (O.bop .lss 3 a2 (Go.Value.int Go.IntKind.i64 0)).bind fun v6 =>
 gd v6 (
 some [((Go.Value.int Go.IntKind.i64 2), s3)]) (
 (O.bop .gtr 3 a2 (Go.Value.int Go.IntKind.i64 64)).bind fun v7 =>
 (O.boolO v7).bind fun b10 => cond b10 (
 some [((Go.Value.int Go.IntKind.i64 2), s3)]) (
 (O.nilCheck a0).bind fun v11 =>
 (O.fieldAddr 155 v11 0).bind fun v12 =>
 (O.fieldAddr 153 v12 1).bind fun v13 =>
 (O.load s3 3 v13).bind fun v14 =>
 (O.bop .add 3 v14 a2).bind fun v15 =>
 (O.bop .gtr 3 v15 (Go.Value.int Go.IntKind.i64 524288)).bind fun v16 =>
 (O.boolO v16).bind fun b17 => cond b17 (
 some [((Go.Value.int Go.IntKind.i64 3), s3)]) (
 (C (.fn 137) [a1, a2] s3).bind fun L18 => manyK L18 fun v19 s20 =>
 iterS (f108_l0 O C n a0 v19 )
 (fun i36 x37 s38 => (bif Nat.beq i36 1 then
 some [((Go.Value.int Go.IntKind.i64 0), s38)] else none))
 (fun x39 s40 => some [((Go.Value.int Go.IntKind.i64 0), s40)]) n (a2, undefV, undefV) s20))) (
 none))
theorem f108_l0_k (C : OracleJ H) (n : Nat) (i0 : Value) (i1 : Value) (i9 : Value) (i10 : Value) (i11 : Value) (i12 : Value) (i13 : Value) (i14 : Value) (i15 : Value) (i17 : Value) (i18 : Value) (i19 : Value) (i20 : Value) (i21 : Value) (i22 : Value) (i23 : Value) (i24 : Value) (i25 : Value) (i26 : Value) (i27 : Value) (i28 : Value) (i29 : Value) (i30 : Value) (i31 : Value) (i : Nat) (x : Value × Value × Value) (s : St H) : (kBlock 1 (kSeq Tryz.prog false C n 108 none (cdp Tryz.f108 [1, 1, 1, 1]) (kFun Tryz.prog Tryz.f108))) (.exit i) (f108_l0_m i0 i1 i9 i10 i11 i12 i13 i14 i15 i17 i18 i19 i20 i21 i22 i23 i24 i25 i26 i27 i28 i29 i30 i31 x) s =
 (bif Nat.beq i 1 then
 some [((Go.Value.int Go.IntKind.i64 0), s)] else none) := by kernel_rfl
theorem f108_r (C : OracleJ H) (n : Nat) (a0 : Value) (a1 : Value) (a2 : Value) (s : St H) : bodyD Tryz.prog false C n 108 Tryz.f108 [a0, a1, a2] s = f108 (dOps (H := H) Tryz.prog) C n a0 a1 a2 s := by
  have h1 : bodyD Tryz.prog false C n 108 Tryz.f108 [a0, a1, a2] s =
 (C (.fn 102) [a0] s).bind fun L41 => manyK L41 fun v42 s43 =>
 ((dOps (H := H) Tryz.prog).uop .not v42).bind fun v44 =>
 ((dOps (H := H) Tryz.prog).boolO v44).bind fun b45 => cond b45 (
 some [((Go.Value.int Go.IntKind.i64 1), s43)]) (
 ((dOps (H := H) Tryz.prog).bop .lss 3 a2 (Go.Value.int Go.IntKind.i64 0)).bind fun v46 =>
 gd v46 (
 some [((Go.Value.int Go.IntKind.i64 2), s43)]) (
 ((dOps (H := H) Tryz.prog).bop .gtr 3 a2 (Go.Value.int Go.IntKind.i64 64)).bind fun v47 =>
 ((dOps (H := H) Tryz.prog).boolO v47).bind fun b50 => cond b50 (
 some [((Go.Value.int Go.IntKind.i64 2), s43)]) (
 ((dOps (H := H) Tryz.prog).nilCheck a0).bind fun v51 =>
 ((dOps (H := H) Tryz.prog).fieldAddr 155 v51 0).bind fun v52 =>
 ((dOps (H := H) Tryz.prog).fieldAddr 153 v52 1).bind fun v53 =>
 ((dOps (H := H) Tryz.prog).load s43 3 v53).bind fun v54 =>
 ((dOps (H := H) Tryz.prog).bop .add 3 v54 a2).bind fun v55 =>
 ((dOps (H := H) Tryz.prog).bop .gtr 3 v55 (Go.Value.int Go.IntKind.i64 524288)).bind fun v56 =>
 ((dOps (H := H) Tryz.prog).boolO v56).bind fun b57 => cond b57 (
 some [((Go.Value.int Go.IntKind.i64 3), s43)]) (
 (C (.fn 137) [a1, a2] s43).bind fun L58 => manyK L58 fun v59 s60 =>
 iter (fun t s k => exec Tryz.prog false C n 108 none (cdp Tryz.f108 [1, 1, 1, 0, 0, 0]) t s k) (scratch (cdp Tryz.f108 [1, 1, 1, 0, 0, 0])) n (f108_l0_m a0 v59 v44 a0 v42 v44 v47 a2 v46 a2 v47 v47 v56 a0 v51 v52 v53 v54 a2 v55 v56 a1 a2 v59 (a2, undefV, undefV)) s60 (kBlock 1 (kSeq Tryz.prog false C n 108 none (cdp Tryz.f108 [1, 1, 1, 1]) (kFun Tryz.prog Tryz.f108)))))) (
 none)) := by kernel_rfl
  rw [h1]
  simp only [f108_l0_e, f108_l0_k]
  show _ = f108 (dOps (H := H) Tryz.prog) C n a0 a1 a2 s
  kernel_rfl
/-! tidepole/xor.write -/
def f112_l0_m (i0 : Value) (i1 : Value) (i8 : Value) (i9 : Value) (x : Value × Value × Value) : List Value := [i0, i1, undefV, undefV, x.1, undefV, dc, x.2.1, i8, i9, x.2.2, dc, dc, dc, dc, dc, dc, dc, dc, dc, dc, dc, dc, dc]
noncomputable def f112_l0 (O : Ops H) (C : OracleJ H) (n : Nat) (i0 : Value) (i8 : Value) (i9 : Value) (nx : (Value × Value × Value) → St H → Option (List (Value × St H))) (kx : Nat → (Value × Value × Value) → St H → Option (List (Value × St H))) (kr : (Value × Value × Value) → St H → Option (List (Value × St H))) (x : Value × Value × Value) (s : St H) : Option (List (Value × St H)) :=
 (O.bop .lss 3 x.2.2 i9).bind fun v2 =>
 (O.boolO v2).bind fun b3 => cond b3 (
 (O.indexAddr 200 i8 x.2.2).bind fun v4 =>
 (O.load s 173 v4).bind fun v5 =>
 (O.alloc s 173).bind fun p6 =>
 (O.store p6.2 173 p6.1 v5).bind fun s7 =>
 (O.fieldAddr 173 p6.1 0).bind fun v8 =>
 (O.load s7 26 v8).bind fun v9 =>
 (O.fieldAddr 173 p6.1 1).bind fun v10 =>
 (O.load s7 3 v10).bind fun v11 =>
 (C (.fn 108) [i0, v9, v11] s7).bind fun L12 => manyK L12 fun v13 s14 =>
 (O.bop .neq 32 v13 (Go.Value.int Go.IntKind.i64 0)).bind fun v15 =>
 (O.boolO v15).bind fun b16 => cond b16 (
 kr (v13, v13, x.2.2) s14) (
 (O.bop .add 3 x.2.2 (Go.Value.int Go.IntKind.i64 1)).bind fun v17 =>
 nx (x.1, v13, v17) s14)) (
 kx 0 (x.1, x.2.1, x.2.2) s)
theorem f112_l0_b (C : OracleJ H) (n : Nat) (i0 : Value) (i1 : Value) (i8 : Value) (i9 : Value) (x : Value × Value × Value) (s : St H) (nx : List Value → St H → Option (List (Value × St H))) (K : Ex → List Value → St H → Option (List (Value × St H))) :
 exec Tryz.prog false C n 112 none (cdp Tryz.f112 [1, 0, 1, 0, 0]) (f112_l0_m i0 i1 i8 i9 x) s (kIter (scratch (cdp Tryz.f112 [1, 0, 1, 0, 0])) nx K) = f112_l0 (dOps (H := H) Tryz.prog) C n i0 i8 i9 (fun x s => nx (f112_l0_m i0 i1 i8 i9 x) s) (fun i x s => K (.exit i) (f112_l0_m i0 i1 i8 i9 x) s) (fun x s => K .ret (f112_l0_m i0 i1 i8 i9 x) s) x s := by kernel_rfl
theorem f112_l0_e (C : OracleJ H) (n : Nat) (i0 : Value) (i1 : Value) (i8 : Value) (i9 : Value) (m : Nat) (x : Value × Value × Value) (s : St H) (K : Ex → List Value → St H → Option (List (Value × St H))) :
 iter (fun t s k => exec Tryz.prog false C n 112 none (cdp Tryz.f112 [1, 0, 1, 0, 0]) t s k) (scratch (cdp Tryz.f112 [1, 0, 1, 0, 0])) m (f112_l0_m i0 i1 i8 i9 x) s K = iterS (f112_l0 (dOps (H := H) Tryz.prog) C n i0 i8 i9) (fun i x s => K (.exit i) (f112_l0_m i0 i1 i8 i9 x) s) (fun x s => K .ret (f112_l0_m i0 i1 i8 i9 x) s) m x s :=
   iter_eq (f112_l0_m i0 i1 i8 i9) (f112_l0 (dOps (H := H) Tryz.prog) C n i0 i8 i9) (fun x s nx K => f112_l0_b C n i0 i1 i8 i9 x s nx K) K m x s
noncomputable def f112 (O : Ops H) (C : OracleJ H) (n : Nat) (a0 : Value) (a1 : Value) (s : St H) : Option (List (Value × St H)) :=
 (O.len s 200 a1).bind fun v1 =>
 iterS (f112_l0 O C n a0 a1 v1 )
 (fun i18 x19 s20 => (bif Nat.beq i18 0 then
 some [((Go.Value.int Go.IntKind.i64 0), s20)] else none))
 (fun x21 s22 => some [(x21.1, s22)]) n ((Go.Value.int Go.IntKind.i64 0), undefV, (Go.Value.int Go.IntKind.i64 0)) s
theorem f112_l0_k (C : OracleJ H) (n : Nat) (i0 : Value) (i1 : Value) (i8 : Value) (i9 : Value) (i : Nat) (x : Value × Value × Value) (s : St H) : (kBlock 0 (kSeq Tryz.prog false C n 112 none (cdp Tryz.f112 [1, 1]) (kFun Tryz.prog Tryz.f112))) (.exit i) (f112_l0_m i0 i1 i8 i9 x) s =
 (bif Nat.beq i 0 then
 some [((Go.Value.int Go.IntKind.i64 0), s)] else none) := by kernel_rfl
theorem f112_r (C : OracleJ H) (n : Nat) (a0 : Value) (a1 : Value) (s : St H) : bodyD Tryz.prog false C n 112 Tryz.f112 [a0, a1] s = f112 (dOps (H := H) Tryz.prog) C n a0 a1 s := by
  have h1 : bodyD Tryz.prog false C n 112 Tryz.f112 [a0, a1] s =
 ((dOps (H := H) Tryz.prog).len s 200 a1).bind fun v23 =>
 iter (fun t s k => exec Tryz.prog false C n 112 none (cdp Tryz.f112 [1, 0, 1, 0, 0]) t s k) (scratch (cdp Tryz.f112 [1, 0, 1, 0, 0])) n (f112_l0_m a0 a1 a1 v23 ((Go.Value.int Go.IntKind.i64 0), undefV, (Go.Value.int Go.IntKind.i64 0))) s (kBlock 0 (kSeq Tryz.prog false C n 112 none (cdp Tryz.f112 [1, 1]) (kFun Tryz.prog Tryz.f112))) := by kernel_rfl
  rw [h1]
  simp only [f112_l0_e, f112_l0_k]
  show _ = f112 (dOps (H := H) Tryz.prog) C n a0 a1 s
  kernel_rfl
/-! (tidepole/xor.State).next -/
noncomputable def f116 (O : Ops H) (C : OracleJ H) (n : Nat) (a0 : Value) (a1 : Value) (a2 : Value) (s : St H) : Option (List (Value × St H)) :=
 (O.box s a0).bind fun p1 =>
 (O.box p1.2 a2).bind fun p2 =>
 (O.alloc p2.2 118).bind fun p3 =>
 (O.fieldAddr 118 p1.1 0).bind fun v4 =>
 (O.load p3.2 3 v4).bind fun v5 =>
 (O.bop .add 3 v5 (Go.Value.int Go.IntKind.i64 1)).bind fun v6 =>
 (O.fieldAddr 169 p2.1 0).bind fun v7 =>
 (O.load p3.2 3 v7).bind fun v8 =>
 (O.fieldAddr 169 p2.1 1).bind fun v9 =>
 (O.load p3.2 3 v9).bind fun v10 =>
 (O.build 118 [(0, v6), (1, a1), (2, v8), (3, v10)]).bind fun v11 =>
 (O.store p3.2 118 p3.1 v11).bind fun s12 =>
 (O.load s12 118 p3.1).bind fun v13 => some [(v13, s12)]
theorem f116_r (C : OracleJ H) (n : Nat) (a0 : Value) (a1 : Value) (a2 : Value) (s : St H) : bodyD Tryz.prog false C n 116 Tryz.f116 [a0, a1, a2] s = f116 (dOps (H := H) Tryz.prog) C n a0 a1 a2 s := by kernel_rfl
/-! slices.choosePivotOrdered[uint64] -/
noncomputable def f120 (O : Ops H) (C : OracleJ H) (n : Nat) (a0 : Value) (a1 : Value) (a2 : Value) (s : St H) : Option (List (Value × St H)) :=
 (O.bop .sub 3 a2 a1).bind fun v1 =>
 (O.alloc s 3).bind fun p2 =>
 (O.bop .quo 3 v1 (Go.Value.int Go.IntKind.i64 4)).bind fun v3 =>
 (O.bop .mul 3 v3 (Go.Value.int Go.IntKind.i64 1)).bind fun v4 =>
 (O.bop .add 3 a1 v4).bind fun v5 =>
 (O.bop .quo 3 v1 (Go.Value.int Go.IntKind.i64 4)).bind fun v6 =>
 (O.bop .mul 3 v6 (Go.Value.int Go.IntKind.i64 2)).bind fun v7 =>
 (O.bop .add 3 a1 v7).bind fun v8 =>
 (O.bop .quo 3 v1 (Go.Value.int Go.IntKind.i64 4)).bind fun v9 =>
 (O.bop .mul 3 v9 (Go.Value.int Go.IntKind.i64 3)).bind fun v10 =>
 (O.bop .add 3 a1 v10).bind fun v11 =>
 (O.bop .geq 3 v1 (Go.Value.int Go.IntKind.i64 8)).bind fun v12 =>
 jn (fun (j269_11 : Value) (js269 : St H) =>
 (O.load js269 3 p2.1).bind fun v36 =>
 (O.bop .eql 3 v36 (Go.Value.int Go.IntKind.i64 0)).bind fun v37 =>
 (O.boolO v37).bind fun b38 => cond b38 (
 some [(.tuple #[j269_11, (Go.Value.int Go.IntKind.i64 1)], js269)]) (
 (O.bop .eql 3 v36 (Go.Value.int Go.IntKind.i64 12)).bind fun v39 =>
 (O.boolO v39).bind fun b40 => cond b40 (
 some [(.tuple #[j269_11, (Go.Value.int Go.IntKind.i64 2)], js269)]) (
 some [(.tuple #[j269_11, (Go.Value.int Go.IntKind.i64 0)], js269)]))) fun k269 =>
 (O.boolO v12).bind fun b13 => cond b13 (
 (O.bop .geq 3 v1 (Go.Value.int Go.IntKind.i64 50)).bind fun v14 =>
 jn (fun (j271_10 : Value) (j271_11 : Value) (j271_12 : Value) (js271 : St H) =>
 (C (.fn 144) [a0, j271_10, j271_11, j271_12, p2.1] js271).bind fun L28 => manyK L28 fun v29 s30 =>
 k269 v29 s30) fun k271 =>
 (O.boolO v14).bind fun b15 => cond b15 (
 (C (.fn 143) [a0, v5, p2.1] p2.2).bind fun L16 => manyK L16 fun v17 s18 =>
 (C (.fn 143) [a0, v8, p2.1] s18).bind fun L19 => manyK L19 fun v20 s21 =>
 (C (.fn 143) [a0, v11, p2.1] s21).bind fun L22 => manyK L22 fun v23 s24 =>
 k271 v17 v20 v23 s24) (
 k271 v5 v8 v11 p2.2)) (
 k269 v8 p2.2)
theorem f120_r (C : OracleJ H) (n : Nat) (a0 : Value) (a1 : Value) (a2 : Value) (s : St H) : bodyD Tryz.prog false C n 120 Tryz.f120 [a0, a1, a2] s = f120 (dOps (H := H) Tryz.prog) C n a0 a1 a2 s := by kernel_rfl
/-! slices.partitionOrdered[uint64] -/
def f125_l0_m (i0 : Value) (i1 : Value) (i2 : Value) (i3 : Value) (i11 : Value) (i12 : Value) (i13 : Value) (i14 : Value) (i15 : Value) (i16 : Value) (i17 : Value) (i18 : Value) (i19 : Value) (i20 : Value) (i21 : Value) (i22 : Value) (i23 : Value) (i24 : Value) (i25 : Value) (i26 : Value) (i27 : Value) (i28 : Value) (i29 : Value) (x : Value) : List Value := [i0, i1, i2, i3, undefV, undefV, undefV, undefV, (Go.Value.int Go.IntKind.i64 0), (.bool false), x, i11, i12, i13, i14, i15, i16, i17, i18, i19, i20, i21, i22, i23, i24, i25, i26, i27, i28, i29, dc, dc, dc, dc, dc, dc, dc, dc, dc, dc, dc, dc, dc, dc, dc, dc, undefV, undefV, undefV, undefV, undefV, undefV, undefV, undefV, undefV, undefV, undefV, undefV, undefV, undefV, undefV, undefV, undefV, undefV, undefV, undefV, undefV, undefV, undefV, undefV, undefV, undefV, undefV, undefV, undefV, undefV, undefV, undefV, undefV, undefV, undefV, undefV, undefV, undefV, undefV, undefV, undefV, undefV, undefV, undefV, undefV, undefV, undefV, undefV, undefV, undefV, undefV, undefV, undefV, undefV, undefV, undefV, undefV, undefV, undefV, undefV, undefV, undefV, undefV, undefV, undefV, undefV, undefV, undefV, undefV, undefV, undefV, undefV, undefV, undefV, undefV, undefV, undefV, undefV, undefV, undefV, undefV, undefV, undefV, undefV, undefV, undefV, undefV, undefV, undefV, undefV, undefV, undefV, undefV, undefV, undefV, undefV, undefV, undefV, undefV, undefV, undefV, undefV, undefV, undefV, undefV, undefV, undefV, undefV, undefV, undefV, undefV, undefV, undefV, undefV, undefV, undefV, undefV, undefV, undefV, undefV, undefV, undefV]
noncomputable def f125_l0 (O : Ops H) (C : OracleJ H) (n : Nat) (i0 : Value) (i1 : Value) (i11 : Value) (nx : Value → St H → Option (List (Value × St H))) (kx : Nat → Value → St H → Option (List (Value × St H))) (kr : Value → St H → Option (List (Value × St H))) (x : Value) (s : St H) : Option (List (Value × St H)) :=
 jn (fun (j299_43 : Value) (js299 : St H) =>
 (O.boolO j299_43).bind fun b19 => cond b19 (
 (O.bop .add 3 x (Go.Value.int Go.IntKind.i64 1)).bind fun v20 =>
 nx v20 js299) (
 kx 0 x js299)) fun k299 =>
 (O.bop .leq 3 x i11).bind fun v11 =>
 gd v11 (
 (O.indexAddr 39 i0 x).bind fun v12 =>
 (O.load s 26 v12).bind fun v13 =>
 (O.indexAddr 39 i0 i1).bind fun v14 =>
 (O.load s 26 v14).bind fun v15 =>
 (oneO C (.fn 123) [v13, v15] s).bind fun p16 =>
 k299 p16.1 p16.2) (
 k299 (.bool false) s) (
 none)
theorem f125_l0_b (C : OracleJ H) (n : Nat) (i0 : Value) (i1 : Value) (i2 : Value) (i3 : Value) (i11 : Value) (i12 : Value) (i13 : Value) (i14 : Value) (i15 : Value) (i16 : Value) (i17 : Value) (i18 : Value) (i19 : Value) (i20 : Value) (i21 : Value) (i22 : Value) (i23 : Value) (i24 : Value) (i25 : Value) (i26 : Value) (i27 : Value) (i28 : Value) (i29 : Value) (x : Value) (s : St H) (nx : List Value → St H → Option (List (Value × St H))) (K : Ex → List Value → St H → Option (List (Value × St H))) :
 exec Tryz.prog false C n 125 none (cdp Tryz.f125 [1, 1, 1, 0, 0, 0]) (f125_l0_m i0 i1 i2 i3 i11 i12 i13 i14 i15 i16 i17 i18 i19 i20 i21 i22 i23 i24 i25 i26 i27 i28 i29 x) s (kIter (scratch (cdp Tryz.f125 [1, 1, 1, 0, 0, 0])) nx K) = f125_l0 (dOps (H := H) Tryz.prog) C n i0 i1 i11 (fun x s => nx (f125_l0_m i0 i1 i2 i3 i11 i12 i13 i14 i15 i16 i17 i18 i19 i20 i21 i22 i23 i24 i25 i26 i27 i28 i29 x) s) (fun i x s => K (.exit i) (f125_l0_m i0 i1 i2 i3 i11 i12 i13 i14 i15 i16 i17 i18 i19 i20 i21 i22 i23 i24 i25 i26 i27 i28 i29 x) s) (fun x s => K .ret (f125_l0_m i0 i1 i2 i3 i11 i12 i13 i14 i15 i16 i17 i18 i19 i20 i21 i22 i23 i24 i25 i26 i27 i28 i29 x) s) x s := by kernel_rfl
theorem f125_l0_e (C : OracleJ H) (n : Nat) (i0 : Value) (i1 : Value) (i2 : Value) (i3 : Value) (i11 : Value) (i12 : Value) (i13 : Value) (i14 : Value) (i15 : Value) (i16 : Value) (i17 : Value) (i18 : Value) (i19 : Value) (i20 : Value) (i21 : Value) (i22 : Value) (i23 : Value) (i24 : Value) (i25 : Value) (i26 : Value) (i27 : Value) (i28 : Value) (i29 : Value) (m : Nat) (x : Value) (s : St H) (K : Ex → List Value → St H → Option (List (Value × St H))) :
 iter (fun t s k => exec Tryz.prog false C n 125 none (cdp Tryz.f125 [1, 1, 1, 0, 0, 0]) t s k) (scratch (cdp Tryz.f125 [1, 1, 1, 0, 0, 0])) m (f125_l0_m i0 i1 i2 i3 i11 i12 i13 i14 i15 i16 i17 i18 i19 i20 i21 i22 i23 i24 i25 i26 i27 i28 i29 x) s K = iterS (f125_l0 (dOps (H := H) Tryz.prog) C n i0 i1 i11) (fun i x s => K (.exit i) (f125_l0_m i0 i1 i2 i3 i11 i12 i13 i14 i15 i16 i17 i18 i19 i20 i21 i22 i23 i24 i25 i26 i27 i28 i29 x) s) (fun x s => K .ret (f125_l0_m i0 i1 i2 i3 i11 i12 i13 i14 i15 i16 i17 i18 i19 i20 i21 i22 i23 i24 i25 i26 i27 i28 i29 x) s) m x s :=
   iter_eq (f125_l0_m i0 i1 i2 i3 i11 i12 i13 i14 i15 i16 i17 i18 i19 i20 i21 i22 i23 i24 i25 i26 i27 i28 i29) (f125_l0 (dOps (H := H) Tryz.prog) C n i0 i1 i11) (fun x s nx K => f125_l0_b C n i0 i1 i2 i3 i11 i12 i13 i14 i15 i16 i17 i18 i19 i20 i21 i22 i23 i24 i25 i26 i27 i28 i29 x s nx K) K m x s
def f125_l1_m (i0 : Value) (i1 : Value) (i2 : Value) (i3 : Value) (i10 : Value) (i12 : Value) (i13 : Value) (i14 : Value) (i15 : Value) (i16 : Value) (i17 : Value) (i18 : Value) (i19 : Value) (i20 : Value) (i21 : Value) (i22 : Value) (i23 : Value) (i24 : Value) (i25 : Value) (i26 : Value) (i27 : Value) (i28 : Value) (i29 : Value) (x : Value) : List Value := [i0, i1, i2, i3, undefV, undefV, undefV, undefV, (Go.Value.int Go.IntKind.i64 0), (.bool false), i10, x, i12, i13, i14, i15, i16, i17, i18, i19, i20, i21, i22, i23, i24, i25, i26, i27, i28, i29, dc, dc, dc, dc, dc, dc, dc, dc, dc, dc, dc, dc, dc, dc, dc, dc, dc, dc, dc, dc, dc, dc, dc, dc, dc, dc, dc, dc, dc, dc, dc, dc, dc, undefV, undefV, undefV, undefV, undefV, undefV, undefV, undefV, undefV, undefV, undefV, undefV, undefV, undefV, undefV, undefV, undefV, undefV, undefV, undefV, undefV, undefV, undefV, undefV, undefV, undefV, undefV, undefV, undefV, undefV, undefV, undefV, undefV, undefV, undefV, undefV, undefV, undefV, undefV, undefV, undefV, undefV, undefV, undefV, undefV, undefV, undefV, undefV, undefV, undefV, undefV, undefV, undefV, undefV, undefV, undefV, undefV, undefV, undefV, undefV, undefV, undefV, undefV, undefV, undefV, undefV, undefV, undefV, undefV, undefV, undefV, undefV, undefV, undefV, undefV, undefV, undefV, undefV, undefV, undefV, undefV, undefV, undefV, undefV, undefV, undefV, undefV, undefV, undefV, undefV, undefV, undefV, undefV, undefV, undefV, undefV, undefV, undefV, undefV, undefV, undefV, undefV, undefV, undefV, undefV]
noncomputable def f125_l1 (O : Ops H) (C : OracleJ H) (n : Nat) (i0 : Value) (i1 : Value) (i10 : Value) (nx : Value → St H → Option (List (Value × St H))) (kx : Nat → Value → St H → Option (List (Value × St H))) (kr : Value → St H → Option (List (Value × St H))) (x : Value) (s : St H) : Option (List (Value × St H)) :=
 jn (fun (j307_60 : Value) (js307 : St H) =>
 (O.boolO j307_60).bind fun b35 => cond b35 (
 (O.bop .sub 3 x (Go.Value.int Go.IntKind.i64 1)).bind fun v36 =>
 nx v36 js307) (
 kx 2 x js307)) fun k307 =>
 (O.bop .leq 3 i10 x).bind fun v26 =>
 gd v26 (
 (O.indexAddr 39 i0 x).bind fun v27 =>
 (O.load s 26 v27).bind fun v28 =>
 (O.indexAddr 39 i0 i1).bind fun v29 =>
 (O.load s 26 v29).bind fun v30 =>
 (oneO C (.fn 123) [v28, v30] s).bind fun p31 =>
 (O.uop .not p31.1).bind fun v32 =>
 k307 v32 p31.2) (
 k307 (.bool false) s) (
 none)
theorem f125_l1_b (C : OracleJ H) (n : Nat) (i0 : Value) (i1 : Value) (i2 : Value) (i3 : Value) (i10 : Value) (i12 : Value) (i13 : Value) (i14 : Value) (i15 : Value) (i16 : Value) (i17 : Value) (i18 : Value) (i19 : Value) (i20 : Value) (i21 : Value) (i22 : Value) (i23 : Value) (i24 : Value) (i25 : Value) (i26 : Value) (i27 : Value) (i28 : Value) (i29 : Value) (x : Value) (s : St H) (nx : List Value → St H → Option (List (Value × St H))) (K : Ex → List Value → St H → Option (List (Value × St H))) :
 exec Tryz.prog false C n 125 none (cdp Tryz.f125 [1, 1, 1, 1, 0, 0, 0]) (f125_l1_m i0 i1 i2 i3 i10 i12 i13 i14 i15 i16 i17 i18 i19 i20 i21 i22 i23 i24 i25 i26 i27 i28 i29 x) s (kIter (scratch (cdp Tryz.f125 [1, 1, 1, 1, 0, 0, 0])) nx K) = f125_l1 (dOps (H := H) Tryz.prog) C n i0 i1 i10 (fun x s => nx (f125_l1_m i0 i1 i2 i3 i10 i12 i13 i14 i15 i16 i17 i18 i19 i20 i21 i22 i23 i24 i25 i26 i27 i28 i29 x) s) (fun i x s => K (.exit i) (f125_l1_m i0 i1 i2 i3 i10 i12 i13 i14 i15 i16 i17 i18 i19 i20 i21 i22 i23 i24 i25 i26 i27 i28 i29 x) s) (fun x s => K .ret (f125_l1_m i0 i1 i2 i3 i10 i12 i13 i14 i15 i16 i17 i18 i19 i20 i21 i22 i23 i24 i25 i26 i27 i28 i29 x) s) x s := by kernel_rfl
theorem f125_l1_e (C : OracleJ H) (n : Nat) (i0 : Value) (i1 : Value) (i2 : Value) (i3 : Value) (i10 : Value) (i12 : Value) (i13 : Value) (i14 : Value) (i15 : Value) (i16 : Value) (i17 : Value) (i18 : Value) (i19 : Value) (i20 : Value) (i21 : Value) (i22 : Value) (i23 : Value) (i24 : Value) (i25 : Value) (i26 : Value) (i27 : Value) (i28 : Value) (i29 : Value) (m : Nat) (x : Value) (s : St H) (K : Ex → List Value → St H → Option (List (Value × St H))) :
 iter (fun t s k => exec Tryz.prog false C n 125 none (cdp Tryz.f125 [1, 1, 1, 1, 0, 0, 0]) t s k) (scratch (cdp Tryz.f125 [1, 1, 1, 1, 0, 0, 0])) m (f125_l1_m i0 i1 i2 i3 i10 i12 i13 i14 i15 i16 i17 i18 i19 i20 i21 i22 i23 i24 i25 i26 i27 i28 i29 x) s K = iterS (f125_l1 (dOps (H := H) Tryz.prog) C n i0 i1 i10) (fun i x s => K (.exit i) (f125_l1_m i0 i1 i2 i3 i10 i12 i13 i14 i15 i16 i17 i18 i19 i20 i21 i22 i23 i24 i25 i26 i27 i28 i29 x) s) (fun x s => K .ret (f125_l1_m i0 i1 i2 i3 i10 i12 i13 i14 i15 i16 i17 i18 i19 i20 i21 i22 i23 i24 i25 i26 i27 i28 i29 x) s) m x s :=
   iter_eq (f125_l1_m i0 i1 i2 i3 i10 i12 i13 i14 i15 i16 i17 i18 i19 i20 i21 i22 i23 i24 i25 i26 i27 i28 i29) (f125_l1 (dOps (H := H) Tryz.prog) C n i0 i1 i10) (fun x s nx K => f125_l1_b C n i0 i1 i2 i3 i10 i12 i13 i14 i15 i16 i17 i18 i19 i20 i21 i22 i23 i24 i25 i26 i27 i28 i29 x s nx K) K m x s
def f125_l3_m (i0 : Value) (i1 : Value) (i2 : Value) (i3 : Value) (i11 : Value) (i12 : Value) (i13 : Value) (i14 : Value) (i15 : Value) (i16 : Value) (i17 : Value) (i18 : Value) (i19 : Value) (i20 : Value) (i21 : Value) (i22 : Value) (i23 : Value) (i24 : Value) (i25 : Value) (i26 : Value) (i27 : Value) (i28 : Value) (i29 : Value) (i63 : Value) (i64 : Value) (i65 : Value) (i81 : Value) (i82 : Value) (i83 : Value) (i84 : Value) (i85 : Value) (i86 : Value) (i87 : Value) (i88 : Value) (i89 : Value) (i90 : Value) (i91 : Value) (i92 : Value) (i93 : Value) (i94 : Value) (i95 : Value) (i96 : Value) (i97 : Value) (i98 : Value) (x : Value) : List Value := [i0, i1, i2, i3, undefV, undefV, undefV, undefV, (Go.Value.int Go.IntKind.i64 0), (.bool false), x, i11, i12, i13, i14, i15, i16, i17, i18, i19, i20, i21, i22, i23, i24, i25, i26, i27, i28, i29, dc, dc, dc, dc, dc, dc, dc, dc, dc, dc, dc, dc, dc, dc, dc, dc, dc, dc, dc, dc, dc, dc, dc, dc, dc, dc, dc, dc, dc, dc, dc, dc, dc, i63, i64, i65, undefV, undefV, undefV, undefV, undefV, undefV, undefV, undefV, undefV, undefV, undefV, undefV, undefV, undefV, undefV, i81, i82, i83, i84, i85, i86, i87, i88, i89, i90, i91, i92, i93, i94, i95, i96, i97, i98, dc, dc, dc, dc, dc, dc, dc, dc, dc, dc, dc, dc, dc, dc, dc, dc, dc, dc, dc, dc, dc, dc, dc, dc, dc, dc, dc, dc, dc, dc, dc, dc, dc, dc, dc, dc, dc, dc, dc, dc, dc, dc, dc, dc, dc, dc, dc, dc, dc, dc, dc, dc, dc, dc, undefV, undefV, undefV, undefV, undefV, undefV, undefV, undefV, undefV, undefV, undefV, undefV, undefV, undefV, undefV]
noncomputable def f125_l3 (O : Ops H) (C : OracleJ H) (n : Nat) (i0 : Value) (i1 : Value) (i11 : Value) (i64 : Value) (nx : Value → St H → Option (List (Value × St H))) (kx : Nat → Value → St H → Option (List (Value × St H))) (kr : Value → St H → Option (List (Value × St H))) (x : Value) (s : St H) : Option (List (Value × St H)) :=
 jn (fun (j324_112 : Value) (js324 : St H) =>
 (O.boolO j324_112).bind fun b70 => cond b70 (
 (O.bop .add 3 x (Go.Value.int Go.IntKind.i64 1)).bind fun v71 =>
 nx v71 js324) (
 kx 6 x js324)) fun k324 =>
 (O.bop .leq 3 x i11).bind fun v62 =>
 gd v62 (
 (O.indexAddr 39 i0 x).bind fun v63 =>
 (O.load s 26 v63).bind fun v64 =>
 (O.indexAddr 39 i0 i1).bind fun v65 =>
 (O.load s 26 v65).bind fun v66 =>
 (oneO C (.fn 123) [v64, v66] s).bind fun p67 =>
 k324 p67.1 p67.2) (
 k324 (.bool false) s) (
 none)
theorem f125_l3_b (C : OracleJ H) (n : Nat) (i0 : Value) (i1 : Value) (i2 : Value) (i3 : Value) (i11 : Value) (i12 : Value) (i13 : Value) (i14 : Value) (i15 : Value) (i16 : Value) (i17 : Value) (i18 : Value) (i19 : Value) (i20 : Value) (i21 : Value) (i22 : Value) (i23 : Value) (i24 : Value) (i25 : Value) (i26 : Value) (i27 : Value) (i28 : Value) (i29 : Value) (i63 : Value) (i64 : Value) (i65 : Value) (i81 : Value) (i82 : Value) (i83 : Value) (i84 : Value) (i85 : Value) (i86 : Value) (i87 : Value) (i88 : Value) (i89 : Value) (i90 : Value) (i91 : Value) (i92 : Value) (i93 : Value) (i94 : Value) (i95 : Value) (i96 : Value) (i97 : Value) (i98 : Value) (x : Value) (s : St H) (nx : List Value → St H → Option (List (Value × St H))) (K : Ex → List Value → St H → Option (List (Value × St H))) :
 exec Tryz.prog false C n 125 none (cdp Tryz.f125 [1, 1, 1, 1, 1, 1, 1, 1, 1, 0, 0, 0, 0, 0, 0, 0]) (f125_l3_m i0 i1 i2 i3 i11 i12 i13 i14 i15 i16 i17 i18 i19 i20 i21 i22 i23 i24 i25 i26 i27 i28 i29 i63 i64 i65 i81 i82 i83 i84 i85 i86 i87 i88 i89 i90 i91 i92 i93 i94 i95 i96 i97 i98 x) s (kIter (scratch (cdp Tryz.f125 [1, 1, 1, 1, 1, 1, 1, 1, 1, 0, 0, 0, 0, 0, 0, 0])) nx K) = f125_l3 (dOps (H := H) Tryz.prog) C n i0 i1 i11 i64 (fun x s => nx (f125_l3_m i0 i1 i2 i3 i11 i12 i13 i14 i15 i16 i17 i18 i19 i20 i21 i22 i23 i24 i25 i26 i27 i28 i29 i63 i64 i65 i81 i82 i83 i84 i85 i86 i87 i88 i89 i90 i91 i92 i93 i94 i95 i96 i97 i98 x) s) (fun i x s => K (.exit i) (f125_l3_m i0 i1 i2 i3 i11 i12 i13 i14 i15 i16 i17 i18 i19 i20 i21 i22 i23 i24 i25 i26 i27 i28 i29 i63 i64 i65 i81 i82 i83 i84 i85 i86 i87 i88 i89 i90 i91 i92 i93 i94 i95 i96 i97 i98 x) s) (fun x s => K .ret (f125_l3_m i0 i1 i2 i3 i11 i12 i13 i14 i15 i16 i17 i18 i19 i20 i21 i22 i23 i24 i25 i26 i27 i28 i29 i63 i64 i65 i81 i82 i83 i84 i85 i86 i87 i88 i89 i90 i91 i92 i93 i94 i95 i96 i97 i98 x) s) x s := by kernel_rfl
theorem f125_l3_e (C : OracleJ H) (n : Nat) (i0 : Value) (i1 : Value) (i2 : Value) (i3 : Value) (i11 : Value) (i12 : Value) (i13 : Value) (i14 : Value) (i15 : Value) (i16 : Value) (i17 : Value) (i18 : Value) (i19 : Value) (i20 : Value) (i21 : Value) (i22 : Value) (i23 : Value) (i24 : Value) (i25 : Value) (i26 : Value) (i27 : Value) (i28 : Value) (i29 : Value) (i63 : Value) (i64 : Value) (i65 : Value) (i81 : Value) (i82 : Value) (i83 : Value) (i84 : Value) (i85 : Value) (i86 : Value) (i87 : Value) (i88 : Value) (i89 : Value) (i90 : Value) (i91 : Value) (i92 : Value) (i93 : Value) (i94 : Value) (i95 : Value) (i96 : Value) (i97 : Value) (i98 : Value) (m : Nat) (x : Value) (s : St H) (K : Ex → List Value → St H → Option (List (Value × St H))) :
 iter (fun t s k => exec Tryz.prog false C n 125 none (cdp Tryz.f125 [1, 1, 1, 1, 1, 1, 1, 1, 1, 0, 0, 0, 0, 0, 0, 0]) t s k) (scratch (cdp Tryz.f125 [1, 1, 1, 1, 1, 1, 1, 1, 1, 0, 0, 0, 0, 0, 0, 0])) m (f125_l3_m i0 i1 i2 i3 i11 i12 i13 i14 i15 i16 i17 i18 i19 i20 i21 i22 i23 i24 i25 i26 i27 i28 i29 i63 i64 i65 i81 i82 i83 i84 i85 i86 i87 i88 i89 i90 i91 i92 i93 i94 i95 i96 i97 i98 x) s K = iterS (f125_l3 (dOps (H := H) Tryz.prog) C n i0 i1 i11 i64) (fun i x s => K (.exit i) (f125_l3_m i0 i1 i2 i3 i11 i12 i13 i14 i15 i16 i17 i18 i19 i20 i21 i22 i23 i24 i25 i26 i27 i28 i29 i63 i64 i65 i81 i82 i83 i84 i85 i86 i87 i88 i89 i90 i91 i92 i93 i94 i95 i96 i97 i98 x) s) (fun x s => K .ret (f125_l3_m i0 i1 i2 i3 i11 i12 i13 i14 i15 i16 i17 i18 i19 i20 i21 i22 i23 i24 i25 i26 i27 i28 i29 i63 i64 i65 i81 i82 i83 i84 i85 i86 i87 i88 i89 i90 i91 i92 i93 i94 i95 i96 i97 i98 x) s) m x s :=
   iter_eq (f125_l3_m i0 i1 i2 i3 i11 i12 i13 i14 i15 i16 i17 i18 i19 i20 i21 i22 i23 i24 i25 i26 i27 i28 i29 i63 i64 i65 i81 i82 i83 i84 i85 i86 i87 i88 i89 i90 i91 i92 i93 i94 i95 i96 i97 i98) (f125_l3 (dOps (H := H) Tryz.prog) C n i0 i1 i11 i64) (fun x s nx K => f125_l3_b C n i0 i1 i2 i3 i11 i12 i13 i14 i15 i16 i17 i18 i19 i20 i21 i22 i23 i24 i25 i26 i27 i28 i29 i63 i64 i65 i81 i82 i83 i84 i85 i86 i87 i88 i89 i90 i91 i92 i93 i94 i95 i96 i97 i98 x s nx K) K m x s
def f125_l4_m (i0 : Value) (i1 : Value) (i2 : Value) (i3 : Value) (i10 : Value) (i12 : Value) (i13 : Value) (i14 : Value) (i15 : Value) (i16 : Value) (i17 : Value) (i18 : Value) (i19 : Value) (i20 : Value) (i21 : Value) (i22 : Value) (i23 : Value) (i24 : Value) (i25 : Value) (i26 : Value) (i27 : Value) (i28 : Value) (i29 : Value) (i63 : Value) (i64 : Value) (i65 : Value) (i81 : Value) (i82 : Value) (i83 : Value) (i84 : Value) (i85 : Value) (i86 : Value) (i87 : Value) (i88 : Value) (i89 : Value) (i90 : Value) (i91 : Value) (i92 : Value) (i93 : Value) (i94 : Value) (i95 : Value) (i96 : Value) (i97 : Value) (i98 : Value) (x : Value) : List Value := [i0, i1, i2, i3, undefV, undefV, undefV, undefV, (Go.Value.int Go.IntKind.i64 0), (.bool false), i10, x, i12, i13, i14, i15, i16, i17, i18, i19, i20, i21, i22, i23, i24, i25, i26, i27, i28, i29, dc, dc, dc, dc, dc, dc, dc, dc, dc, dc, dc, dc, dc, dc, dc, dc, dc, dc, dc, dc, dc, dc, dc, dc, dc, dc, dc, dc, dc, dc, dc, dc, dc, i63, i64, i65, undefV, undefV, undefV, undefV, undefV, undefV, undefV, undefV, undefV, undefV, undefV, undefV, undefV, undefV, undefV, i81, i82, i83, i84, i85, i86, i87, i88, i89, i90, i91, i92, i93, i94, i95, i96, i97, i98, dc, dc, dc, dc, dc, dc, dc, dc, dc, dc, dc, dc, dc, dc, dc, dc, dc, dc, dc, dc, dc, dc, dc, dc, dc, dc, dc, dc, dc, dc, dc, dc, dc, dc, dc, dc, dc, dc, dc, dc, dc, dc, dc, dc, dc, dc, dc, dc, dc, dc, dc, dc, dc, dc, undefV, undefV, undefV, undefV, undefV, undefV, undefV, undefV, undefV, undefV, undefV, undefV, undefV, undefV, undefV]
noncomputable def f125_l4 (O : Ops H) (C : OracleJ H) (n : Nat) (i0 : Value) (i1 : Value) (i10 : Value) (i64 : Value) (nx : Value → St H → Option (List (Value × St H))) (kx : Nat → Value → St H → Option (List (Value × St H))) (kr : Value → St H → Option (List (Value × St H))) (x : Value) (s : St H) : Option (List (Value × St H)) :=
 jn (fun (j332_129 : Value) (js332 : St H) =>
 (O.boolO j332_129).bind fun b86 => cond b86 (
 (O.bop .sub 3 x (Go.Value.int Go.IntKind.i64 1)).bind fun v87 =>
 nx v87 js332) (
 kx 8 x js332)) fun k332 =>
 (O.bop .leq 3 i10 x).bind fun v77 =>
 gd v77 (
 (O.indexAddr 39 i0 x).bind fun v78 =>
 (O.load s 26 v78).bind fun v79 =>
 (O.indexAddr 39 i0 i1).bind fun v80 =>
 (O.load s 26 v80).bind fun v81 =>
 (oneO C (.fn 123) [v79, v81] s).bind fun p82 =>
 (O.uop .not p82.1).bind fun v83 =>
 k332 v83 p82.2) (
 k332 (.bool false) s) (
 none)
theorem f125_l4_b (C : OracleJ H) (n : Nat) (i0 : Value) (i1 : Value) (i2 : Value) (i3 : Value) (i10 : Value) (i12 : Value) (i13 : Value) (i14 : Value) (i15 : Value) (i16 : Value) (i17 : Value) (i18 : Value) (i19 : Value) (i20 : Value) (i21 : Value) (i22 : Value) (i23 : Value) (i24 : Value) (i25 : Value) (i26 : Value) (i27 : Value) (i28 : Value) (i29 : Value) (i63 : Value) (i64 : Value) (i65 : Value) (i81 : Value) (i82 : Value) (i83 : Value) (i84 : Value) (i85 : Value) (i86 : Value) (i87 : Value) (i88 : Value) (i89 : Value) (i90 : Value) (i91 : Value) (i92 : Value) (i93 : Value) (i94 : Value) (i95 : Value) (i96 : Value) (i97 : Value) (i98 : Value) (x : Value) (s : St H) (nx : List Value → St H → Option (List (Value × St H))) (K : Ex → List Value → St H → Option (List (Value × St H))) :
 exec Tryz.prog false C n 125 none (cdp Tryz.f125 [1, 1, 1, 1, 1, 1, 1, 1, 1, 0, 0, 0, 0, 1, 0, 0, 0]) (f125_l4_m i0 i1 i2 i3 i10 i12 i13 i14 i15 i16 i17 i18 i19 i20 i21 i22 i23 i24 i25 i26 i27 i28 i29 i63 i64 i65 i81 i82 i83 i84 i85 i86 i87 i88 i89 i90 i91 i92 i93 i94 i95 i96 i97 i98 x) s (kIter (scratch (cdp Tryz.f125 [1, 1, 1, 1, 1, 1, 1, 1, 1, 0, 0, 0, 0, 1, 0, 0, 0])) nx K) = f125_l4 (dOps (H := H) Tryz.prog) C n i0 i1 i10 i64 (fun x s => nx (f125_l4_m i0 i1 i2 i3 i10 i12 i13 i14 i15 i16 i17 i18 i19 i20 i21 i22 i23 i24 i25 i26 i27 i28 i29 i63 i64 i65 i81 i82 i83 i84 i85 i86 i87 i88 i89 i90 i91 i92 i93 i94 i95 i96 i97 i98 x) s) (fun i x s => K (.exit i) (f125_l4_m i0 i1 i2 i3 i10 i12 i13 i14 i15 i16 i17 i18 i19 i20 i21 i22 i23 i24 i25 i26 i27 i28 i29 i63 i64 i65 i81 i82 i83 i84 i85 i86 i87 i88 i89 i90 i91 i92 i93 i94 i95 i96 i97 i98 x) s) (fun x s => K .ret (f125_l4_m i0 i1 i2 i3 i10 i12 i13 i14 i15 i16 i17 i18 i19 i20 i21 i22 i23 i24 i25 i26 i27 i28 i29 i63 i64 i65 i81 i82 i83 i84 i85 i86 i87 i88 i89 i90 i91 i92 i93 i94 i95 i96 i97 i98 x) s) x s := by kernel_rfl
theorem f125_l4_e (C : OracleJ H) (n : Nat) (i0 : Value) (i1 : Value) (i2 : Value) (i3 : Value) (i10 : Value) (i12 : Value) (i13 : Value) (i14 : Value) (i15 : Value) (i16 : Value) (i17 : Value) (i18 : Value) (i19 : Value) (i20 : Value) (i21 : Value) (i22 : Value) (i23 : Value) (i24 : Value) (i25 : Value) (i26 : Value) (i27 : Value) (i28 : Value) (i29 : Value) (i63 : Value) (i64 : Value) (i65 : Value) (i81 : Value) (i82 : Value) (i83 : Value) (i84 : Value) (i85 : Value) (i86 : Value) (i87 : Value) (i88 : Value) (i89 : Value) (i90 : Value) (i91 : Value) (i92 : Value) (i93 : Value) (i94 : Value) (i95 : Value) (i96 : Value) (i97 : Value) (i98 : Value) (m : Nat) (x : Value) (s : St H) (K : Ex → List Value → St H → Option (List (Value × St H))) :
 iter (fun t s k => exec Tryz.prog false C n 125 none (cdp Tryz.f125 [1, 1, 1, 1, 1, 1, 1, 1, 1, 0, 0, 0, 0, 1, 0, 0, 0]) t s k) (scratch (cdp Tryz.f125 [1, 1, 1, 1, 1, 1, 1, 1, 1, 0, 0, 0, 0, 1, 0, 0, 0])) m (f125_l4_m i0 i1 i2 i3 i10 i12 i13 i14 i15 i16 i17 i18 i19 i20 i21 i22 i23 i24 i25 i26 i27 i28 i29 i63 i64 i65 i81 i82 i83 i84 i85 i86 i87 i88 i89 i90 i91 i92 i93 i94 i95 i96 i97 i98 x) s K = iterS (f125_l4 (dOps (H := H) Tryz.prog) C n i0 i1 i10 i64) (fun i x s => K (.exit i) (f125_l4_m i0 i1 i2 i3 i10 i12 i13 i14 i15 i16 i17 i18 i19 i20 i21 i22 i23 i24 i25 i26 i27 i28 i29 i63 i64 i65 i81 i82 i83 i84 i85 i86 i87 i88 i89 i90 i91 i92 i93 i94 i95 i96 i97 i98 x) s) (fun x s => K .ret (f125_l4_m i0 i1 i2 i3 i10 i12 i13 i14 i15 i16 i17 i18 i19 i20 i21 i22 i23 i24 i25 i26 i27 i28 i29 i63 i64 i65 i81 i82 i83 i84 i85 i86 i87 i88 i89 i90 i91 i92 i93 i94 i95 i96 i97 i98 x) s) m x s :=
   iter_eq (f125_l4_m i0 i1 i2 i3 i10 i12 i13 i14 i15 i16 i17 i18 i19 i20 i21 i22 i23 i24 i25 i26 i27 i28 i29 i63 i64 i65 i81 i82 i83 i84 i85 i86 i87 i88 i89 i90 i91 i92 i93 i94 i95 i96 i97 i98) (f125_l4 (dOps (H := H) Tryz.prog) C n i0 i1 i10 i64) (fun x s nx K => f125_l4_b C n i0 i1 i2 i3 i10 i12 i13 i14 i15 i16 i17 i18 i19 i20 i21 i22 i23 i24 i25 i26 i27 i28 i29 i63 i64 i65 i81 i82 i83 i84 i85 i86 i87 i88 i89 i90 i91 i92 i93 i94 i95 i96 i97 i98 x s nx K) K m x s
def f125_l2_m (i0 : Value) (i1 : Value) (i2 : Value) (i3 : Value) (i12 : Value) (i13 : Value) (i14 : Value) (i15 : Value) (i16 : Value) (i17 : Value) (i18 : Value) (i19 : Value) (i20 : Value) (i21 : Value) (i22 : Value) (i23 : Value) (i24 : Value) (i25 : Value) (i26 : Value) (i27 : Value) (i28 : Value) (i29 : Value) (i63 : Value) (i64 : Value) (i65 : Value) (i81 : Value) (i82 : Value) (i83 : Value) (i84 : Value) (i85 : Value) (i86 : Value) (i87 : Value) (i88 : Value) (i89 : Value) (i90 : Value) (i91 : Value) (i92 : Value) (i93 : Value) (i94 : Value) (i95 : Value) (i96 : Value) (i97 : Value) (i98 : Value) (x : Value × Value) : List Value := [i0, i1, i2, i3, undefV, undefV, undefV, undefV, (Go.Value.int Go.IntKind.i64 0), (.bool false), x.1, x.2, i12, i13, i14, i15, i16, i17, i18, i19, i20, i21, i22, i23, i24, i25, i26, i27, i28, i29, dc, dc, dc, dc, dc, dc, dc, dc, dc, dc, dc, dc, dc, dc, dc, dc, dc, dc, dc, dc, dc, dc, dc, dc, dc, dc, dc, dc, dc, dc, dc, dc, dc, i63, i64, i65, undefV, undefV, undefV, undefV, undefV, undefV, undefV, undefV, undefV, undefV, undefV, undefV, undefV, undefV, undefV, i81, i82, i83, i84, i85, i86, i87, i88, i89, i90, i91, i92, i93, i94, i95, i96, i97, i98, dc, dc, dc, dc, dc, dc, dc, dc, dc, dc, dc, dc, dc, dc, dc, dc, dc, dc, dc, dc, dc, dc, dc, dc, dc, dc, dc, dc, dc, dc, dc, dc, dc, dc, dc, dc, dc, dc, dc, dc, dc, dc, dc, dc, dc, dc, dc, dc, dc, dc, dc, dc, dc, dc, undefV, undefV, undefV, undefV, undefV, undefV, undefV, undefV, undefV, undefV, undefV, undefV, undefV, undefV, undefV]
noncomputable def f125_l2 (O : Ops H) (C : OracleJ H) (n : Nat) (i0 : Value) (i1 : Value) (i64 : Value) (i88 : Value) (nx : (Value × Value) → St H → Option (List (Value × St H))) (kx : Nat → (Value × Value) → St H → Option (List (Value × St H))) (kr : (Value × Value) → St H → Option (List (Value × St H))) (x : Value × Value) (s : St H) : Option (List (Value × St H)) :=
 iterS (f125_l3 O C n i0 i1 x.2 i64 )
 (fun i72 x73 s74 => (bif Nat.beq i72 6 then
 iterS (f125_l4 O C n i0 i1 x73 i64 )
 (fun i88 x89 s90 => (bif Nat.beq i88 8 then
 (O.bop .gtr 3 x73 x89).bind fun v93 =>
 (O.boolO v93).bind fun b94 => cond b94 (
 kx 4 (x73, x89) s90) (
 (O.indexAddr 39 i0 x89).bind fun v95 =>
 (O.load s90 26 v95).bind fun v96 =>
 (O.indexAddr 39 i0 x73).bind fun v97 =>
 (O.load s90 26 v97).bind fun v98 =>
 (O.indexAddr 39 i0 x73).bind fun v99 =>
 (O.store s90 26 v99 v96).bind fun s100 =>
 (O.indexAddr 39 i0 x89).bind fun v101 =>
 (O.store s100 26 v101 v98).bind fun s102 =>
 (O.bop .add 3 x73 (Go.Value.int Go.IntKind.i64 1)).bind fun v103 =>
 (O.bop .sub 3 x89 (Go.Value.int Go.IntKind.i64 1)).bind fun v104 =>
 nx (v103, v104) s102) else (bif Nat.beq i88 5 then
 nx (x73, x89) s90 else kx i88 (x73, x89) s90)))
 (fun x91 s92 => kr (x73, x91) s92) n x.2 s74 else (bif Nat.beq i72 5 then
 nx (x73, x.2) s74 else kx i72 (x73, x.2) s74)))
 (fun x75 s76 => kr (x75, x.2) s76) n x.1 s
theorem f125_l4_k (C : OracleJ H) (n : Nat) (i0 : Value) (i1 : Value) (i2 : Value) (i3 : Value) (i10 : Value) (i12 : Value) (i13 : Value) (i14 : Value) (i15 : Value) (i16 : Value) (i17 : Value) (i18 : Value) (i19 : Value) (i20 : Value) (i21 : Value) (i22 : Value) (i23 : Value) (i24 : Value) (i25 : Value) (i26 : Value) (i27 : Value) (i28 : Value) (i29 : Value) (i63 : Value) (i64 : Value) (i65 : Value) (i81 : Value) (i82 : Value) (i83 : Value) (i84 : Value) (i85 : Value) (i86 : Value) (i87 : Value) (i88 : Value) (i89 : Value) (i90 : Value) (i91 : Value) (i92 : Value) (i93 : Value) (i94 : Value) (i95 : Value) (i96 : Value) (i97 : Value) (i98 : Value) (nx : List Value → St H → Option (List (Value × St H))) (K : Ex → List Value → St H → Option (List (Value × St H))) (i : Nat) (x : Value) (s : St H) : (kBlock 8 (kSeq Tryz.prog false C n 125 none (cdp Tryz.f125 [1, 1, 1, 1, 1, 1, 1, 1, 1, 0, 0, 0, 0, 1, 1]) (kBlock 5 (kIter (scratch (cdp Tryz.f125 [1, 1, 1, 1, 1, 1, 1, 1, 1, 0, 0, 0])) nx K)))) (.exit i) (f125_l4_m i0 i1 i2 i3 i10 i12 i13 i14 i15 i16 i17 i18 i19 i20 i21 i22 i23 i24 i25 i26 i27 i28 i29 i63 i64 i65 i81 i82 i83 i84 i85 i86 i87 i88 i89 i90 i91 i92 i93 i94 i95 i96 i97 i98 x) s =
 (bif Nat.beq i 8 then
 ((dOps (H := H) Tryz.prog).bop .gtr 3 i10 x).bind fun v117 =>
 ((dOps (H := H) Tryz.prog).boolO v117).bind fun b118 => cond b118 (
 K (.exit 4) (f125_l2_m i0 i1 i2 i3 i12 i13 i14 i15 i16 i17 i18 i19 i20 i21 i22 i23 i24 i25 i26 i27 i28 i29 i63 i64 i65 i81 i82 i83 i84 i85 i86 i87 i88 i89 i90 i91 i92 i93 i94 i95 i96 i97 i98 (i10, x)) s) (
 ((dOps (H := H) Tryz.prog).indexAddr 39 i0 x).bind fun v119 =>
 ((dOps (H := H) Tryz.prog).load s 26 v119).bind fun v120 =>
 ((dOps (H := H) Tryz.prog).indexAddr 39 i0 i10).bind fun v121 =>
 ((dOps (H := H) Tryz.prog).load s 26 v121).bind fun v122 =>
 ((dOps (H := H) Tryz.prog).indexAddr 39 i0 i10).bind fun v123 =>
 ((dOps (H := H) Tryz.prog).store s 26 v123 v120).bind fun s124 =>
 ((dOps (H := H) Tryz.prog).indexAddr 39 i0 x).bind fun v125 =>
 ((dOps (H := H) Tryz.prog).store s124 26 v125 v122).bind fun s126 =>
 ((dOps (H := H) Tryz.prog).bop .add 3 i10 (Go.Value.int Go.IntKind.i64 1)).bind fun v127 =>
 ((dOps (H := H) Tryz.prog).bop .sub 3 x (Go.Value.int Go.IntKind.i64 1)).bind fun v128 =>
 nx (f125_l2_m i0 i1 i2 i3 i12 i13 i14 i15 i16 i17 i18 i19 i20 i21 i22 i23 i24 i25 i26 i27 i28 i29 i63 i64 i65 i81 i82 i83 i84 i85 i86 i87 i88 i89 i90 i91 i92 i93 i94 i95 i96 i97 i98 (v127, v128)) s126) else (bif Nat.beq i 5 then
 nx (f125_l2_m i0 i1 i2 i3 i12 i13 i14 i15 i16 i17 i18 i19 i20 i21 i22 i23 i24 i25 i26 i27 i28 i29 i63 i64 i65 i81 i82 i83 i84 i85 i86 i87 i88 i89 i90 i91 i92 i93 i94 i95 i96 i97 i98 (i10, x)) s else K (.exit i) (f125_l2_m i0 i1 i2 i3 i12 i13 i14 i15 i16 i17 i18 i19 i20 i21 i22 i23 i24 i25 i26 i27 i28 i29 i63 i64 i65 i81 i82 i83 i84 i85 i86 i87 i88 i89 i90 i91 i92 i93 i94 i95 i96 i97 i98 (i10, x)) s)) := by kernel_rfl
theorem f125_l3_k (C : OracleJ H) (n : Nat) (i0 : Value) (i1 : Value) (i2 : Value) (i3 : Value) (i11 : Value) (i12 : Value) (i13 : Value) (i14 : Value) (i15 : Value) (i16 : Value) (i17 : Value) (i18 : Value) (i19 : Value) (i20 : Value) (i21 : Value) (i22 : Value) (i23 : Value) (i24 : Value) (i25 : Value) (i26 : Value) (i27 : Value) (i28 : Value) (i29 : Value) (i63 : Value) (i64 : Value) (i65 : Value) (i81 : Value) (i82 : Value) (i83 : Value) (i84 : Value) (i85 : Value) (i86 : Value) (i87 : Value) (i88 : Value) (i89 : Value) (i90 : Value) (i91 : Value) (i92 : Value) (i93 : Value) (i94 : Value) (i95 : Value) (i96 : Value) (i97 : Value) (i98 : Value) (nx : List Value → St H → Option (List (Value × St H))) (K : Ex → List Value → St H → Option (List (Value × St H))) (i : Nat) (x : Value) (s : St H) : (kBlock 6 (kSeq Tryz.prog false C n 125 none (cdp Tryz.f125 [1, 1, 1, 1, 1, 1, 1, 1, 1, 0, 0, 0, 0, 1]) (kBlock 5 (kIter (scratch (cdp Tryz.f125 [1, 1, 1, 1, 1, 1, 1, 1, 1, 0, 0, 0])) nx K)))) (.exit i) (f125_l3_m i0 i1 i2 i3 i11 i12 i13 i14 i15 i16 i17 i18 i19 i20 i21 i22 i23 i24 i25 i26 i27 i28 i29 i63 i64 i65 i81 i82 i83 i84 i85 i86 i87 i88 i89 i90 i91 i92 i93 i94 i95 i96 i97 i98 x) s =
 (bif Nat.beq i 6 then
 iterS (f125_l4 (dOps (H := H) Tryz.prog) C n i0 i1 x i64 )
 (fun i129 x130 s131 => (bif Nat.beq i129 8 then
 ((dOps (H := H) Tryz.prog).bop .gtr 3 x x130).bind fun v134 =>
 ((dOps (H := H) Tryz.prog).boolO v134).bind fun b135 => cond b135 (
 K (.exit 4) (f125_l2_m i0 i1 i2 i3 i12 i13 i14 i15 i16 i17 i18 i19 i20 i21 i22 i23 i24 i25 i26 i27 i28 i29 i63 i64 i65 i81 i82 i83 i84 i85 i86 i87 i88 i89 i90 i91 i92 i93 i94 i95 i96 i97 i98 (x, x130)) s131) (
 ((dOps (H := H) Tryz.prog).indexAddr 39 i0 x130).bind fun v136 =>
 ((dOps (H := H) Tryz.prog).load s131 26 v136).bind fun v137 =>
 ((dOps (H := H) Tryz.prog).indexAddr 39 i0 x).bind fun v138 =>
 ((dOps (H := H) Tryz.prog).load s131 26 v138).bind fun v139 =>
 ((dOps (H := H) Tryz.prog).indexAddr 39 i0 x).bind fun v140 =>
 ((dOps (H := H) Tryz.prog).store s131 26 v140 v137).bind fun s141 =>
 ((dOps (H := H) Tryz.prog).indexAddr 39 i0 x130).bind fun v142 =>
 ((dOps (H := H) Tryz.prog).store s141 26 v142 v139).bind fun s143 =>
 ((dOps (H := H) Tryz.prog).bop .add 3 x (Go.Value.int Go.IntKind.i64 1)).bind fun v144 =>
 ((dOps (H := H) Tryz.prog).bop .sub 3 x130 (Go.Value.int Go.IntKind.i64 1)).bind fun v145 =>
 nx (f125_l2_m i0 i1 i2 i3 i12 i13 i14 i15 i16 i17 i18 i19 i20 i21 i22 i23 i24 i25 i26 i27 i28 i29 i63 i64 i65 i81 i82 i83 i84 i85 i86 i87 i88 i89 i90 i91 i92 i93 i94 i95 i96 i97 i98 (v144, v145)) s143) else (bif Nat.beq i129 5 then
 nx (f125_l2_m i0 i1 i2 i3 i12 i13 i14 i15 i16 i17 i18 i19 i20 i21 i22 i23 i24 i25 i26 i27 i28 i29 i63 i64 i65 i81 i82 i83 i84 i85 i86 i87 i88 i89 i90 i91 i92 i93 i94 i95 i96 i97 i98 (x, x130)) s131 else K (.exit i129) (f125_l2_m i0 i1 i2 i3 i12 i13 i14 i15 i16 i17 i18 i19 i20 i21 i22 i23 i24 i25 i26 i27 i28 i29 i63 i64 i65 i81 i82 i83 i84 i85 i86 i87 i88 i89 i90 i91 i92 i93 i94 i95 i96 i97 i98 (x, x130)) s131)))
 (fun x132 s133 => K .ret (f125_l2_m i0 i1 i2 i3 i12 i13 i14 i15 i16 i17 i18 i19 i20 i21 i22 i23 i24 i25 i26 i27 i28 i29 i63 i64 i65 i81 i82 i83 i84 i85 i86 i87 i88 i89 i90 i91 i92 i93 i94 i95 i96 i97 i98 (x, x132)) s133) n i11 s else (bif Nat.beq i 5 then
 nx (f125_l2_m i0 i1 i2 i3 i12 i13 i14 i15 i16 i17 i18 i19 i20 i21 i22 i23 i24 i25 i26 i27 i28 i29 i63 i64 i65 i81 i82 i83 i84 i85 i86 i87 i88 i89 i90 i91 i92 i93 i94 i95 i96 i97 i98 (x, i11)) s else K (.exit i) (f125_l2_m i0 i1 i2 i3 i12 i13 i14 i15 i16 i17 i18 i19 i20 i21 i22 i23 i24 i25 i26 i27 i28 i29 i63 i64 i65 i81 i82 i83 i84 i85 i86 i87 i88 i89 i90 i91 i92 i93 i94 i95 i96 i97 i98 (x, i11)) s)) := by
  have h1 : (kBlock 6 (kSeq Tryz.prog false C n 125 none (cdp Tryz.f125 [1, 1, 1, 1, 1, 1, 1, 1, 1, 0, 0, 0, 0, 1]) (kBlock 5 (kIter (scratch (cdp Tryz.f125 [1, 1, 1, 1, 1, 1, 1, 1, 1, 0, 0, 0])) nx K)))) (.exit i) (f125_l3_m i0 i1 i2 i3 i11 i12 i13 i14 i15 i16 i17 i18 i19 i20 i21 i22 i23 i24 i25 i26 i27 i28 i29 i63 i64 i65 i81 i82 i83 i84 i85 i86 i87 i88 i89 i90 i91 i92 i93 i94 i95 i96 i97 i98 x) s =
 (bif Nat.beq i 6 then
 iter (fun t s k => exec Tryz.prog false C n 125 none (cdp Tryz.f125 [1, 1, 1, 1, 1, 1, 1, 1, 1, 0, 0, 0, 0, 1, 0, 0, 0]) t s k) (scratch (cdp Tryz.f125 [1, 1, 1, 1, 1, 1, 1, 1, 1, 0, 0, 0, 0, 1, 0, 0, 0])) n (f125_l4_m i0 i1 i2 i3 x i12 i13 i14 i15 i16 i17 i18 i19 i20 i21 i22 i23 i24 i25 i26 i27 i28 i29 i63 i64 i65 i81 i82 i83 i84 i85 i86 i87 i88 i89 i90 i91 i92 i93 i94 i95 i96 i97 i98 i11) s (kBlock 8 (kSeq Tryz.prog false C n 125 none (cdp Tryz.f125 [1, 1, 1, 1, 1, 1, 1, 1, 1, 0, 0, 0, 0, 1, 1]) (kBlock 5 (kIter (scratch (cdp Tryz.f125 [1, 1, 1, 1, 1, 1, 1, 1, 1, 0, 0, 0])) nx K)))) else (bif Nat.beq i 5 then
 nx (f125_l2_m i0 i1 i2 i3 i12 i13 i14 i15 i16 i17 i18 i19 i20 i21 i22 i23 i24 i25 i26 i27 i28 i29 i63 i64 i65 i81 i82 i83 i84 i85 i86 i87 i88 i89 i90 i91 i92 i93 i94 i95 i96 i97 i98 (x, i11)) s else K (.exit i) (f125_l2_m i0 i1 i2 i3 i12 i13 i14 i15 i16 i17 i18 i19 i20 i21 i22 i23 i24 i25 i26 i27 i28 i29 i63 i64 i65 i81 i82 i83 i84 i85 i86 i87 i88 i89 i90 i91 i92 i93 i94 i95 i96 i97 i98 (x, i11)) s)) := by kernel_rfl
  rw [h1]
  simp only [f125_l4_e, f125_l4_k]
  show _ = (bif Nat.beq i 6 then
 iterS (f125_l4 (dOps (H := H) Tryz.prog) C n i0 i1 x i64 )
 (fun i129 x130 s131 => (bif Nat.beq i129 8 then
 ((dOps (H := H) Tryz.prog).bop .gtr 3 x x130).bind fun v134 =>
 ((dOps (H := H) Tryz.prog).boolO v134).bind fun b135 => cond b135 (
 K (.exit 4) (f125_l2_m i0 i1 i2 i3 i12 i13 i14 i15 i16 i17 i18 i19 i20 i21 i22 i23 i24 i25 i26 i27 i28 i29 i63 i64 i65 i81 i82 i83 i84 i85 i86 i87 i88 i89 i90 i91 i92 i93 i94 i95 i96 i97 i98 (x, x130)) s131) (
 ((dOps (H := H) Tryz.prog).indexAddr 39 i0 x130).bind fun v136 =>
 ((dOps (H := H) Tryz.prog).load s131 26 v136).bind fun v137 =>
 ((dOps (H := H) Tryz.prog).indexAddr 39 i0 x).bind fun v138 =>
 ((dOps (H := H) Tryz.prog).load s131 26 v138).bind fun v139 =>
 ((dOps (H := H) Tryz.prog).indexAddr 39 i0 x).bind fun v140 =>
 ((dOps (H := H) Tryz.prog).store s131 26 v140 v137).bind fun s141 =>
 ((dOps (H := H) Tryz.prog).indexAddr 39 i0 x130).bind fun v142 =>
 ((dOps (H := H) Tryz.prog).store s141 26 v142 v139).bind fun s143 =>
 ((dOps (H := H) Tryz.prog).bop .add 3 x (Go.Value.int Go.IntKind.i64 1)).bind fun v144 =>
 ((dOps (H := H) Tryz.prog).bop .sub 3 x130 (Go.Value.int Go.IntKind.i64 1)).bind fun v145 =>
 nx (f125_l2_m i0 i1 i2 i3 i12 i13 i14 i15 i16 i17 i18 i19 i20 i21 i22 i23 i24 i25 i26 i27 i28 i29 i63 i64 i65 i81 i82 i83 i84 i85 i86 i87 i88 i89 i90 i91 i92 i93 i94 i95 i96 i97 i98 (v144, v145)) s143) else (bif Nat.beq i129 5 then
 nx (f125_l2_m i0 i1 i2 i3 i12 i13 i14 i15 i16 i17 i18 i19 i20 i21 i22 i23 i24 i25 i26 i27 i28 i29 i63 i64 i65 i81 i82 i83 i84 i85 i86 i87 i88 i89 i90 i91 i92 i93 i94 i95 i96 i97 i98 (x, x130)) s131 else K (.exit i129) (f125_l2_m i0 i1 i2 i3 i12 i13 i14 i15 i16 i17 i18 i19 i20 i21 i22 i23 i24 i25 i26 i27 i28 i29 i63 i64 i65 i81 i82 i83 i84 i85 i86 i87 i88 i89 i90 i91 i92 i93 i94 i95 i96 i97 i98 (x, x130)) s131)))
 (fun x132 s133 => K .ret (f125_l2_m i0 i1 i2 i3 i12 i13 i14 i15 i16 i17 i18 i19 i20 i21 i22 i23 i24 i25 i26 i27 i28 i29 i63 i64 i65 i81 i82 i83 i84 i85 i86 i87 i88 i89 i90 i91 i92 i93 i94 i95 i96 i97 i98 (x, x132)) s133) n i11 s else (bif Nat.beq i 5 then
 nx (f125_l2_m i0 i1 i2 i3 i12 i13 i14 i15 i16 i17 i18 i19 i20 i21 i22 i23 i24 i25 i26 i27 i28 i29 i63 i64 i65 i81 i82 i83 i84 i85 i86 i87 i88 i89 i90 i91 i92 i93 i94 i95 i96 i97 i98 (x, i11)) s else K (.exit i) (f125_l2_m i0 i1 i2 i3 i12 i13 i14 i15 i16 i17 i18 i19 i20 i21 i22 i23 i24 i25 i26 i27 i28 i29 i63 i64 i65 i81 i82 i83 i84 i85 i86 i87 i88 i89 i90 i91 i92 i93 i94 i95 i96 i97 i98 (x, i11)) s))
  kernel_rfl
theorem f125_l2_b (C : OracleJ H) (n : Nat) (i0 : Value) (i1 : Value) (i2 : Value) (i3 : Value) (i12 : Value) (i13 : Value) (i14 : Value) (i15 : Value) (i16 : Value) (i17 : Value) (i18 : Value) (i19 : Value) (i20 : Value) (i21 : Value) (i22 : Value) (i23 : Value) (i24 : Value) (i25 : Value) (i26 : Value) (i27 : Value) (i28 : Value) (i29 : Value) (i63 : Value) (i64 : Value) (i65 : Value) (i81 : Value) (i82 : Value) (i83 : Value) (i84 : Value) (i85 : Value) (i86 : Value) (i87 : Value) (i88 : Value) (i89 : Value) (i90 : Value) (i91 : Value) (i92 : Value) (i93 : Value) (i94 : Value) (i95 : Value) (i96 : Value) (i97 : Value) (i98 : Value) (x : Value × Value) (s : St H) (nx : List Value → St H → Option (List (Value × St H))) (K : Ex → List Value → St H → Option (List (Value × St H))) :
 exec Tryz.prog false C n 125 none (cdp Tryz.f125 [1, 1, 1, 1, 1, 1, 1, 1, 1, 0, 0, 0]) (f125_l2_m i0 i1 i2 i3 i12 i13 i14 i15 i16 i17 i18 i19 i20 i21 i22 i23 i24 i25 i26 i27 i28 i29 i63 i64 i65 i81 i82 i83 i84 i85 i86 i87 i88 i89 i90 i91 i92 i93 i94 i95 i96 i97 i98 x) s (kIter (scratch (cdp Tryz.f125 [1, 1, 1, 1, 1, 1, 1, 1, 1, 0, 0, 0])) nx K) = f125_l2 (dOps (H := H) Tryz.prog) C n i0 i1 i64 i88 (fun x s => nx (f125_l2_m i0 i1 i2 i3 i12 i13 i14 i15 i16 i17 i18 i19 i20 i21 i22 i23 i24 i25 i26 i27 i28 i29 i63 i64 i65 i81 i82 i83 i84 i85 i86 i87 i88 i89 i90 i91 i92 i93 i94 i95 i96 i97 i98 x) s) (fun i x s => K (.exit i) (f125_l2_m i0 i1 i2 i3 i12 i13 i14 i15 i16 i17 i18 i19 i20 i21 i22 i23 i24 i25 i26 i27 i28 i29 i63 i64 i65 i81 i82 i83 i84 i85 i86 i87 i88 i89 i90 i91 i92 i93 i94 i95 i96 i97 i98 x) s) (fun x s => K .ret (f125_l2_m i0 i1 i2 i3 i12 i13 i14 i15 i16 i17 i18 i19 i20 i21 i22 i23 i24 i25 i26 i27 i28 i29 i63 i64 i65 i81 i82 i83 i84 i85 i86 i87 i88 i89 i90 i91 i92 i93 i94 i95 i96 i97 i98 x) s) x s := by
  have h1 : exec Tryz.prog false C n 125 none (cdp Tryz.f125 [1, 1, 1, 1, 1, 1, 1, 1, 1, 0, 0, 0]) (f125_l2_m i0 i1 i2 i3 i12 i13 i14 i15 i16 i17 i18 i19 i20 i21 i22 i23 i24 i25 i26 i27 i28 i29 i63 i64 i65 i81 i82 i83 i84 i85 i86 i87 i88 i89 i90 i91 i92 i93 i94 i95 i96 i97 i98 x) s (kIter (scratch (cdp Tryz.f125 [1, 1, 1, 1, 1, 1, 1, 1, 1, 0, 0, 0])) nx K) =
 iter (fun t s k => exec Tryz.prog false C n 125 none (cdp Tryz.f125 [1, 1, 1, 1, 1, 1, 1, 1, 1, 0, 0, 0, 0, 0, 0, 0]) t s k) (scratch (cdp Tryz.f125 [1, 1, 1, 1, 1, 1, 1, 1, 1, 0, 0, 0, 0, 0, 0, 0])) n (f125_l3_m i0 i1 i2 i3 x.2 i12 i13 i14 i15 i16 i17 i18 i19 i20 i21 i22 i23 i24 i25 i26 i27 i28 i29 i63 i64 i65 i81 i82 i83 i84 i85 i86 i87 i88 i89 i90 i91 i92 i93 i94 i95 i96 i97 i98 x.1) s (kBlock 6 (kSeq Tryz.prog false C n 125 none (cdp Tryz.f125 [1, 1, 1, 1, 1, 1, 1, 1, 1, 0, 0, 0, 0, 1]) (kBlock 5 (kIter (scratch (cdp Tryz.f125 [1, 1, 1, 1, 1, 1, 1, 1, 1, 0, 0, 0])) nx K)))) := by kernel_rfl
  rw [h1]
  simp only [f125_l3_e, f125_l3_k]
  show _ = f125_l2 (dOps (H := H) Tryz.prog) C n i0 i1 i64 i88 (fun x s => nx (f125_l2_m i0 i1 i2 i3 i12 i13 i14 i15 i16 i17 i18 i19 i20 i21 i22 i23 i24 i25 i26 i27 i28 i29 i63 i64 i65 i81 i82 i83 i84 i85 i86 i87 i88 i89 i90 i91 i92 i93 i94 i95 i96 i97 i98 x) s) (fun i x s => K (.exit i) (f125_l2_m i0 i1 i2 i3 i12 i13 i14 i15 i16 i17 i18 i19 i20 i21 i22 i23 i24 i25 i26 i27 i28 i29 i63 i64 i65 i81 i82 i83 i84 i85 i86 i87 i88 i89 i90 i91 i92 i93 i94 i95 i96 i97 i98 x) s) (fun x s => K .ret (f125_l2_m i0 i1 i2 i3 i12 i13 i14 i15 i16 i17 i18 i19 i20 i21 i22 i23 i24 i25 i26 i27 i28 i29 i63 i64 i65 i81 i82 i83 i84 i85 i86 i87 i88 i89 i90 i91 i92 i93 i94 i95 i96 i97 i98 x) s) x s
  kernel_rfl
theorem f125_l2_e (C : OracleJ H) (n : Nat) (i0 : Value) (i1 : Value) (i2 : Value) (i3 : Value) (i12 : Value) (i13 : Value) (i14 : Value) (i15 : Value) (i16 : Value) (i17 : Value) (i18 : Value) (i19 : Value) (i20 : Value) (i21 : Value) (i22 : Value) (i23 : Value) (i24 : Value) (i25 : Value) (i26 : Value) (i27 : Value) (i28 : Value) (i29 : Value) (i63 : Value) (i64 : Value) (i65 : Value) (i81 : Value) (i82 : Value) (i83 : Value) (i84 : Value) (i85 : Value) (i86 : Value) (i87 : Value) (i88 : Value) (i89 : Value) (i90 : Value) (i91 : Value) (i92 : Value) (i93 : Value) (i94 : Value) (i95 : Value) (i96 : Value) (i97 : Value) (i98 : Value) (m : Nat) (x : Value × Value) (s : St H) (K : Ex → List Value → St H → Option (List (Value × St H))) :
 iter (fun t s k => exec Tryz.prog false C n 125 none (cdp Tryz.f125 [1, 1, 1, 1, 1, 1, 1, 1, 1, 0, 0, 0]) t s k) (scratch (cdp Tryz.f125 [1, 1, 1, 1, 1, 1, 1, 1, 1, 0, 0, 0])) m (f125_l2_m i0 i1 i2 i3 i12 i13 i14 i15 i16 i17 i18 i19 i20 i21 i22 i23 i24 i25 i26 i27 i28 i29 i63 i64 i65 i81 i82 i83 i84 i85 i86 i87 i88 i89 i90 i91 i92 i93 i94 i95 i96 i97 i98 x) s K = iterS (f125_l2 (dOps (H := H) Tryz.prog) C n i0 i1 i64 i88) (fun i x s => K (.exit i) (f125_l2_m i0 i1 i2 i3 i12 i13 i14 i15 i16 i17 i18 i19 i20 i21 i22 i23 i24 i25 i26 i27 i28 i29 i63 i64 i65 i81 i82 i83 i84 i85 i86 i87 i88 i89 i90 i91 i92 i93 i94 i95 i96 i97 i98 x) s) (fun x s => K .ret (f125_l2_m i0 i1 i2 i3 i12 i13 i14 i15 i16 i17 i18 i19 i20 i21 i22 i23 i24 i25 i26 i27 i28 i29 i63 i64 i65 i81 i82 i83 i84 i85 i86 i87 i88 i89 i90 i91 i92 i93 i94 i95 i96 i97 i98 x) s) m x s :=
   iter_eq (f125_l2_m i0 i1 i2 i3 i12 i13 i14 i15 i16 i17 i18 i19 i20 i21 i22 i23 i24 i25 i26 i27 i28 i29 i63 i64 i65 i81 i82 i83 i84 i85 i86 i87 i88 i89 i90 i91 i92 i93 i94 i95 i96 i97 i98) (f125_l2 (dOps (H := H) Tryz.prog) C n i0 i1 i64 i88) (fun x s nx K => f125_l2_b C n i0 i1 i2 i3 i12 i13 i14 i15 i16 i17 i18 i19 i20 i21 i22 i23 i24 i25 i26 i27 i28 i29 i63 i64 i65 i81 i82 i83 i84 i85 i86 i87 i88 i89 i90 i91 i92 i93 i94 i95 i96 i97 i98 x s nx K) K m x s
noncomputable def f125 (O : Ops H) (C : OracleJ H) (n : Nat) (a0 : Value) (a1 : Value) (a2 : Value) (a3 : Value) (s : St H) : Option (List (Value × St H)) :=
 (O.indexAddr 39 a0 a3).bind fun v1 =>
 (O.load s 26 v1).bind fun v2 =>
 (O.indexAddr 39 a0 a1).bind fun v3 =>
 (O.load s 26 v3).bind fun v4 =>
 (O.indexAddr 39 a0 a1).bind fun v5 =>
 (O.store s 26 v5 v2).bind fun s6 =>
 (O.indexAddr 39 a0 a3).bind fun v7 =>
 (O.store s6 26 v7 v4).bind fun s8 =>
 (O.bop .add 3 a1 (Go.Value.int Go.IntKind.i64 1)).bind fun v9 =>
 (O.bop .sub 3 a2 (Go.Value.int Go.IntKind.i64 1)).bind fun v10 =>
 iterS (f125_l0 O C n a0 a1 v10 )
 (fun i21 x22 s23 => (bif Nat.beq i21 0 then
 iterS (f125_l1 O C n a0 a1 x22 )
 (fun i37 x38 s39 => (bif Nat.beq i37 2 then
 (O.bop .gtr 3 x22 x38).bind fun v42 =>
 (O.boolO v42).bind fun b43 => cond b43 (
 (O.indexAddr 39 a0 a1).bind fun v44 =>
 (O.load s39 26 v44).bind fun v45 =>
 (O.indexAddr 39 a0 x38).bind fun v46 =>
 (O.load s39 26 v46).bind fun v47 =>
 (O.indexAddr 39 a0 x38).bind fun v48 =>
 (O.store s39 26 v48 v45).bind fun s49 =>
 (O.indexAddr 39 a0 a1).bind fun v50 =>
 (O.store s49 26 v50 v47).bind fun s51 =>
 some [(.tuple #[x38, (.bool true)], s51)]) (
 (O.indexAddr 39 a0 x38).bind fun v52 =>
 (O.load s39 26 v52).bind fun v53 =>
 (O.indexAddr 39 a0 x22).bind fun v54 =>
 (O.load s39 26 v54).bind fun v55 =>
 (O.indexAddr 39 a0 x22).bind fun v56 =>
 (O.store s39 26 v56 v53).bind fun s57 =>
 (O.indexAddr 39 a0 x38).bind fun v58 =>
 (O.store s57 26 v58 v55).bind fun s59 =>
 (O.bop .add 3 x22 (Go.Value.int Go.IntKind.i64 1)).bind fun v60 =>
 (O.bop .sub 3 x38 (Go.Value.int Go.IntKind.i64 1)).bind fun v61 =>
 iterS (f125_l2 O C n a0 a1 x38 v53 )
 (fun i146 x147 s148 => (bif Nat.beq i146 4 then
 (O.indexAddr 39 a0 a1).bind fun v151 =>
 (O.load s148 26 v151).bind fun v152 =>
 (O.indexAddr 39 a0 x147.2).bind fun v153 =>
 (O.load s148 26 v153).bind fun v154 =>
 (O.indexAddr 39 a0 x147.2).bind fun v155 =>
 (O.store s148 26 v155 v152).bind fun s156 =>
 (O.indexAddr 39 a0 a1).bind fun v157 =>
 (O.store s156 26 v157 v154).bind fun s158 =>
 some [(.tuple #[x147.2, (.bool false)], s158)] else none))
 (fun x149 s150 => some [(.tuple #[(Go.Value.int Go.IntKind.i64 0), (.bool false)], s150)]) n (v60, v61) s59) else none))
 (fun x40 s41 => some [(.tuple #[(Go.Value.int Go.IntKind.i64 0), (.bool false)], s41)]) n v10 s23 else none))
 (fun x24 s25 => some [(.tuple #[(Go.Value.int Go.IntKind.i64 0), (.bool false)], s25)]) n v9 s8
theorem f125_l2_k (C : OracleJ H) (n : Nat) (i0 : Value) (i1 : Value) (i2 : Value) (i3 : Value) (i12 : Value) (i13 : Value) (i14 : Value) (i15 : Value) (i16 : Value) (i17 : Value) (i18 : Value) (i19 : Value) (i20 : Value) (i21 : Value) (i22 : Value) (i23 : Value) (i24 : Value) (i25 : Value) (i26 : Value) (i27 : Value) (i28 : Value) (i29 : Value) (i63 : Value) (i64 : Value) (i65 : Value) (i81 : Value) (i82 : Value) (i83 : Value) (i84 : Value) (i85 : Value) (i86 : Value) (i87 : Value) (i88 : Value) (i89 : Value) (i90 : Value) (i91 : Value) (i92 : Value) (i93 : Value) (i94 : Value) (i95 : Value) (i96 : Value) (i97 : Value) (i98 : Value) (i : Nat) (x : Value × Value) (s : St H) : (kBlock 4 (kSeq Tryz.prog false C n 125 none (cdp Tryz.f125 [1, 1, 1, 1, 1, 1, 1, 1, 1, 1]) (kFun Tryz.prog Tryz.f125))) (.exit i) (f125_l2_m i0 i1 i2 i3 i12 i13 i14 i15 i16 i17 i18 i19 i20 i21 i22 i23 i24 i25 i26 i27 i28 i29 i63 i64 i65 i81 i82 i83 i84 i85 i86 i87 i88 i89 i90 i91 i92 i93 i94 i95 i96 i97 i98 x) s =
 (bif Nat.beq i 4 then
 ((dOps (H := H) Tryz.prog).indexAddr 39 i0 i1).bind fun v197 =>
 ((dOps (H := H) Tryz.prog).load s 26 v197).bind fun v198 =>
 ((dOps (H := H) Tryz.prog).indexAddr 39 i0 x.2).bind fun v199 =>
 ((dOps (H := H) Tryz.prog).load s 26 v199).bind fun v200 =>
 ((dOps (H := H) Tryz.prog).indexAddr 39 i0 x.2).bind fun v201 =>
 ((dOps (H := H) Tryz.prog).store s 26 v201 v198).bind fun s202 =>
 ((dOps (H := H) Tryz.prog).indexAddr 39 i0 i1).bind fun v203 =>
 ((dOps (H := H) Tryz.prog).store s202 26 v203 v200).bind fun s204 =>
 some [(.tuple #[x.2, (.bool false)], s204)] else none) := by kernel_rfl
theorem f125_l1_k (C : OracleJ H) (n : Nat) (i0 : Value) (i1 : Value) (i2 : Value) (i3 : Value) (i10 : Value) (i12 : Value) (i13 : Value) (i14 : Value) (i15 : Value) (i16 : Value) (i17 : Value) (i18 : Value) (i19 : Value) (i20 : Value) (i21 : Value) (i22 : Value) (i23 : Value) (i24 : Value) (i25 : Value) (i26 : Value) (i27 : Value) (i28 : Value) (i29 : Value) (i : Nat) (x : Value) (s : St H) : (kBlock 2 (kSeq Tryz.prog false C n 125 none (cdp Tryz.f125 [1, 1, 1, 1, 1]) (kFun Tryz.prog Tryz.f125))) (.exit i) (f125_l1_m i0 i1 i2 i3 i10 i12 i13 i14 i15 i16 i17 i18 i19 i20 i21 i22 i23 i24 i25 i26 i27 i28 i29 x) s =
 (bif Nat.beq i 2 then
 ((dOps (H := H) Tryz.prog).bop .gtr 3 i10 x).bind fun v205 =>
 ((dOps (H := H) Tryz.prog).boolO v205).bind fun b206 => cond b206 (
 ((dOps (H := H) Tryz.prog).indexAddr 39 i0 i1).bind fun v207 =>
 ((dOps (H := H) Tryz.prog).load s 26 v207).bind fun v208 =>
 ((dOps (H := H) Tryz.prog).indexAddr 39 i0 x).bind fun v209 =>
 ((dOps (H := H) Tryz.prog).load s 26 v209).bind fun v210 =>
 ((dOps (H := H) Tryz.prog).indexAddr 39 i0 x).bind fun v211 =>
 ((dOps (H := H) Tryz.prog).store s 26 v211 v208).bind fun s212 =>
 ((dOps (H := H) Tryz.prog).indexAddr 39 i0 i1).bind fun v213 =>
 ((dOps (H := H) Tryz.prog).store s212 26 v213 v210).bind fun s214 =>
 some [(.tuple #[x, (.bool true)], s214)]) (
 ((dOps (H := H) Tryz.prog).indexAddr 39 i0 x).bind fun v215 =>
 ((dOps (H := H) Tryz.prog).load s 26 v215).bind fun v216 =>
 ((dOps (H := H) Tryz.prog).indexAddr 39 i0 i10).bind fun v217 =>
 ((dOps (H := H) Tryz.prog).load s 26 v217).bind fun v218 =>
 ((dOps (H := H) Tryz.prog).indexAddr 39 i0 i10).bind fun v219 =>
 ((dOps (H := H) Tryz.prog).store s 26 v219 v216).bind fun s220 =>
 ((dOps (H := H) Tryz.prog).indexAddr 39 i0 x).bind fun v221 =>
 ((dOps (H := H) Tryz.prog).store s220 26 v221 v218).bind fun s222 =>
 ((dOps (H := H) Tryz.prog).bop .add 3 i10 (Go.Value.int Go.IntKind.i64 1)).bind fun v223 =>
 ((dOps (H := H) Tryz.prog).bop .sub 3 x (Go.Value.int Go.IntKind.i64 1)).bind fun v224 =>
 iterS (f125_l2 (dOps (H := H) Tryz.prog) C n i0 i1 x v216 )
 (fun i225 x226 s227 => (bif Nat.beq i225 4 then
 ((dOps (H := H) Tryz.prog).indexAddr 39 i0 i1).bind fun v230 =>
 ((dOps (H := H) Tryz.prog).load s227 26 v230).bind fun v231 =>
 ((dOps (H := H) Tryz.prog).indexAddr 39 i0 x226.2).bind fun v232 =>
 ((dOps (H := H) Tryz.prog).load s227 26 v232).bind fun v233 =>
 ((dOps (H := H) Tryz.prog).indexAddr 39 i0 x226.2).bind fun v234 =>
 ((dOps (H := H) Tryz.prog).store s227 26 v234 v231).bind fun s235 =>
 ((dOps (H := H) Tryz.prog).indexAddr 39 i0 i1).bind fun v236 =>
 ((dOps (H := H) Tryz.prog).store s235 26 v236 v233).bind fun s237 =>
 some [(.tuple #[x226.2, (.bool false)], s237)] else none))
 (fun x228 s229 => some [(.tuple #[(Go.Value.int Go.IntKind.i64 0), (.bool false)], s229)]) n (v223, v224) s222) else none) := by
  have h1 : (kBlock 2 (kSeq Tryz.prog false C n 125 none (cdp Tryz.f125 [1, 1, 1, 1, 1]) (kFun Tryz.prog Tryz.f125))) (.exit i) (f125_l1_m i0 i1 i2 i3 i10 i12 i13 i14 i15 i16 i17 i18 i19 i20 i21 i22 i23 i24 i25 i26 i27 i28 i29 x) s =
 (bif Nat.beq i 2 then
 ((dOps (H := H) Tryz.prog).bop .gtr 3 i10 x).bind fun v169 =>
 ((dOps (H := H) Tryz.prog).boolO v169).bind fun b170 => cond b170 (
 ((dOps (H := H) Tryz.prog).indexAddr 39 i0 i1).bind fun v171 =>
 ((dOps (H := H) Tryz.prog).load s 26 v171).bind fun v172 =>
 ((dOps (H := H) Tryz.prog).indexAddr 39 i0 x).bind fun v173 =>
 ((dOps (H := H) Tryz.prog).load s 26 v173).bind fun v174 =>
 ((dOps (H := H) Tryz.prog).indexAddr 39 i0 x).bind fun v175 =>
 ((dOps (H := H) Tryz.prog).store s 26 v175 v172).bind fun s176 =>
 ((dOps (H := H) Tryz.prog).indexAddr 39 i0 i1).bind fun v177 =>
 ((dOps (H := H) Tryz.prog).store s176 26 v177 v174).bind fun s178 =>
 some [(.tuple #[x, (.bool true)], s178)]) (
 ((dOps (H := H) Tryz.prog).indexAddr 39 i0 x).bind fun v179 =>
 ((dOps (H := H) Tryz.prog).load s 26 v179).bind fun v180 =>
 ((dOps (H := H) Tryz.prog).indexAddr 39 i0 i10).bind fun v181 =>
 ((dOps (H := H) Tryz.prog).load s 26 v181).bind fun v182 =>
 ((dOps (H := H) Tryz.prog).indexAddr 39 i0 i10).bind fun v183 =>
 ((dOps (H := H) Tryz.prog).store s 26 v183 v180).bind fun s184 =>
 ((dOps (H := H) Tryz.prog).indexAddr 39 i0 x).bind fun v185 =>
 ((dOps (H := H) Tryz.prog).store s184 26 v185 v182).bind fun s186 =>
 ((dOps (H := H) Tryz.prog).bop .add 3 i10 (Go.Value.int Go.IntKind.i64 1)).bind fun v187 =>
 ((dOps (H := H) Tryz.prog).bop .sub 3 x (Go.Value.int Go.IntKind.i64 1)).bind fun v188 =>
 iter (fun t s k => exec Tryz.prog false C n 125 none (cdp Tryz.f125 [1, 1, 1, 1, 1, 1, 1, 1, 1, 0, 0, 0]) t s k) (scratch (cdp Tryz.f125 [1, 1, 1, 1, 1, 1, 1, 1, 1, 0, 0, 0])) n (f125_l2_m i0 i1 i2 i3 i12 i13 i14 i15 i16 i17 i18 i19 i20 i21 i22 i23 i24 i25 i26 i27 i28 i29 i10 x v169 i0 i10 i0 x i0 x v179 v180 i0 i10 v181 v182 v183 v185 i10 v187 x v188 (v187, v188)) s186 (kBlock 4 (kSeq Tryz.prog false C n 125 none (cdp Tryz.f125 [1, 1, 1, 1, 1, 1, 1, 1, 1, 1]) (kFun Tryz.prog Tryz.f125)))) else none) := by kernel_rfl
  rw [h1]
  simp only [f125_l2_e, f125_l2_k]
  show _ = (bif Nat.beq i 2 then
 ((dOps (H := H) Tryz.prog).bop .gtr 3 i10 x).bind fun v205 =>
 ((dOps (H := H) Tryz.prog).boolO v205).bind fun b206 => cond b206 (
 ((dOps (H := H) Tryz.prog).indexAddr 39 i0 i1).bind fun v207 =>
 ((dOps (H := H) Tryz.prog).load s 26 v207).bind fun v208 =>
 ((dOps (H := H) Tryz.prog).indexAddr 39 i0 x).bind fun v209 =>
 ((dOps (H := H) Tryz.prog).load s 26 v209).bind fun v210 =>
 ((dOps (H := H) Tryz.prog).indexAddr 39 i0 x).bind fun v211 =>
 ((dOps (H := H) Tryz.prog).store s 26 v211 v208).bind fun s212 =>
 ((dOps (H := H) Tryz.prog).indexAddr 39 i0 i1).bind fun v213 =>
 ((dOps (H := H) Tryz.prog).store s212 26 v213 v210).bind fun s214 =>
 some [(.tuple #[x, (.bool true)], s214)]) (
 ((dOps (H := H) Tryz.prog).indexAddr 39 i0 x).bind fun v215 =>
 ((dOps (H := H) Tryz.prog).load s 26 v215).bind fun v216 =>
 ((dOps (H := H) Tryz.prog).indexAddr 39 i0 i10).bind fun v217 =>
 ((dOps (H := H) Tryz.prog).load s 26 v217).bind fun v218 =>
 ((dOps (H := H) Tryz.prog).indexAddr 39 i0 i10).bind fun v219 =>
 ((dOps (H := H) Tryz.prog).store s 26 v219 v216).bind fun s220 =>
 ((dOps (H := H) Tryz.prog).indexAddr 39 i0 x).bind fun v221 =>
 ((dOps (H := H) Tryz.prog).store s220 26 v221 v218).bind fun s222 =>
 ((dOps (H := H) Tryz.prog).bop .add 3 i10 (Go.Value.int Go.IntKind.i64 1)).bind fun v223 =>
 ((dOps (H := H) Tryz.prog).bop .sub 3 x (Go.Value.int Go.IntKind.i64 1)).bind fun v224 =>
 iterS (f125_l2 (dOps (H := H) Tryz.prog) C n i0 i1 x v216 )
 (fun i225 x226 s227 => (bif Nat.beq i225 4 then
 ((dOps (H := H) Tryz.prog).indexAddr 39 i0 i1).bind fun v230 =>
 ((dOps (H := H) Tryz.prog).load s227 26 v230).bind fun v231 =>
 ((dOps (H := H) Tryz.prog).indexAddr 39 i0 x226.2).bind fun v232 =>
 ((dOps (H := H) Tryz.prog).load s227 26 v232).bind fun v233 =>
 ((dOps (H := H) Tryz.prog).indexAddr 39 i0 x226.2).bind fun v234 =>
 ((dOps (H := H) Tryz.prog).store s227 26 v234 v231).bind fun s235 =>
 ((dOps (H := H) Tryz.prog).indexAddr 39 i0 i1).bind fun v236 =>
 ((dOps (H := H) Tryz.prog).store s235 26 v236 v233).bind fun s237 =>
 some [(.tuple #[x226.2, (.bool false)], s237)] else none))
 (fun x228 s229 => some [(.tuple #[(Go.Value.int Go.IntKind.i64 0), (.bool false)], s229)]) n (v223, v224) s222) else none)
  kernel_rfl
theorem f125_l0_k (C : OracleJ H) (n : Nat) (i0 : Value) (i1 : Value) (i2 : Value) (i3 : Value) (i11 : Value) (i12 : Value) (i13 : Value) (i14 : Value) (i15 : Value) (i16 : Value) (i17 : Value) (i18 : Value) (i19 : Value) (i20 : Value) (i21 : Value) (i22 : Value) (i23 : Value) (i24 : Value) (i25 : Value) (i26 : Value) (i27 : Value) (i28 : Value) (i29 : Value) (i : Nat) (x : Value) (s : St H) : (kBlock 0 (kSeq Tryz.prog false C n 125 none (cdp Tryz.f125 [1, 1, 1, 1]) (kFun Tryz.prog Tryz.f125))) (.exit i) (f125_l0_m i0 i1 i2 i3 i11 i12 i13 i14 i15 i16 i17 i18 i19 i20 i21 i22 i23 i24 i25 i26 i27 i28 i29 x) s =
 (bif Nat.beq i 0 then
 iterS (f125_l1 (dOps (H := H) Tryz.prog) C n i0 i1 x )
 (fun i238 x239 s240 => (bif Nat.beq i238 2 then
 ((dOps (H := H) Tryz.prog).bop .gtr 3 x x239).bind fun v243 =>
 ((dOps (H := H) Tryz.prog).boolO v243).bind fun b244 => cond b244 (
 ((dOps (H := H) Tryz.prog).indexAddr 39 i0 i1).bind fun v245 =>
 ((dOps (H := H) Tryz.prog).load s240 26 v245).bind fun v246 =>
 ((dOps (H := H) Tryz.prog).indexAddr 39 i0 x239).bind fun v247 =>
 ((dOps (H := H) Tryz.prog).load s240 26 v247).bind fun v248 =>
 ((dOps (H := H) Tryz.prog).indexAddr 39 i0 x239).bind fun v249 =>
 ((dOps (H := H) Tryz.prog).store s240 26 v249 v246).bind fun s250 =>
 ((dOps (H := H) Tryz.prog).indexAddr 39 i0 i1).bind fun v251 =>
 ((dOps (H := H) Tryz.prog).store s250 26 v251 v248).bind fun s252 =>
 some [(.tuple #[x239, (.bool true)], s252)]) (
 ((dOps (H := H) Tryz.prog).indexAddr 39 i0 x239).bind fun v253 =>
 ((dOps (H := H) Tryz.prog).load s240 26 v253).bind fun v254 =>
 ((dOps (H := H) Tryz.prog).indexAddr 39 i0 x).bind fun v255 =>
 ((dOps (H := H) Tryz.prog).load s240 26 v255).bind fun v256 =>
 ((dOps (H := H) Tryz.prog).indexAddr 39 i0 x).bind fun v257 =>
 ((dOps (H := H) Tryz.prog).store s240 26 v257 v254).bind fun s258 =>
 ((dOps (H := H) Tryz.prog).indexAddr 39 i0 x239).bind fun v259 =>
 ((dOps (H := H) Tryz.prog).store s258 26 v259 v256).bind fun s260 =>
 ((dOps (H := H) Tryz.prog).bop .add 3 x (Go.Value.int Go.IntKind.i64 1)).bind fun v261 =>
 ((dOps (H := H) Tryz.prog).bop .sub 3 x239 (Go.Value.int Go.IntKind.i64 1)).bind fun v262 =>
 iterS (f125_l2 (dOps (H := H) Tryz.prog) C n i0 i1 x239 v254 )
 (fun i263 x264 s265 => (bif Nat.beq i263 4 then
 ((dOps (H := H) Tryz.prog).indexAddr 39 i0 i1).bind fun v268 =>
 ((dOps (H := H) Tryz.prog).load s265 26 v268).bind fun v269 =>
 ((dOps (H := H) Tryz.prog).indexAddr 39 i0 x264.2).bind fun v270 =>
 ((dOps (H := H) Tryz.prog).load s265 26 v270).bind fun v271 =>
 ((dOps (H := H) Tryz.prog).indexAddr 39 i0 x264.2).bind fun v272 =>
 ((dOps (H := H) Tryz.prog).store s265 26 v272 v269).bind fun s273 =>
 ((dOps (H := H) Tryz.prog).indexAddr 39 i0 i1).bind fun v274 =>
 ((dOps (H := H) Tryz.prog).store s273 26 v274 v271).bind fun s275 =>
 some [(.tuple #[x264.2, (.bool false)], s275)] else none))
 (fun x266 s267 => some [(.tuple #[(Go.Value.int Go.IntKind.i64 0), (.bool false)], s267)]) n (v261, v262) s260) else none))
 (fun x241 s242 => some [(.tuple #[(Go.Value.int Go.IntKind.i64 0), (.bool false)], s242)]) n i11 s else none) := by
  have h1 : (kBlock 0 (kSeq Tryz.prog false C n 125 none (cdp Tryz.f125 [1, 1, 1, 1]) (kFun Tryz.prog Tryz.f125))) (.exit i) (f125_l0_m i0 i1 i2 i3 i11 i12 i13 i14 i15 i16 i17 i18 i19 i20 i21 i22 i23 i24 i25 i26 i27 i28 i29 x) s =
 (bif Nat.beq i 0 then
 iter (fun t s k => exec Tryz.prog false C n 125 none (cdp Tryz.f125 [1, 1, 1, 1, 0, 0, 0]) t s k) (scratch (cdp Tryz.f125 [1, 1, 1, 1, 0, 0, 0])) n (f125_l1_m i0 i1 i2 i3 x i12 i13 i14 i15 i16 i17 i18 i19 i20 i21 i22 i23 i24 i25 i26 i27 i28 i29 i11) s (kBlock 2 (kSeq Tryz.prog false C n 125 none (cdp Tryz.f125 [1, 1, 1, 1, 1]) (kFun Tryz.prog Tryz.f125))) else none) := by kernel_rfl
  rw [h1]
  simp only [f125_l1_e, f125_l1_k]
  show _ = (bif Nat.beq i 0 then
 iterS (f125_l1 (dOps (H := H) Tryz.prog) C n i0 i1 x )
 (fun i238 x239 s240 => (bif Nat.beq i238 2 then
 ((dOps (H := H) Tryz.prog).bop .gtr 3 x x239).bind fun v243 =>
 ((dOps (H := H) Tryz.prog).boolO v243).bind fun b244 => cond b244 (
 ((dOps (H := H) Tryz.prog).indexAddr 39 i0 i1).bind fun v245 =>
 ((dOps (H := H) Tryz.prog).load s240 26 v245).bind fun v246 =>
 ((dOps (H := H) Tryz.prog).indexAddr 39 i0 x239).bind fun v247 =>
 ((dOps (H := H) Tryz.prog).load s240 26 v247).bind fun v248 =>
 ((dOps (H := H) Tryz.prog).indexAddr 39 i0 x239).bind fun v249 =>
 ((dOps (H := H) Tryz.prog).store s240 26 v249 v246).bind fun s250 =>
 ((dOps (H := H) Tryz.prog).indexAddr 39 i0 i1).bind fun v251 =>
 ((dOps (H := H) Tryz.prog).store s250 26 v251 v248).bind fun s252 =>
 some [(.tuple #[x239, (.bool true)], s252)]) (
 ((dOps (H := H) Tryz.prog).indexAddr 39 i0 x239).bind fun v253 =>
 ((dOps (H := H) Tryz.prog).load s240 26 v253).bind fun v254 =>
 ((dOps (H := H) Tryz.prog).indexAddr 39 i0 x).bind fun v255 =>
 ((dOps (H := H) Tryz.prog).load s240 26 v255).bind fun v256 =>
 ((dOps (H := H) Tryz.prog).indexAddr 39 i0 x).bind fun v257 =>
 ((dOps (H := H) Tryz.prog).store s240 26 v257 v254).bind fun s258 =>
 ((dOps (H := H) Tryz.prog).indexAddr 39 i0 x239).bind fun v259 =>
 ((dOps (H := H) Tryz.prog).store s258 26 v259 v256).bind fun s260 =>
 ((dOps (H := H) Tryz.prog).bop .add 3 x (Go.Value.int Go.IntKind.i64 1)).bind fun v261 =>
 ((dOps (H := H) Tryz.prog).bop .sub 3 x239 (Go.Value.int Go.IntKind.i64 1)).bind fun v262 =>
 iterS (f125_l2 (dOps (H := H) Tryz.prog) C n i0 i1 x239 v254 )
 (fun i263 x264 s265 => (bif Nat.beq i263 4 then
 ((dOps (H := H) Tryz.prog).indexAddr 39 i0 i1).bind fun v268 =>
 ((dOps (H := H) Tryz.prog).load s265 26 v268).bind fun v269 =>
 ((dOps (H := H) Tryz.prog).indexAddr 39 i0 x264.2).bind fun v270 =>
 ((dOps (H := H) Tryz.prog).load s265 26 v270).bind fun v271 =>
 ((dOps (H := H) Tryz.prog).indexAddr 39 i0 x264.2).bind fun v272 =>
 ((dOps (H := H) Tryz.prog).store s265 26 v272 v269).bind fun s273 =>
 ((dOps (H := H) Tryz.prog).indexAddr 39 i0 i1).bind fun v274 =>
 ((dOps (H := H) Tryz.prog).store s273 26 v274 v271).bind fun s275 =>
 some [(.tuple #[x264.2, (.bool false)], s275)] else none))
 (fun x266 s267 => some [(.tuple #[(Go.Value.int Go.IntKind.i64 0), (.bool false)], s267)]) n (v261, v262) s260) else none))
 (fun x241 s242 => some [(.tuple #[(Go.Value.int Go.IntKind.i64 0), (.bool false)], s242)]) n i11 s else none)
  kernel_rfl
theorem f125_r (C : OracleJ H) (n : Nat) (a0 : Value) (a1 : Value) (a2 : Value) (a3 : Value) (s : St H) : bodyD Tryz.prog false C n 125 Tryz.f125 [a0, a1, a2, a3] s = f125 (dOps (H := H) Tryz.prog) C n a0 a1 a2 a3 s := by
  have h1 : bodyD Tryz.prog false C n 125 Tryz.f125 [a0, a1, a2, a3] s =
 ((dOps (H := H) Tryz.prog).indexAddr 39 a0 a3).bind fun v159 =>
 ((dOps (H := H) Tryz.prog).load s 26 v159).bind fun v160 =>
 ((dOps (H := H) Tryz.prog).indexAddr 39 a0 a1).bind fun v161 =>
 ((dOps (H := H) Tryz.prog).load s 26 v161).bind fun v162 =>
 ((dOps (H := H) Tryz.prog).indexAddr 39 a0 a1).bind fun v163 =>
 ((dOps (H := H) Tryz.prog).store s 26 v163 v160).bind fun s164 =>
 ((dOps (H := H) Tryz.prog).indexAddr 39 a0 a3).bind fun v165 =>
 ((dOps (H := H) Tryz.prog).store s164 26 v165 v162).bind fun s166 =>
 ((dOps (H := H) Tryz.prog).bop .add 3 a1 (Go.Value.int Go.IntKind.i64 1)).bind fun v167 =>
 ((dOps (H := H) Tryz.prog).bop .sub 3 a2 (Go.Value.int Go.IntKind.i64 1)).bind fun v168 =>
 iter (fun t s k => exec Tryz.prog false C n 125 none (cdp Tryz.f125 [1, 1, 1, 0, 0, 0]) t s k) (scratch (cdp Tryz.f125 [1, 1, 1, 0, 0, 0])) n (f125_l0_m a0 a1 a2 a3 v168 a0 a1 a0 a3 a0 a3 v159 v160 a0 a1 v161 v162 v163 v165 a1 v167 a2 v168 v167) s166 (kBlock 0 (kSeq Tryz.prog false C n 125 none (cdp Tryz.f125 [1, 1, 1, 1]) (kFun Tryz.prog Tryz.f125))) := by kernel_rfl
  rw [h1]
  simp only [f125_l0_e, f125_l0_k]
  show _ = f125 (dOps (H := H) Tryz.prog) C n a0 a1 a2 a3 s
  kernel_rfl
/-! tidepole/chunk.clean -/
noncomputable def f129 (O : Ops H) (C : OracleJ H) (n : Nat) (a0 : Value) (s : St H) : Option (List (Value × St H)) :=
 (C (.fn 151) [a0] s).bind fun L1 => manyK L1 fun v2 s3 =>
 (O.bop .geq 3 v2 (Go.Value.int Go.IntKind.i64 8)).bind fun v4 =>
 (O.boolO v4).bind fun b5 => cond b5 (
 some [((.bool false), s3)]) (
 (C (.fn 152) [a0, v2] s3).bind fun L6 => manyK L6 fun v7 s8 =>
 (O.extract v7 0).bind fun v9 =>
 (O.extract v7 1).bind fun v10 =>
 (O.bop .eql 26 v9 (Go.Value.int Go.IntKind.u64 0)).bind fun v11 =>
 some [(v11, s8)])
theorem f129_r (C : OracleJ H) (n : Nat) (a0 : Value) (s : St H) : bodyD Tryz.prog false C n 129 Tryz.f129 [a0] s = f129 (dOps (H := H) Tryz.prog) C n a0 s := by kernel_rfl
/-! slices.medianAdjacentOrdered[int] -/
noncomputable def f133 (O : Ops H) (C : OracleJ H) (n : Nat) (a0 : Value) (a1 : Value) (a2 : Value) (s : St H) : Option (List (Value × St H)) :=
 (O.bop .sub 3 a1 (Go.Value.int Go.IntKind.i64 1)).bind fun v1 =>
 (O.bop .add 3 a1 (Go.Value.int Go.IntKind.i64 1)).bind fun v2 =>
 (C (.fn 134) [a0, v1, a1, v2, a2] s).bind fun L3 => manyK L3 fun v4 s5 =>
 some [(v4, s5)]
theorem f133_r (C : OracleJ H) (n : Nat) (a0 : Value) (a1 : Value) (a2 : Value) (s : St H) : bodyD Tryz.prog false C n 133 Tryz.f133 [a0, a1, a2] s = f133 (dOps (H := H) Tryz.prog) C n a0 a1 a2 s := by kernel_rfl
/-! tidepole/bits.low[uint64] -/
noncomputable def f137 (O : Ops H) (C : OracleJ H) (n : Nat) (a0 : Value) (a1 : Value) (s : St H) : Option (List (Value × St H)) :=
 (O.bop .geq 3 a1 (Go.Value.int Go.IntKind.i64 64)).bind fun v1 =>
 (O.boolO v1).bind fun b2 => cond b2 (
 some [(a0, s)]) (
 (O.bop .shl 26 (Go.Value.int Go.IntKind.u64 1) a1).bind fun v3 =>
 (O.bop .sub 26 v3 (Go.Value.int Go.IntKind.u64 1)).bind fun v4 =>
 (O.bop .and 26 a0 v4).bind fun v5 =>
 some [(v5, s)])
theorem f137_r (C : OracleJ H) (n : Nat) (a0 : Value) (a1 : Value) (s : St H) : bodyD Tryz.prog false C n 137 Tryz.f137 [a0, a1] s = f137 (dOps (H := H) Tryz.prog) C n a0 a1 s := by kernel_rfl
/-! math/bits.TrailingZeros64 -/
noncomputable def f141 (O : Ops H) (C : OracleJ H) (n : Nat) (a0 : Value) (s : St H) : Option (List (Value × St H)) :=
 (O.bop .eql 26 a0 (Go.Value.int Go.IntKind.u64 0)).bind fun v1 =>
 (O.boolO v1).bind fun b2 => cond b2 (
 some [((Go.Value.int Go.IntKind.i64 64), s)]) (
 (O.uop .neg a0).bind fun v3 =>
 (O.bop .and 26 a0 v3).bind fun v4 =>
 (O.bop .mul 26 v4 (Go.Value.int Go.IntKind.u64 285870213051353865)).bind fun v5 =>
 (O.bop .shr 26 v5 (Go.Value.int Go.IntKind.u64 58)).bind fun v6 =>
 (O.indexAddr 219 (gpV 1 0) v6).bind fun v7 =>
 (O.load s 5 v7).bind fun v8 =>
 (O.conv false s 5 3 v8).bind fun p9 =>
 some [(p9.1, p9.2)])
theorem f141_r (C : OracleJ H) (n : Nat) (a0 : Value) (s : St H) : bodyD Tryz.prog false C n 141 Tryz.f141 [a0] s = f141 (dOps (H := H) Tryz.prog) C n a0 s := by kernel_rfl
/-! cmp.isNaN[uint64] -/
noncomputable def f145 (O : Ops H) (C : OracleJ H) (n : Nat) (a0 : Value) (s : St H) : Option (List (Value × St H)) :=
 (O.bop .neq 26 a0 a0).bind fun v1 =>
 some [(v1, s)]
theorem f145_r (C : OracleJ H) (n : Nat) (a0 : Value) (s : St H) : bodyD Tryz.prog false C n 145 Tryz.f145 [a0] s = f145 (dOps (H := H) Tryz.prog) C n a0 s := by kernel_rfl
/-! tidepole/stamp.Get -/
noncomputable def f149 (O : Ops H) (C : OracleJ H) (n : Nat) (a0 : Value) (a1 : Value) (s : St H) : Option (List (Value × St H)) :=
 (O.box s a1).bind fun p1 =>
 (O.alloc p1.2 121).bind fun p2 =>
 (O.load p2.2 121 p1.1).bind fun v3 =>
 (C (.fn 106) [v3] p2.2).bind fun L4 => manyK L4 fun v5 s6 =>
 (O.uop .not v5).bind fun v7 =>
 (O.boolO v7).bind fun b8 => cond b8 (
 (O.build 121 []).bind fun v9 =>
 (O.store s6 121 p2.1 v9).bind fun s10 =>
 (O.load s10 121 p2.1).bind fun v11 => some [(.tuple #[v11, (Go.Value.int Go.IntKind.i64 0), (Go.Value.int Go.IntKind.i64 60)], s10)]) (
 (O.fieldAddr 121 p1.1 0).bind fun v12 =>
 (O.load s6 3 v12).bind fun v13 =>
 (O.bop .eql 3 v13 (Go.Value.int Go.IntKind.i64 0)).bind fun v14 =>
 jn (fun (j430_7 : Value) (js430 : St H) =>
 (O.load js430 121 p1.1).bind fun v59 =>
 (C (.fn 105) [v59, j430_7] js430).bind fun L60 => manyK L60 fun v61 s62 =>
 (O.extract v61 0).bind fun v63 =>
 (O.extract v61 1).bind fun v64 =>
 (O.alloc s62 121).bind fun p65 =>
 (O.store p65.2 121 p65.1 v63).bind fun s66 =>
 (O.uop .not v64).bind fun v67 =>
 (O.boolO v67).bind fun b68 => cond b68 (
 (O.build 121 []).bind fun v69 =>
 (O.store s66 121 p2.1 v69).bind fun s70 =>
 (O.load s70 121 p2.1).bind fun v71 => some [(.tuple #[v71, (Go.Value.int Go.IntKind.i64 0), (Go.Value.int Go.IntKind.i64 60)], s70)]) (
 (O.load s66 121 p65.1).bind fun v72 =>
 (O.store s66 121 p2.1 v72).bind fun s73 =>
 (O.load s73 121 p2.1).bind fun v74 => some [(.tuple #[v74, j430_7, (Go.Value.int Go.IntKind.i64 0)], s73)])) fun k430 =>
 (O.boolO v14).bind fun b15 => cond b15 (
 (C (.fn 152) [a0, (Go.Value.int Go.IntKind.i64 46)] s6).bind fun L16 => manyK L16 fun v17 s18 =>
 (O.extract v17 0).bind fun v19 =>
 (O.extract v17 1).bind fun v20 =>
 (O.bop .neq 32 v20 (Go.Value.int Go.IntKind.i64 0)).bind fun v21 =>
 (O.boolO v21).bind fun b22 => cond b22 (
 (O.build 121 []).bind fun v23 =>
 (O.store s18 121 p2.1 v23).bind fun s24 =>
 (O.load s24 121 p2.1).bind fun v25 => some [(.tuple #[v25, (Go.Value.int Go.IntKind.i64 0), v20], s24)]) (
 (O.conv false s18 26 3 v19).bind fun p26 =>
 k430 p26.1 p26.2)) (
 (C (.fn 157) [a0] s6).bind fun L27 => manyK L27 fun v28 s29 =>
 (O.extract v28 0).bind fun v30 =>
 (O.extract v28 1).bind fun v31 =>
 (O.bop .neq 32 v31 (Go.Value.int Go.IntKind.i64 0)).bind fun v32 =>
 (O.boolO v32).bind fun b33 => cond b33 (
 (O.build 121 []).bind fun v34 =>
 (O.store s29 121 p2.1 v34).bind fun s35 =>
 (O.load s35 121 p2.1).bind fun v36 => some [(.tuple #[v36, (Go.Value.int Go.IntKind.i64 0), v31], s35)]) (
 (O.fieldAddr 121 p1.1 1).bind fun v37 =>
 (O.load s29 3 v37).bind fun v38 =>
 (O.fieldAddr 121 p1.1 2).bind fun v39 =>
 (O.load s29 3 v39).bind fun v40 =>
 (O.bop .add 3 v38 v40).bind fun v41 =>
 (O.bop .add 3 v41 v30).bind fun v42 =>
 k430 v42 s29)))
theorem f149_r (C : OracleJ H) (n : Nat) (a0 : Value) (a1 : Value) (s : St H) : bodyD Tryz.prog false C n 149 Tryz.f149 [a0, a1] s = f149 (dOps (H := H) Tryz.prog) C n a0 a1 s := by kernel_rfl
/-! slices.order2Ordered[int] -/
noncomputable def f153 (O : Ops H) (C : OracleJ H) (n : Nat) (a0 : Value) (a1 : Value) (a2 : Value) (a3 : Value) (s : St H) : Option (List (Value × St H)) :=
 (O.indexAddr 47 a0 a2).bind fun v1 =>
 (O.load s 3 v1).bind fun v2 =>
 (O.indexAddr 47 a0 a1).bind fun v3 =>
 (O.load s 3 v3).bind fun v4 =>
 (oneO C (.fn 95) [v2, v4] s).bind fun p5 =>
 (O.boolO p5.1).bind fun b6 => cond b6 (
 (O.nilCheck a3).bind fun v7 =>
 (O.load p5.2 3 v7).bind fun v8 =>
 (O.bop .add 3 v8 (Go.Value.int Go.IntKind.i64 1)).bind fun v9 =>
 (O.nilCheck a3).bind fun v10 =>
 (O.store p5.2 3 v10 v9).bind fun s11 =>
 some [(.tuple #[a2, a1], s11)]) (
 some [(.tuple #[a1, a2], p5.2)])
theorem f153_r (C : OracleJ H) (n : Nat) (a0 : Value) (a1 : Value) (a2 : Value) (a3 : Value) (s : St H) : bodyD Tryz.prog false C n 153 Tryz.f153 [a0, a1, a2, a3] s = f153 (dOps (H := H) Tryz.prog) C n a0 a1 a2 a3 s := by kernel_rfl
/-! tidepole/stamp.difference -/
noncomputable def f157 (O : Ops H) (C : OracleJ H) (n : Nat) (a0 : Value) (s : St H) : Option (List (Value × St H)) :=
 (C (.fn 161) [a0] s).bind fun L1 => manyK L1 fun v2 s3 =>
 (O.extract v2 0).bind fun v4 =>
 (O.extract v2 1).bind fun v5 =>
 (O.bop .neq 32 v5 (Go.Value.int Go.IntKind.i64 0)).bind fun v6 =>
 (O.boolO v6).bind fun b7 => cond b7 (
 some [(.tuple #[(Go.Value.int Go.IntKind.i64 0), v5], s3)]) (
 (O.indexAddr 167 (gpV 0 0) v4).bind fun v8 =>
 (O.fieldAddr 166 v8 2).bind fun v9 =>
 (O.load s3 3 v9).bind fun v10 =>
 (C (.fn 152) [a0, v10] s3).bind fun L11 => manyK L11 fun v12 s13 =>
 (O.extract v12 0).bind fun v14 =>
 (O.extract v12 1).bind fun v15 =>
 (O.bop .neq 32 v15 (Go.Value.int Go.IntKind.i64 0)).bind fun v16 =>
 (O.boolO v16).bind fun b17 => cond b17 (
 some [(.tuple #[(Go.Value.int Go.IntKind.i64 0), v15], s13)]) (
 (C (.fn 109) [v14] s13).bind fun L18 => manyK L18 fun v19 s20 =>
 (O.bop .neq 3 v19 v4).bind fun v21 =>
 (O.boolO v21).bind fun b22 => cond b22 (
 some [(.tuple #[(Go.Value.int Go.IntKind.i64 0), (Go.Value.int Go.IntKind.i64 60)], s20)]) (
 (O.bop .shr 26 v14 (Go.Value.int Go.IntKind.u64 1)).bind fun v23 =>
 (O.conv false s20 26 3 v23).bind fun p24 =>
 (O.bop .and 26 v14 (Go.Value.int Go.IntKind.u64 1)).bind fun v25 =>
 (O.conv false p24.2 26 3 v25).bind fun p26 =>
 (O.uop .neg p26.1).bind fun v27 =>
 (O.bop .xor 3 p24.1 v27).bind fun v28 =>
 some [(.tuple #[v28, v15], p26.2)])))
theorem f157_r (C : OracleJ H) (n : Nat) (a0 : Value) (s : St H) : bodyD Tryz.prog false C n 157 Tryz.f157 [a0] s = f157 (dOps (H := H) Tryz.prog) C n a0 s := by kernel_rfl
/-! tidepole/stamp.lead -/
def f161_l0_m (i0 : Value) (x : Value × Value × Value × Value × Value × Value) : List Value := [i0, undefV, x.1, x.2.1, x.2.2.1, x.2.2.2.1, x.2.2.2.2.1, x.2.2.2.2.2, dc, dc, dc, dc, dc, dc, dc, dc, dc, dc, dc, dc, dc, dc, dc, dc]
noncomputable def f161_l0 (O : Ops H) (C : OracleJ H) (n : Nat) (i0 : Value) (nx : (Value × Value × Value × Value × Value × Value) → St H → Option (List (Value × St H))) (kx : Nat → (Value × Value × Value × Value × Value × Value) → St H → Option (List (Value × St H))) (kr : (Value × Value × Value × Value × Value × Value) → St H → Option (List (Value × St H))) (x : Value × Value × Value × Value × Value × Value) (s : St H) : Option (List (Value × St H)) :=
 (O.bop .lss 3 x.2.2.2.2.2 (Go.Value.int Go.IntKind.i64 4)).bind fun v1 =>
 (O.boolO v1).bind fun b2 => cond b2 (
 (C (.fn 152) [i0, (Go.Value.int Go.IntKind.i64 1)] s).bind fun L3 => manyK L3 fun v4 s5 =>
 (O.extract v4 0).bind fun v6 =>
 (O.extract v4 1).bind fun v7 =>
 (O.bop .neq 32 v7 (Go.Value.int Go.IntKind.i64 0)).bind fun v8 =>
 gd v8 (
 kr (x.2.2.2.2.2, v7, x.2.2.2.2.2, v6, v7, x.2.2.2.2.2) s5) (
 (O.bop .eql 26 v6 (Go.Value.int Go.IntKind.u64 0)).bind fun v9 =>
 (O.boolO v9).bind fun b12 => cond b12 (
 kr (x.2.2.2.2.2, v7, x.2.2.2.2.2, v6, v7, x.2.2.2.2.2) s5) (
 (O.bop .add 3 x.2.2.2.2.2 (Go.Value.int Go.IntKind.i64 1)).bind fun v13 =>
 nx (x.1, x.2.1, x.2.2.2.2.2, v6, v7, v13) s5)) (
 none)) (
 kx 0 (x.1, x.2.1, x.2.2.1, x.2.2.2.1, x.2.2.2.2.1, x.2.2.2.2.2) s)
theorem f161_l0_b (C : OracleJ H) (n : Nat) (i0 : Value) (x : Value × Value × Value × Value × Value × Value) (s : St H) (nx : List Value → St H → Option (List (Value × St H))) (K : Ex → List Value → St H → Option (List (Value × St H))) :
 exec Tryz.prog false C n 161 none (cdp Tryz.f161 [1, 0, 1, 0, 0]) (f161_l0_m i0 x) s (kIter (scratch (cdp Tryz.f161 [1, 0, 1, 0, 0])) nx K) = f161_l0 (dOps (H := H) Tryz.prog) C n i0 (fun x s => nx (f161_l0_m i0 x) s) (fun i x s => K (.exit i) (f161_l0_m i0 x) s) (fun x s => K .ret (f161_l0_m i0 x) s) x s := by kernel_rfl
theorem f161_l0_e (C : OracleJ H) (n : Nat) (i0 : Value) (m : Nat) (x : Value × Value × Value × Value × Value × Value) (s : St H) (K : Ex → List Value → St H → Option (List (Value × St H))) :
 iter (fun t s k => exec Tryz.prog false C n 161 none (cdp Tryz.f161 [1, 0, 1, 0, 0]) t s k) (scratch (cdp Tryz.f161 [1, 0, 1, 0, 0])) m (f161_l0_m i0 x) s K = iterS (f161_l0 (dOps (H := H) Tryz.prog) C n i0) (fun i x s => K (.exit i) (f161_l0_m i0 x) s) (fun x s => K .ret (f161_l0_m i0 x) s) m x s :=
   iter_eq (f161_l0_m i0) (f161_l0 (dOps (H := H) Tryz.prog) C n i0) (fun x s nx K => f161_l0_b C n i0 x s nx K) K m x s
noncomputable def f161 (O : Ops H) (C : OracleJ H) (n : Nat) (a0 : Value) (s : St H) : Option (List (Value × St H)) :=
 iterS (f161_l0 O C n a0 )
 (fun i14 x15 s16 => (bif Nat.beq i14 0 then
 some [(.tuple #[(Go.Value.int Go.IntKind.i64 4), (Go.Value.int Go.IntKind.i64 0)], s16)] else none))
 (fun x17 s18 => some [(.tuple #[x17.1, x17.2.1], s18)]) n ((Go.Value.int Go.IntKind.i64 0), (Go.Value.int Go.IntKind.i64 0), undefV, undefV, undefV, (Go.Value.int Go.IntKind.i64 0)) s
theorem f161_l0_k (C : OracleJ H) (n : Nat) (i0 : Value) (i : Nat) (x : Value × Value × Value × Value × Value × Value) (s : St H) : (kBlock 0 (kSeq Tryz.prog false C n 161 none (cdp Tryz.f161 [1, 1]) (kFun Tryz.prog Tryz.f161))) (.exit i) (f161_l0_m i0 x) s =
 (bif Nat.beq i 0 then
 some [(.tuple #[(Go.Value.int Go.IntKind.i64 4), (Go.Value.int Go.IntKind.i64 0)], s)] else none) := by kernel_rfl
theorem f161_r (C : OracleJ H) (n : Nat) (a0 : Value) (s : St H) : bodyD Tryz.prog false C n 161 Tryz.f161 [a0] s = f161 (dOps (H := H) Tryz.prog) C n a0 s := by
  have h1 : bodyD Tryz.prog false C n 161 Tryz.f161 [a0] s =
 iter (fun t s k => exec Tryz.prog false C n 161 none (cdp Tryz.f161 [1, 0, 1, 0, 0]) t s k) (scratch (cdp Tryz.f161 [1, 0, 1, 0, 0])) n (f161_l0_m a0 ((Go.Value.int Go.IntKind.i64 0), (Go.Value.int Go.IntKind.i64 0), undefV, undefV, undefV, (Go.Value.int Go.IntKind.i64 0))) s (kBlock 0 (kSeq Tryz.prog false C n 161 none (cdp Tryz.f161 [1, 1]) (kFun Tryz.prog Tryz.f161))) := by kernel_rfl
  rw [h1]
  simp only [f161_l0_e, f161_l0_k]
  show _ = f161 (dOps (H := H) Tryz.prog) C n a0 s
  kernel_rfl
/-! tidepole/crc.bits$1 -/
def f165_l0_m (i0 : Value) (i1 : Value) (x : Value) : List Value := [i0, i1, undefV, x, dc, dc, dc, dc, dc, dc, dc, dc, dc, dc, dc, dc, dc]
noncomputable def f165_l0 (O : Ops H) (C : OracleJ H) (n : Nat) (i0 : Value) (i1 : Value) (nx : Value → St H → Option (List (Value × St H))) (kx : Nat → Value → St H → Option (List (Value × St H))) (kr : Value → St H → Option (List (Value × St H))) (x : Value) (s : St H) : Option (List (Value × St H)) :=
 (O.bop .lss 3 x (Go.Value.int Go.IntKind.i64 8)).bind fun v1 =>
 (O.boolO v1).bind fun b2 => cond b2 (
 (O.load s 151 i1).bind fun v3 =>
 (O.bop .shr 151 v3 (Go.Value.int Go.IntKind.u64 1)).bind fun v4 =>
 (O.load s 151 i1).bind fun v5 =>
 (O.bop .and 151 v5 (Go.Value.int Go.IntKind.u32 1)).bind fun v6 =>
 (O.uop .neg v6).bind fun v7 =>
 (O.bop .and 151 v7 (Go.Value.int Go.IntKind.u32 2197175160)).bind fun v8 =>
 (O.bop .xor 151 v4 v8).bind fun v9 =>
 (O.store s 151 i1 v9).bind fun s10 =>
 (O.load s10 151 i1).bind fun v11 =>
 (O.tgt i0 [v11]).bind fun g12 => (C g12.1 g12.2 s10).bind fun L13 => manyK L13 fun v14 s15 =>
 (O.uop .not v14).bind fun v16 =>
 (O.boolO v16).bind fun b17 => cond b17 (
 kr x s15) (
 (O.bop .add 3 x (Go.Value.int Go.IntKind.i64 1)).bind fun v18 =>
 nx v18 s15)) (
 kx 0 x s)
theorem f165_l0_b (C : OracleJ H) (n : Nat) (i0 : Value) (i1 : Value) (x : Value) (s : St H) (nx : List Value → St H → Option (List (Value × St H))) (K : Ex → List Value → St H → Option (List (Value × St H))) :
 exec Tryz.prog false C n 165 none (cdp Tryz.f165 [1, 0, 0]) (f165_l0_m i0 i1 x) s (kIter (scratch (cdp Tryz.f165 [1, 0, 0])) nx K) = f165_l0 (dOps (H := H) Tryz.prog) C n i0 i1 (fun x s => nx (f165_l0_m i0 i1 x) s) (fun i x s => K (.exit i) (f165_l0_m i0 i1 x) s) (fun x s => K .ret (f165_l0_m i0 i1 x) s) x s := by kernel_rfl
theorem f165_l0_e (C : OracleJ H) (n : Nat) (i0 : Value) (i1 : Value) (m : Nat) (x : Value) (s : St H) (K : Ex → List Value → St H → Option (List (Value × St H))) :
 iter (fun t s k => exec Tryz.prog false C n 165 none (cdp Tryz.f165 [1, 0, 0]) t s k) (scratch (cdp Tryz.f165 [1, 0, 0])) m (f165_l0_m i0 i1 x) s K = iterS (f165_l0 (dOps (H := H) Tryz.prog) C n i0 i1) (fun i x s => K (.exit i) (f165_l0_m i0 i1 x) s) (fun x s => K .ret (f165_l0_m i0 i1 x) s) m x s :=
   iter_eq (f165_l0_m i0 i1) (f165_l0 (dOps (H := H) Tryz.prog) C n i0 i1) (fun x s nx K => f165_l0_b C n i0 i1 x s nx K) K m x s
noncomputable def f165 (O : Ops H) (C : OracleJ H) (n : Nat) (a0 : Value) (a1 : Value) (s : St H) : Option (List (Value × St H)) :=
 iterS (f165_l0 O C n a0 a1 )
 (fun i19 x20 s21 => (bif Nat.beq i19 0 then
 some [(.tuple #[], s21)] else none))
 (fun x22 s23 => some [(.tuple #[], s23)]) n (Go.Value.int Go.IntKind.i64 0) s
theorem f165_l0_k (C : OracleJ H) (n : Nat) (i0 : Value) (i1 : Value) (i : Nat) (x : Value) (s : St H) : (kBlock 0 (kFun Tryz.prog Tryz.f165)) (.exit i) (f165_l0_m i0 i1 x) s =
 (bif Nat.beq i 0 then
 some [(.tuple #[], s)] else none) := by kernel_rfl
theorem f165_r (C : OracleJ H) (n : Nat) (a0 : Value) (a1 : Value) (s : St H) : bodyD Tryz.prog false C n 165 Tryz.f165 [a0, a1] s = f165 (dOps (H := H) Tryz.prog) C n a0 a1 s := by
  have h1 : bodyD Tryz.prog false C n 165 Tryz.f165 [a0, a1] s =
 iter (fun t s k => exec Tryz.prog false C n 165 none (cdp Tryz.f165 [1, 0, 0]) t s k) (scratch (cdp Tryz.f165 [1, 0, 0])) n (f165_l0_m a0 a1 (Go.Value.int Go.IntKind.i64 0)) s (kBlock 0 (kFun Tryz.prog Tryz.f165)) := by kernel_rfl
  rw [h1]
  simp only [f165_l0_e, f165_l0_k]
  show _ = f165 (dOps (H := H) Tryz.prog) C n a0 a1 s
  kernel_rfl
end Go.Proofs.YtdbmfggipeoklaaGreatDoor.S
