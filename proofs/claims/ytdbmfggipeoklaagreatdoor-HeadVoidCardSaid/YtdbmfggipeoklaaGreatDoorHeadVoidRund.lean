/- The plain runs of functions (printed by shal.py). -/
import Derived.Test.YtdbmfggipeoklaaGreatDoorFv
import Derived.ProofKit
import Derived.Test.YtdbmfggipeoklaaGreatDoorRows
set_option autoImplicit false
set_option linter.unusedVariables false
set_option maxRecDepth 100000
namespace Go.Proofs.YtdbmfggipeoklaaGreatDoor.S
open Go.FS Go.RowKit
variable {H : HeapI}
/-! (*tidepole/head.Head).Drop -/
def f11_l0_m (i0 : Value) (i1 : Value) (i3 : Value) (i7 : Value) (i8 : Value) (i9 : Value) (i10 : Value) (i11 : Value) (i12 : Value) (i13 : Value) (i15 : Value) (i16 : Value) (i17 : Value) (i18 : Value) (i19 : Value) (i20 : Value) (i21 : Value) (i22 : Value) (i23 : Value) (x : Value) : List Value := [i0, i1, undefV, i3, (Go.Value.int Go.IntKind.i64 0), undefV, x, i7, i8, i9, i10, i11, i12, i13, (.bool false), i15, i16, i17, i18, i19, i20, i21, i22, i23, dc, dc, dc, dc, dc, dc, dc]
noncomputable def f11_l0 (O : Ops H) (C : OracleJ H) (n : Nat) (i3 : Value) (i23 : Value) (nx : Value → St H → Option (List (Value × St H))) (kx : Nat → Value → St H → Option (List (Value × St H))) (kr : Value → St H → Option (List (Value × St H))) (x : Value) (s : St H) : Option (List (Value × St H)) :=
 (O.nexts s i23).bind fun L19 => manyK L19 fun v20 s21 =>
 (O.extract v20 0).bind fun v22 =>
 (O.boolO v22).bind fun b23 => cond b23 (
 (O.entry s21 i23).bind fun v24 =>
 (O.extract v24 1).bind fun v25 =>
 (C (.fn 32) [v25, (.func (.func 33) #[] #[i3])] s21).bind fun L26 => manyK L26 fun v27 s28 =>
 nx v25 s28) (
 kx 1 x s21)
theorem f11_l0_b (C : OracleJ H) (n : Nat) (i0 : Value) (i1 : Value) (i3 : Value) (i7 : Value) (i8 : Value) (i9 : Value) (i10 : Value) (i11 : Value) (i12 : Value) (i13 : Value) (i15 : Value) (i16 : Value) (i17 : Value) (i18 : Value) (i19 : Value) (i20 : Value) (i21 : Value) (i22 : Value) (i23 : Value) (x : Value) (s : St H) (nx : List Value → St H → Option (List (Value × St H))) (K : Ex → List Value → St H → Option (List (Value × St H))) :
 exec Tryz.prog false C n 11 none (cdp Tryz.f11 [1, 1, 0, 1, 0, 0]) (f11_l0_m i0 i1 i3 i7 i8 i9 i10 i11 i12 i13 i15 i16 i17 i18 i19 i20 i21 i22 i23 x) s (kIter (scratch (cdp Tryz.f11 [1, 1, 0, 1, 0, 0])) nx K) = f11_l0 (dOps (H := H) Tryz.prog) C n i3 i23 (fun x s => nx (f11_l0_m i0 i1 i3 i7 i8 i9 i10 i11 i12 i13 i15 i16 i17 i18 i19 i20 i21 i22 i23 x) s) (fun i x s => K (.exit i) (f11_l0_m i0 i1 i3 i7 i8 i9 i10 i11 i12 i13 i15 i16 i17 i18 i19 i20 i21 i22 i23 x) s) (fun x s => K .ret (f11_l0_m i0 i1 i3 i7 i8 i9 i10 i11 i12 i13 i15 i16 i17 i18 i19 i20 i21 i22 i23 x) s) x s := by kernel_rfl
theorem f11_l0_e (C : OracleJ H) (n : Nat) (i0 : Value) (i1 : Value) (i3 : Value) (i7 : Value) (i8 : Value) (i9 : Value) (i10 : Value) (i11 : Value) (i12 : Value) (i13 : Value) (i15 : Value) (i16 : Value) (i17 : Value) (i18 : Value) (i19 : Value) (i20 : Value) (i21 : Value) (i22 : Value) (i23 : Value) (m : Nat) (x : Value) (s : St H) (K : Ex → List Value → St H → Option (List (Value × St H))) :
 iter (fun t s k => exec Tryz.prog false C n 11 none (cdp Tryz.f11 [1, 1, 0, 1, 0, 0]) t s k) (scratch (cdp Tryz.f11 [1, 1, 0, 1, 0, 0])) m (f11_l0_m i0 i1 i3 i7 i8 i9 i10 i11 i12 i13 i15 i16 i17 i18 i19 i20 i21 i22 i23 x) s K = iterS (f11_l0 (dOps (H := H) Tryz.prog) C n i3 i23) (fun i x s => K (.exit i) (f11_l0_m i0 i1 i3 i7 i8 i9 i10 i11 i12 i13 i15 i16 i17 i18 i19 i20 i21 i22 i23 x) s) (fun x s => K .ret (f11_l0_m i0 i1 i3 i7 i8 i9 i10 i11 i12 i13 i15 i16 i17 i18 i19 i20 i21 i22 i23 x) s) m x s :=
   iter_eq (f11_l0_m i0 i1 i3 i7 i8 i9 i10 i11 i12 i13 i15 i16 i17 i18 i19 i20 i21 i22 i23) (f11_l0 (dOps (H := H) Tryz.prog) C n i3 i23) (fun x s nx K => f11_l0_b C n i0 i1 i3 i7 i8 i9 i10 i11 i12 i13 i15 i16 i17 i18 i19 i20 i21 i22 i23 x s nx K) K m x s
noncomputable def f11 (O : Ops H) (C : OracleJ H) (n : Nat) (a0 : Value) (a1 : Value) (s : St H) : Option (List (Value × St H)) :=
 (O.box s a1).bind fun p1 =>
 (C (.fn 30) [a0] p1.2).bind fun L2 => manyK L2 fun v3 s4 =>
 (O.uop .not v3).bind fun v5 =>
 (O.boolO v5).bind fun b6 => cond b6 (
 some [((Go.Value.int Go.IntKind.i64 1), s4)]) (
 (O.load s4 3 p1.1).bind fun v7 =>
 (O.bop .lss 3 v7 (Go.Value.int Go.IntKind.i64 0)).bind fun v8 =>
 gd v8 (
 some [((Go.Value.int Go.IntKind.i64 2), s4)]) (
 (O.load s4 3 p1.1).bind fun v9 =>
 (oneO C (.fn 31) [(Go.Value.int Go.IntKind.i64 35184372088832)] s4).bind fun p10 =>
 (O.bop .gtr 3 v9 p10.1).bind fun v11 =>
 bif (eqO H (O.load s4 3 p1.1) v9 && (eqO H (O.load p10.2 3 p1.1) v9 && (true))) && (true) then
 (O.boolO v11).bind fun b14 => cond b14 (
 some [((Go.Value.int Go.IntKind.i64 2), p10.2)]) (
 (O.nilCheck a0).bind fun v15 =>
 (O.fieldAddr 68 v15 0).bind fun v16 =>
 (O.load p10.2 66 v16).bind fun v17 =>
 (O.range p10.2 66 v17).bind fun p18 =>
 iterS (f11_l0 O C n p1.1 p18.1 )
 (fun i29 x30 s31 => (bif Nat.beq i29 1 then
 some [((Go.Value.int Go.IntKind.i64 0), s31)] else none))
 (fun x32 s33 => some [((Go.Value.int Go.IntKind.i64 0), s33)]) n undefV p18.2)
 else none) (
 none))
theorem f11_l0_k (C : OracleJ H) (n : Nat) (i0 : Value) (i1 : Value) (i3 : Value) (i7 : Value) (i8 : Value) (i9 : Value) (i10 : Value) (i11 : Value) (i12 : Value) (i13 : Value) (i15 : Value) (i16 : Value) (i17 : Value) (i18 : Value) (i19 : Value) (i20 : Value) (i21 : Value) (i22 : Value) (i23 : Value) (i : Nat) (x : Value) (s : St H) : (kBlock 1 (kSeq Tryz.prog false C n 11 none (cdp Tryz.f11 [1, 1, 1]) (kFun Tryz.prog Tryz.f11))) (.exit i) (f11_l0_m i0 i1 i3 i7 i8 i9 i10 i11 i12 i13 i15 i16 i17 i18 i19 i20 i21 i22 i23 x) s =
 (bif Nat.beq i 1 then
 some [((Go.Value.int Go.IntKind.i64 0), s)] else none) := by kernel_rfl
theorem f11_r (C : OracleJ H) (n : Nat) (a0 : Value) (a1 : Value) (s : St H) : bodyD Tryz.prog false C n 11 Tryz.f11 [a0, a1] s = f11 (dOps (H := H) Tryz.prog) C n a0 a1 s := by
  have h1 : bodyD Tryz.prog false C n 11 Tryz.f11 [a0, a1] s =
 ((dOps (H := H) Tryz.prog).box s a1).bind fun p34 =>
 (C (.fn 30) [a0] p34.2).bind fun L35 => manyK L35 fun v36 s37 =>
 ((dOps (H := H) Tryz.prog).uop .not v36).bind fun v38 =>
 ((dOps (H := H) Tryz.prog).boolO v38).bind fun b39 => cond b39 (
 some [((Go.Value.int Go.IntKind.i64 1), s37)]) (
 ((dOps (H := H) Tryz.prog).load s37 3 p34.1).bind fun v40 =>
 ((dOps (H := H) Tryz.prog).bop .lss 3 v40 (Go.Value.int Go.IntKind.i64 0)).bind fun v41 =>
 gd v41 (
 some [((Go.Value.int Go.IntKind.i64 2), s37)]) (
 ((dOps (H := H) Tryz.prog).load s37 3 p34.1).bind fun v42 =>
 (oneO C (.fn 31) [(Go.Value.int Go.IntKind.i64 35184372088832)] s37).bind fun p43 =>
 ((dOps (H := H) Tryz.prog).bop .gtr 3 v42 p43.1).bind fun v44 =>
 bif (eqO H ((dOps (H := H) Tryz.prog).load s37 3 p34.1) v42 && (eqO H ((dOps (H := H) Tryz.prog).load p43.2 3 p34.1) v42 && (true))) && (true) then
 ((dOps (H := H) Tryz.prog).boolO v44).bind fun b47 => cond b47 (
 some [((Go.Value.int Go.IntKind.i64 2), p43.2)]) (
 ((dOps (H := H) Tryz.prog).nilCheck a0).bind fun v48 =>
 ((dOps (H := H) Tryz.prog).fieldAddr 68 v48 0).bind fun v49 =>
 ((dOps (H := H) Tryz.prog).load p43.2 66 v49).bind fun v50 =>
 ((dOps (H := H) Tryz.prog).range p43.2 66 v50).bind fun p51 =>
 iter (fun t s k => exec Tryz.prog false C n 11 none (cdp Tryz.f11 [1, 1, 0, 1, 0, 0]) t s k) (scratch (cdp Tryz.f11 [1, 1, 0, 1, 0, 0])) n (f11_l0_m a0 a1 p34.1 v38 a0 v36 v38 v44 v40 v41 v42 p43.1 v44 v44 a0 v48 v49 v50 p51.1 undefV) p51.2 (kBlock 1 (kSeq Tryz.prog false C n 11 none (cdp Tryz.f11 [1, 1, 1]) (kFun Tryz.prog Tryz.f11))))
 else none) (
 none)) := by kernel_rfl
  rw [h1]
  simp only [f11_l0_e, f11_l0_k]
  show _ = f11 (dOps (H := H) Tryz.prog) C n a0 a1 s
  kernel_rfl
/-! (*tidepole/head.Head).Samples -/
noncomputable def f21 (O : Ops H) (C : OracleJ H) (n : Nat) (a0 : Value) (a1 : Value) (a2 : Value) (s : St H) : Option (List (Value × St H)) :=
 (O.box s a2).bind fun p1 =>
 (C (.fn 30) [a0] p1.2).bind fun L2 => manyK L2 fun v3 s4 =>
 (O.uop .not v3).bind fun v5 =>
 gd v5 (
 some [((fzV 2 #[]), s4)]) (
 (O.nilCheck a0).bind fun v6 =>
 (O.fieldAddr 68 v6 0).bind fun v7 =>
 (O.load s4 66 v7).bind fun v8 =>
 (O.lookup s4 66 v8 a1 false).bind fun v9 =>
 (O.bop .eql 72 v9 (Go.Value.pointer none)).bind fun v10 =>
 (O.boolO v10).bind fun b13 => cond b13 (
 some [((fzV 2 #[]), s4)]) (
 (O.nilCheck a0).bind fun v14 =>
 (O.fieldAddr 68 v14 0).bind fun v15 =>
 (O.load s4 66 v15).bind fun v16 =>
 (O.lookup s4 66 v16 a1 false).bind fun v17 =>
 (oneO C (.fn 43) [v17] s4).bind fun p18 =>
 (oneO C (.fn 47) [p18.1] p18.2).bind fun p19 =>
 (O.load p19.2 56 p1.1).bind fun v20 =>
 (oneO C (.fn 46) [p19.1, v20] p19.2).bind fun p21 =>
 bif (eqO H (O.load s4 56 p1.1) v20 && (eqO H (O.load p18.2 56 p1.1) v20 && (eqO H (O.load p19.2 56 p1.1) v20 && (true)))) && (true) then
 some [(p21.1, p21.2)]
 else none)) (
 none)
theorem f21_r (C : OracleJ H) (n : Nat) (a0 : Value) (a1 : Value) (a2 : Value) (s : St H) : bodyD Tryz.prog false C n 21 Tryz.f21 [a0, a1, a2] s = f21 (dOps (H := H) Tryz.prog) C n a0 a1 a2 s := by kernel_rfl
/-! (*tidepole/head.series).without -/
noncomputable def f32 (O : Ops H) (C : OracleJ H) (n : Nat) (a0 : Value) (a1 : Value) (s : St H) : Option (List (Value × St H)) :=
 (O.box s a1).bind fun p1 =>
 (O.nilCheck a0).bind fun v2 =>
 (O.fieldAddr 79 v2 2).bind fun v3 =>
 (O.load p1.2 28 v3).bind fun v4 =>
 (C (.fn 35) [v4] p1.2).bind fun L5 => manyK L5 fun v6 s7 =>
 (O.alloc s7 72).bind fun p8 =>
 (O.store p8.2 72 p8.1 v6).bind fun s9 =>
 (O.alloc s9 4).bind fun p10 =>
 (O.store p10.2 4 p10.1 (.bool false)).bind fun s11 =>
 (C (.fn 43) [a0] s11).bind fun L12 => manyK L12 fun v13 s14 =>
 jn (fun (js44 : St H) =>
 (O.load js44 4 p10.1).bind fun v26 =>
 (O.boolO v26).bind fun b27 => cond b27 (
 (O.load js44 72 p8.1).bind fun v28 =>
 (O.nilCheck v28).bind fun v29 =>
 (O.load js44 79 v29).bind fun v30 =>
 (O.nilCheck a0).bind fun v31 =>
 (O.store js44 79 v31 v30).bind fun s32 =>
 some [(.tuple #[], s32)]) (
 some [(.tuple #[], js44)])) fun k44 =>
 rngO Tryz.prog O C 32 v13 [a0, a1, undefV, p1.1, p8.1, p10.1, undefV, a0, v2, v3, v4, v6, a0, v13, undefV, undefV, undefV, undefV, undefV, undefV, undefV, undefV, undefV, undefV, undefV, undefV, undefV] [14] (cdp Tryz.f32 [1, 1, 1, 0, 1, 0, 0]) (cdp Tryz.f32 [1, 1, 1, 0, 1, 0, 1]) s14
 (fun s15 => k44 s15)
 (fun s16 => some [(.tuple #[], s16)])
 (fun i18 s17 => (bif Nat.beq i18 0 then
 k44 s17 else none))
theorem f32_r (C : OracleJ H) (n : Nat) (a0 : Value) (a1 : Value) (s : St H) : bodyD Tryz.prog false C n 32 Tryz.f32 [a0, a1] s = f32 (dOps (H := H) Tryz.prog) C n a0 a1 s := by kernel_rfl
/-! tidepole/head.follows -/
noncomputable def f36 (O : Ops H) (C : OracleJ H) (n : Nat) (a0 : Value) (a1 : Value) (s : St H) : Option (List (Value × St H)) :=
 (O.box s a0).bind fun p1 =>
 (O.box p1.2 a1).bind fun p2 =>
 (O.fieldAddr 28 p2.1 0).bind fun v3 =>
 (O.load p2.2 3 v3).bind fun v4 =>
 (O.fieldAddr 28 p1.1 0).bind fun v5 =>
 (O.load p2.2 3 v5).bind fun v6 =>
 (C (.fn 57) [v4, v6] p2.2).bind fun L7 => manyK L7 fun v8 s9 =>
 (O.load s9 28 p2.1).bind fun v10 =>
 (O.load s9 28 p1.1).bind fun v11 =>
 (O.bop .eql 28 v10 v11).bind fun v12 =>
 (O.boolO v12).bind fun b13 => cond b13 (
 some [((Go.Value.int Go.IntKind.i64 6), s9)]) (
 (O.bop .eql 3 v8 (Go.Value.int Go.IntKind.i64 0)).bind fun v14 =>
 (O.boolO v14).bind fun b15 => cond b15 (
 some [((Go.Value.int Go.IntKind.i64 231), s9)]) (
 (O.bop .lss 3 v8 (Go.Value.int Go.IntKind.i64 0)).bind fun v16 =>
 (O.boolO v16).bind fun b17 => cond b17 (
 some [((Go.Value.int Go.IntKind.i64 230), s9)]) (
 some [((Go.Value.int Go.IntKind.i64 0), s9)])))
theorem f36_r (C : OracleJ H) (n : Nat) (a0 : Value) (a1 : Value) (s : St H) : bodyD Tryz.prog false C n 36 Tryz.f36 [a0, a1] s = f36 (dOps (H := H) Tryz.prog) C n a0 a1 s := by kernel_rfl
/-! (*tidepole/head.series).samples -/
noncomputable def f43 (O : Ops H) (C : OracleJ H) (n : Nat) (a0 : Value) (s : St H) : Option (List (Value × St H)) :=
 (O.box s a0).bind fun p1 =>
 some [((.func (.func 67) #[] #[p1.1]), p1.2)]
theorem f43_r (C : OracleJ H) (n : Nat) (a0 : Value) (s : St H) : bodyD Tryz.prog false C n 43 Tryz.f43 [a0] s = f43 (dOps (H := H) Tryz.prog) C n a0 s := by kernel_rfl
/-! slices.Collect[tidepole/api.Sample] -/
noncomputable def f47 (O : Ops H) (C : OracleJ H) (n : Nat) (a0 : Value) (s : St H) : Option (List (Value × St H)) :=
 (C (.fn 72) [(fzV 2 #[]), a0] s).bind fun L1 => manyK L1 fun v2 s3 =>
 some [(v2, s3)]
theorem f47_r (C : OracleJ H) (n : Nat) (a0 : Value) (s : St H) : bodyD Tryz.prog false C n 47 Tryz.f47 [a0] s = f47 (dOps (H := H) Tryz.prog) C n a0 s := by kernel_rfl
/-! (*tidepole/chunk.Builder).Len -/
noncomputable def f58 (O : Ops H) (C : OracleJ H) (n : Nat) (a0 : Value) (s : St H) : Option (List (Value × St H)) :=
 (C (.fn 77) [a0] s).bind fun L1 => manyK L1 fun v2 s3 =>
 (O.uop .not v2).bind fun v4 =>
 (O.boolO v4).bind fun b5 => cond b5 (
 some [((Go.Value.int Go.IntKind.i64 0), s3)]) (
 (O.nilCheck a0).bind fun v6 =>
 (O.fieldAddr 127 v6 0).bind fun v7 =>
 (O.fieldAddr 123 v7 0).bind fun v8 =>
 (O.fieldAddr 121 v8 0).bind fun v9 =>
 (O.load s3 3 v9).bind fun v10 =>
 some [(v10, s3)])
theorem f58_r (C : OracleJ H) (n : Nat) (a0 : Value) (s : St H) : bodyD Tryz.prog false C n 58 Tryz.f58 [a0] s = f58 (dOps (H := H) Tryz.prog) C n a0 s := by kernel_rfl
/-! slices.Sort[[]uint64,uint64] -/
noncomputable def f62 (O : Ops H) (C : OracleJ H) (n : Nat) (a0 : Value) (s : St H) : Option (List (Value × St H)) :=
 (O.len s 39 a0).bind fun v1 =>
 (O.conv false s 3 114 v1).bind fun p2 =>
 (C (.fn 71) [p2.1] p2.2).bind fun L3 => manyK L3 fun v4 s5 =>
 (C (.fn 86) [a0, (Go.Value.int Go.IntKind.i64 0), v1, v4] s5).bind fun L6 => manyK L6 fun v7 s8 =>
 some [(.tuple #[], s8)]
theorem f62_r (C : OracleJ H) (n : Nat) (a0 : Value) (s : St H) : bodyD Tryz.prog false C n 62 Tryz.f62 [a0] s = f62 (dOps (H := H) Tryz.prog) C n a0 s := by kernel_rfl
/-! tidepole/chunk.Join -/
def f69_l0_m (i0 : Value) (i11 : Value) (i12 : Value) (x : Value × Value × Value × Value × Value × Value × Value × Value × Value × Value × Value) : List Value := [i0, undefV, x.1, x.2.1, x.2.2.1, x.2.2.2.1, undefV, x.2.2.2.2.1, x.2.2.2.2.2.1, x.2.2.2.2.2.2.1, x.2.2.2.2.2.2.2.1, i11, i12, x.2.2.2.2.2.2.2.2.1, dc, dc, dc, dc, dc, dc, dc, dc, dc, x.2.2.2.2.2.2.2.2.2.1, dc, dc, dc, x.2.2.2.2.2.2.2.2.2.2, dc, dc, dc, dc, dc, dc, dc, dc, dc, dc, dc, dc, dc, dc, dc, dc, dc, dc, dc, dc, dc, dc, dc, undefV]
noncomputable def f69_l0 (O : Ops H) (C : OracleJ H) (n : Nat) (i11 : Value) (i12 : Value) (nx : (Value × Value × Value × Value × Value × Value × Value × Value × Value × Value × Value) → St H → Option (List (Value × St H))) (kx : Nat → (Value × Value × Value × Value × Value × Value × Value × Value × Value × Value × Value) → St H → Option (List (Value × St H))) (kr : (Value × Value × Value × Value × Value × Value × Value × Value × Value × Value × Value) → St H → Option (List (Value × St H))) (x : Value × Value × Value × Value × Value × Value × Value × Value × Value × Value × Value) (s : St H) : Option (List (Value × St H)) :=
 (O.bop .lss 3 x.2.2.2.2.2.2.2.2.1 i12).bind fun v2 =>
 (O.boolO v2).bind fun b3 => cond b3 (
 (O.indexAddr 77 i11 x.2.2.2.2.2.2.2.2.1).bind fun v4 =>
 (O.load s 99 v4).bind fun v5 =>
 (C (.fn 88) [v5, (Go.Value.int Go.IntKind.i64 0)] s).bind fun L6 => manyK L6 fun v7 s8 =>
 (O.extract v7 0).bind fun v9 =>
 (O.extract v7 1).bind fun v10 =>
 (O.extract v7 2).bind fun v11 =>
 (O.bop .neq 32 v11 (Go.Value.int Go.IntKind.i64 0)).bind fun v12 =>
 (O.boolO v12).bind fun b13 => cond b13 (
 kr ((fzV 2 #[]), v11, x.2.2.1, x.2.2.2.1, v5, v9, v10, v11, x.2.2.2.2.2.2.2.2.1, v12, x.2.2.2.2.2.2.2.2.2.2) s8) (
 jn (fun (j89_27 : Value) =>
 (O.boolO j89_27).bind fun b21 => cond b21 (
 kr ((fzV 2 #[]), (Go.Value.int Go.IntKind.i64 80), x.2.2.1, x.2.2.2.1, v5, v9, v10, v11, x.2.2.2.2.2.2.2.2.1, v12, j89_27) s8) (
 (O.append false s8 51 51 x.2.2.1 v9).bind fun p22 =>
 (O.len p22.2 51 v9).bind fun v23 =>
 (O.bop .sub 3 v23 (Go.Value.int Go.IntKind.i64 1)).bind fun v24 =>
 (O.indexAddr 51 v9 v24).bind fun v25 =>
 (O.fieldAddr 28 v25 0).bind fun v26 =>
 (O.load p22.2 3 v26).bind fun v27 =>
 bif (eqO H (O.load s8 3 v26) v27 && (eqO H (O.load p22.2 3 v26) v27 && (true))) && ((eqO H (O.len s8 51 v9) v23 && (eqO H (O.len p22.2 51 v9) v23 && (true))) && (true)) then
 (O.bop .add 3 x.2.2.2.2.2.2.2.2.1 (Go.Value.int Go.IntKind.i64 1)).bind fun v28 =>
 nx (x.1, x.2.1, p22.1, v27, v5, v9, v10, v11, v28, v12, j89_27) p22.2
 else none)) fun k89 =>
 (O.len s8 99 v5).bind fun v14 =>
 (O.bop .neq 3 v10 v14).bind fun v15 =>
 gd v15 (
 k89 (.bool true)) (
 (O.indexAddr 51 v9 (Go.Value.int Go.IntKind.i64 0)).bind fun v16 =>
 (O.fieldAddr 28 v16 0).bind fun v17 =>
 (O.load s8 3 v17).bind fun v18 =>
 (O.bop .leq 3 v18 x.2.2.2.1).bind fun v19 =>
 k89 v19) (
 none))) (
 kx 0 (x.1, x.2.1, x.2.2.1, x.2.2.2.1, x.2.2.2.2.1, x.2.2.2.2.2.1, x.2.2.2.2.2.2.1, x.2.2.2.2.2.2.2.1, x.2.2.2.2.2.2.2.2.1, x.2.2.2.2.2.2.2.2.2.1, x.2.2.2.2.2.2.2.2.2.2) s)
theorem f69_l0_b (C : OracleJ H) (n : Nat) (i0 : Value) (i11 : Value) (i12 : Value) (x : Value × Value × Value × Value × Value × Value × Value × Value × Value × Value × Value) (s : St H) (nx : List Value → St H → Option (List (Value × St H))) (K : Ex → List Value → St H → Option (List (Value × St H))) :
 exec Tryz.prog false C n 69 none (cdp Tryz.f69 [1, 1, 1, 0, 1, 0, 0]) (f69_l0_m i0 i11 i12 x) s (kIter (scratch (cdp Tryz.f69 [1, 1, 1, 0, 1, 0, 0])) nx K) = f69_l0 (dOps (H := H) Tryz.prog) C n i11 i12 (fun x s => nx (f69_l0_m i0 i11 i12 x) s) (fun i x s => K (.exit i) (f69_l0_m i0 i11 i12 x) s) (fun x s => K .ret (f69_l0_m i0 i11 i12 x) s) x s := by kernel_rfl
theorem f69_l0_e (C : OracleJ H) (n : Nat) (i0 : Value) (i11 : Value) (i12 : Value) (m : Nat) (x : Value × Value × Value × Value × Value × Value × Value × Value × Value × Value × Value) (s : St H) (K : Ex → List Value → St H → Option (List (Value × St H))) :
 iter (fun t s k => exec Tryz.prog false C n 69 none (cdp Tryz.f69 [1, 1, 1, 0, 1, 0, 0]) t s k) (scratch (cdp Tryz.f69 [1, 1, 1, 0, 1, 0, 0])) m (f69_l0_m i0 i11 i12 x) s K = iterS (f69_l0 (dOps (H := H) Tryz.prog) C n i11 i12) (fun i x s => K (.exit i) (f69_l0_m i0 i11 i12 x) s) (fun x s => K .ret (f69_l0_m i0 i11 i12 x) s) m x s :=
   iter_eq (f69_l0_m i0 i11 i12) (f69_l0 (dOps (H := H) Tryz.prog) C n i11 i12) (fun x s nx K => f69_l0_b C n i0 i11 i12 x s nx K) K m x s
noncomputable def f69 (O : Ops H) (C : OracleJ H) (n : Nat) (a0 : Value) (s : St H) : Option (List (Value × St H)) :=
 (O.len s 77 a0).bind fun v1 =>
 iterS (f69_l0 O C n a0 v1 )
 (fun i29 x30 s31 => (bif Nat.beq i29 0 then
 some [(.tuple #[x30.2.2.1, (Go.Value.int Go.IntKind.i64 0)], s31)] else none))
 (fun x32 s33 => some [(.tuple #[x32.1, x32.2.1], s33)]) n ((fzV 2 #[]), (Go.Value.int Go.IntKind.i64 0), (fzV 2 #[]), (Go.Value.int Go.IntKind.i64 (-1)), undefV, undefV, undefV, undefV, (Go.Value.int Go.IntKind.i64 0), undefV, undefV) s
theorem f69_l0_k (C : OracleJ H) (n : Nat) (i0 : Value) (i11 : Value) (i12 : Value) (i : Nat) (x : Value × Value × Value × Value × Value × Value × Value × Value × Value × Value × Value) (s : St H) : (kBlock 0 (kSeq Tryz.prog false C n 69 none (cdp Tryz.f69 [1, 1, 1, 1]) (kFun Tryz.prog Tryz.f69))) (.exit i) (f69_l0_m i0 i11 i12 x) s =
 (bif Nat.beq i 0 then
 some [(.tuple #[x.2.2.1, (Go.Value.int Go.IntKind.i64 0)], s)] else none) := by kernel_rfl
theorem f69_r (C : OracleJ H) (n : Nat) (a0 : Value) (s : St H) : bodyD Tryz.prog false C n 69 Tryz.f69 [a0] s = f69 (dOps (H := H) Tryz.prog) C n a0 s := by
  have h1 : bodyD Tryz.prog false C n 69 Tryz.f69 [a0] s =
 ((dOps (H := H) Tryz.prog).len s 77 a0).bind fun v34 =>
 iter (fun t s k => exec Tryz.prog false C n 69 none (cdp Tryz.f69 [1, 1, 1, 0, 1, 0, 0]) t s k) (scratch (cdp Tryz.f69 [1, 1, 1, 0, 1, 0, 0])) n (f69_l0_m a0 a0 v34 ((fzV 2 #[]), (Go.Value.int Go.IntKind.i64 0), (fzV 2 #[]), (Go.Value.int Go.IntKind.i64 (-1)), undefV, undefV, undefV, undefV, (Go.Value.int Go.IntKind.i64 0), undefV, undefV)) s (kBlock 0 (kSeq Tryz.prog false C n 69 none (cdp Tryz.f69 [1, 1, 1, 1]) (kFun Tryz.prog Tryz.f69))) := by kernel_rfl
  rw [h1]
  simp only [f69_l0_e, f69_l0_k]
  show _ = f69 (dOps (H := H) Tryz.prog) C n a0 s
  kernel_rfl
/-! tidepole/bits.NewWriter -/
noncomputable def f75 (O : Ops H) (C : OracleJ H) (n : Nat) (s : St H) : Option (List (Value × St H)) :=
 (O.build 153 [(2, (.bool true))]).bind fun v1 =>
 (O.build 155 [(0, v1)]).bind fun v2 =>
 (O.box s v2).bind fun p3 =>
 some [(p3.1, p3.2)]
theorem f75_r (C : OracleJ H) (n : Nat) (s : St H) : bodyD Tryz.prog false C n 75 Tryz.f75 [] s = f75 (dOps (H := H) Tryz.prog) C n s := by kernel_rfl
/-! tidepole/vint.Put -/
noncomputable def f79 (O : Ops H) (C : OracleJ H) (n : Nat) (a0 : Value) (a1 : Value) (s : St H) : Option (List (Value × St H)) :=
 (C (.fn 100) [a0, a1, (.func (.func 101) #[] #[])] s).bind fun L1 => manyK L1 fun v2 s3 =>
 some [(v2, s3)]
theorem f79_r (C : OracleJ H) (n : Nat) (a0 : Value) (a1 : Value) (s : St H) : bodyD Tryz.prog false C n 79 Tryz.f79 [a0, a1] s = f79 (dOps (H := H) Tryz.prog) C n a0 a1 s := by kernel_rfl
/-! tidepole/stamp.Put -/
noncomputable def f83 (O : Ops H) (C : OracleJ H) (n : Nat) (a0 : Value) (a1 : Value) (a2 : Value) (s : St H) : Option (List (Value × St H)) :=
 (O.box s a1).bind fun p1 =>
 (O.alloc p1.2 121).bind fun p2 =>
 (O.load p2.2 121 p1.1).bind fun v3 =>
 (C (.fn 105) [v3, a2] p2.2).bind fun L4 => manyK L4 fun v5 s6 =>
 (O.extract v5 0).bind fun v7 =>
 (O.extract v5 1).bind fun v8 =>
 (O.alloc s6 121).bind fun p9 =>
 (O.store p9.2 121 p9.1 v7).bind fun s10 =>
 jn (fun (j109_26 : Value) (js109 : St H) =>
 (O.boolO j109_26).bind fun b21 => cond b21 (
 (O.build 121 []).bind fun v22 =>
 (O.store js109 121 p2.1 v22).bind fun s23 =>
 (O.load s23 121 p2.1).bind fun v24 => some [(.tuple #[v24, (Go.Value.int Go.IntKind.i64 60)], s23)]) (
 (O.fieldAddr 121 p1.1 0).bind fun v25 =>
 (O.load js109 3 v25).bind fun v26 =>
 (O.bop .eql 3 v26 (Go.Value.int Go.IntKind.i64 0)).bind fun v27 =>
 (O.boolO v27).bind fun b28 => cond b28 (
 (O.load js109 121 p9.1).bind fun v29 =>
 (O.conv false js109 3 26 a2).bind fun p30 =>
 (oneO C (.fn 108) [a0, p30.1, (Go.Value.int Go.IntKind.i64 46)] p30.2).bind fun p31 =>
 (oneO C (.fn 107) [v29, p31.1] p31.2).bind fun p32 =>
 (O.extract p32.1 0).bind fun v33 =>
 (O.extract p32.1 1).bind fun v34 =>
 (O.store p32.2 121 p2.1 v33).bind fun s35 =>
 bif (eqO H (O.load js109 121 p9.1) v29 && (eqO H (O.load p31.2 121 p9.1) v29 && (true))) && (true) then
 (O.load s35 121 p2.1).bind fun v36 => some [(.tuple #[v36, v34], s35)]
 else none) (
 (O.fieldAddr 121 p9.1 2).bind fun v37 =>
 (O.load js109 3 v37).bind fun v38 =>
 (O.fieldAddr 121 p1.1 2).bind fun v39 =>
 (O.load js109 3 v39).bind fun v40 =>
 (O.bop .sub 3 v38 v40).bind fun v41 =>
 (O.bop .shl 3 v41 (Go.Value.int Go.IntKind.u64 1)).bind fun v42 =>
 (O.bop .shr 3 v41 (Go.Value.int Go.IntKind.u64 63)).bind fun v43 =>
 (O.bop .xor 3 v42 v43).bind fun v44 =>
 (O.conv false js109 3 26 v44).bind fun p45 =>
 (C (.fn 109) [p45.1] p45.2).bind fun L46 => manyK L46 fun v47 s48 =>
 (O.indexAddr 167 (gpV 0 0) v47).bind fun v49 =>
 (O.load s48 166 v49).bind fun v50 =>
 (O.alloc s48 166).bind fun p51 =>
 (O.store p51.2 166 p51.1 v50).bind fun s52 =>
 (O.fieldAddr 166 p51.1 0).bind fun v53 =>
 (O.load s52 3 v53).bind fun v54 =>
 (O.bop .shl 26 (Go.Value.int Go.IntKind.u64 1) v54).bind fun v55 =>
 (O.bop .sub 26 v55 (Go.Value.int Go.IntKind.u64 1)).bind fun v56 =>
 (O.fieldAddr 166 p51.1 1).bind fun v57 =>
 (O.load s52 3 v57).bind fun v58 =>
 (O.bop .shl 26 v56 v58).bind fun v59 =>
 (O.fieldAddr 166 p51.1 0).bind fun v60 =>
 (O.load s52 3 v60).bind fun v61 =>
 (O.fieldAddr 166 p51.1 1).bind fun v62 =>
 (O.load s52 3 v62).bind fun v63 =>
 (O.bop .add 3 v61 v63).bind fun v64 =>
 (oneO C (.fn 108) [a0, v59, v64] s52).bind fun p65 =>
 (O.bop .neq 32 p65.1 (Go.Value.int Go.IntKind.i64 0)).bind fun v66 =>
 (O.boolO v66).bind fun b67 => cond b67 (
 (O.build 121 []).bind fun v68 =>
 (O.store p65.2 121 p2.1 v68).bind fun s69 =>
 (O.load s69 121 p2.1).bind fun v70 => some [(.tuple #[v70, p65.1], s69)]) (
 (O.load p65.2 121 p9.1).bind fun v71 =>
 (O.fieldAddr 166 p51.1 2).bind fun v72 =>
 (O.load p65.2 3 v72).bind fun v73 =>
 (oneO C (.fn 108) [a0, p45.1, v73] p65.2).bind fun p74 =>
 (oneO C (.fn 107) [v71, p74.1] p74.2).bind fun p75 =>
 (O.extract p75.1 0).bind fun v76 =>
 (O.extract p75.1 1).bind fun v77 =>
 (O.store p75.2 121 p2.1 v76).bind fun s78 =>
 bif (eqO H (O.load p65.2 121 p9.1) v71 && (eqO H (O.load p74.2 121 p9.1) v71 && (true))) && (true) then
 (O.load s78 121 p2.1).bind fun v79 => some [(.tuple #[v79, v77], s78)]
 else none)))) fun k109 =>
 (O.uop .not v8).bind fun v11 =>
 gd v11 (
 k109 (.bool true) s10) (
 (O.load s10 121 p1.1).bind fun v12 =>
 (C (.fn 106) [v12] s10).bind fun L13 => manyK L13 fun v14 s15 =>
 (O.uop .not v14).bind fun v16 =>
 k109 v16 s15) (
 none)
theorem f83_r (C : OracleJ H) (n : Nat) (a0 : Value) (a1 : Value) (a2 : Value) (s : St H) : bodyD Tryz.prog false C n 83 Tryz.f83 [a0, a1, a2] s = f83 (dOps (H := H) Tryz.prog) C n a0 a1 a2 s := by kernel_rfl
/-! tidepole/chunk.Read -/
noncomputable def f88 (O : Ops H) (C : OracleJ H) (n : Nat) (a0 : Value) (a1 : Value) (s : St H) : Option (List (Value × St H)) :=
 (C (.fn 126) [a0, a1] s).bind fun L1 => manyK L1 fun v2 s3 =>
 (O.extract v2 0).bind fun v4 =>
 (O.extract v2 1).bind fun v5 =>
 (O.alloc s3 184).bind fun p6 =>
 (O.store p6.2 184 p6.1 v4).bind fun s7 =>
 (O.bop .neq 32 v5 (Go.Value.int Go.IntKind.i64 0)).bind fun v8 =>
 (O.boolO v8).bind fun b9 => cond b9 (
 some [(.tuple #[(fzV 2 #[]), (Go.Value.int Go.IntKind.i64 0), v5], s7)]) (
 (O.fieldAddr 184 p6.1 1).bind fun v10 =>
 (O.load s7 3 v10).bind fun v11 =>
 (O.fieldAddr 184 p6.1 2).bind fun v12 =>
 (O.load s7 3 v12).bind fun v13 =>
 (O.slc s7 99 a0 (some v11) (some v13) none).bind fun v14 =>
 (C (.fn 127) [v14] s7).bind fun L15 => manyK L15 fun v16 s17 =>
 (O.fieldAddr 184 p6.1 0).bind fun v18 =>
 (O.load s17 3 v18).bind fun v19 =>
 (C (.fn 128) [v16, v19] s17).bind fun L20 => manyK L20 fun v21 s22 =>
 (C (.fn 47) [v21] s22).bind fun L23 => manyK L23 fun v24 s25 =>
 (O.len s25 51 v24).bind fun v26 =>
 (O.fieldAddr 184 p6.1 0).bind fun v27 =>
 (O.load s25 3 v27).bind fun v28 =>
 (O.bop .neq 3 v26 v28).bind fun v29 =>
 gd v29 (
 some [(.tuple #[(fzV 2 #[]), (Go.Value.int Go.IntKind.i64 0), (Go.Value.int Go.IntKind.i64 80)], s25)]) (
 (C (.fn 129) [v16] s25).bind fun L30 => manyK L30 fun v31 s32 =>
 (O.uop .not v31).bind fun v33 =>
 (O.boolO v33).bind fun b36 => cond b36 (
 some [(.tuple #[(fzV 2 #[]), (Go.Value.int Go.IntKind.i64 0), (Go.Value.int Go.IntKind.i64 80)], s32)]) (
 (O.fieldAddr 184 p6.1 2).bind fun v37 =>
 (O.load s32 3 v37).bind fun v38 =>
 (O.bop .add 3 v38 (Go.Value.int Go.IntKind.i64 4)).bind fun v39 =>
 some [(.tuple #[v24, v39, (Go.Value.int Go.IntKind.i64 0)], s32)])) (
 none))
theorem f88_r (C : OracleJ H) (n : Nat) (a0 : Value) (a1 : Value) (s : St H) : bodyD Tryz.prog false C n 88 Tryz.f88 [a0, a1] s = f88 (dOps (H := H) Tryz.prog) C n a0 a1 s := by kernel_rfl
/-! slices.choosePivotOrdered[int] -/
noncomputable def f92 (O : Ops H) (C : OracleJ H) (n : Nat) (a0 : Value) (a1 : Value) (a2 : Value) (s : St H) : Option (List (Value × St H)) :=
 (O.bop .sub 3 a2 a1).bind fun v1 =>
 (O.alloc s 3).bind fun p2 =>
 (O.bop .quo 3 v1 (Go.Value.int Go.IntKind.i64 4)).bind fun v3 =>
 (O.bop .mul 3 v3 (Go.Value.int Go.IntKind.i64 1)).bind fun v4 =>
 (O.bop .add 3 a1 v4).bind fun v5 =>
 (O.bop .quo 3 v1 (Go.Value.int Go.IntKind.i64 4)).bind fun v6 =>
 (O.bop .mul 3 v6 (Go.Value.int Go.IntKind.i64 2)).bind fun v7 =>
 (O.bop .add 3 a1 v7).bind fun v8 =>
 (O.bop .quo 3 v1 (Go.Value.int Go.IntKind.i64 4)).bind fun v9 =>
 (O.bop .mul 3 v9 (Go.Value.int Go.IntKind.i64 3)).bind fun v10 =>
 (O.bop .add 3 a1 v10).bind fun v11 =>
 (O.bop .geq 3 v1 (Go.Value.int Go.IntKind.i64 8)).bind fun v12 =>
 jn (fun (j144_11 : Value) (js144 : St H) =>
 (O.load js144 3 p2.1).bind fun v36 =>
 (O.bop .eql 3 v36 (Go.Value.int Go.IntKind.i64 0)).bind fun v37 =>
 (O.boolO v37).bind fun b38 => cond b38 (
 some [(.tuple #[j144_11, (Go.Value.int Go.IntKind.i64 1)], js144)]) (
 (O.bop .eql 3 v36 (Go.Value.int Go.IntKind.i64 12)).bind fun v39 =>
 (O.boolO v39).bind fun b40 => cond b40 (
 some [(.tuple #[j144_11, (Go.Value.int Go.IntKind.i64 2)], js144)]) (
 some [(.tuple #[j144_11, (Go.Value.int Go.IntKind.i64 0)], js144)]))) fun k144 =>
 (O.boolO v12).bind fun b13 => cond b13 (
 (O.bop .geq 3 v1 (Go.Value.int Go.IntKind.i64 50)).bind fun v14 =>
 jn (fun (j146_10 : Value) (j146_11 : Value) (j146_12 : Value) (js146 : St H) =>
 (C (.fn 134) [a0, j146_10, j146_11, j146_12, p2.1] js146).bind fun L28 => manyK L28 fun v29 s30 =>
 k144 v29 s30) fun k146 =>
 (O.boolO v14).bind fun b15 => cond b15 (
 (C (.fn 133) [a0, v5, p2.1] p2.2).bind fun L16 => manyK L16 fun v17 s18 =>
 (C (.fn 133) [a0, v8, p2.1] s18).bind fun L19 => manyK L19 fun v20 s21 =>
 (C (.fn 133) [a0, v11, p2.1] s21).bind fun L22 => manyK L22 fun v23 s24 =>
 k146 v17 v20 v23 s24) (
 k146 v5 v8 v11 p2.2)) (
 k144 v8 p2.2)
theorem f92_r (C : OracleJ H) (n : Nat) (a0 : Value) (a1 : Value) (a2 : Value) (s : St H) : bodyD Tryz.prog false C n 92 Tryz.f92 [a0, a1, a2] s = f92 (dOps (H := H) Tryz.prog) C n a0 a1 a2 s := by kernel_rfl
/-! slices.partitionOrdered[int] -/
def f97_l0_m (i0 : Value) (i1 : Value) (i2 : Value) (i3 : Value) (i11 : Value) (i12 : Value) (i13 : Value) (i14 : Value) (i15 : Value) (i16 : Value) (i17 : Value) (i18 : Value) (i19 : Value) (i20 : Value) (i21 : Value) (i22 : Value) (i23 : Value) (i24 : Value) (i25 : Value) (i26 : Value) (i27 : Value) (i28 : Value) (i29 : Value) (x : Value) : List Value := [i0, i1, i2, i3, undefV, undefV, undefV, undefV, (Go.Value.int Go.IntKind.i64 0), (.bool false), x, i11, i12, i13, i14, i15, i16, i17, i18, i19, i20, i21, i22, i23, i24, i25, i26, i27, i28, i29, dc, dc, dc, dc, dc, dc, dc, dc, dc, dc, dc, dc, dc, dc, dc, dc, undefV, undefV, undefV, undefV, undefV, undefV, undefV, undefV, undefV, undefV, undefV, undefV, undefV, undefV, undefV, undefV, undefV, undefV, undefV, undefV, undefV, undefV, undefV, undefV, undefV, undefV, undefV, undefV, undefV, undefV, undefV, undefV, undefV, undefV, undefV, undefV, undefV, undefV, undefV, undefV, undefV, undefV, undefV, undefV, undefV, undefV, undefV, undefV, undefV, undefV, undefV, undefV, undefV, undefV, undefV, undefV, undefV, undefV, undefV, undefV, undefV, undefV, undefV, undefV, undefV, undefV, undefV, undefV, undefV, undefV, undefV, undefV, undefV, undefV, undefV, undefV, undefV, undefV, undefV, undefV, undefV, undefV, undefV, undefV, undefV, undefV, undefV, undefV, undefV, undefV, undefV, undefV, undefV, undefV, undefV, undefV, undefV, undefV, undefV, undefV, undefV, undefV, undefV, undefV, undefV, undefV, undefV, undefV, undefV, undefV, undefV, undefV, undefV, undefV, undefV, undefV, undefV, undefV, undefV, undefV, undefV, undefV]
noncomputable def f97_l0 (O : Ops H) (C : OracleJ H) (n : Nat) (i0 : Value) (i1 : Value) (i11 : Value) (nx : Value → St H → Option (List (Value × St H))) (kx : Nat → Value → St H → Option (List (Value × St H))) (kr : Value → St H → Option (List (Value × St H))) (x : Value) (s : St H) : Option (List (Value × St H)) :=
 jn (fun (j174_43 : Value) (js174 : St H) =>
 (O.boolO j174_43).bind fun b19 => cond b19 (
 (O.bop .add 3 x (Go.Value.int Go.IntKind.i64 1)).bind fun v20 =>
 nx v20 js174) (
 kx 0 x js174)) fun k174 =>
 (O.bop .leq 3 x i11).bind fun v11 =>
 gd v11 (
 (O.indexAddr 47 i0 x).bind fun v12 =>
 (O.load s 3 v12).bind fun v13 =>
 (O.indexAddr 47 i0 i1).bind fun v14 =>
 (O.load s 3 v14).bind fun v15 =>
 (oneO C (.fn 95) [v13, v15] s).bind fun p16 =>
 k174 p16.1 p16.2) (
 k174 (.bool false) s) (
 none)
theorem f97_l0_b (C : OracleJ H) (n : Nat) (i0 : Value) (i1 : Value) (i2 : Value) (i3 : Value) (i11 : Value) (i12 : Value) (i13 : Value) (i14 : Value) (i15 : Value) (i16 : Value) (i17 : Value) (i18 : Value) (i19 : Value) (i20 : Value) (i21 : Value) (i22 : Value) (i23 : Value) (i24 : Value) (i25 : Value) (i26 : Value) (i27 : Value) (i28 : Value) (i29 : Value) (x : Value) (s : St H) (nx : List Value → St H → Option (List (Value × St H))) (K : Ex → List Value → St H → Option (List (Value × St H))) :
 exec Tryz.prog false C n 97 none (cdp Tryz.f97 [1, 1, 1, 0, 0, 0]) (f97_l0_m i0 i1 i2 i3 i11 i12 i13 i14 i15 i16 i17 i18 i19 i20 i21 i22 i23 i24 i25 i26 i27 i28 i29 x) s (kIter (scratch (cdp Tryz.f97 [1, 1, 1, 0, 0, 0])) nx K) = f97_l0 (dOps (H := H) Tryz.prog) C n i0 i1 i11 (fun x s => nx (f97_l0_m i0 i1 i2 i3 i11 i12 i13 i14 i15 i16 i17 i18 i19 i20 i21 i22 i23 i24 i25 i26 i27 i28 i29 x) s) (fun i x s => K (.exit i) (f97_l0_m i0 i1 i2 i3 i11 i12 i13 i14 i15 i16 i17 i18 i19 i20 i21 i22 i23 i24 i25 i26 i27 i28 i29 x) s) (fun x s => K .ret (f97_l0_m i0 i1 i2 i3 i11 i12 i13 i14 i15 i16 i17 i18 i19 i20 i21 i22 i23 i24 i25 i26 i27 i28 i29 x) s) x s := by kernel_rfl
theorem f97_l0_e (C : OracleJ H) (n : Nat) (i0 : Value) (i1 : Value) (i2 : Value) (i3 : Value) (i11 : Value) (i12 : Value) (i13 : Value) (i14 : Value) (i15 : Value) (i16 : Value) (i17 : Value) (i18 : Value) (i19 : Value) (i20 : Value) (i21 : Value) (i22 : Value) (i23 : Value) (i24 : Value) (i25 : Value) (i26 : Value) (i27 : Value) (i28 : Value) (i29 : Value) (m : Nat) (x : Value) (s : St H) (K : Ex → List Value → St H → Option (List (Value × St H))) :
 iter (fun t s k => exec Tryz.prog false C n 97 none (cdp Tryz.f97 [1, 1, 1, 0, 0, 0]) t s k) (scratch (cdp Tryz.f97 [1, 1, 1, 0, 0, 0])) m (f97_l0_m i0 i1 i2 i3 i11 i12 i13 i14 i15 i16 i17 i18 i19 i20 i21 i22 i23 i24 i25 i26 i27 i28 i29 x) s K = iterS (f97_l0 (dOps (H := H) Tryz.prog) C n i0 i1 i11) (fun i x s => K (.exit i) (f97_l0_m i0 i1 i2 i3 i11 i12 i13 i14 i15 i16 i17 i18 i19 i20 i21 i22 i23 i24 i25 i26 i27 i28 i29 x) s) (fun x s => K .ret (f97_l0_m i0 i1 i2 i3 i11 i12 i13 i14 i15 i16 i17 i18 i19 i20 i21 i22 i23 i24 i25 i26 i27 i28 i29 x) s) m x s :=
   iter_eq (f97_l0_m i0 i1 i2 i3 i11 i12 i13 i14 i15 i16 i17 i18 i19 i20 i21 i22 i23 i24 i25 i26 i27 i28 i29) (f97_l0 (dOps (H := H) Tryz.prog) C n i0 i1 i11) (fun x s nx K => f97_l0_b C n i0 i1 i2 i3 i11 i12 i13 i14 i15 i16 i17 i18 i19 i20 i21 i22 i23 i24 i25 i26 i27 i28 i29 x s nx K) K m x s
def f97_l1_m (i0 : Value) (i1 : Value) (i2 : Value) (i3 : Value) (i10 : Value) (i12 : Value) (i13 : Value) (i14 : Value) (i15 : Value) (i16 : Value) (i17 : Value) (i18 : Value) (i19 : Value) (i20 : Value) (i21 : Value) (i22 : Value) (i23 : Value) (i24 : Value) (i25 : Value) (i26 : Value) (i27 : Value) (i28 : Value) (i29 : Value) (x : Value) : List Value := [i0, i1, i2, i3, undefV, undefV, undefV, undefV, (Go.Value.int Go.IntKind.i64 0), (.bool false), i10, x, i12, i13, i14, i15, i16, i17, i18, i19, i20, i21, i22, i23, i24, i25, i26, i27, i28, i29, dc, dc, dc, dc, dc, dc, dc, dc, dc, dc, dc, dc, dc, dc, dc, dc, dc, dc, dc, dc, dc, dc, dc, dc, dc, dc, dc, dc, dc, dc, dc, dc, dc, undefV, undefV, undefV, undefV, undefV, undefV, undefV, undefV, undefV, undefV, undefV, undefV, undefV, undefV, undefV, undefV, undefV, undefV, undefV, undefV, undefV, undefV, undefV, undefV, undefV, undefV, undefV, undefV, undefV, undefV, undefV, undefV, undefV, undefV, undefV, undefV, undefV, undefV, undefV, undefV, undefV, undefV, undefV, undefV, undefV, undefV, undefV, undefV, undefV, undefV, undefV, undefV, undefV, undefV, undefV, undefV, undefV, undefV, undefV, undefV, undefV, undefV, undefV, undefV, undefV, undefV, undefV, undefV, undefV, undefV, undefV, undefV, undefV, undefV, undefV, undefV, undefV, undefV, undefV, undefV, undefV, undefV, undefV, undefV, undefV, undefV, undefV, undefV, undefV, undefV, undefV, undefV, undefV, undefV, undefV, undefV, undefV, undefV, undefV, undefV, undefV, undefV, undefV, undefV, undefV]
noncomputable def f97_l1 (O : Ops H) (C : OracleJ H) (n : Nat) (i0 : Value) (i1 : Value) (i10 : Value) (nx : Value → St H → Option (List (Value × St H))) (kx : Nat → Value → St H → Option (List (Value × St H))) (kr : Value → St H → Option (List (Value × St H))) (x : Value) (s : St H) : Option (List (Value × St H)) :=
 jn (fun (j182_60 : Value) (js182 : St H) =>
 (O.boolO j182_60).bind fun b35 => cond b35 (
 (O.bop .sub 3 x (Go.Value.int Go.IntKind.i64 1)).bind fun v36 =>
 nx v36 js182) (
 kx 2 x js182)) fun k182 =>
 (O.bop .leq 3 i10 x).bind fun v26 =>
 gd v26 (
 (O.indexAddr 47 i0 x).bind fun v27 =>
 (O.load s 3 v27).bind fun v28 =>
 (O.indexAddr 47 i0 i1).bind fun v29 =>
 (O.load s 3 v29).bind fun v30 =>
 (oneO C (.fn 95) [v28, v30] s).bind fun p31 =>
 (O.uop .not p31.1).bind fun v32 =>
 k182 v32 p31.2) (
 k182 (.bool false) s) (
 none)
theorem f97_l1_b (C : OracleJ H) (n : Nat) (i0 : Value) (i1 : Value) (i2 : Value) (i3 : Value) (i10 : Value) (i12 : Value) (i13 : Value) (i14 : Value) (i15 : Value) (i16 : Value) (i17 : Value) (i18 : Value) (i19 : Value) (i20 : Value) (i21 : Value) (i22 : Value) (i23 : Value) (i24 : Value) (i25 : Value) (i26 : Value) (i27 : Value) (i28 : Value) (i29 : Value) (x : Value) (s : St H) (nx : List Value → St H → Option (List (Value × St H))) (K : Ex → List Value → St H → Option (List (Value × St H))) :
 exec Tryz.prog false C n 97 none (cdp Tryz.f97 [1, 1, 1, 1, 0, 0, 0]) (f97_l1_m i0 i1 i2 i3 i10 i12 i13 i14 i15 i16 i17 i18 i19 i20 i21 i22 i23 i24 i25 i26 i27 i28 i29 x) s (kIter (scratch (cdp Tryz.f97 [1, 1, 1, 1, 0, 0, 0])) nx K) = f97_l1 (dOps (H := H) Tryz.prog) C n i0 i1 i10 (fun x s => nx (f97_l1_m i0 i1 i2 i3 i10 i12 i13 i14 i15 i16 i17 i18 i19 i20 i21 i22 i23 i24 i25 i26 i27 i28 i29 x) s) (fun i x s => K (.exit i) (f97_l1_m i0 i1 i2 i3 i10 i12 i13 i14 i15 i16 i17 i18 i19 i20 i21 i22 i23 i24 i25 i26 i27 i28 i29 x) s) (fun x s => K .ret (f97_l1_m i0 i1 i2 i3 i10 i12 i13 i14 i15 i16 i17 i18 i19 i20 i21 i22 i23 i24 i25 i26 i27 i28 i29 x) s) x s := by kernel_rfl
theorem f97_l1_e (C : OracleJ H) (n : Nat) (i0 : Value) (i1 : Value) (i2 : Value) (i3 : Value) (i10 : Value) (i12 : Value) (i13 : Value) (i14 : Value) (i15 : Value) (i16 : Value) (i17 : Value) (i18 : Value) (i19 : Value) (i20 : Value) (i21 : Value) (i22 : Value) (i23 : Value) (i24 : Value) (i25 : Value) (i26 : Value) (i27 : Value) (i28 : Value) (i29 : Value) (m : Nat) (x : Value) (s : St H) (K : Ex → List Value → St H → Option (List (Value × St H))) :
 iter (fun t s k => exec Tryz.prog false C n 97 none (cdp Tryz.f97 [1, 1, 1, 1, 0, 0, 0]) t s k) (scratch (cdp Tryz.f97 [1, 1, 1, 1, 0, 0, 0])) m (f97_l1_m i0 i1 i2 i3 i10 i12 i13 i14 i15 i16 i17 i18 i19 i20 i21 i22 i23 i24 i25 i26 i27 i28 i29 x) s K = iterS (f97_l1 (dOps (H := H) Tryz.prog) C n i0 i1 i10) (fun i x s => K (.exit i) (f97_l1_m i0 i1 i2 i3 i10 i12 i13 i14 i15 i16 i17 i18 i19 i20 i21 i22 i23 i24 i25 i26 i27 i28 i29 x) s) (fun x s => K .ret (f97_l1_m i0 i1 i2 i3 i10 i12 i13 i14 i15 i16 i17 i18 i19 i20 i21 i22 i23 i24 i25 i26 i27 i28 i29 x) s) m x s :=
   iter_eq (f97_l1_m i0 i1 i2 i3 i10 i12 i13 i14 i15 i16 i17 i18 i19 i20 i21 i22 i23 i24 i25 i26 i27 i28 i29) (f97_l1 (dOps (H := H) Tryz.prog) C n i0 i1 i10) (fun x s nx K => f97_l1_b C n i0 i1 i2 i3 i10 i12 i13 i14 i15 i16 i17 i18 i19 i20 i21 i22 i23 i24 i25 i26 i27 i28 i29 x s nx K) K m x s
def f97_l3_m (i0 : Value) (i1 : Value) (i2 : Value) (i3 : Value) (i11 : Value) (i12 : Value) (i13 : Value) (i14 : Value) (i15 : Value) (i16 : Value) (i17 : Value) (i18 : Value) (i19 : Value) (i20 : Value) (i21 : Value) (i22 : Value) (i23 : Value) (i24 : Value) (i25 : Value) (i26 : Value) (i27 : Value) (i28 : Value) (i29 : Value) (i63 : Value) (i64 : Value) (i65 : Value) (i81 : Value) (i82 : Value) (i83 : Value) (i84 : Value) (i85 : Value) (i86 : Value) (i87 : Value) (i88 : Value) (i89 : Value) (i90 : Value) (i91 : Value) (i92 : Value) (i93 : Value) (i94 : Value) (i95 : Value) (i96 : Value) (i97 : Value) (i98 : Value) (x : Value) : List Value := [i0, i1, i2, i3, undefV, undefV, undefV, undefV, (Go.Value.int Go.IntKind.i64 0), (.bool false), x, i11, i12, i13, i14, i15, i16, i17, i18, i19, i20, i21, i22, i23, i24, i25, i26, i27, i28, i29, dc, dc, dc, dc, dc, dc, dc, dc, dc, dc, dc, dc, dc, dc, dc, dc, dc, dc, dc, dc, dc, dc, dc, dc, dc, dc, dc, dc, dc, dc, dc, dc, dc, i63, i64, i65, undefV, undefV, undefV, undefV, undefV, undefV, undefV, undefV, undefV, undefV, undefV, undefV, undefV, undefV, undefV, i81, i82, i83, i84, i85, i86, i87, i88, i89, i90, i91, i92, i93, i94, i95, i96, i97, i98, dc, dc, dc, dc, dc, dc, dc, dc, dc, dc, dc, dc, dc, dc, dc, dc, dc, dc, dc, dc, dc, dc, dc, dc, dc, dc, dc, dc, dc, dc, dc, dc, dc, dc, dc, dc, dc, dc, dc, dc, dc, dc, dc, dc, dc, dc, dc, dc, dc, dc, dc, dc, dc, dc, undefV, undefV, undefV, undefV, undefV, undefV, undefV, undefV, undefV, undefV, undefV, undefV, undefV, undefV, undefV]
noncomputable def f97_l3 (O : Ops H) (C : OracleJ H) (n : Nat) (i0 : Value) (i1 : Value) (i11 : Value) (i64 : Value) (nx : Value → St H → Option (List (Value × St H))) (kx : Nat → Value → St H → Option (List (Value × St H))) (kr : Value → St H → Option (List (Value × St H))) (x : Value) (s : St H) : Option (List (Value × St H)) :=
 jn (fun (j199_112 : Value) (js199 : St H) =>
 (O.boolO j199_112).bind fun b70 => cond b70 (
 (O.bop .add 3 x (Go.Value.int Go.IntKind.i64 1)).bind fun v71 =>
 nx v71 js199) (
 kx 6 x js199)) fun k199 =>
 (O.bop .leq 3 x i11).bind fun v62 =>
 gd v62 (
 (O.indexAddr 47 i0 x).bind fun v63 =>
 (O.load s 3 v63).bind fun v64 =>
 (O.indexAddr 47 i0 i1).bind fun v65 =>
 (O.load s 3 v65).bind fun v66 =>
 (oneO C (.fn 95) [v64, v66] s).bind fun p67 =>
 k199 p67.1 p67.2) (
 k199 (.bool false) s) (
 none)
theorem f97_l3_b (C : OracleJ H) (n : Nat) (i0 : Value) (i1 : Value) (i2 : Value) (i3 : Value) (i11 : Value) (i12 : Value) (i13 : Value) (i14 : Value) (i15 : Value) (i16 : Value) (i17 : Value) (i18 : Value) (i19 : Value) (i20 : Value) (i21 : Value) (i22 : Value) (i23 : Value) (i24 : Value) (i25 : Value) (i26 : Value) (i27 : Value) (i28 : Value) (i29 : Value) (i63 : Value) (i64 : Value) (i65 : Value) (i81 : Value) (i82 : Value) (i83 : Value) (i84 : Value) (i85 : Value) (i86 : Value) (i87 : Value) (i88 : Value) (i89 : Value) (i90 : Value) (i91 : Value) (i92 : Value) (i93 : Value) (i94 : Value) (i95 : Value) (i96 : Value) (i97 : Value) (i98 : Value) (x : Value) (s : St H) (nx : List Value → St H → Option (List (Value × St H))) (K : Ex → List Value → St H → Option (List (Value × St H))) :
 exec Tryz.prog false C n 97 none (cdp Tryz.f97 [1, 1, 1, 1, 1, 1, 1, 1, 1, 0, 0, 0, 0, 0, 0, 0]) (f97_l3_m i0 i1 i2 i3 i11 i12 i13 i14 i15 i16 i17 i18 i19 i20 i21 i22 i23 i24 i25 i26 i27 i28 i29 i63 i64 i65 i81 i82 i83 i84 i85 i86 i87 i88 i89 i90 i91 i92 i93 i94 i95 i96 i97 i98 x) s (kIter (scratch (cdp Tryz.f97 [1, 1, 1, 1, 1, 1, 1, 1, 1, 0, 0, 0, 0, 0, 0, 0])) nx K) = f97_l3 (dOps (H := H) Tryz.prog) C n i0 i1 i11 i64 (fun x s => nx (f97_l3_m i0 i1 i2 i3 i11 i12 i13 i14 i15 i16 i17 i18 i19 i20 i21 i22 i23 i24 i25 i26 i27 i28 i29 i63 i64 i65 i81 i82 i83 i84 i85 i86 i87 i88 i89 i90 i91 i92 i93 i94 i95 i96 i97 i98 x) s) (fun i x s => K (.exit i) (f97_l3_m i0 i1 i2 i3 i11 i12 i13 i14 i15 i16 i17 i18 i19 i20 i21 i22 i23 i24 i25 i26 i27 i28 i29 i63 i64 i65 i81 i82 i83 i84 i85 i86 i87 i88 i89 i90 i91 i92 i93 i94 i95 i96 i97 i98 x) s) (fun x s => K .ret (f97_l3_m i0 i1 i2 i3 i11 i12 i13 i14 i15 i16 i17 i18 i19 i20 i21 i22 i23 i24 i25 i26 i27 i28 i29 i63 i64 i65 i81 i82 i83 i84 i85 i86 i87 i88 i89 i90 i91 i92 i93 i94 i95 i96 i97 i98 x) s) x s := by kernel_rfl
theorem f97_l3_e (C : OracleJ H) (n : Nat) (i0 : Value) (i1 : Value) (i2 : Value) (i3 : Value) (i11 : Value) (i12 : Value) (i13 : Value) (i14 : Value) (i15 : Value) (i16 : Value) (i17 : Value) (i18 : Value) (i19 : Value) (i20 : Value) (i21 : Value) (i22 : Value) (i23 : Value) (i24 : Value) (i25 : Value) (i26 : Value) (i27 : Value) (i28 : Value) (i29 : Value) (i63 : Value) (i64 : Value) (i65 : Value) (i81 : Value) (i82 : Value) (i83 : Value) (i84 : Value) (i85 : Value) (i86 : Value) (i87 : Value) (i88 : Value) (i89 : Value) (i90 : Value) (i91 : Value) (i92 : Value) (i93 : Value) (i94 : Value) (i95 : Value) (i96 : Value) (i97 : Value) (i98 : Value) (m : Nat) (x : Value) (s : St H) (K : Ex → List Value → St H → Option (List (Value × St H))) :
 iter (fun t s k => exec Tryz.prog false C n 97 none (cdp Tryz.f97 [1, 1, 1, 1, 1, 1, 1, 1, 1, 0, 0, 0, 0, 0, 0, 0]) t s k) (scratch (cdp Tryz.f97 [1, 1, 1, 1, 1, 1, 1, 1, 1, 0, 0, 0, 0, 0, 0, 0])) m (f97_l3_m i0 i1 i2 i3 i11 i12 i13 i14 i15 i16 i17 i18 i19 i20 i21 i22 i23 i24 i25 i26 i27 i28 i29 i63 i64 i65 i81 i82 i83 i84 i85 i86 i87 i88 i89 i90 i91 i92 i93 i94 i95 i96 i97 i98 x) s K = iterS (f97_l3 (dOps (H := H) Tryz.prog) C n i0 i1 i11 i64) (fun i x s => K (.exit i) (f97_l3_m i0 i1 i2 i3 i11 i12 i13 i14 i15 i16 i17 i18 i19 i20 i21 i22 i23 i24 i25 i26 i27 i28 i29 i63 i64 i65 i81 i82 i83 i84 i85 i86 i87 i88 i89 i90 i91 i92 i93 i94 i95 i96 i97 i98 x) s) (fun x s => K .ret (f97_l3_m i0 i1 i2 i3 i11 i12 i13 i14 i15 i16 i17 i18 i19 i20 i21 i22 i23 i24 i25 i26 i27 i28 i29 i63 i64 i65 i81 i82 i83 i84 i85 i86 i87 i88 i89 i90 i91 i92 i93 i94 i95 i96 i97 i98 x) s) m x s :=
   iter_eq (f97_l3_m i0 i1 i2 i3 i11 i12 i13 i14 i15 i16 i17 i18 i19 i20 i21 i22 i23 i24 i25 i26 i27 i28 i29 i63 i64 i65 i81 i82 i83 i84 i85 i86 i87 i88 i89 i90 i91 i92 i93 i94 i95 i96 i97 i98) (f97_l3 (dOps (H := H) Tryz.prog) C n i0 i1 i11 i64) (fun x s nx K => f97_l3_b C n i0 i1 i2 i3 i11 i12 i13 i14 i15 i16 i17 i18 i19 i20 i21 i22 i23 i24 i25 i26 i27 i28 i29 i63 i64 i65 i81 i82 i83 i84 i85 i86 i87 i88 i89 i90 i91 i92 i93 i94 i95 i96 i97 i98 x s nx K) K m x s
def f97_l4_m (i0 : Value) (i1 : Value) (i2 : Value) (i3 : Value) (i10 : Value) (i12 : Value) (i13 : Value) (i14 : Value) (i15 : Value) (i16 : Value) (i17 : Value) (i18 : Value) (i19 : Value) (i20 : Value) (i21 : Value) (i22 : Value) (i23 : Value) (i24 : Value) (i25 : Value) (i26 : Value) (i27 : Value) (i28 : Value) (i29 : Value) (i63 : Value) (i64 : Value) (i65 : Value) (i81 : Value) (i82 : Value) (i83 : Value) (i84 : Value) (i85 : Value) (i86 : Value) (i87 : Value) (i88 : Value) (i89 : Value) (i90 : Value) (i91 : Value) (i92 : Value) (i93 : Value) (i94 : Value) (i95 : Value) (i96 : Value) (i97 : Value) (i98 : Value) (x : Value) : List Value := [i0, i1, i2, i3, undefV, undefV, undefV, undefV, (Go.Value.int Go.IntKind.i64 0), (.bool false), i10, x, i12, i13, i14, i15, i16, i17, i18, i19, i20, i21, i22, i23, i24, i25, i26, i27, i28, i29, dc, dc, dc, dc, dc, dc, dc, dc, dc, dc, dc, dc, dc, dc, dc, dc, dc, dc, dc, dc, dc, dc, dc, dc, dc, dc, dc, dc, dc, dc, dc, dc, dc, i63, i64, i65, undefV, undefV, undefV, undefV, undefV, undefV, undefV, undefV, undefV, undefV, undefV, undefV, undefV, undefV, undefV, i81, i82, i83, i84, i85, i86, i87, i88, i89, i90, i91, i92, i93, i94, i95, i96, i97, i98, dc, dc, dc, dc, dc, dc, dc, dc, dc, dc, dc, dc, dc, dc, dc, dc, dc, dc, dc, dc, dc, dc, dc, dc, dc, dc, dc, dc, dc, dc, dc, dc, dc, dc, dc, dc, dc, dc, dc, dc, dc, dc, dc, dc, dc, dc, dc, dc, dc, dc, dc, dc, dc, dc, undefV, undefV, undefV, undefV, undefV, undefV, undefV, undefV, undefV, undefV, undefV, undefV, undefV, undefV, undefV]
noncomputable def f97_l4 (O : Ops H) (C : OracleJ H) (n : Nat) (i0 : Value) (i1 : Value) (i10 : Value) (i64 : Value) (nx : Value → St H → Option (List (Value × St H))) (kx : Nat → Value → St H → Option (List (Value × St H))) (kr : Value → St H → Option (List (Value × St H))) (x : Value) (s : St H) : Option (List (Value × St H)) :=
 jn (fun (j207_129 : Value) (js207 : St H) =>
 (O.boolO j207_129).bind fun b86 => cond b86 (
 (O.bop .sub 3 x (Go.Value.int Go.IntKind.i64 1)).bind fun v87 =>
 nx v87 js207) (
 kx 8 x js207)) fun k207 =>
 (O.bop .leq 3 i10 x).bind fun v77 =>
 gd v77 (
 (O.indexAddr 47 i0 x).bind fun v78 =>
 (O.load s 3 v78).bind fun v79 =>
 (O.indexAddr 47 i0 i1).bind fun v80 =>
 (O.load s 3 v80).bind fun v81 =>
 (oneO C (.fn 95) [v79, v81] s).bind fun p82 =>
 (O.uop .not p82.1).bind fun v83 =>
 k207 v83 p82.2) (
 k207 (.bool false) s) (
 none)
theorem f97_l4_b (C : OracleJ H) (n : Nat) (i0 : Value) (i1 : Value) (i2 : Value) (i3 : Value) (i10 : Value) (i12 : Value) (i13 : Value) (i14 : Value) (i15 : Value) (i16 : Value) (i17 : Value) (i18 : Value) (i19 : Value) (i20 : Value) (i21 : Value) (i22 : Value) (i23 : Value) (i24 : Value) (i25 : Value) (i26 : Value) (i27 : Value) (i28 : Value) (i29 : Value) (i63 : Value) (i64 : Value) (i65 : Value) (i81 : Value) (i82 : Value) (i83 : Value) (i84 : Value) (i85 : Value) (i86 : Value) (i87 : Value) (i88 : Value) (i89 : Value) (i90 : Value) (i91 : Value) (i92 : Value) (i93 : Value) (i94 : Value) (i95 : Value) (i96 : Value) (i97 : Value) (i98 : Value) (x : Value) (s : St H) (nx : List Value → St H → Option (List (Value × St H))) (K : Ex → List Value → St H → Option (List (Value × St H))) :
 exec Tryz.prog false C n 97 none (cdp Tryz.f97 [1, 1, 1, 1, 1, 1, 1, 1, 1, 0, 0, 0, 0, 1, 0, 0, 0]) (f97_l4_m i0 i1 i2 i3 i10 i12 i13 i14 i15 i16 i17 i18 i19 i20 i21 i22 i23 i24 i25 i26 i27 i28 i29 i63 i64 i65 i81 i82 i83 i84 i85 i86 i87 i88 i89 i90 i91 i92 i93 i94 i95 i96 i97 i98 x) s (kIter (scratch (cdp Tryz.f97 [1, 1, 1, 1, 1, 1, 1, 1, 1, 0, 0, 0, 0, 1, 0, 0, 0])) nx K) = f97_l4 (dOps (H := H) Tryz.prog) C n i0 i1 i10 i64 (fun x s => nx (f97_l4_m i0 i1 i2 i3 i10 i12 i13 i14 i15 i16 i17 i18 i19 i20 i21 i22 i23 i24 i25 i26 i27 i28 i29 i63 i64 i65 i81 i82 i83 i84 i85 i86 i87 i88 i89 i90 i91 i92 i93 i94 i95 i96 i97 i98 x) s) (fun i x s => K (.exit i) (f97_l4_m i0 i1 i2 i3 i10 i12 i13 i14 i15 i16 i17 i18 i19 i20 i21 i22 i23 i24 i25 i26 i27 i28 i29 i63 i64 i65 i81 i82 i83 i84 i85 i86 i87 i88 i89 i90 i91 i92 i93 i94 i95 i96 i97 i98 x) s) (fun x s => K .ret (f97_l4_m i0 i1 i2 i3 i10 i12 i13 i14 i15 i16 i17 i18 i19 i20 i21 i22 i23 i24 i25 i26 i27 i28 i29 i63 i64 i65 i81 i82 i83 i84 i85 i86 i87 i88 i89 i90 i91 i92 i93 i94 i95 i96 i97 i98 x) s) x s := by kernel_rfl
theorem f97_l4_e (C : OracleJ H) (n : Nat) (i0 : Value) (i1 : Value) (i2 : Value) (i3 : Value) (i10 : Value) (i12 : Value) (i13 : Value) (i14 : Value) (i15 : Value) (i16 : Value) (i17 : Value) (i18 : Value) (i19 : Value) (i20 : Value) (i21 : Value) (i22 : Value) (i23 : Value) (i24 : Value) (i25 : Value) (i26 : Value) (i27 : Value) (i28 : Value) (i29 : Value) (i63 : Value) (i64 : Value) (i65 : Value) (i81 : Value) (i82 : Value) (i83 : Value) (i84 : Value) (i85 : Value) (i86 : Value) (i87 : Value) (i88 : Value) (i89 : Value) (i90 : Value) (i91 : Value) (i92 : Value) (i93 : Value) (i94 : Value) (i95 : Value) (i96 : Value) (i97 : Value) (i98 : Value) (m : Nat) (x : Value) (s : St H) (K : Ex → List Value → St H → Option (List (Value × St H))) :
 iter (fun t s k => exec Tryz.prog false C n 97 none (cdp Tryz.f97 [1, 1, 1, 1, 1, 1, 1, 1, 1, 0, 0, 0, 0, 1, 0, 0, 0]) t s k) (scratch (cdp Tryz.f97 [1, 1, 1, 1, 1, 1, 1, 1, 1, 0, 0, 0, 0, 1, 0, 0, 0])) m (f97_l4_m i0 i1 i2 i3 i10 i12 i13 i14 i15 i16 i17 i18 i19 i20 i21 i22 i23 i24 i25 i26 i27 i28 i29 i63 i64 i65 i81 i82 i83 i84 i85 i86 i87 i88 i89 i90 i91 i92 i93 i94 i95 i96 i97 i98 x) s K = iterS (f97_l4 (dOps (H := H) Tryz.prog) C n i0 i1 i10 i64) (fun i x s => K (.exit i) (f97_l4_m i0 i1 i2 i3 i10 i12 i13 i14 i15 i16 i17 i18 i19 i20 i21 i22 i23 i24 i25 i26 i27 i28 i29 i63 i64 i65 i81 i82 i83 i84 i85 i86 i87 i88 i89 i90 i91 i92 i93 i94 i95 i96 i97 i98 x) s) (fun x s => K .ret (f97_l4_m i0 i1 i2 i3 i10 i12 i13 i14 i15 i16 i17 i18 i19 i20 i21 i22 i23 i24 i25 i26 i27 i28 i29 i63 i64 i65 i81 i82 i83 i84 i85 i86 i87 i88 i89 i90 i91 i92 i93 i94 i95 i96 i97 i98 x) s) m x s :=
   iter_eq (f97_l4_m i0 i1 i2 i3 i10 i12 i13 i14 i15 i16 i17 i18 i19 i20 i21 i22 i23 i24 i25 i26 i27 i28 i29 i63 i64 i65 i81 i82 i83 i84 i85 i86 i87 i88 i89 i90 i91 i92 i93 i94 i95 i96 i97 i98) (f97_l4 (dOps (H := H) Tryz.prog) C n i0 i1 i10 i64) (fun x s nx K => f97_l4_b C n i0 i1 i2 i3 i10 i12 i13 i14 i15 i16 i17 i18 i19 i20 i21 i22 i23 i24 i25 i26 i27 i28 i29 i63 i64 i65 i81 i82 i83 i84 i85 i86 i87 i88 i89 i90 i91 i92 i93 i94 i95 i96 i97 i98 x s nx K) K m x s
def f97_l2_m (i0 : Value) (i1 : Value) (i2 : Value) (i3 : Value) (i12 : Value) (i13 : Value) (i14 : Value) (i15 : Value) (i16 : Value) (i17 : Value) (i18 : Value) (i19 : Value) (i20 : Value) (i21 : Value) (i22 : Value) (i23 : Value) (i24 : Value) (i25 : Value) (i26 : Value) (i27 : Value) (i28 : Value) (i29 : Value) (i63 : Value) (i64 : Value) (i65 : Value) (i81 : Value) (i82 : Value) (i83 : Value) (i84 : Value) (i85 : Value) (i86 : Value) (i87 : Value) (i88 : Value) (i89 : Value) (i90 : Value) (i91 : Value) (i92 : Value) (i93 : Value) (i94 : Value) (i95 : Value) (i96 : Value) (i97 : Value) (i98 : Value) (x : Value × Value) : List Value := [i0, i1, i2, i3, undefV, undefV, undefV, undefV, (Go.Value.int Go.IntKind.i64 0), (.bool false), x.1, x.2, i12, i13, i14, i15, i16, i17, i18, i19, i20, i21, i22, i23, i24, i25, i26, i27, i28, i29, dc, dc, dc, dc, dc, dc, dc, dc, dc, dc, dc, dc, dc, dc, dc, dc, dc, dc, dc, dc, dc, dc, dc, dc, dc, dc, dc, dc, dc, dc, dc, dc, dc, i63, i64, i65, undefV, undefV, undefV, undefV, undefV, undefV, undefV, undefV, undefV, undefV, undefV, undefV, undefV, undefV, undefV, i81, i82, i83, i84, i85, i86, i87, i88, i89, i90, i91, i92, i93, i94, i95, i96, i97, i98, dc, dc, dc, dc, dc, dc, dc, dc, dc, dc, dc, dc, dc, dc, dc, dc, dc, dc, dc, dc, dc, dc, dc, dc, dc, dc, dc, dc, dc, dc, dc, dc, dc, dc, dc, dc, dc, dc, dc, dc, dc, dc, dc, dc, dc, dc, dc, dc, dc, dc, dc, dc, dc, dc, undefV, undefV, undefV, undefV, undefV, undefV, undefV, undefV, undefV, undefV, undefV, undefV, undefV, undefV, undefV]
noncomputable def f97_l2 (O : Ops H) (C : OracleJ H) (n : Nat) (i0 : Value) (i1 : Value) (i64 : Value) (i88 : Value) (nx : (Value × Value) → St H → Option (List (Value × St H))) (kx : Nat → (Value × Value) → St H → Option (List (Value × St H))) (kr : (Value × Value) → St H → Option (List (Value × St H))) (x : Value × Value) (s : St H) : Option (List (Value × St H)) :=
 iterS (f97_l3 O C n i0 i1 x.2 i64 )
 (fun i72 x73 s74 => (bif Nat.beq i72 6 then
 iterS (f97_l4 O C n i0 i1 x73 i64 )
 (fun i88 x89 s90 => (bif Nat.beq i88 8 then
 (O.bop .gtr 3 x73 x89).bind fun v93 =>
 (O.boolO v93).bind fun b94 => cond b94 (
 kx 4 (x73, x89) s90) (
 (O.indexAddr 47 i0 x89).bind fun v95 =>
 (O.load s90 3 v95).bind fun v96 =>
 (O.indexAddr 47 i0 x73).bind fun v97 =>
 (O.load s90 3 v97).bind fun v98 =>
 (O.indexAddr 47 i0 x73).bind fun v99 =>
 (O.store s90 3 v99 v96).bind fun s100 =>
 (O.indexAddr 47 i0 x89).bind fun v101 =>
 (O.store s100 3 v101 v98).bind fun s102 =>
 (O.bop .add 3 x73 (Go.Value.int Go.IntKind.i64 1)).bind fun v103 =>
 (O.bop .sub 3 x89 (Go.Value.int Go.IntKind.i64 1)).bind fun v104 =>
 nx (v103, v104) s102) else (bif Nat.beq i88 5 then
 nx (x73, x89) s90 else kx i88 (x73, x89) s90)))
 (fun x91 s92 => kr (x73, x91) s92) n x.2 s74 else (bif Nat.beq i72 5 then
 nx (x73, x.2) s74 else kx i72 (x73, x.2) s74)))
 (fun x75 s76 => kr (x75, x.2) s76) n x.1 s
theorem f97_l4_k (C : OracleJ H) (n : Nat) (i0 : Value) (i1 : Value) (i2 : Value) (i3 : Value) (i10 : Value) (i12 : Value) (i13 : Value) (i14 : Value) (i15 : Value) (i16 : Value) (i17 : Value) (i18 : Value) (i19 : Value) (i20 : Value) (i21 : Value) (i22 : Value) (i23 : Value) (i24 : Value) (i25 : Value) (i26 : Value) (i27 : Value) (i28 : Value) (i29 : Value) (i63 : Value) (i64 : Value) (i65 : Value) (i81 : Value) (i82 : Value) (i83 : Value) (i84 : Value) (i85 : Value) (i86 : Value) (i87 : Value) (i88 : Value) (i89 : Value) (i90 : Value) (i91 : Value) (i92 : Value) (i93 : Value) (i94 : Value) (i95 : Value) (i96 : Value) (i97 : Value) (i98 : Value) (nx : List Value → St H → Option (List (Value × St H))) (K : Ex → List Value → St H → Option (List (Value × St H))) (i : Nat) (x : Value) (s : St H) : (kBlock 8 (kSeq Tryz.prog false C n 97 none (cdp Tryz.f97 [1, 1, 1, 1, 1, 1, 1, 1, 1, 0, 0, 0, 0, 1, 1]) (kBlock 5 (kIter (scratch (cdp Tryz.f97 [1, 1, 1, 1, 1, 1, 1, 1, 1, 0, 0, 0])) nx K)))) (.exit i) (f97_l4_m i0 i1 i2 i3 i10 i12 i13 i14 i15 i16 i17 i18 i19 i20 i21 i22 i23 i24 i25 i26 i27 i28 i29 i63 i64 i65 i81 i82 i83 i84 i85 i86 i87 i88 i89 i90 i91 i92 i93 i94 i95 i96 i97 i98 x) s =
 (bif Nat.beq i 8 then
 ((dOps (H := H) Tryz.prog).bop .gtr 3 i10 x).bind fun v117 =>
 ((dOps (H := H) Tryz.prog).boolO v117).bind fun b118 => cond b118 (
 K (.exit 4) (f97_l2_m i0 i1 i2 i3 i12 i13 i14 i15 i16 i17 i18 i19 i20 i21 i22 i23 i24 i25 i26 i27 i28 i29 i63 i64 i65 i81 i82 i83 i84 i85 i86 i87 i88 i89 i90 i91 i92 i93 i94 i95 i96 i97 i98 (i10, x)) s) (
 ((dOps (H := H) Tryz.prog).indexAddr 47 i0 x).bind fun v119 =>
 ((dOps (H := H) Tryz.prog).load s 3 v119).bind fun v120 =>
 ((dOps (H := H) Tryz.prog).indexAddr 47 i0 i10).bind fun v121 =>
 ((dOps (H := H) Tryz.prog).load s 3 v121).bind fun v122 =>
 ((dOps (H := H) Tryz.prog).indexAddr 47 i0 i10).bind fun v123 =>
 ((dOps (H := H) Tryz.prog).store s 3 v123 v120).bind fun s124 =>
 ((dOps (H := H) Tryz.prog).indexAddr 47 i0 x).bind fun v125 =>
 ((dOps (H := H) Tryz.prog).store s124 3 v125 v122).bind fun s126 =>
 ((dOps (H := H) Tryz.prog).bop .add 3 i10 (Go.Value.int Go.IntKind.i64 1)).bind fun v127 =>
 ((dOps (H := H) Tryz.prog).bop .sub 3 x (Go.Value.int Go.IntKind.i64 1)).bind fun v128 =>
 nx (f97_l2_m i0 i1 i2 i3 i12 i13 i14 i15 i16 i17 i18 i19 i20 i21 i22 i23 i24 i25 i26 i27 i28 i29 i63 i64 i65 i81 i82 i83 i84 i85 i86 i87 i88 i89 i90 i91 i92 i93 i94 i95 i96 i97 i98 (v127, v128)) s126) else (bif Nat.beq i 5 then
 nx (f97_l2_m i0 i1 i2 i3 i12 i13 i14 i15 i16 i17 i18 i19 i20 i21 i22 i23 i24 i25 i26 i27 i28 i29 i63 i64 i65 i81 i82 i83 i84 i85 i86 i87 i88 i89 i90 i91 i92 i93 i94 i95 i96 i97 i98 (i10, x)) s else K (.exit i) (f97_l2_m i0 i1 i2 i3 i12 i13 i14 i15 i16 i17 i18 i19 i20 i21 i22 i23 i24 i25 i26 i27 i28 i29 i63 i64 i65 i81 i82 i83 i84 i85 i86 i87 i88 i89 i90 i91 i92 i93 i94 i95 i96 i97 i98 (i10, x)) s)) := by kernel_rfl
theorem f97_l3_k (C : OracleJ H) (n : Nat) (i0 : Value) (i1 : Value) (i2 : Value) (i3 : Value) (i11 : Value) (i12 : Value) (i13 : Value) (i14 : Value) (i15 : Value) (i16 : Value) (i17 : Value) (i18 : Value) (i19 : Value) (i20 : Value) (i21 : Value) (i22 : Value) (i23 : Value) (i24 : Value) (i25 : Value) (i26 : Value) (i27 : Value) (i28 : Value) (i29 : Value) (i63 : Value) (i64 : Value) (i65 : Value) (i81 : Value) (i82 : Value) (i83 : Value) (i84 : Value) (i85 : Value) (i86 : Value) (i87 : Value) (i88 : Value) (i89 : Value) (i90 : Value) (i91 : Value) (i92 : Value) (i93 : Value) (i94 : Value) (i95 : Value) (i96 : Value) (i97 : Value) (i98 : Value) (nx : List Value → St H → Option (List (Value × St H))) (K : Ex → List Value → St H → Option (List (Value × St H))) (i : Nat) (x : Value) (s : St H) : (kBlock 6 (kSeq Tryz.prog false C n 97 none (cdp Tryz.f97 [1, 1, 1, 1, 1, 1, 1, 1, 1, 0, 0, 0, 0, 1]) (kBlock 5 (kIter (scratch (cdp Tryz.f97 [1, 1, 1, 1, 1, 1, 1, 1, 1, 0, 0, 0])) nx K)))) (.exit i) (f97_l3_m i0 i1 i2 i3 i11 i12 i13 i14 i15 i16 i17 i18 i19 i20 i21 i22 i23 i24 i25 i26 i27 i28 i29 i63 i64 i65 i81 i82 i83 i84 i85 i86 i87 i88 i89 i90 i91 i92 i93 i94 i95 i96 i97 i98 x) s =
 (bif Nat.beq i 6 then
 iterS (f97_l4 (dOps (H := H) Tryz.prog) C n i0 i1 x i64 )
 (fun i129 x130 s131 => (bif Nat.beq i129 8 then
 ((dOps (H := H) Tryz.prog).bop .gtr 3 x x130).bind fun v134 =>
 ((dOps (H := H) Tryz.prog).boolO v134).bind fun b135 => cond b135 (
 K (.exit 4) (f97_l2_m i0 i1 i2 i3 i12 i13 i14 i15 i16 i17 i18 i19 i20 i21 i22 i23 i24 i25 i26 i27 i28 i29 i63 i64 i65 i81 i82 i83 i84 i85 i86 i87 i88 i89 i90 i91 i92 i93 i94 i95 i96 i97 i98 (x, x130)) s131) (
 ((dOps (H := H) Tryz.prog).indexAddr 47 i0 x130).bind fun v136 =>
 ((dOps (H := H) Tryz.prog).load s131 3 v136).bind fun v137 =>
 ((dOps (H := H) Tryz.prog).indexAddr 47 i0 x).bind fun v138 =>
 ((dOps (H := H) Tryz.prog).load s131 3 v138).bind fun v139 =>
 ((dOps (H := H) Tryz.prog).indexAddr 47 i0 x).bind fun v140 =>
 ((dOps (H := H) Tryz.prog).store s131 3 v140 v137).bind fun s141 =>
 ((dOps (H := H) Tryz.prog).indexAddr 47 i0 x130).bind fun v142 =>
 ((dOps (H := H) Tryz.prog).store s141 3 v142 v139).bind fun s143 =>
 ((dOps (H := H) Tryz.prog).bop .add 3 x (Go.Value.int Go.IntKind.i64 1)).bind fun v144 =>
 ((dOps (H := H) Tryz.prog).bop .sub 3 x130 (Go.Value.int Go.IntKind.i64 1)).bind fun v145 =>
 nx (f97_l2_m i0 i1 i2 i3 i12 i13 i14 i15 i16 i17 i18 i19 i20 i21 i22 i23 i24 i25 i26 i27 i28 i29 i63 i64 i65 i81 i82 i83 i84 i85 i86 i87 i88 i89 i90 i91 i92 i93 i94 i95 i96 i97 i98 (v144, v145)) s143) else (bif Nat.beq i129 5 then
 nx (f97_l2_m i0 i1 i2 i3 i12 i13 i14 i15 i16 i17 i18 i19 i20 i21 i22 i23 i24 i25 i26 i27 i28 i29 i63 i64 i65 i81 i82 i83 i84 i85 i86 i87 i88 i89 i90 i91 i92 i93 i94 i95 i96 i97 i98 (x, x130)) s131 else K (.exit i129) (f97_l2_m i0 i1 i2 i3 i12 i13 i14 i15 i16 i17 i18 i19 i20 i21 i22 i23 i24 i25 i26 i27 i28 i29 i63 i64 i65 i81 i82 i83 i84 i85 i86 i87 i88 i89 i90 i91 i92 i93 i94 i95 i96 i97 i98 (x, x130)) s131)))
 (fun x132 s133 => K .ret (f97_l2_m i0 i1 i2 i3 i12 i13 i14 i15 i16 i17 i18 i19 i20 i21 i22 i23 i24 i25 i26 i27 i28 i29 i63 i64 i65 i81 i82 i83 i84 i85 i86 i87 i88 i89 i90 i91 i92 i93 i94 i95 i96 i97 i98 (x, x132)) s133) n i11 s else (bif Nat.beq i 5 then
 nx (f97_l2_m i0 i1 i2 i3 i12 i13 i14 i15 i16 i17 i18 i19 i20 i21 i22 i23 i24 i25 i26 i27 i28 i29 i63 i64 i65 i81 i82 i83 i84 i85 i86 i87 i88 i89 i90 i91 i92 i93 i94 i95 i96 i97 i98 (x, i11)) s else K (.exit i) (f97_l2_m i0 i1 i2 i3 i12 i13 i14 i15 i16 i17 i18 i19 i20 i21 i22 i23 i24 i25 i26 i27 i28 i29 i63 i64 i65 i81 i82 i83 i84 i85 i86 i87 i88 i89 i90 i91 i92 i93 i94 i95 i96 i97 i98 (x, i11)) s)) := by
  have h1 : (kBlock 6 (kSeq Tryz.prog false C n 97 none (cdp Tryz.f97 [1, 1, 1, 1, 1, 1, 1, 1, 1, 0, 0, 0, 0, 1]) (kBlock 5 (kIter (scratch (cdp Tryz.f97 [1, 1, 1, 1, 1, 1, 1, 1, 1, 0, 0, 0])) nx K)))) (.exit i) (f97_l3_m i0 i1 i2 i3 i11 i12 i13 i14 i15 i16 i17 i18 i19 i20 i21 i22 i23 i24 i25 i26 i27 i28 i29 i63 i64 i65 i81 i82 i83 i84 i85 i86 i87 i88 i89 i90 i91 i92 i93 i94 i95 i96 i97 i98 x) s =
 (bif Nat.beq i 6 then
 iter (fun t s k => exec Tryz.prog false C n 97 none (cdp Tryz.f97 [1, 1, 1, 1, 1, 1, 1, 1, 1, 0, 0, 0, 0, 1, 0, 0, 0]) t s k) (scratch (cdp Tryz.f97 [1, 1, 1, 1, 1, 1, 1, 1, 1, 0, 0, 0, 0, 1, 0, 0, 0])) n (f97_l4_m i0 i1 i2 i3 x i12 i13 i14 i15 i16 i17 i18 i19 i20 i21 i22 i23 i24 i25 i26 i27 i28 i29 i63 i64 i65 i81 i82 i83 i84 i85 i86 i87 i88 i89 i90 i91 i92 i93 i94 i95 i96 i97 i98 i11) s (kBlock 8 (kSeq Tryz.prog false C n 97 none (cdp Tryz.f97 [1, 1, 1, 1, 1, 1, 1, 1, 1, 0, 0, 0, 0, 1, 1]) (kBlock 5 (kIter (scratch (cdp Tryz.f97 [1, 1, 1, 1, 1, 1, 1, 1, 1, 0, 0, 0])) nx K)))) else (bif Nat.beq i 5 then
 nx (f97_l2_m i0 i1 i2 i3 i12 i13 i14 i15 i16 i17 i18 i19 i20 i21 i22 i23 i24 i25 i26 i27 i28 i29 i63 i64 i65 i81 i82 i83 i84 i85 i86 i87 i88 i89 i90 i91 i92 i93 i94 i95 i96 i97 i98 (x, i11)) s else K (.exit i) (f97_l2_m i0 i1 i2 i3 i12 i13 i14 i15 i16 i17 i18 i19 i20 i21 i22 i23 i24 i25 i26 i27 i28 i29 i63 i64 i65 i81 i82 i83 i84 i85 i86 i87 i88 i89 i90 i91 i92 i93 i94 i95 i96 i97 i98 (x, i11)) s)) := by kernel_rfl
  rw [h1]
  simp only [f97_l4_e, f97_l4_k]
  show _ = (bif Nat.beq i 6 then
 iterS (f97_l4 (dOps (H := H) Tryz.prog) C n i0 i1 x i64 )
 (fun i129 x130 s131 => (bif Nat.beq i129 8 then
 ((dOps (H := H) Tryz.prog).bop .gtr 3 x x130).bind fun v134 =>
 ((dOps (H := H) Tryz.prog).boolO v134).bind fun b135 => cond b135 (
 K (.exit 4) (f97_l2_m i0 i1 i2 i3 i12 i13 i14 i15 i16 i17 i18 i19 i20 i21 i22 i23 i24 i25 i26 i27 i28 i29 i63 i64 i65 i81 i82 i83 i84 i85 i86 i87 i88 i89 i90 i91 i92 i93 i94 i95 i96 i97 i98 (x, x130)) s131) (
 ((dOps (H := H) Tryz.prog).indexAddr 47 i0 x130).bind fun v136 =>
 ((dOps (H := H) Tryz.prog).load s131 3 v136).bind fun v137 =>
 ((dOps (H := H) Tryz.prog).indexAddr 47 i0 x).bind fun v138 =>
 ((dOps (H := H) Tryz.prog).load s131 3 v138).bind fun v139 =>
 ((dOps (H := H) Tryz.prog).indexAddr 47 i0 x).bind fun v140 =>
 ((dOps (H := H) Tryz.prog).store s131 3 v140 v137).bind fun s141 =>
 ((dOps (H := H) Tryz.prog).indexAddr 47 i0 x130).bind fun v142 =>
 ((dOps (H := H) Tryz.prog).store s141 3 v142 v139).bind fun s143 =>
 ((dOps (H := H) Tryz.prog).bop .add 3 x (Go.Value.int Go.IntKind.i64 1)).bind fun v144 =>
 ((dOps (H := H) Tryz.prog).bop .sub 3 x130 (Go.Value.int Go.IntKind.i64 1)).bind fun v145 =>
 nx (f97_l2_m i0 i1 i2 i3 i12 i13 i14 i15 i16 i17 i18 i19 i20 i21 i22 i23 i24 i25 i26 i27 i28 i29 i63 i64 i65 i81 i82 i83 i84 i85 i86 i87 i88 i89 i90 i91 i92 i93 i94 i95 i96 i97 i98 (v144, v145)) s143) else (bif Nat.beq i129 5 then
 nx (f97_l2_m i0 i1 i2 i3 i12 i13 i14 i15 i16 i17 i18 i19 i20 i21 i22 i23 i24 i25 i26 i27 i28 i29 i63 i64 i65 i81 i82 i83 i84 i85 i86 i87 i88 i89 i90 i91 i92 i93 i94 i95 i96 i97 i98 (x, x130)) s131 else K (.exit i129) (f97_l2_m i0 i1 i2 i3 i12 i13 i14 i15 i16 i17 i18 i19 i20 i21 i22 i23 i24 i25 i26 i27 i28 i29 i63 i64 i65 i81 i82 i83 i84 i85 i86 i87 i88 i89 i90 i91 i92 i93 i94 i95 i96 i97 i98 (x, x130)) s131)))
 (fun x132 s133 => K .ret (f97_l2_m i0 i1 i2 i3 i12 i13 i14 i15 i16 i17 i18 i19 i20 i21 i22 i23 i24 i25 i26 i27 i28 i29 i63 i64 i65 i81 i82 i83 i84 i85 i86 i87 i88 i89 i90 i91 i92 i93 i94 i95 i96 i97 i98 (x, x132)) s133) n i11 s else (bif Nat.beq i 5 then
 nx (f97_l2_m i0 i1 i2 i3 i12 i13 i14 i15 i16 i17 i18 i19 i20 i21 i22 i23 i24 i25 i26 i27 i28 i29 i63 i64 i65 i81 i82 i83 i84 i85 i86 i87 i88 i89 i90 i91 i92 i93 i94 i95 i96 i97 i98 (x, i11)) s else K (.exit i) (f97_l2_m i0 i1 i2 i3 i12 i13 i14 i15 i16 i17 i18 i19 i20 i21 i22 i23 i24 i25 i26 i27 i28 i29 i63 i64 i65 i81 i82 i83 i84 i85 i86 i87 i88 i89 i90 i91 i92 i93 i94 i95 i96 i97 i98 (x, i11)) s))
  kernel_rfl
theorem f97_l2_b (C : OracleJ H) (n : Nat) (i0 : Value) (i1 : Value) (i2 : Value) (i3 : Value) (i12 : Value) (i13 : Value) (i14 : Value) (i15 : Value) (i16 : Value) (i17 : Value) (i18 : Value) (i19 : Value) (i20 : Value) (i21 : Value) (i22 : Value) (i23 : Value) (i24 : Value) (i25 : Value) (i26 : Value) (i27 : Value) (i28 : Value) (i29 : Value) (i63 : Value) (i64 : Value) (i65 : Value) (i81 : Value) (i82 : Value) (i83 : Value) (i84 : Value) (i85 : Value) (i86 : Value) (i87 : Value) (i88 : Value) (i89 : Value) (i90 : Value) (i91 : Value) (i92 : Value) (i93 : Value) (i94 : Value) (i95 : Value) (i96 : Value) (i97 : Value) (i98 : Value) (x : Value × Value) (s : St H) (nx : List Value → St H → Option (List (Value × St H))) (K : Ex → List Value → St H → Option (List (Value × St H))) :
 exec Tryz.prog false C n 97 none (cdp Tryz.f97 [1, 1, 1, 1, 1, 1, 1, 1, 1, 0, 0, 0]) (f97_l2_m i0 i1 i2 i3 i12 i13 i14 i15 i16 i17 i18 i19 i20 i21 i22 i23 i24 i25 i26 i27 i28 i29 i63 i64 i65 i81 i82 i83 i84 i85 i86 i87 i88 i89 i90 i91 i92 i93 i94 i95 i96 i97 i98 x) s (kIter (scratch (cdp Tryz.f97 [1, 1, 1, 1, 1, 1, 1, 1, 1, 0, 0, 0])) nx K) = f97_l2 (dOps (H := H) Tryz.prog) C n i0 i1 i64 i88 (fun x s => nx (f97_l2_m i0 i1 i2 i3 i12 i13 i14 i15 i16 i17 i18 i19 i20 i21 i22 i23 i24 i25 i26 i27 i28 i29 i63 i64 i65 i81 i82 i83 i84 i85 i86 i87 i88 i89 i90 i91 i92 i93 i94 i95 i96 i97 i98 x) s) (fun i x s => K (.exit i) (f97_l2_m i0 i1 i2 i3 i12 i13 i14 i15 i16 i17 i18 i19 i20 i21 i22 i23 i24 i25 i26 i27 i28 i29 i63 i64 i65 i81 i82 i83 i84 i85 i86 i87 i88 i89 i90 i91 i92 i93 i94 i95 i96 i97 i98 x) s) (fun x s => K .ret (f97_l2_m i0 i1 i2 i3 i12 i13 i14 i15 i16 i17 i18 i19 i20 i21 i22 i23 i24 i25 i26 i27 i28 i29 i63 i64 i65 i81 i82 i83 i84 i85 i86 i87 i88 i89 i90 i91 i92 i93 i94 i95 i96 i97 i98 x) s) x s := by
  have h1 : exec Tryz.prog false C n 97 none (cdp Tryz.f97 [1, 1, 1, 1, 1, 1, 1, 1, 1, 0, 0, 0]) (f97_l2_m i0 i1 i2 i3 i12 i13 i14 i15 i16 i17 i18 i19 i20 i21 i22 i23 i24 i25 i26 i27 i28 i29 i63 i64 i65 i81 i82 i83 i84 i85 i86 i87 i88 i89 i90 i91 i92 i93 i94 i95 i96 i97 i98 x) s (kIter (scratch (cdp Tryz.f97 [1, 1, 1, 1, 1, 1, 1, 1, 1, 0, 0, 0])) nx K) =
 iter (fun t s k => exec Tryz.prog false C n 97 none (cdp Tryz.f97 [1, 1, 1, 1, 1, 1, 1, 1, 1, 0, 0, 0, 0, 0, 0, 0]) t s k) (scratch (cdp Tryz.f97 [1, 1, 1, 1, 1, 1, 1, 1, 1, 0, 0, 0, 0, 0, 0, 0])) n (f97_l3_m i0 i1 i2 i3 x.2 i12 i13 i14 i15 i16 i17 i18 i19 i20 i21 i22 i23 i24 i25 i26 i27 i28 i29 i63 i64 i65 i81 i82 i83 i84 i85 i86 i87 i88 i89 i90 i91 i92 i93 i94 i95 i96 i97 i98 x.1) s (kBlock 6 (kSeq Tryz.prog false C n 97 none (cdp Tryz.f97 [1, 1, 1, 1, 1, 1, 1, 1, 1, 0, 0, 0, 0, 1]) (kBlock 5 (kIter (scratch (cdp Tryz.f97 [1, 1, 1, 1, 1, 1, 1, 1, 1, 0, 0, 0])) nx K)))) := by kernel_rfl
  rw [h1]
  simp only [f97_l3_e, f97_l3_k]
  show _ = f97_l2 (dOps (H := H) Tryz.prog) C n i0 i1 i64 i88 (fun x s => nx (f97_l2_m i0 i1 i2 i3 i12 i13 i14 i15 i16 i17 i18 i19 i20 i21 i22 i23 i24 i25 i26 i27 i28 i29 i63 i64 i65 i81 i82 i83 i84 i85 i86 i87 i88 i89 i90 i91 i92 i93 i94 i95 i96 i97 i98 x) s) (fun i x s => K (.exit i) (f97_l2_m i0 i1 i2 i3 i12 i13 i14 i15 i16 i17 i18 i19 i20 i21 i22 i23 i24 i25 i26 i27 i28 i29 i63 i64 i65 i81 i82 i83 i84 i85 i86 i87 i88 i89 i90 i91 i92 i93 i94 i95 i96 i97 i98 x) s) (fun x s => K .ret (f97_l2_m i0 i1 i2 i3 i12 i13 i14 i15 i16 i17 i18 i19 i20 i21 i22 i23 i24 i25 i26 i27 i28 i29 i63 i64 i65 i81 i82 i83 i84 i85 i86 i87 i88 i89 i90 i91 i92 i93 i94 i95 i96 i97 i98 x) s) x s
  kernel_rfl
theorem f97_l2_e (C : OracleJ H) (n : Nat) (i0 : Value) (i1 : Value) (i2 : Value) (i3 : Value) (i12 : Value) (i13 : Value) (i14 : Value) (i15 : Value) (i16 : Value) (i17 : Value) (i18 : Value) (i19 : Value) (i20 : Value) (i21 : Value) (i22 : Value) (i23 : Value) (i24 : Value) (i25 : Value) (i26 : Value) (i27 : Value) (i28 : Value) (i29 : Value) (i63 : Value) (i64 : Value) (i65 : Value) (i81 : Value) (i82 : Value) (i83 : Value) (i84 : Value) (i85 : Value) (i86 : Value) (i87 : Value) (i88 : Value) (i89 : Value) (i90 : Value) (i91 : Value) (i92 : Value) (i93 : Value) (i94 : Value) (i95 : Value) (i96 : Value) (i97 : Value) (i98 : Value) (m : Nat) (x : Value × Value) (s : St H) (K : Ex → List Value → St H → Option (List (Value × St H))) :
 iter (fun t s k => exec Tryz.prog false C n 97 none (cdp Tryz.f97 [1, 1, 1, 1, 1, 1, 1, 1, 1, 0, 0, 0]) t s k) (scratch (cdp Tryz.f97 [1, 1, 1, 1, 1, 1, 1, 1, 1, 0, 0, 0])) m (f97_l2_m i0 i1 i2 i3 i12 i13 i14 i15 i16 i17 i18 i19 i20 i21 i22 i23 i24 i25 i26 i27 i28 i29 i63 i64 i65 i81 i82 i83 i84 i85 i86 i87 i88 i89 i90 i91 i92 i93 i94 i95 i96 i97 i98 x) s K = iterS (f97_l2 (dOps (H := H) Tryz.prog) C n i0 i1 i64 i88) (fun i x s => K (.exit i) (f97_l2_m i0 i1 i2 i3 i12 i13 i14 i15 i16 i17 i18 i19 i20 i21 i22 i23 i24 i25 i26 i27 i28 i29 i63 i64 i65 i81 i82 i83 i84 i85 i86 i87 i88 i89 i90 i91 i92 i93 i94 i95 i96 i97 i98 x) s) (fun x s => K .ret (f97_l2_m i0 i1 i2 i3 i12 i13 i14 i15 i16 i17 i18 i19 i20 i21 i22 i23 i24 i25 i26 i27 i28 i29 i63 i64 i65 i81 i82 i83 i84 i85 i86 i87 i88 i89 i90 i91 i92 i93 i94 i95 i96 i97 i98 x) s) m x s :=
   iter_eq (f97_l2_m i0 i1 i2 i3 i12 i13 i14 i15 i16 i17 i18 i19 i20 i21 i22 i23 i24 i25 i26 i27 i28 i29 i63 i64 i65 i81 i82 i83 i84 i85 i86 i87 i88 i89 i90 i91 i92 i93 i94 i95 i96 i97 i98) (f97_l2 (dOps (H := H) Tryz.prog) C n i0 i1 i64 i88) (fun x s nx K => f97_l2_b C n i0 i1 i2 i3 i12 i13 i14 i15 i16 i17 i18 i19 i20 i21 i22 i23 i24 i25 i26 i27 i28 i29 i63 i64 i65 i81 i82 i83 i84 i85 i86 i87 i88 i89 i90 i91 i92 i93 i94 i95 i96 i97 i98 x s nx K) K m x s
noncomputable def f97 (O : Ops H) (C : OracleJ H) (n : Nat) (a0 : Value) (a1 : Value) (a2 : Value) (a3 : Value) (s : St H) : Option (List (Value × St H)) :=
 (O.indexAddr 47 a0 a3).bind fun v1 =>
 (O.load s 3 v1).bind fun v2 =>
 (O.indexAddr 47 a0 a1).bind fun v3 =>
 (O.load s 3 v3).bind fun v4 =>
 (O.indexAddr 47 a0 a1).bind fun v5 =>
 (O.store s 3 v5 v2).bind fun s6 =>
 (O.indexAddr 47 a0 a3).bind fun v7 =>
 (O.store s6 3 v7 v4).bind fun s8 =>
 (O.bop .add 3 a1 (Go.Value.int Go.IntKind.i64 1)).bind fun v9 =>
 (O.bop .sub 3 a2 (Go.Value.int Go.IntKind.i64 1)).bind fun v10 =>
 iterS (f97_l0 O C n a0 a1 v10 )
 (fun i21 x22 s23 => (bif Nat.beq i21 0 then
 iterS (f97_l1 O C n a0 a1 x22 )
 (fun i37 x38 s39 => (bif Nat.beq i37 2 then
 (O.bop .gtr 3 x22 x38).bind fun v42 =>
 (O.boolO v42).bind fun b43 => cond b43 (
 (O.indexAddr 47 a0 a1).bind fun v44 =>
 (O.load s39 3 v44).bind fun v45 =>
 (O.indexAddr 47 a0 x38).bind fun v46 =>
 (O.load s39 3 v46).bind fun v47 =>
 (O.indexAddr 47 a0 x38).bind fun v48 =>
 (O.store s39 3 v48 v45).bind fun s49 =>
 (O.indexAddr 47 a0 a1).bind fun v50 =>
 (O.store s49 3 v50 v47).bind fun s51 =>
 some [(.tuple #[x38, (.bool true)], s51)]) (
 (O.indexAddr 47 a0 x38).bind fun v52 =>
 (O.load s39 3 v52).bind fun v53 =>
 (O.indexAddr 47 a0 x22).bind fun v54 =>
 (O.load s39 3 v54).bind fun v55 =>
 (O.indexAddr 47 a0 x22).bind fun v56 =>
 (O.store s39 3 v56 v53).bind fun s57 =>
 (O.indexAddr 47 a0 x38).bind fun v58 =>
 (O.store s57 3 v58 v55).bind fun s59 =>
 (O.bop .add 3 x22 (Go.Value.int Go.IntKind.i64 1)).bind fun v60 =>
 (O.bop .sub 3 x38 (Go.Value.int Go.IntKind.i64 1)).bind fun v61 =>
 iterS (f97_l2 O C n a0 a1 x38 v53 )
 (fun i146 x147 s148 => (bif Nat.beq i146 4 then
 (O.indexAddr 47 a0 a1).bind fun v151 =>
 (O.load s148 3 v151).bind fun v152 =>
 (O.indexAddr 47 a0 x147.2).bind fun v153 =>
 (O.load s148 3 v153).bind fun v154 =>
 (O.indexAddr 47 a0 x147.2).bind fun v155 =>
 (O.store s148 3 v155 v152).bind fun s156 =>
 (O.indexAddr 47 a0 a1).bind fun v157 =>
 (O.store s156 3 v157 v154).bind fun s158 =>
 some [(.tuple #[x147.2, (.bool false)], s158)] else none))
 (fun x149 s150 => some [(.tuple #[(Go.Value.int Go.IntKind.i64 0), (.bool false)], s150)]) n (v60, v61) s59) else none))
 (fun x40 s41 => some [(.tuple #[(Go.Value.int Go.IntKind.i64 0), (.bool false)], s41)]) n v10 s23 else none))
 (fun x24 s25 => some [(.tuple #[(Go.Value.int Go.IntKind.i64 0), (.bool false)], s25)]) n v9 s8
theorem f97_l2_k (C : OracleJ H) (n : Nat) (i0 : Value) (i1 : Value) (i2 : Value) (i3 : Value) (i12 : Value) (i13 : Value) (i14 : Value) (i15 : Value) (i16 : Value) (i17 : Value) (i18 : Value) (i19 : Value) (i20 : Value) (i21 : Value) (i22 : Value) (i23 : Value) (i24 : Value) (i25 : Value) (i26 : Value) (i27 : Value) (i28 : Value) (i29 : Value) (i63 : Value) (i64 : Value) (i65 : Value) (i81 : Value) (i82 : Value) (i83 : Value) (i84 : Value) (i85 : Value) (i86 : Value) (i87 : Value) (i88 : Value) (i89 : Value) (i90 : Value) (i91 : Value) (i92 : Value) (i93 : Value) (i94 : Value) (i95 : Value) (i96 : Value) (i97 : Value) (i98 : Value) (i : Nat) (x : Value × Value) (s : St H) : (kBlock 4 (kSeq Tryz.prog false C n 97 none (cdp Tryz.f97 [1, 1, 1, 1, 1, 1, 1, 1, 1, 1]) (kFun Tryz.prog Tryz.f97))) (.exit i) (f97_l2_m i0 i1 i2 i3 i12 i13 i14 i15 i16 i17 i18 i19 i20 i21 i22 i23 i24 i25 i26 i27 i28 i29 i63 i64 i65 i81 i82 i83 i84 i85 i86 i87 i88 i89 i90 i91 i92 i93 i94 i95 i96 i97 i98 x) s =
 (bif Nat.beq i 4 then
 ((dOps (H := H) Tryz.prog).indexAddr 47 i0 i1).bind fun v197 =>
 ((dOps (H := H) Tryz.prog).load s 3 v197).bind fun v198 =>
 ((dOps (H := H) Tryz.prog).indexAddr 47 i0 x.2).bind fun v199 =>
 ((dOps (H := H) Tryz.prog).load s 3 v199).bind fun v200 =>
 ((dOps (H := H) Tryz.prog).indexAddr 47 i0 x.2).bind fun v201 =>
 ((dOps (H := H) Tryz.prog).store s 3 v201 v198).bind fun s202 =>
 ((dOps (H := H) Tryz.prog).indexAddr 47 i0 i1).bind fun v203 =>
 ((dOps (H := H) Tryz.prog).store s202 3 v203 v200).bind fun s204 =>
 some [(.tuple #[x.2, (.bool false)], s204)] else none) := by kernel_rfl
theorem f97_l1_k (C : OracleJ H) (n : Nat) (i0 : Value) (i1 : Value) (i2 : Value) (i3 : Value) (i10 : Value) (i12 : Value) (i13 : Value) (i14 : Value) (i15 : Value) (i16 : Value) (i17 : Value) (i18 : Value) (i19 : Value) (i20 : Value) (i21 : Value) (i22 : Value) (i23 : Value) (i24 : Value) (i25 : Value) (i26 : Value) (i27 : Value) (i28 : Value) (i29 : Value) (i : Nat) (x : Value) (s : St H) : (kBlock 2 (kSeq Tryz.prog false C n 97 none (cdp Tryz.f97 [1, 1, 1, 1, 1]) (kFun Tryz.prog Tryz.f97))) (.exit i) (f97_l1_m i0 i1 i2 i3 i10 i12 i13 i14 i15 i16 i17 i18 i19 i20 i21 i22 i23 i24 i25 i26 i27 i28 i29 x) s =
 (bif Nat.beq i 2 then
 ((dOps (H := H) Tryz.prog).bop .gtr 3 i10 x).bind fun v205 =>
 ((dOps (H := H) Tryz.prog).boolO v205).bind fun b206 => cond b206 (
 ((dOps (H := H) Tryz.prog).indexAddr 47 i0 i1).bind fun v207 =>
 ((dOps (H := H) Tryz.prog).load s 3 v207).bind fun v208 =>
 ((dOps (H := H) Tryz.prog).indexAddr 47 i0 x).bind fun v209 =>
 ((dOps (H := H) Tryz.prog).load s 3 v209).bind fun v210 =>
 ((dOps (H := H) Tryz.prog).indexAddr 47 i0 x).bind fun v211 =>
 ((dOps (H := H) Tryz.prog).store s 3 v211 v208).bind fun s212 =>
 ((dOps (H := H) Tryz.prog).indexAddr 47 i0 i1).bind fun v213 =>
 ((dOps (H := H) Tryz.prog).store s212 3 v213 v210).bind fun s214 =>
 some [(.tuple #[x, (.bool true)], s214)]) (
 ((dOps (H := H) Tryz.prog).indexAddr 47 i0 x).bind fun v215 =>
 ((dOps (H := H) Tryz.prog).load s 3 v215).bind fun v216 =>
 ((dOps (H := H) Tryz.prog).indexAddr 47 i0 i10).bind fun v217 =>
 ((dOps (H := H) Tryz.prog).load s 3 v217).bind fun v218 =>
 ((dOps (H := H) Tryz.prog).indexAddr 47 i0 i10).bind fun v219 =>
 ((dOps (H := H) Tryz.prog).store s 3 v219 v216).bind fun s220 =>
 ((dOps (H := H) Tryz.prog).indexAddr 47 i0 x).bind fun v221 =>
 ((dOps (H := H) Tryz.prog).store s220 3 v221 v218).bind fun s222 =>
 ((dOps (H := H) Tryz.prog).bop .add 3 i10 (Go.Value.int Go.IntKind.i64 1)).bind fun v223 =>
 ((dOps (H := H) Tryz.prog).bop .sub 3 x (Go.Value.int Go.IntKind.i64 1)).bind fun v224 =>
 iterS (f97_l2 (dOps (H := H) Tryz.prog) C n i0 i1 x v216 )
 (fun i225 x226 s227 => (bif Nat.beq i225 4 then
 ((dOps (H := H) Tryz.prog).indexAddr 47 i0 i1).bind fun v230 =>
 ((dOps (H := H) Tryz.prog).load s227 3 v230).bind fun v231 =>
 ((dOps (H := H) Tryz.prog).indexAddr 47 i0 x226.2).bind fun v232 =>
 ((dOps (H := H) Tryz.prog).load s227 3 v232).bind fun v233 =>
 ((dOps (H := H) Tryz.prog).indexAddr 47 i0 x226.2).bind fun v234 =>
 ((dOps (H := H) Tryz.prog).store s227 3 v234 v231).bind fun s235 =>
 ((dOps (H := H) Tryz.prog).indexAddr 47 i0 i1).bind fun v236 =>
 ((dOps (H := H) Tryz.prog).store s235 3 v236 v233).bind fun s237 =>
 some [(.tuple #[x226.2, (.bool false)], s237)] else none))
 (fun x228 s229 => some [(.tuple #[(Go.Value.int Go.IntKind.i64 0), (.bool false)], s229)]) n (v223, v224) s222) else none) := by
  have h1 : (kBlock 2 (kSeq Tryz.prog false C n 97 none (cdp Tryz.f97 [1, 1, 1, 1, 1]) (kFun Tryz.prog Tryz.f97))) (.exit i) (f97_l1_m i0 i1 i2 i3 i10 i12 i13 i14 i15 i16 i17 i18 i19 i20 i21 i22 i23 i24 i25 i26 i27 i28 i29 x) s =
 (bif Nat.beq i 2 then
 ((dOps (H := H) Tryz.prog).bop .gtr 3 i10 x).bind fun v169 =>
 ((dOps (H := H) Tryz.prog).boolO v169).bind fun b170 => cond b170 (
 ((dOps (H := H) Tryz.prog).indexAddr 47 i0 i1).bind fun v171 =>
 ((dOps (H := H) Tryz.prog).load s 3 v171).bind fun v172 =>
 ((dOps (H := H) Tryz.prog).indexAddr 47 i0 x).bind fun v173 =>
 ((dOps (H := H) Tryz.prog).load s 3 v173).bind fun v174 =>
 ((dOps (H := H) Tryz.prog).indexAddr 47 i0 x).bind fun v175 =>
 ((dOps (H := H) Tryz.prog).store s 3 v175 v172).bind fun s176 =>
 ((dOps (H := H) Tryz.prog).indexAddr 47 i0 i1).bind fun v177 =>
 ((dOps (H := H) Tryz.prog).store s176 3 v177 v174).bind fun s178 =>
 some [(.tuple #[x, (.bool true)], s178)]) (
 ((dOps (H := H) Tryz.prog).indexAddr 47 i0 x).bind fun v179 =>
 ((dOps (H := H) Tryz.prog).load s 3 v179).bind fun v180 =>
 ((dOps (H := H) Tryz.prog).indexAddr 47 i0 i10).bind fun v181 =>
 ((dOps (H := H) Tryz.prog).load s 3 v181).bind fun v182 =>
 ((dOps (H := H) Tryz.prog).indexAddr 47 i0 i10).bind fun v183 =>
 ((dOps (H := H) Tryz.prog).store s 3 v183 v180).bind fun s184 =>
 ((dOps (H := H) Tryz.prog).indexAddr 47 i0 x).bind fun v185 =>
 ((dOps (H := H) Tryz.prog).store s184 3 v185 v182).bind fun s186 =>
 ((dOps (H := H) Tryz.prog).bop .add 3 i10 (Go.Value.int Go.IntKind.i64 1)).bind fun v187 =>
 ((dOps (H := H) Tryz.prog).bop .sub 3 x (Go.Value.int Go.IntKind.i64 1)).bind fun v188 =>
 iter (fun t s k => exec Tryz.prog false C n 97 none (cdp Tryz.f97 [1, 1, 1, 1, 1, 1, 1, 1, 1, 0, 0, 0]) t s k) (scratch (cdp Tryz.f97 [1, 1, 1, 1, 1, 1, 1, 1, 1, 0, 0, 0])) n (f97_l2_m i0 i1 i2 i3 i12 i13 i14 i15 i16 i17 i18 i19 i20 i21 i22 i23 i24 i25 i26 i27 i28 i29 i10 x v169 i0 i10 i0 x i0 x v179 v180 i0 i10 v181 v182 v183 v185 i10 v187 x v188 (v187, v188)) s186 (kBlock 4 (kSeq Tryz.prog false C n 97 none (cdp Tryz.f97 [1, 1, 1, 1, 1, 1, 1, 1, 1, 1]) (kFun Tryz.prog Tryz.f97)))) else none) := by kernel_rfl
  rw [h1]
  simp only [f97_l2_e, f97_l2_k]
  show _ = (bif Nat.beq i 2 then
 ((dOps (H := H) Tryz.prog).bop .gtr 3 i10 x).bind fun v205 =>
 ((dOps (H := H) Tryz.prog).boolO v205).bind fun b206 => cond b206 (
 ((dOps (H := H) Tryz.prog).indexAddr 47 i0 i1).bind fun v207 =>
 ((dOps (H := H) Tryz.prog).load s 3 v207).bind fun v208 =>
 ((dOps (H := H) Tryz.prog).indexAddr 47 i0 x).bind fun v209 =>
 ((dOps (H := H) Tryz.prog).load s 3 v209).bind fun v210 =>
 ((dOps (H := H) Tryz.prog).indexAddr 47 i0 x).bind fun v211 =>
 ((dOps (H := H) Tryz.prog).store s 3 v211 v208).bind fun s212 =>
 ((dOps (H := H) Tryz.prog).indexAddr 47 i0 i1).bind fun v213 =>
 ((dOps (H := H) Tryz.prog).store s212 3 v213 v210).bind fun s214 =>
 some [(.tuple #[x, (.bool true)], s214)]) (
 ((dOps (H := H) Tryz.prog).indexAddr 47 i0 x).bind fun v215 =>
 ((dOps (H := H) Tryz.prog).load s 3 v215).bind fun v216 =>
 ((dOps (H := H) Tryz.prog).indexAddr 47 i0 i10).bind fun v217 =>
 ((dOps (H := H) Tryz.prog).load s 3 v217).bind fun v218 =>
 ((dOps (H := H) Tryz.prog).indexAddr 47 i0 i10).bind fun v219 =>
 ((dOps (H := H) Tryz.prog).store s 3 v219 v216).bind fun s220 =>
 ((dOps (H := H) Tryz.prog).indexAddr 47 i0 x).bind fun v221 =>
 ((dOps (H := H) Tryz.prog).store s220 3 v221 v218).bind fun s222 =>
 ((dOps (H := H) Tryz.prog).bop .add 3 i10 (Go.Value.int Go.IntKind.i64 1)).bind fun v223 =>
 ((dOps (H := H) Tryz.prog).bop .sub 3 x (Go.Value.int Go.IntKind.i64 1)).bind fun v224 =>
 iterS (f97_l2 (dOps (H := H) Tryz.prog) C n i0 i1 x v216 )
 (fun i225 x226 s227 => (bif Nat.beq i225 4 then
 ((dOps (H := H) Tryz.prog).indexAddr 47 i0 i1).bind fun v230 =>
 ((dOps (H := H) Tryz.prog).load s227 3 v230).bind fun v231 =>
 ((dOps (H := H) Tryz.prog).indexAddr 47 i0 x226.2).bind fun v232 =>
 ((dOps (H := H) Tryz.prog).load s227 3 v232).bind fun v233 =>
 ((dOps (H := H) Tryz.prog).indexAddr 47 i0 x226.2).bind fun v234 =>
 ((dOps (H := H) Tryz.prog).store s227 3 v234 v231).bind fun s235 =>
 ((dOps (H := H) Tryz.prog).indexAddr 47 i0 i1).bind fun v236 =>
 ((dOps (H := H) Tryz.prog).store s235 3 v236 v233).bind fun s237 =>
 some [(.tuple #[x226.2, (.bool false)], s237)] else none))
 (fun x228 s229 => some [(.tuple #[(Go.Value.int Go.IntKind.i64 0), (.bool false)], s229)]) n (v223, v224) s222) else none)
  kernel_rfl
theorem f97_l0_k (C : OracleJ H) (n : Nat) (i0 : Value) (i1 : Value) (i2 : Value) (i3 : Value) (i11 : Value) (i12 : Value) (i13 : Value) (i14 : Value) (i15 : Value) (i16 : Value) (i17 : Value) (i18 : Value) (i19 : Value) (i20 : Value) (i21 : Value) (i22 : Value) (i23 : Value) (i24 : Value) (i25 : Value) (i26 : Value) (i27 : Value) (i28 : Value) (i29 : Value) (i : Nat) (x : Value) (s : St H) : (kBlock 0 (kSeq Tryz.prog false C n 97 none (cdp Tryz.f97 [1, 1, 1, 1]) (kFun Tryz.prog Tryz.f97))) (.exit i) (f97_l0_m i0 i1 i2 i3 i11 i12 i13 i14 i15 i16 i17 i18 i19 i20 i21 i22 i23 i24 i25 i26 i27 i28 i29 x) s =
 (bif Nat.beq i 0 then
 iterS (f97_l1 (dOps (H := H) Tryz.prog) C n i0 i1 x )
 (fun i238 x239 s240 => (bif Nat.beq i238 2 then
 ((dOps (H := H) Tryz.prog).bop .gtr 3 x x239).bind fun v243 =>
 ((dOps (H := H) Tryz.prog).boolO v243).bind fun b244 => cond b244 (
 ((dOps (H := H) Tryz.prog).indexAddr 47 i0 i1).bind fun v245 =>
 ((dOps (H := H) Tryz.prog).load s240 3 v245).bind fun v246 =>
 ((dOps (H := H) Tryz.prog).indexAddr 47 i0 x239).bind fun v247 =>
 ((dOps (H := H) Tryz.prog).load s240 3 v247).bind fun v248 =>
 ((dOps (H := H) Tryz.prog).indexAddr 47 i0 x239).bind fun v249 =>
 ((dOps (H := H) Tryz.prog).store s240 3 v249 v246).bind fun s250 =>
 ((dOps (H := H) Tryz.prog).indexAddr 47 i0 i1).bind fun v251 =>
 ((dOps (H := H) Tryz.prog).store s250 3 v251 v248).bind fun s252 =>
 some [(.tuple #[x239, (.bool true)], s252)]) (
 ((dOps (H := H) Tryz.prog).indexAddr 47 i0 x239).bind fun v253 =>
 ((dOps (H := H) Tryz.prog).load s240 3 v253).bind fun v254 =>
 ((dOps (H := H) Tryz.prog).indexAddr 47 i0 x).bind fun v255 =>
 ((dOps (H := H) Tryz.prog).load s240 3 v255).bind fun v256 =>
 ((dOps (H := H) Tryz.prog).indexAddr 47 i0 x).bind fun v257 =>
 ((dOps (H := H) Tryz.prog).store s240 3 v257 v254).bind fun s258 =>
 ((dOps (H := H) Tryz.prog).indexAddr 47 i0 x239).bind fun v259 =>
 ((dOps (H := H) Tryz.prog).store s258 3 v259 v256).bind fun s260 =>
 ((dOps (H := H) Tryz.prog).bop .add 3 x (Go.Value.int Go.IntKind.i64 1)).bind fun v261 =>
 ((dOps (H := H) Tryz.prog).bop .sub 3 x239 (Go.Value.int Go.IntKind.i64 1)).bind fun v262 =>
 iterS (f97_l2 (dOps (H := H) Tryz.prog) C n i0 i1 x239 v254 )
 (fun i263 x264 s265 => (bif Nat.beq i263 4 then
 ((dOps (H := H) Tryz.prog).indexAddr 47 i0 i1).bind fun v268 =>
 ((dOps (H := H) Tryz.prog).load s265 3 v268).bind fun v269 =>
 ((dOps (H := H) Tryz.prog).indexAddr 47 i0 x264.2).bind fun v270 =>
 ((dOps (H := H) Tryz.prog).load s265 3 v270).bind fun v271 =>
 ((dOps (H := H) Tryz.prog).indexAddr 47 i0 x264.2).bind fun v272 =>
 ((dOps (H := H) Tryz.prog).store s265 3 v272 v269).bind fun s273 =>
 ((dOps (H := H) Tryz.prog).indexAddr 47 i0 i1).bind fun v274 =>
 ((dOps (H := H) Tryz.prog).store s273 3 v274 v271).bind fun s275 =>
 some [(.tuple #[x264.2, (.bool false)], s275)] else none))
 (fun x266 s267 => some [(.tuple #[(Go.Value.int Go.IntKind.i64 0), (.bool false)], s267)]) n (v261, v262) s260) else none))
 (fun x241 s242 => some [(.tuple #[(Go.Value.int Go.IntKind.i64 0), (.bool false)], s242)]) n i11 s else none) := by
  have h1 : (kBlock 0 (kSeq Tryz.prog false C n 97 none (cdp Tryz.f97 [1, 1, 1, 1]) (kFun Tryz.prog Tryz.f97))) (.exit i) (f97_l0_m i0 i1 i2 i3 i11 i12 i13 i14 i15 i16 i17 i18 i19 i20 i21 i22 i23 i24 i25 i26 i27 i28 i29 x) s =
 (bif Nat.beq i 0 then
 iter (fun t s k => exec Tryz.prog false C n 97 none (cdp Tryz.f97 [1, 1, 1, 1, 0, 0, 0]) t s k) (scratch (cdp Tryz.f97 [1, 1, 1, 1, 0, 0, 0])) n (f97_l1_m i0 i1 i2 i3 x i12 i13 i14 i15 i16 i17 i18 i19 i20 i21 i22 i23 i24 i25 i26 i27 i28 i29 i11) s (kBlock 2 (kSeq Tryz.prog false C n 97 none (cdp Tryz.f97 [1, 1, 1, 1, 1]) (kFun Tryz.prog Tryz.f97))) else none) := by kernel_rfl
  rw [h1]
  simp only [f97_l1_e, f97_l1_k]
  show _ = (bif Nat.beq i 0 then
 iterS (f97_l1 (dOps (H := H) Tryz.prog) C n i0 i1 x )
 (fun i238 x239 s240 => (bif Nat.beq i238 2 then
 ((dOps (H := H) Tryz.prog).bop .gtr 3 x x239).bind fun v243 =>
 ((dOps (H := H) Tryz.prog).boolO v243).bind fun b244 => cond b244 (
 ((dOps (H := H) Tryz.prog).indexAddr 47 i0 i1).bind fun v245 =>
 ((dOps (H := H) Tryz.prog).load s240 3 v245).bind fun v246 =>
 ((dOps (H := H) Tryz.prog).indexAddr 47 i0 x239).bind fun v247 =>
 ((dOps (H := H) Tryz.prog).load s240 3 v247).bind fun v248 =>
 ((dOps (H := H) Tryz.prog).indexAddr 47 i0 x239).bind fun v249 =>
 ((dOps (H := H) Tryz.prog).store s240 3 v249 v246).bind fun s250 =>
 ((dOps (H := H) Tryz.prog).indexAddr 47 i0 i1).bind fun v251 =>
 ((dOps (H := H) Tryz.prog).store s250 3 v251 v248).bind fun s252 =>
 some [(.tuple #[x239, (.bool true)], s252)]) (
 ((dOps (H := H) Tryz.prog).indexAddr 47 i0 x239).bind fun v253 =>
 ((dOps (H := H) Tryz.prog).load s240 3 v253).bind fun v254 =>
 ((dOps (H := H) Tryz.prog).indexAddr 47 i0 x).bind fun v255 =>
 ((dOps (H := H) Tryz.prog).load s240 3 v255).bind fun v256 =>
 ((dOps (H := H) Tryz.prog).indexAddr 47 i0 x).bind fun v257 =>
 ((dOps (H := H) Tryz.prog).store s240 3 v257 v254).bind fun s258 =>
 ((dOps (H := H) Tryz.prog).indexAddr 47 i0 x239).bind fun v259 =>
 ((dOps (H := H) Tryz.prog).store s258 3 v259 v256).bind fun s260 =>
 ((dOps (H := H) Tryz.prog).bop .add 3 x (Go.Value.int Go.IntKind.i64 1)).bind fun v261 =>
 ((dOps (H := H) Tryz.prog).bop .sub 3 x239 (Go.Value.int Go.IntKind.i64 1)).bind fun v262 =>
 iterS (f97_l2 (dOps (H := H) Tryz.prog) C n i0 i1 x239 v254 )
 (fun i263 x264 s265 => (bif Nat.beq i263 4 then
 ((dOps (H := H) Tryz.prog).indexAddr 47 i0 i1).bind fun v268 =>
 ((dOps (H := H) Tryz.prog).load s265 3 v268).bind fun v269 =>
 ((dOps (H := H) Tryz.prog).indexAddr 47 i0 x264.2).bind fun v270 =>
 ((dOps (H := H) Tryz.prog).load s265 3 v270).bind fun v271 =>
 ((dOps (H := H) Tryz.prog).indexAddr 47 i0 x264.2).bind fun v272 =>
 ((dOps (H := H) Tryz.prog).store s265 3 v272 v269).bind fun s273 =>
 ((dOps (H := H) Tryz.prog).indexAddr 47 i0 i1).bind fun v274 =>
 ((dOps (H := H) Tryz.prog).store s273 3 v274 v271).bind fun s275 =>
 some [(.tuple #[x264.2, (.bool false)], s275)] else none))
 (fun x266 s267 => some [(.tuple #[(Go.Value.int Go.IntKind.i64 0), (.bool false)], s267)]) n (v261, v262) s260) else none))
 (fun x241 s242 => some [(.tuple #[(Go.Value.int Go.IntKind.i64 0), (.bool false)], s242)]) n i11 s else none)
  kernel_rfl
theorem f97_r (C : OracleJ H) (n : Nat) (a0 : Value) (a1 : Value) (a2 : Value) (a3 : Value) (s : St H) : bodyD Tryz.prog false C n 97 Tryz.f97 [a0, a1, a2, a3] s = f97 (dOps (H := H) Tryz.prog) C n a0 a1 a2 a3 s := by
  have h1 : bodyD Tryz.prog false C n 97 Tryz.f97 [a0, a1, a2, a3] s =
 ((dOps (H := H) Tryz.prog).indexAddr 47 a0 a3).bind fun v159 =>
 ((dOps (H := H) Tryz.prog).load s 3 v159).bind fun v160 =>
 ((dOps (H := H) Tryz.prog).indexAddr 47 a0 a1).bind fun v161 =>
 ((dOps (H := H) Tryz.prog).load s 3 v161).bind fun v162 =>
 ((dOps (H := H) Tryz.prog).indexAddr 47 a0 a1).bind fun v163 =>
 ((dOps (H := H) Tryz.prog).store s 3 v163 v160).bind fun s164 =>
 ((dOps (H := H) Tryz.prog).indexAddr 47 a0 a3).bind fun v165 =>
 ((dOps (H := H) Tryz.prog).store s164 3 v165 v162).bind fun s166 =>
 ((dOps (H := H) Tryz.prog).bop .add 3 a1 (Go.Value.int Go.IntKind.i64 1)).bind fun v167 =>
 ((dOps (H := H) Tryz.prog).bop .sub 3 a2 (Go.Value.int Go.IntKind.i64 1)).bind fun v168 =>
 iter (fun t s k => exec Tryz.prog false C n 97 none (cdp Tryz.f97 [1, 1, 1, 0, 0, 0]) t s k) (scratch (cdp Tryz.f97 [1, 1, 1, 0, 0, 0])) n (f97_l0_m a0 a1 a2 a3 v168 a0 a1 a0 a3 a0 a3 v159 v160 a0 a1 v161 v162 v163 v165 a1 v167 a2 v168 v167) s166 (kBlock 0 (kSeq Tryz.prog false C n 97 none (cdp Tryz.f97 [1, 1, 1, 1]) (kFun Tryz.prog Tryz.f97))) := by kernel_rfl
  rw [h1]
  simp only [f97_l0_e, f97_l0_k]
  show _ = f97 (dOps (H := H) Tryz.prog) C n a0 a1 a2 a3 s
  kernel_rfl
/-! tidepole/vint.plain -/
noncomputable def f101 (O : Ops H) (C : OracleJ H) (n : Nat) (a0 : Value) (s : St H) : Option (List (Value × St H)) :=
 some [(a0, s)]
theorem f101_r (C : OracleJ H) (n : Nat) (a0 : Value) (s : St H) : bodyD Tryz.prog false C n 101 Tryz.f101 [a0] s = f101 (dOps (H := H) Tryz.prog) C n a0 s := by kernel_rfl
/-! (tidepole/stamp.State).next -/
noncomputable def f105 (O : Ops H) (C : OracleJ H) (n : Nat) (a0 : Value) (a1 : Value) (s : St H) : Option (List (Value × St H)) :=
 (O.box s a0).bind fun p1 =>
 (O.alloc p1.2 121).bind fun p2 =>
 jn (fun (j282_6 : Value) =>
 (O.boolO j282_6).bind fun b9 => cond b9 (
 (O.build 121 []).bind fun v10 =>
 (O.store p2.2 121 p2.1 v10).bind fun s11 =>
 (O.load s11 121 p2.1).bind fun v12 => some [(.tuple #[v12, (.bool false)], s11)]) (
 (O.fieldAddr 121 p1.1 0).bind fun v13 =>
 (O.load p2.2 3 v13).bind fun v14 =>
 (O.bop .eql 3 v14 (Go.Value.int Go.IntKind.i64 0)).bind fun v15 =>
 (O.boolO v15).bind fun b16 => cond b16 (
 (O.build 121 [(0, (Go.Value.int Go.IntKind.i64 1)), (1, a1), (2, (Go.Value.int Go.IntKind.i64 0))]).bind fun v17 =>
 (O.store p2.2 121 p2.1 v17).bind fun s18 =>
 (O.load s18 121 p2.1).bind fun v19 => some [(.tuple #[v19, (.bool true)], s18)]) (
 (O.fieldAddr 121 p1.1 1).bind fun v20 =>
 (O.load p2.2 3 v20).bind fun v21 =>
 (O.bop .leq 3 a1 v21).bind fun v22 =>
 (O.boolO v22).bind fun b23 => cond b23 (
 (O.build 121 []).bind fun v24 =>
 (O.store p2.2 121 p2.1 v24).bind fun s25 =>
 (O.load s25 121 p2.1).bind fun v26 => some [(.tuple #[v26, (.bool false)], s25)]) (
 (O.fieldAddr 121 p1.1 0).bind fun v27 =>
 (O.load p2.2 3 v27).bind fun v28 =>
 (O.bop .add 3 v28 (Go.Value.int Go.IntKind.i64 1)).bind fun v29 =>
 (O.fieldAddr 121 p1.1 1).bind fun v30 =>
 (O.load p2.2 3 v30).bind fun v31 =>
 (O.bop .sub 3 a1 v31).bind fun v32 =>
 (O.build 121 [(0, v29), (1, a1), (2, v32)]).bind fun v33 =>
 (O.store p2.2 121 p2.1 v33).bind fun s34 =>
 (O.load s34 121 p2.1).bind fun v35 => some [(.tuple #[v35, (.bool true)], s34)])))) fun k282 =>
 (O.bop .lss 3 a1 (Go.Value.int Go.IntKind.i64 0)).bind fun v3 =>
 gd v3 (
 k282 (.bool true)) (
 (O.bop .gtr 3 a1 (Go.Value.int Go.IntKind.i64 35184372088832)).bind fun v4 =>
 k282 v4) (
 none)
theorem f105_r (C : OracleJ H) (n : Nat) (a0 : Value) (a1 : Value) (s : St H) : bodyD Tryz.prog false C n 105 Tryz.f105 [a0, a1] s = f105 (dOps (H := H) Tryz.prog) C n a0 a1 s := by kernel_rfl
/-! tidepole/stamp.of -/
def f109_l0_m (i0 : Value) (i5 : Value) (x : Value × Value × Value) : List Value := [i0, undefV, x.1, x.2.1, dc, i5, x.2.2, dc, dc, dc, dc, dc, dc, dc, dc]
noncomputable def f109_l0 (O : Ops H) (C : OracleJ H) (n : Nat) (i0 : Value) (i5 : Value) (nx : (Value × Value × Value) → St H → Option (List (Value × St H))) (kx : Nat → (Value × Value × Value) → St H → Option (List (Value × St H))) (kr : (Value × Value × Value) → St H → Option (List (Value × St H))) (x : Value × Value × Value) (s : St H) : Option (List (Value × St H)) :=
 (O.bop .lss 3 x.2.2 (Go.Value.int Go.IntKind.i64 5)).bind fun v2 =>
 (O.boolO v2).bind fun b3 => cond b3 (
 (O.index 167 i5 x.2.2).bind fun v4 =>
 (O.alloc s 166).bind fun p5 =>
 (O.store p5.2 166 p5.1 v4).bind fun s6 =>
 (O.load s6 166 p5.1).bind fun v7 =>
 (C (.fn 139) [v7, i0] s6).bind fun L8 => manyK L8 fun v9 s10 =>
 (O.boolO v9).bind fun b11 => cond b11 (
 kr (x.2.2, x.2.2, x.2.2) s10) (
 (O.bop .add 3 x.2.2 (Go.Value.int Go.IntKind.i64 1)).bind fun v12 =>
 nx (x.1, x.2.2, v12) s10)) (
 kx 0 (x.1, x.2.1, x.2.2) s)
theorem f109_l0_b (C : OracleJ H) (n : Nat) (i0 : Value) (i5 : Value) (x : Value × Value × Value) (s : St H) (nx : List Value → St H → Option (List (Value × St H))) (K : Ex → List Value → St H → Option (List (Value × St H))) :
 exec Tryz.prog false C n 109 none (cdp Tryz.f109 [1, 0, 1, 0, 0]) (f109_l0_m i0 i5 x) s (kIter (scratch (cdp Tryz.f109 [1, 0, 1, 0, 0])) nx K) = f109_l0 (dOps (H := H) Tryz.prog) C n i0 i5 (fun x s => nx (f109_l0_m i0 i5 x) s) (fun i x s => K (.exit i) (f109_l0_m i0 i5 x) s) (fun x s => K .ret (f109_l0_m i0 i5 x) s) x s := by kernel_rfl
theorem f109_l0_e (C : OracleJ H) (n : Nat) (i0 : Value) (i5 : Value) (m : Nat) (x : Value × Value × Value) (s : St H) (K : Ex → List Value → St H → Option (List (Value × St H))) :
 iter (fun t s k => exec Tryz.prog false C n 109 none (cdp Tryz.f109 [1, 0, 1, 0, 0]) t s k) (scratch (cdp Tryz.f109 [1, 0, 1, 0, 0])) m (f109_l0_m i0 i5 x) s K = iterS (f109_l0 (dOps (H := H) Tryz.prog) C n i0 i5) (fun i x s => K (.exit i) (f109_l0_m i0 i5 x) s) (fun x s => K .ret (f109_l0_m i0 i5 x) s) m x s :=
   iter_eq (f109_l0_m i0 i5) (f109_l0 (dOps (H := H) Tryz.prog) C n i0 i5) (fun x s nx K => f109_l0_b C n i0 i5 x s nx K) K m x s
noncomputable def f109 (O : Ops H) (C : OracleJ H) (n : Nat) (a0 : Value) (s : St H) : Option (List (Value × St H)) :=
 (O.load s 167 (gpV 0 0)).bind fun v1 =>
 iterS (f109_l0 O C n a0 v1 )
 (fun i13 x14 s15 => (bif Nat.beq i13 0 then
 some [((Go.Value.int Go.IntKind.i64 5), s15)] else none))
 (fun x16 s17 => some [(x16.1, s17)]) n ((Go.Value.int Go.IntKind.i64 0), undefV, (Go.Value.int Go.IntKind.i64 0)) s
theorem f109_l0_k (C : OracleJ H) (n : Nat) (i0 : Value) (i5 : Value) (i : Nat) (x : Value × Value × Value) (s : St H) : (kBlock 0 (kSeq Tryz.prog false C n 109 none (cdp Tryz.f109 [1, 1]) (kFun Tryz.prog Tryz.f109))) (.exit i) (f109_l0_m i0 i5 x) s =
 (bif Nat.beq i 0 then
 some [((Go.Value.int Go.IntKind.i64 5), s)] else none) := by kernel_rfl
theorem f109_r (C : OracleJ H) (n : Nat) (a0 : Value) (s : St H) : bodyD Tryz.prog false C n 109 Tryz.f109 [a0] s = f109 (dOps (H := H) Tryz.prog) C n a0 s := by
  have h1 : bodyD Tryz.prog false C n 109 Tryz.f109 [a0] s =
 ((dOps (H := H) Tryz.prog).load s 167 (gpV 0 0)).bind fun v18 =>
 iter (fun t s k => exec Tryz.prog false C n 109 none (cdp Tryz.f109 [1, 0, 1, 0, 0]) t s k) (scratch (cdp Tryz.f109 [1, 0, 1, 0, 0])) n (f109_l0_m a0 v18 ((Go.Value.int Go.IntKind.i64 0), undefV, (Go.Value.int Go.IntKind.i64 0))) s (kBlock 0 (kSeq Tryz.prog false C n 109 none (cdp Tryz.f109 [1, 1]) (kFun Tryz.prog Tryz.f109))) := by kernel_rfl
  rw [h1]
  simp only [f109_l0_e, f109_l0_k]
  show _ = f109 (dOps (H := H) Tryz.prog) C n a0 s
  kernel_rfl
/-! (tidepole/xor.window).holds -/
noncomputable def f113 (O : Ops H) (C : OracleJ H) (n : Nat) (a0 : Value) (a1 : Value) (s : St H) : Option (List (Value × St H)) :=
 (O.box s a0).bind fun p1 =>
 (O.box p1.2 a1).bind fun p2 =>
 (O.fieldAddr 169 p1.1 0).bind fun v3 =>
 (O.load p2.2 3 v3).bind fun v4 =>
 (O.bop .lss 3 v4 (Go.Value.int Go.IntKind.i64 64)).bind fun v5 =>
 gd v5 (
 (O.fieldAddr 169 p2.1 0).bind fun v6 =>
 (O.load p2.2 3 v6).bind fun v7 =>
 (O.fieldAddr 169 p1.1 0).bind fun v8 =>
 (O.load p2.2 3 v8).bind fun v9 =>
 (O.bop .geq 3 v7 v9).bind fun v10 =>
 gd v10 (
 (O.fieldAddr 169 p2.1 1).bind fun v11 =>
 (O.load p2.2 3 v11).bind fun v12 =>
 (O.fieldAddr 169 p1.1 1).bind fun v13 =>
 (O.load p2.2 3 v13).bind fun v14 =>
 (O.bop .geq 3 v12 v14).bind fun v15 =>
 some [(v15, p2.2)]) (
 some [((.bool false), p2.2)]) (
 none)) (
 some [((.bool false), p2.2)]) (
 none)
theorem f113_r (C : OracleJ H) (n : Nat) (a0 : Value) (a1 : Value) (s : St H) : bodyD Tryz.prog false C n 113 Tryz.f113 [a0, a1] s = f113 (dOps (H := H) Tryz.prog) C n a0 a1 s := by kernel_rfl
/-! slices.insertionSortOrdered[uint64] -/
def f117_l1_m (i0 : Value) (i1 : Value) (i2 : Value) (i6 : Value) (i8 : Value) (i9 : Value) (i10 : Value) (i11 : Value) (i12 : Value) (i15 : Value) (x : Value) : List Value := [i0, i1, i2, undefV, undefV, undefV, i6, x, i8, i9, i10, i11, i12, dc, dc, i15, dc, dc, dc, dc, dc, dc, dc, dc, dc, dc, dc, dc, dc, dc, dc, dc, dc, dc, dc, dc, dc, dc, dc, dc, dc, dc, dc, dc, dc, dc, dc, dc, dc]
noncomputable def f117_l1 (O : Ops H) (C : OracleJ H) (n : Nat) (i0 : Value) (i1 : Value) (nx : Value → St H → Option (List (Value × St H))) (kx : Nat → Value → St H → Option (List (Value × St H))) (kr : Value → St H → Option (List (Value × St H))) (x : Value) (s : St H) : Option (List (Value × St H)) :=
 jn (fun (j319_30 : Value) (js319 : St H) =>
 (O.boolO j319_30).bind fun b23 => cond b23 (
 (O.bop .sub 3 x (Go.Value.int Go.IntKind.i64 1)).bind fun v24 =>
 (O.bop .sub 3 x (Go.Value.int Go.IntKind.i64 1)).bind fun v25 =>
 (O.indexAddr 39 i0 v25).bind fun v26 =>
 (O.load js319 26 v26).bind fun v27 =>
 (O.indexAddr 39 i0 x).bind fun v28 =>
 (O.load js319 26 v28).bind fun v29 =>
 (O.indexAddr 39 i0 x).bind fun v30 =>
 (O.store js319 26 v30 v27).bind fun s31 =>
 (O.indexAddr 39 i0 v24).bind fun v32 =>
 (O.store s31 26 v32 v29).bind fun s33 =>
 (O.bop .sub 3 x (Go.Value.int Go.IntKind.i64 1)).bind fun v34 =>
 nx v34 s33) (
 kx 2 x js319)) fun k319 =>
 (O.bop .gtr 3 x i1).bind fun v4 =>
 gd v4 (
 (O.indexAddr 39 i0 x).bind fun v5 =>
 (O.load s 26 v5).bind fun v6 =>
 (O.bop .sub 3 x (Go.Value.int Go.IntKind.i64 1)).bind fun v7 =>
 (O.indexAddr 39 i0 v7).bind fun v8 =>
 (O.load s 26 v8).bind fun v9 =>
 (oneO C (.fn 123) [v6, v9] s).bind fun p10 =>
 k319 p10.1 p10.2) (
 k319 (.bool false) s) (
 none)
theorem f117_l1_b (C : OracleJ H) (n : Nat) (i0 : Value) (i1 : Value) (i2 : Value) (i6 : Value) (i8 : Value) (i9 : Value) (i10 : Value) (i11 : Value) (i12 : Value) (i15 : Value) (x : Value) (s : St H) (nx : List Value → St H → Option (List (Value × St H))) (K : Ex → List Value → St H → Option (List (Value × St H))) :
 exec Tryz.prog false C n 117 none (cdp Tryz.f117 [1, 0, 0, 1, 0, 0, 1, 0, 0]) (f117_l1_m i0 i1 i2 i6 i8 i9 i10 i11 i12 i15 x) s (kIter (scratch (cdp Tryz.f117 [1, 0, 0, 1, 0, 0, 1, 0, 0])) nx K) = f117_l1 (dOps (H := H) Tryz.prog) C n i0 i1 (fun x s => nx (f117_l1_m i0 i1 i2 i6 i8 i9 i10 i11 i12 i15 x) s) (fun i x s => K (.exit i) (f117_l1_m i0 i1 i2 i6 i8 i9 i10 i11 i12 i15 x) s) (fun x s => K .ret (f117_l1_m i0 i1 i2 i6 i8 i9 i10 i11 i12 i15 x) s) x s := by kernel_rfl
theorem f117_l1_e (C : OracleJ H) (n : Nat) (i0 : Value) (i1 : Value) (i2 : Value) (i6 : Value) (i8 : Value) (i9 : Value) (i10 : Value) (i11 : Value) (i12 : Value) (i15 : Value) (m : Nat) (x : Value) (s : St H) (K : Ex → List Value → St H → Option (List (Value × St H))) :
 iter (fun t s k => exec Tryz.prog false C n 117 none (cdp Tryz.f117 [1, 0, 0, 1, 0, 0, 1, 0, 0]) t s k) (scratch (cdp Tryz.f117 [1, 0, 0, 1, 0, 0, 1, 0, 0])) m (f117_l1_m i0 i1 i2 i6 i8 i9 i10 i11 i12 i15 x) s K = iterS (f117_l1 (dOps (H := H) Tryz.prog) C n i0 i1) (fun i x s => K (.exit i) (f117_l1_m i0 i1 i2 i6 i8 i9 i10 i11 i12 i15 x) s) (fun x s => K .ret (f117_l1_m i0 i1 i2 i6 i8 i9 i10 i11 i12 i15 x) s) m x s :=
   iter_eq (f117_l1_m i0 i1 i2 i6 i8 i9 i10 i11 i12 i15) (f117_l1 (dOps (H := H) Tryz.prog) C n i0 i1) (fun x s nx K => f117_l1_b C n i0 i1 i2 i6 i8 i9 i10 i11 i12 i15 x s nx K) K m x s
def f117_l0_m (i0 : Value) (i1 : Value) (i2 : Value) (i8 : Value) (i9 : Value) (x : Value × Value) : List Value := [i0, i1, i2, undefV, undefV, undefV, x.1, x.2, i8, i9, dc, dc, dc, dc, dc, dc, dc, dc, dc, dc, dc, dc, dc, dc, dc, dc, dc, dc, dc, dc, dc, dc, dc, dc, dc, dc, dc, dc, dc, dc, dc, dc, dc, dc, dc, dc, dc, dc, dc]
noncomputable def f117_l0 (O : Ops H) (C : OracleJ H) (n : Nat) (i0 : Value) (i1 : Value) (i2 : Value) (nx : (Value × Value) → St H → Option (List (Value × St H))) (kx : Nat → (Value × Value) → St H → Option (List (Value × St H))) (kr : (Value × Value) → St H → Option (List (Value × St H))) (x : Value × Value) (s : St H) : Option (List (Value × St H)) :=
 (O.bop .lss 3 x.1 i2).bind fun v2 =>
 (O.boolO v2).bind fun b3 => cond b3 (
 iterS (f117_l1 O C n i0 i1 )
 (fun i35 x36 s37 => (bif Nat.beq i35 2 then
 (O.bop .add 3 x.1 (Go.Value.int Go.IntKind.i64 1)).bind fun v42 =>
 nx (v42, x36) s37 else (bif Nat.beq i35 1 then
 (O.bop .add 3 x.1 (Go.Value.int Go.IntKind.i64 1)).bind fun v41 =>
 nx (v41, x36) s37 else kx i35 (x.1, x36) s37)))
 (fun x38 s39 => kr (x.1, x38) s39) n x.1 s) (
 kx 0 (x.1, x.2) s)
theorem f117_l1_k (C : OracleJ H) (n : Nat) (i0 : Value) (i1 : Value) (i2 : Value) (i6 : Value) (i8 : Value) (i9 : Value) (i10 : Value) (i11 : Value) (i12 : Value) (i15 : Value) (nx : List Value → St H → Option (List (Value × St H))) (K : Ex → List Value → St H → Option (List (Value × St H))) (i : Nat) (x : Value) (s : St H) : (kBlock 2 (kBlock 1 (kSeq Tryz.prog false C n 117 none (cdp Tryz.f117 [1, 0, 0, 1, 1]) (kIter (scratch (cdp Tryz.f117 [1, 0, 0])) nx K)))) (.exit i) (f117_l1_m i0 i1 i2 i6 i8 i9 i10 i11 i12 i15 x) s =
 (bif Nat.beq i 2 then
 ((dOps (H := H) Tryz.prog).bop .add 3 i6 (Go.Value.int Go.IntKind.i64 1)).bind fun v47 =>
 nx (f117_l0_m i0 i1 i2 i8 i9 (v47, x)) s else (bif Nat.beq i 1 then
 ((dOps (H := H) Tryz.prog).bop .add 3 i6 (Go.Value.int Go.IntKind.i64 1)).bind fun v48 =>
 nx (f117_l0_m i0 i1 i2 i8 i9 (v48, x)) s else K (.exit i) (f117_l0_m i0 i1 i2 i8 i9 (i6, x)) s)) := by kernel_rfl
theorem f117_l0_b (C : OracleJ H) (n : Nat) (i0 : Value) (i1 : Value) (i2 : Value) (i8 : Value) (i9 : Value) (x : Value × Value) (s : St H) (nx : List Value → St H → Option (List (Value × St H))) (K : Ex → List Value → St H → Option (List (Value × St H))) :
 exec Tryz.prog false C n 117 none (cdp Tryz.f117 [1, 0, 0]) (f117_l0_m i0 i1 i2 i8 i9 x) s (kIter (scratch (cdp Tryz.f117 [1, 0, 0])) nx K) = f117_l0 (dOps (H := H) Tryz.prog) C n i0 i1 i2 (fun x s => nx (f117_l0_m i0 i1 i2 i8 i9 x) s) (fun i x s => K (.exit i) (f117_l0_m i0 i1 i2 i8 i9 x) s) (fun x s => K .ret (f117_l0_m i0 i1 i2 i8 i9 x) s) x s := by
  have h1 : exec Tryz.prog false C n 117 none (cdp Tryz.f117 [1, 0, 0]) (f117_l0_m i0 i1 i2 i8 i9 x) s (kIter (scratch (cdp Tryz.f117 [1, 0, 0])) nx K) =
 ((dOps (H := H) Tryz.prog).bop .lss 3 x.1 i2).bind fun v43 =>
 ((dOps (H := H) Tryz.prog).boolO v43).bind fun b44 => cond b44 (
 iter (fun t s k => exec Tryz.prog false C n 117 none (cdp Tryz.f117 [1, 0, 0, 1, 0, 0, 1, 0, 0]) t s k) (scratch (cdp Tryz.f117 [1, 0, 0, 1, 0, 0, 1, 0, 0])) n (f117_l1_m i0 i1 i2 x.1 i8 i9 x.1 i2 v43 x.1 x.1) s (kBlock 2 (kBlock 1 (kSeq Tryz.prog false C n 117 none (cdp Tryz.f117 [1, 0, 0, 1, 1]) (kIter (scratch (cdp Tryz.f117 [1, 0, 0])) nx K))))) (
 K (.exit 0) (f117_l0_m i0 i1 i2 i8 i9 (x.1, x.2)) s) := by kernel_rfl
  rw [h1]
  simp only [f117_l1_e, f117_l1_k]
  show _ = f117_l0 (dOps (H := H) Tryz.prog) C n i0 i1 i2 (fun x s => nx (f117_l0_m i0 i1 i2 i8 i9 x) s) (fun i x s => K (.exit i) (f117_l0_m i0 i1 i2 i8 i9 x) s) (fun x s => K .ret (f117_l0_m i0 i1 i2 i8 i9 x) s) x s
  kernel_rfl
theorem f117_l0_e (C : OracleJ H) (n : Nat) (i0 : Value) (i1 : Value) (i2 : Value) (i8 : Value) (i9 : Value) (m : Nat) (x : Value × Value) (s : St H) (K : Ex → List Value → St H → Option (List (Value × St H))) :
 iter (fun t s k => exec Tryz.prog false C n 117 none (cdp Tryz.f117 [1, 0, 0]) t s k) (scratch (cdp Tryz.f117 [1, 0, 0])) m (f117_l0_m i0 i1 i2 i8 i9 x) s K = iterS (f117_l0 (dOps (H := H) Tryz.prog) C n i0 i1 i2) (fun i x s => K (.exit i) (f117_l0_m i0 i1 i2 i8 i9 x) s) (fun x s => K .ret (f117_l0_m i0 i1 i2 i8 i9 x) s) m x s :=
   iter_eq (f117_l0_m i0 i1 i2 i8 i9) (f117_l0 (dOps (H := H) Tryz.prog) C n i0 i1 i2) (fun x s nx K => f117_l0_b C n i0 i1 i2 i8 i9 x s nx K) K m x s
noncomputable def f117 (O : Ops H) (C : OracleJ H) (n : Nat) (a0 : Value) (a1 : Value) (a2 : Value) (s : St H) : Option (List (Value × St H)) :=
 (O.bop .add 3 a1 (Go.Value.int Go.IntKind.i64 1)).bind fun v1 =>
 iterS (f117_l0 O C n a0 a1 a2 )
 (fun i49 x50 s51 => (bif Nat.beq i49 0 then
 some [(.tuple #[], s51)] else none))
 (fun x52 s53 => some [(.tuple #[], s53)]) n (v1, undefV) s
theorem f117_l0_k (C : OracleJ H) (n : Nat) (i0 : Value) (i1 : Value) (i2 : Value) (i8 : Value) (i9 : Value) (i : Nat) (x : Value × Value) (s : St H) : (kBlock 0 (kFun Tryz.prog Tryz.f117)) (.exit i) (f117_l0_m i0 i1 i2 i8 i9 x) s =
 (bif Nat.beq i 0 then
 some [(.tuple #[], s)] else none) := by kernel_rfl
theorem f117_r (C : OracleJ H) (n : Nat) (a0 : Value) (a1 : Value) (a2 : Value) (s : St H) : bodyD Tryz.prog false C n 117 Tryz.f117 [a0, a1, a2] s = f117 (dOps (H := H) Tryz.prog) C n a0 a1 a2 s := by
  have h1 : bodyD Tryz.prog false C n 117 Tryz.f117 [a0, a1, a2] s =
 ((dOps (H := H) Tryz.prog).bop .add 3 a1 (Go.Value.int Go.IntKind.i64 1)).bind fun v54 =>
 iter (fun t s k => exec Tryz.prog false C n 117 none (cdp Tryz.f117 [1, 0, 0]) t s k) (scratch (cdp Tryz.f117 [1, 0, 0])) n (f117_l0_m a0 a1 a2 a1 v54 (v54, undefV)) s (kBlock 0 (kFun Tryz.prog Tryz.f117)) := by kernel_rfl
  rw [h1]
  simp only [f117_l0_e, f117_l0_k]
  show _ = f117 (dOps (H := H) Tryz.prog) C n a0 a1 a2 s
  kernel_rfl
/-! slices.reverseRangeOrdered[uint64] -/
def f121_l0_m (i0 : Value) (i1 : Value) (i2 : Value) (i8 : Value) (i9 : Value) (i10 : Value) (x : Value × Value) : List Value := [i0, i1, i2, undefV, undefV, undefV, x.1, x.2, i8, i9, i10, dc, dc, dc, dc, dc, dc, dc, dc, dc, dc, dc, dc, dc, dc, dc, dc, dc, dc, dc, dc, dc]
noncomputable def f121_l0 (O : Ops H) (C : OracleJ H) (n : Nat) (i0 : Value) (nx : (Value × Value) → St H → Option (List (Value × St H))) (kx : Nat → (Value × Value) → St H → Option (List (Value × St H))) (kr : (Value × Value) → St H → Option (List (Value × St H))) (x : Value × Value) (s : St H) : Option (List (Value × St H)) :=
 (O.bop .lss 3 x.1 x.2).bind fun v2 =>
 (O.boolO v2).bind fun b3 => cond b3 (
 (O.indexAddr 39 i0 x.2).bind fun v4 =>
 (O.load s 26 v4).bind fun v5 =>
 (O.indexAddr 39 i0 x.1).bind fun v6 =>
 (O.load s 26 v6).bind fun v7 =>
 (O.indexAddr 39 i0 x.1).bind fun v8 =>
 (O.store s 26 v8 v5).bind fun s9 =>
 (O.indexAddr 39 i0 x.2).bind fun v10 =>
 (O.store s9 26 v10 v7).bind fun s11 =>
 (O.bop .add 3 x.1 (Go.Value.int Go.IntKind.i64 1)).bind fun v12 =>
 (O.bop .sub 3 x.2 (Go.Value.int Go.IntKind.i64 1)).bind fun v13 =>
 nx (v12, v13) s11) (
 kx 0 (x.1, x.2) s)
theorem f121_l0_b (C : OracleJ H) (n : Nat) (i0 : Value) (i1 : Value) (i2 : Value) (i8 : Value) (i9 : Value) (i10 : Value) (x : Value × Value) (s : St H) (nx : List Value → St H → Option (List (Value × St H))) (K : Ex → List Value → St H → Option (List (Value × St H))) :
 exec Tryz.prog false C n 121 none (cdp Tryz.f121 [1, 1, 0, 0]) (f121_l0_m i0 i1 i2 i8 i9 i10 x) s (kIter (scratch (cdp Tryz.f121 [1, 1, 0, 0])) nx K) = f121_l0 (dOps (H := H) Tryz.prog) C n i0 (fun x s => nx (f121_l0_m i0 i1 i2 i8 i9 i10 x) s) (fun i x s => K (.exit i) (f121_l0_m i0 i1 i2 i8 i9 i10 x) s) (fun x s => K .ret (f121_l0_m i0 i1 i2 i8 i9 i10 x) s) x s := by kernel_rfl
theorem f121_l0_e (C : OracleJ H) (n : Nat) (i0 : Value) (i1 : Value) (i2 : Value) (i8 : Value) (i9 : Value) (i10 : Value) (m : Nat) (x : Value × Value) (s : St H) (K : Ex → List Value → St H → Option (List (Value × St H))) :
 iter (fun t s k => exec Tryz.prog false C n 121 none (cdp Tryz.f121 [1, 1, 0, 0]) t s k) (scratch (cdp Tryz.f121 [1, 1, 0, 0])) m (f121_l0_m i0 i1 i2 i8 i9 i10 x) s K = iterS (f121_l0 (dOps (H := H) Tryz.prog) C n i0) (fun i x s => K (.exit i) (f121_l0_m i0 i1 i2 i8 i9 i10 x) s) (fun x s => K .ret (f121_l0_m i0 i1 i2 i8 i9 i10 x) s) m x s :=
   iter_eq (f121_l0_m i0 i1 i2 i8 i9 i10) (f121_l0 (dOps (H := H) Tryz.prog) C n i0) (fun x s nx K => f121_l0_b C n i0 i1 i2 i8 i9 i10 x s nx K) K m x s
noncomputable def f121 (O : Ops H) (C : OracleJ H) (n : Nat) (a0 : Value) (a1 : Value) (a2 : Value) (s : St H) : Option (List (Value × St H)) :=
 (O.bop .sub 3 a2 (Go.Value.int Go.IntKind.i64 1)).bind fun v1 =>
 iterS (f121_l0 O C n a0 )
 (fun i14 x15 s16 => (bif Nat.beq i14 0 then
 some [(.tuple #[], s16)] else none))
 (fun x17 s18 => some [(.tuple #[], s18)]) n (a1, v1) s
theorem f121_l0_k (C : OracleJ H) (n : Nat) (i0 : Value) (i1 : Value) (i2 : Value) (i8 : Value) (i9 : Value) (i10 : Value) (i : Nat) (x : Value × Value) (s : St H) : (kBlock 0 (kFun Tryz.prog Tryz.f121)) (.exit i) (f121_l0_m i0 i1 i2 i8 i9 i10 x) s =
 (bif Nat.beq i 0 then
 some [(.tuple #[], s)] else none) := by kernel_rfl
theorem f121_r (C : OracleJ H) (n : Nat) (a0 : Value) (a1 : Value) (a2 : Value) (s : St H) : bodyD Tryz.prog false C n 121 Tryz.f121 [a0, a1, a2] s = f121 (dOps (H := H) Tryz.prog) C n a0 a1 a2 s := by
  have h1 : bodyD Tryz.prog false C n 121 Tryz.f121 [a0, a1, a2] s =
 ((dOps (H := H) Tryz.prog).bop .sub 3 a2 (Go.Value.int Go.IntKind.i64 1)).bind fun v19 =>
 iter (fun t s k => exec Tryz.prog false C n 121 none (cdp Tryz.f121 [1, 1, 0, 0]) t s k) (scratch (cdp Tryz.f121 [1, 1, 0, 0])) n (f121_l0_m a0 a1 a2 a1 a2 v19 (a1, v19)) s (kBlock 0 (kFun Tryz.prog Tryz.f121)) := by kernel_rfl
  rw [h1]
  simp only [f121_l0_e, f121_l0_k]
  show _ = f121 (dOps (H := H) Tryz.prog) C n a0 a1 a2 s
  kernel_rfl
/-! tidepole/chunk.look -/
noncomputable def f126 (O : Ops H) (C : OracleJ H) (n : Nat) (a0 : Value) (a1 : Value) (s : St H) : Option (List (Value × St H)) :=
 (O.alloc s 184).bind fun p1 =>
 (C (.fn 146) [a0, a1] p1.2).bind fun L2 => manyK L2 fun v3 s4 =>
 (O.extract v3 0).bind fun v5 =>
 (O.extract v3 1).bind fun v6 =>
 (O.extract v3 2).bind fun v7 =>
 (O.bop .neq 32 v7 (Go.Value.int Go.IntKind.i64 0)).bind fun v8 =>
 (O.boolO v8).bind fun b9 => cond b9 (
 (O.build 184 []).bind fun v10 =>
 (O.store s4 184 p1.1 v10).bind fun s11 =>
 (O.load s11 184 p1.1).bind fun v12 => some [(.tuple #[v12, v7], s11)]) (
 (C (.fn 146) [a0, v6] s4).bind fun L13 => manyK L13 fun v14 s15 =>
 (O.extract v14 0).bind fun v16 =>
 (O.extract v14 1).bind fun v17 =>
 (O.extract v14 2).bind fun v18 =>
 (O.len s15 99 a0).bind fun v19 =>
 (O.bop .sub 3 v19 v17).bind fun v20 =>
 (O.conv false s15 3 26 v20).bind fun p21 =>
 (O.bop .neq 32 v18 (Go.Value.int Go.IntKind.i64 0)).bind fun v22 =>
 (O.boolO v22).bind fun b23 => cond b23 (
 (O.build 184 []).bind fun v24 =>
 (O.store p21.2 184 p1.1 v24).bind fun s25 =>
 (O.load s25 184 p1.1).bind fun v26 => some [(.tuple #[v26, v18], s25)]) (
 jn (fun (j365_42 : Value) =>
 (O.boolO j365_42).bind fun b33 => cond b33 (
 (O.build 184 []).bind fun v34 =>
 (O.store p21.2 184 p1.1 v34).bind fun s35 =>
 (O.load s35 184 p1.1).bind fun v36 => some [(.tuple #[v36, (Go.Value.int Go.IntKind.i64 80)], s35)]) (
 jn (fun (j369_50 : Value) =>
 (O.boolO j369_50).bind fun b44 => cond b44 (
 (O.build 184 []).bind fun v45 =>
 (O.store p21.2 184 p1.1 v45).bind fun s46 =>
 (O.load s46 184 p1.1).bind fun v47 => some [(.tuple #[v47, (Go.Value.int Go.IntKind.i64 7)], s46)]) (
 (O.conv false p21.2 26 3 v5).bind fun p48 =>
 (O.conv false p48.2 26 3 v16).bind fun p49 =>
 (O.bop .add 3 v17 p49.1).bind fun v50 =>
 (O.build 184 [(0, p48.1), (1, v17), (2, v50)]).bind fun v51 =>
 (O.alloc p49.2 184).bind fun p52 =>
 (O.store p52.2 184 p52.1 v51).bind fun s53 =>
 (O.fieldAddr 184 p52.1 2).bind fun v54 =>
 (O.load s53 3 v54).bind fun v55 =>
 (O.bop .add 3 v55 (Go.Value.int Go.IntKind.i64 4)).bind fun v56 =>
 (O.slc s53 99 a0 (some a1) (some v56) none).bind fun v57 =>
 (C (.fn 147) [v57] s53).bind fun L58 => manyK L58 fun v59 s60 =>
 (O.extract v59 0).bind fun v61 =>
 (O.extract v59 1).bind fun v62 =>
 (O.uop .not v62).bind fun v63 =>
 (O.boolO v63).bind fun b64 => cond b64 (
 (O.build 184 []).bind fun v65 =>
 (O.store s60 184 p1.1 v65).bind fun s66 =>
 (O.load s66 184 p1.1).bind fun v67 => some [(.tuple #[v67, (Go.Value.int Go.IntKind.i64 80)], s66)]) (
 (O.load s60 184 p52.1).bind fun v68 =>
 (O.store s60 184 p1.1 v68).bind fun s69 =>
 (O.load s69 184 p1.1).bind fun v70 => some [(.tuple #[v70, v18], s69)]))) fun k369 =>
 (O.bop .gtr 26 v16 p21.1).bind fun v37 =>
 gd v37 (
 k369 (.bool true)) (
 (O.bop .sub 26 p21.1 v16).bind fun v38 =>
 (O.bop .lss 26 v38 (Go.Value.int Go.IntKind.u64 4)).bind fun v39 =>
 k369 v39) (
 none))) fun k365 =>
 (O.bop .lss 26 v5 (Go.Value.int Go.IntKind.u64 1)).bind fun v27 =>
 gd v27 (
 k365 (.bool true)) (
 (O.bop .gtr 26 v5 (Go.Value.int Go.IntKind.u64 120)).bind fun v28 =>
 k365 v28) (
 none)))
theorem f126_r (C : OracleJ H) (n : Nat) (a0 : Value) (a1 : Value) (s : St H) : bodyD Tryz.prog false C n 126 Tryz.f126 [a0, a1] s = f126 (dOps (H := H) Tryz.prog) C n a0 a1 s := by kernel_rfl
/-! slices.siftDownOrdered[int] -/
def f130_l0_m (i0 : Value) (i1 : Value) (i2 : Value) (i3 : Value) (i10 : Value) (x : Value × Value) : List Value := [i0, i1, i2, i3, undefV, undefV, undefV, undefV, x.1, x.2, i10, dc, dc, dc, dc, dc, dc, dc, dc, dc, dc, dc, dc, dc, dc, dc, dc, dc, dc, dc, dc, dc, dc, dc, dc, dc, dc, dc, dc, dc, dc, dc, dc, dc, dc, dc, dc, dc, dc, dc, dc, dc, dc, dc, dc, dc, dc, dc, dc, dc, dc, dc, dc, dc, dc, dc, dc, dc, dc, dc, dc, dc, dc, dc, dc, dc]
noncomputable def f130_l0 (O : Ops H) (C : OracleJ H) (n : Nat) (i0 : Value) (i2 : Value) (i3 : Value) (nx : (Value × Value) → St H → Option (List (Value × St H))) (kx : Nat → (Value × Value) → St H → Option (List (Value × St H))) (kr : (Value × Value) → St H → Option (List (Value × St H))) (x : Value × Value) (s : St H) : Option (List (Value × St H)) :=
 (O.bop .mul 3 (Go.Value.int Go.IntKind.i64 2) x.1).bind fun v1 =>
 (O.bop .add 3 v1 (Go.Value.int Go.IntKind.i64 1)).bind fun v2 =>
 (O.bop .geq 3 v2 i2).bind fun v3 =>
 (O.boolO v3).bind fun b4 => cond b4 (
 kx 0 (x.1, v2) s) (
 jn (fun (j385_36 : Value) (js385 : St H) =>
 jn (fun (j396_9 : Value) =>
 (O.bop .add 3 i3 x.1).bind fun v82 =>
 (O.indexAddr 47 i0 v82).bind fun v83 =>
 (O.load js385 3 v83).bind fun v84 =>
 (O.bop .add 3 i3 j396_9).bind fun v85 =>
 (O.indexAddr 47 i0 v85).bind fun v86 =>
 (O.load js385 3 v86).bind fun v87 =>
 (oneO C (.fn 95) [v84, v87] js385).bind fun p88 =>
 (O.uop .not p88.1).bind fun v89 =>
 (O.boolO v89).bind fun b90 => cond b90 (
 kr (x.1, j396_9) p88.2) (
 (O.bop .add 3 i3 x.1).bind fun v91 =>
 (O.bop .add 3 i3 j396_9).bind fun v92 =>
 (O.bop .add 3 i3 j396_9).bind fun v93 =>
 (O.indexAddr 47 i0 v93).bind fun v94 =>
 (O.load p88.2 3 v94).bind fun v95 =>
 (O.bop .add 3 i3 x.1).bind fun v96 =>
 (O.indexAddr 47 i0 v96).bind fun v97 =>
 (O.load p88.2 3 v97).bind fun v98 =>
 (O.indexAddr 47 i0 v91).bind fun v99 =>
 (O.store p88.2 3 v99 v95).bind fun s100 =>
 (O.indexAddr 47 i0 v92).bind fun v101 =>
 (O.store s100 3 v101 v98).bind fun s102 =>
 nx (j396_9, j396_9) s102)) fun k396 =>
 (O.boolO j385_36).bind fun b59 => cond b59 (
 (O.bop .add 3 v2 (Go.Value.int Go.IntKind.i64 1)).bind fun v60 =>
 k396 v60) (
 k396 v2)) fun k385 =>
 (O.bop .add 3 v2 (Go.Value.int Go.IntKind.i64 1)).bind fun v5 =>
 (O.bop .lss 3 v5 i2).bind fun v6 =>
 gd v6 (
 (O.bop .add 3 i3 v2).bind fun v7 =>
 (O.indexAddr 47 i0 v7).bind fun v8 =>
 (O.load s 3 v8).bind fun v9 =>
 (O.bop .add 3 i3 v2).bind fun v10 =>
 (O.bop .add 3 v10 (Go.Value.int Go.IntKind.i64 1)).bind fun v11 =>
 (O.indexAddr 47 i0 v11).bind fun v12 =>
 (O.load s 3 v12).bind fun v13 =>
 (oneO C (.fn 95) [v9, v13] s).bind fun p14 =>
 k385 p14.1 p14.2) (
 k385 (.bool false) s) (
 none))
theorem f130_l0_b (C : OracleJ H) (n : Nat) (i0 : Value) (i1 : Value) (i2 : Value) (i3 : Value) (i10 : Value) (x : Value × Value) (s : St H) (nx : List Value → St H → Option (List (Value × St H))) (K : Ex → List Value → St H → Option (List (Value × St H))) :
 exec Tryz.prog false C n 130 none (cdp Tryz.f130 [1, 0, 0]) (f130_l0_m i0 i1 i2 i3 i10 x) s (kIter (scratch (cdp Tryz.f130 [1, 0, 0])) nx K) = f130_l0 (dOps (H := H) Tryz.prog) C n i0 i2 i3 (fun x s => nx (f130_l0_m i0 i1 i2 i3 i10 x) s) (fun i x s => K (.exit i) (f130_l0_m i0 i1 i2 i3 i10 x) s) (fun x s => K .ret (f130_l0_m i0 i1 i2 i3 i10 x) s) x s := by kernel_rfl
theorem f130_l0_e (C : OracleJ H) (n : Nat) (i0 : Value) (i1 : Value) (i2 : Value) (i3 : Value) (i10 : Value) (m : Nat) (x : Value × Value) (s : St H) (K : Ex → List Value → St H → Option (List (Value × St H))) :
 iter (fun t s k => exec Tryz.prog false C n 130 none (cdp Tryz.f130 [1, 0, 0]) t s k) (scratch (cdp Tryz.f130 [1, 0, 0])) m (f130_l0_m i0 i1 i2 i3 i10 x) s K = iterS (f130_l0 (dOps (H := H) Tryz.prog) C n i0 i2 i3) (fun i x s => K (.exit i) (f130_l0_m i0 i1 i2 i3 i10 x) s) (fun x s => K .ret (f130_l0_m i0 i1 i2 i3 i10 x) s) m x s :=
   iter_eq (f130_l0_m i0 i1 i2 i3 i10) (f130_l0 (dOps (H := H) Tryz.prog) C n i0 i2 i3) (fun x s nx K => f130_l0_b C n i0 i1 i2 i3 i10 x s nx K) K m x s
noncomputable def f130 (O : Ops H) (C : OracleJ H) (n : Nat) (a0 : Value) (a1 : Value) (a2 : Value) (a3 : Value) (s : St H) : Option (List (Value × St H)) :=
 iterS (f130_l0 O C n a0 a2 a3 )
 (fun i103 x104 s105 => (bif Nat.beq i103 0 then
 some [(.tuple #[], s105)] else none))
 (fun x106 s107 => some [(.tuple #[], s107)]) n (a1, undefV) s
theorem f130_l0_k (C : OracleJ H) (n : Nat) (i0 : Value) (i1 : Value) (i2 : Value) (i3 : Value) (i10 : Value) (i : Nat) (x : Value × Value) (s : St H) : (kBlock 0 (kFun Tryz.prog Tryz.f130)) (.exit i) (f130_l0_m i0 i1 i2 i3 i10 x) s =
 (bif Nat.beq i 0 then
 some [(.tuple #[], s)] else none) := by kernel_rfl
theorem f130_r (C : OracleJ H) (n : Nat) (a0 : Value) (a1 : Value) (a2 : Value) (a3 : Value) (s : St H) : bodyD Tryz.prog false C n 130 Tryz.f130 [a0, a1, a2, a3] s = f130 (dOps (H := H) Tryz.prog) C n a0 a1 a2 a3 s := by
  have h1 : bodyD Tryz.prog false C n 130 Tryz.f130 [a0, a1, a2, a3] s =
 iter (fun t s k => exec Tryz.prog false C n 130 none (cdp Tryz.f130 [1, 0, 0]) t s k) (scratch (cdp Tryz.f130 [1, 0, 0])) n (f130_l0_m a0 a1 a2 a3 a1 (a1, undefV)) s (kBlock 0 (kFun Tryz.prog Tryz.f130)) := by kernel_rfl
  rw [h1]
  simp only [f130_l0_e, f130_l0_k]
  show _ = f130 (dOps (H := H) Tryz.prog) C n a0 a1 a2 a3 s
  kernel_rfl
/-! slices.medianOrdered[int] -/
noncomputable def f134 (O : Ops H) (C : OracleJ H) (n : Nat) (a0 : Value) (a1 : Value) (a2 : Value) (a3 : Value) (a4 : Value) (s : St H) : Option (List (Value × St H)) :=
 (C (.fn 153) [a0, a1, a2, a4] s).bind fun L1 => manyK L1 fun v2 s3 =>
 (O.extract v2 0).bind fun v4 =>
 (O.extract v2 1).bind fun v5 =>
 (C (.fn 153) [a0, v5, a3, a4] s3).bind fun L6 => manyK L6 fun v7 s8 =>
 (O.extract v7 0).bind fun v9 =>
 (O.extract v7 1).bind fun v10 =>
 (C (.fn 153) [a0, v4, v9, a4] s8).bind fun L11 => manyK L11 fun v12 s13 =>
 (O.extract v12 0).bind fun v14 =>
 (O.extract v12 1).bind fun v15 =>
 some [(v15, s13)]
theorem f134_r (C : OracleJ H) (n : Nat) (a0 : Value) (a1 : Value) (a2 : Value) (a3 : Value) (a4 : Value) (s : St H) : bodyD Tryz.prog false C n 134 Tryz.f134 [a0, a1, a2, a3, a4] s = f134 (dOps (H := H) Tryz.prog) C n a0 a1 a2 a3 a4 s := by kernel_rfl
/-! (*tidepole/bits.buffer).add -/
noncomputable def f138 (O : Ops H) (C : OracleJ H) (n : Nat) (a0 : Value) (a1 : Value) (a2 : Value) (s : St H) : Option (List (Value × St H)) :=
 (O.nilCheck a0).bind fun v1 =>
 (O.fieldAddr 153 v1 0).bind fun v2 =>
 (O.load s 99 v2).bind fun v3 =>
 (O.len s 99 v3).bind fun v4 =>
 (O.bop .mul 3 v4 (Go.Value.int Go.IntKind.i64 8)).bind fun v5 =>
 (O.nilCheck a0).bind fun v6 =>
 (O.fieldAddr 153 v6 1).bind fun v7 =>
 (O.load s 3 v7).bind fun v8 =>
 (O.bop .sub 3 v5 v8).bind fun v9 =>
 (O.bop .eql 3 v9 (Go.Value.int Go.IntKind.i64 0)).bind fun v10 =>
 jn (fun (j415_6 : Value) (js415 : St H) =>
 (O.nilCheck a0).bind fun v43 =>
 (O.fieldAddr 153 v43 0).bind fun v44 =>
 (O.load js415 99 v44).bind fun v45 =>
 (O.nilCheck a0).bind fun v46 =>
 (O.fieldAddr 153 v46 0).bind fun v47 =>
 (O.load js415 99 v47).bind fun v48 =>
 (O.len js415 99 v48).bind fun v49 =>
 (O.bop .sub 3 v49 (Go.Value.int Go.IntKind.i64 1)).bind fun v50 =>
 (O.indexAddr 99 v45 v50).bind fun v51 =>
 (O.load js415 5 v51).bind fun v52 =>
 (O.bop .sub 3 j415_6 a2).bind fun v53 =>
 (O.bop .shl 26 a1 v53).bind fun v54 =>
 (O.conv true js415 26 5 v54).bind fun p55 =>
 (O.bop .or 5 v52 p55.1).bind fun v56 =>
 (O.indexAddr 99 v45 v50).bind fun v57 =>
 (O.store p55.2 5 v57 v56).bind fun s58 =>
 (O.nilCheck a0).bind fun v59 =>
 (O.fieldAddr 153 v59 1).bind fun v60 =>
 (O.load s58 3 v60).bind fun v61 =>
 (O.bop .add 3 v61 a2).bind fun v62 =>
 (O.nilCheck a0).bind fun v63 =>
 (O.fieldAddr 153 v63 1).bind fun v64 =>
 (O.store s58 3 v64 v62).bind fun s65 =>
 some [(.tuple #[], s65)]) fun k415 =>
 (O.boolO v10).bind fun b11 => cond b11 (
 (O.nilCheck a0).bind fun v12 =>
 (O.fieldAddr 153 v12 0).bind fun v13 =>
 (O.load s 99 v13).bind fun v14 =>
 (O.buildSlice true s 99 1 [(0, (Go.Value.int Go.IntKind.u8 0))]).bind fun p15 =>
 (O.append true p15.2 99 99 v14 p15.1).bind fun p16 =>
 (O.nilCheck a0).bind fun v17 =>
 (O.fieldAddr 153 v17 0).bind fun v18 =>
 (O.store p16.2 99 v18 p16.1).bind fun s19 =>
 k415 (Go.Value.int Go.IntKind.i64 8) s19) (
 k415 v9 s)
theorem f138_r (C : OracleJ H) (n : Nat) (a0 : Value) (a1 : Value) (a2 : Value) (s : St H) : bodyD Tryz.prog true C n 138 Tryz.f138 [a0, a1, a2] s = f138 (dOps (H := H) Tryz.prog) C n a0 a1 a2 s := by kernel_rfl
/-! slices.siftDownOrdered[uint64] -/
def f142_l0_m (i0 : Value) (i1 : Value) (i2 : Value) (i3 : Value) (i10 : Value) (x : Value × Value) : List Value := [i0, i1, i2, i3, undefV, undefV, undefV, undefV, x.1, x.2, i10, dc, dc, dc, dc, dc, dc, dc, dc, dc, dc, dc, dc, dc, dc, dc, dc, dc, dc, dc, dc, dc, dc, dc, dc, dc, dc, dc, dc, dc, dc, dc, dc, dc, dc, dc, dc, dc, dc, dc, dc, dc, dc, dc, dc, dc, dc, dc, dc, dc, dc, dc, dc, dc, dc, dc, dc, dc, dc, dc, dc, dc, dc, dc, dc, dc]
noncomputable def f142_l0 (O : Ops H) (C : OracleJ H) (n : Nat) (i0 : Value) (i2 : Value) (i3 : Value) (nx : (Value × Value) → St H → Option (List (Value × St H))) (kx : Nat → (Value × Value) → St H → Option (List (Value × St H))) (kr : (Value × Value) → St H → Option (List (Value × St H))) (x : Value × Value) (s : St H) : Option (List (Value × St H)) :=
 (O.bop .mul 3 (Go.Value.int Go.IntKind.i64 2) x.1).bind fun v1 =>
 (O.bop .add 3 v1 (Go.Value.int Go.IntKind.i64 1)).bind fun v2 =>
 (O.bop .geq 3 v2 i2).bind fun v3 =>
 (O.boolO v3).bind fun b4 => cond b4 (
 kx 0 (x.1, v2) s) (
 jn (fun (j427_36 : Value) (js427 : St H) =>
 jn (fun (j438_9 : Value) =>
 (O.bop .add 3 i3 x.1).bind fun v82 =>
 (O.indexAddr 39 i0 v82).bind fun v83 =>
 (O.load js427 26 v83).bind fun v84 =>
 (O.bop .add 3 i3 j438_9).bind fun v85 =>
 (O.indexAddr 39 i0 v85).bind fun v86 =>
 (O.load js427 26 v86).bind fun v87 =>
 (oneO C (.fn 123) [v84, v87] js427).bind fun p88 =>
 (O.uop .not p88.1).bind fun v89 =>
 (O.boolO v89).bind fun b90 => cond b90 (
 kr (x.1, j438_9) p88.2) (
 (O.bop .add 3 i3 x.1).bind fun v91 =>
 (O.bop .add 3 i3 j438_9).bind fun v92 =>
 (O.bop .add 3 i3 j438_9).bind fun v93 =>
 (O.indexAddr 39 i0 v93).bind fun v94 =>
 (O.load p88.2 26 v94).bind fun v95 =>
 (O.bop .add 3 i3 x.1).bind fun v96 =>
 (O.indexAddr 39 i0 v96).bind fun v97 =>
 (O.load p88.2 26 v97).bind fun v98 =>
 (O.indexAddr 39 i0 v91).bind fun v99 =>
 (O.store p88.2 26 v99 v95).bind fun s100 =>
 (O.indexAddr 39 i0 v92).bind fun v101 =>
 (O.store s100 26 v101 v98).bind fun s102 =>
 nx (j438_9, j438_9) s102)) fun k438 =>
 (O.boolO j427_36).bind fun b59 => cond b59 (
 (O.bop .add 3 v2 (Go.Value.int Go.IntKind.i64 1)).bind fun v60 =>
 k438 v60) (
 k438 v2)) fun k427 =>
 (O.bop .add 3 v2 (Go.Value.int Go.IntKind.i64 1)).bind fun v5 =>
 (O.bop .lss 3 v5 i2).bind fun v6 =>
 gd v6 (
 (O.bop .add 3 i3 v2).bind fun v7 =>
 (O.indexAddr 39 i0 v7).bind fun v8 =>
 (O.load s 26 v8).bind fun v9 =>
 (O.bop .add 3 i3 v2).bind fun v10 =>
 (O.bop .add 3 v10 (Go.Value.int Go.IntKind.i64 1)).bind fun v11 =>
 (O.indexAddr 39 i0 v11).bind fun v12 =>
 (O.load s 26 v12).bind fun v13 =>
 (oneO C (.fn 123) [v9, v13] s).bind fun p14 =>
 k427 p14.1 p14.2) (
 k427 (.bool false) s) (
 none))
theorem f142_l0_b (C : OracleJ H) (n : Nat) (i0 : Value) (i1 : Value) (i2 : Value) (i3 : Value) (i10 : Value) (x : Value × Value) (s : St H) (nx : List Value → St H → Option (List (Value × St H))) (K : Ex → List Value → St H → Option (List (Value × St H))) :
 exec Tryz.prog false C n 142 none (cdp Tryz.f142 [1, 0, 0]) (f142_l0_m i0 i1 i2 i3 i10 x) s (kIter (scratch (cdp Tryz.f142 [1, 0, 0])) nx K) = f142_l0 (dOps (H := H) Tryz.prog) C n i0 i2 i3 (fun x s => nx (f142_l0_m i0 i1 i2 i3 i10 x) s) (fun i x s => K (.exit i) (f142_l0_m i0 i1 i2 i3 i10 x) s) (fun x s => K .ret (f142_l0_m i0 i1 i2 i3 i10 x) s) x s := by kernel_rfl
theorem f142_l0_e (C : OracleJ H) (n : Nat) (i0 : Value) (i1 : Value) (i2 : Value) (i3 : Value) (i10 : Value) (m : Nat) (x : Value × Value) (s : St H) (K : Ex → List Value → St H → Option (List (Value × St H))) :
 iter (fun t s k => exec Tryz.prog false C n 142 none (cdp Tryz.f142 [1, 0, 0]) t s k) (scratch (cdp Tryz.f142 [1, 0, 0])) m (f142_l0_m i0 i1 i2 i3 i10 x) s K = iterS (f142_l0 (dOps (H := H) Tryz.prog) C n i0 i2 i3) (fun i x s => K (.exit i) (f142_l0_m i0 i1 i2 i3 i10 x) s) (fun x s => K .ret (f142_l0_m i0 i1 i2 i3 i10 x) s) m x s :=
   iter_eq (f142_l0_m i0 i1 i2 i3 i10) (f142_l0 (dOps (H := H) Tryz.prog) C n i0 i2 i3) (fun x s nx K => f142_l0_b C n i0 i1 i2 i3 i10 x s nx K) K m x s
noncomputable def f142 (O : Ops H) (C : OracleJ H) (n : Nat) (a0 : Value) (a1 : Value) (a2 : Value) (a3 : Value) (s : St H) : Option (List (Value × St H)) :=
 iterS (f142_l0 O C n a0 a2 a3 )
 (fun i103 x104 s105 => (bif Nat.beq i103 0 then
 some [(.tuple #[], s105)] else none))
 (fun x106 s107 => some [(.tuple #[], s107)]) n (a1, undefV) s
theorem f142_l0_k (C : OracleJ H) (n : Nat) (i0 : Value) (i1 : Value) (i2 : Value) (i3 : Value) (i10 : Value) (i : Nat) (x : Value × Value) (s : St H) : (kBlock 0 (kFun Tryz.prog Tryz.f142)) (.exit i) (f142_l0_m i0 i1 i2 i3 i10 x) s =
 (bif Nat.beq i 0 then
 some [(.tuple #[], s)] else none) := by kernel_rfl
theorem f142_r (C : OracleJ H) (n : Nat) (a0 : Value) (a1 : Value) (a2 : Value) (a3 : Value) (s : St H) : bodyD Tryz.prog false C n 142 Tryz.f142 [a0, a1, a2, a3] s = f142 (dOps (H := H) Tryz.prog) C n a0 a1 a2 a3 s := by
  have h1 : bodyD Tryz.prog false C n 142 Tryz.f142 [a0, a1, a2, a3] s =
 iter (fun t s k => exec Tryz.prog false C n 142 none (cdp Tryz.f142 [1, 0, 0]) t s k) (scratch (cdp Tryz.f142 [1, 0, 0])) n (f142_l0_m a0 a1 a2 a3 a1 (a1, undefV)) s (kBlock 0 (kFun Tryz.prog Tryz.f142)) := by kernel_rfl
  rw [h1]
  simp only [f142_l0_e, f142_l0_k]
  show _ = f142 (dOps (H := H) Tryz.prog) C n a0 a1 a2 a3 s
  kernel_rfl
/-! tidepole/vint.Read -/
def f146_l0_m (i0 : Value) (i1 : Value) (i10 : Value) (i11 : Value) (i13 : Value) (i14 : Value) (i15 : Value) (i16 : Value) (i17 : Value) (i18 : Value) (i19 : Value) (i20 : Value) (i21 : Value) (x : Value × Value × Value × Value × Value × Value × Value × Value) : List Value := [i0, i1, undefV, undefV, x.1, x.2.1, x.2.2.1, x.2.2.2.1, x.2.2.2.2.1, x.2.2.2.2.2.1, i10, i11, (.bool false), i13, i14, i15, i16, i17, i18, i19, i20, i21, x.2.2.2.2.2.2.1, dc, dc, dc, dc, x.2.2.2.2.2.2.2, dc, dc, dc, dc, dc, dc, dc, dc, dc, dc, dc, dc, dc, dc, dc, dc, dc, dc, dc, dc, dc, dc, dc, dc, dc, dc, dc, dc]
noncomputable def f146_l0 (O : Ops H) (C : OracleJ H) (n : Nat) (i1 : Value) (i20 : Value) (i21 : Value) (nx : (Value × Value × Value × Value × Value × Value × Value × Value) → St H → Option (List (Value × St H))) (kx : Nat → (Value × Value × Value × Value × Value × Value × Value × Value) → St H → Option (List (Value × St H))) (kr : (Value × Value × Value × Value × Value × Value × Value × Value) → St H → Option (List (Value × St H))) (x : Value × Value × Value × Value × Value × Value × Value × Value) (s : St H) : Option (List (Value × St H)) :=
 (O.bop .lss 3 x.2.2.2.2.2.2.1 i21).bind fun v9 =>
 (O.boolO v9).bind fun b10 => cond b10 (
 (O.indexAddr 99 i20 x.2.2.2.2.2.2.1).bind fun v11 =>
 (O.load s 5 v11).bind fun v12 =>
 jn (fun (j464_27 : Value) =>
 jn (fun (j471_27 : Value) =>
 (O.boolO j471_27).bind fun b24 => cond b24 (
 kr ((Go.Value.int Go.IntKind.u64 0), (Go.Value.int Go.IntKind.i64 0), (Go.Value.int Go.IntKind.i64 10), x.2.2.2.1, x.2.2.2.2.2.2.1, v12, x.2.2.2.2.2.2.1, j471_27) s) (
 (O.bop .and 5 v12 (Go.Value.int Go.IntKind.u8 127)).bind fun v25 =>
 (O.conv false s 5 26 v25).bind fun p26 =>
 (O.bop .mul 3 (Go.Value.int Go.IntKind.i64 7) x.2.2.2.2.2.2.1).bind fun v27 =>
 (O.bop .shl 26 p26.1 v27).bind fun v28 =>
 (O.bop .or 26 x.2.2.2.1 v28).bind fun v29 =>
 (O.bop .lss 5 v12 (Go.Value.int Go.IntKind.u8 128)).bind fun v30 =>
 (O.boolO v30).bind fun b31 => cond b31 (
 (O.bop .add 3 i1 x.2.2.2.2.2.2.1).bind fun v32 =>
 (O.bop .add 3 v32 (Go.Value.int Go.IntKind.i64 1)).bind fun v33 =>
 kr (v29, v33, (Go.Value.int Go.IntKind.i64 0), v29, x.2.2.2.2.2.2.1, v12, x.2.2.2.2.2.2.1, j471_27) p26.2) (
 (O.bop .add 3 x.2.2.2.2.2.2.1 (Go.Value.int Go.IntKind.i64 1)).bind fun v34 =>
 nx (x.1, x.2.1, x.2.2.1, v29, x.2.2.2.2.2.2.1, v12, v34, j471_27) p26.2))) fun k471 =>
 (O.boolO j464_27).bind fun b20 => cond b20 (
 k471 j464_27) (
 jn (fun (j472_27 : Value) =>
 k471 j472_27) fun k472 =>
 (O.bop .gtr 3 x.2.2.2.2.2.2.1 (Go.Value.int Go.IntKind.i64 0)).bind fun v21 =>
 gd v21 (
 (O.bop .eql 5 v12 (Go.Value.int Go.IntKind.u8 0)).bind fun v22 =>
 k472 v22) (
 k472 (.bool false)) (
 none))) fun k464 =>
 (O.bop .eql 3 x.2.2.2.2.2.2.1 (Go.Value.int Go.IntKind.i64 9)).bind fun v13 =>
 gd v13 (
 (O.bop .gtr 5 v12 (Go.Value.int Go.IntKind.u8 1)).bind fun v14 =>
 k464 v14) (
 k464 (.bool false)) (
 none)) (
 kx 0 (x.1, x.2.1, x.2.2.1, x.2.2.2.1, x.2.2.2.2.1, x.2.2.2.2.2.1, x.2.2.2.2.2.2.1, x.2.2.2.2.2.2.2) s)
theorem f146_l0_b (C : OracleJ H) (n : Nat) (i0 : Value) (i1 : Value) (i10 : Value) (i11 : Value) (i13 : Value) (i14 : Value) (i15 : Value) (i16 : Value) (i17 : Value) (i18 : Value) (i19 : Value) (i20 : Value) (i21 : Value) (x : Value × Value × Value × Value × Value × Value × Value × Value) (s : St H) (nx : List Value → St H → Option (List (Value × St H))) (K : Ex → List Value → St H → Option (List (Value × St H))) :
 exec Tryz.prog false C n 146 none (cdp Tryz.f146 [1, 1, 1, 0, 1, 0, 0]) (f146_l0_m i0 i1 i10 i11 i13 i14 i15 i16 i17 i18 i19 i20 i21 x) s (kIter (scratch (cdp Tryz.f146 [1, 1, 1, 0, 1, 0, 0])) nx K) = f146_l0 (dOps (H := H) Tryz.prog) C n i1 i20 i21 (fun x s => nx (f146_l0_m i0 i1 i10 i11 i13 i14 i15 i16 i17 i18 i19 i20 i21 x) s) (fun i x s => K (.exit i) (f146_l0_m i0 i1 i10 i11 i13 i14 i15 i16 i17 i18 i19 i20 i21 x) s) (fun x s => K .ret (f146_l0_m i0 i1 i10 i11 i13 i14 i15 i16 i17 i18 i19 i20 i21 x) s) x s := by kernel_rfl
theorem f146_l0_e (C : OracleJ H) (n : Nat) (i0 : Value) (i1 : Value) (i10 : Value) (i11 : Value) (i13 : Value) (i14 : Value) (i15 : Value) (i16 : Value) (i17 : Value) (i18 : Value) (i19 : Value) (i20 : Value) (i21 : Value) (m : Nat) (x : Value × Value × Value × Value × Value × Value × Value × Value) (s : St H) (K : Ex → List Value → St H → Option (List (Value × St H))) :
 iter (fun t s k => exec Tryz.prog false C n 146 none (cdp Tryz.f146 [1, 1, 1, 0, 1, 0, 0]) t s k) (scratch (cdp Tryz.f146 [1, 1, 1, 0, 1, 0, 0])) m (f146_l0_m i0 i1 i10 i11 i13 i14 i15 i16 i17 i18 i19 i20 i21 x) s K = iterS (f146_l0 (dOps (H := H) Tryz.prog) C n i1 i20 i21) (fun i x s => K (.exit i) (f146_l0_m i0 i1 i10 i11 i13 i14 i15 i16 i17 i18 i19 i20 i21 x) s) (fun x s => K .ret (f146_l0_m i0 i1 i10 i11 i13 i14 i15 i16 i17 i18 i19 i20 i21 x) s) m x s :=
   iter_eq (f146_l0_m i0 i1 i10 i11 i13 i14 i15 i16 i17 i18 i19 i20 i21) (f146_l0 (dOps (H := H) Tryz.prog) C n i1 i20 i21) (fun x s nx K => f146_l0_b C n i0 i1 i10 i11 i13 i14 i15 i16 i17 i18 i19 i20 i21 x s nx K) K m x s
noncomputable def f146 (O : Ops H) (C : OracleJ H) (n : Nat) (a0 : Value) (a1 : Value) (s : St H) : Option (List (Value × St H)) :=
 (O.bop .lss 3 a1 (Go.Value.int Go.IntKind.i64 0)).bind fun v1 =>
 gd v1 (
 some [(.tuple #[(Go.Value.int Go.IntKind.u64 0), (Go.Value.int Go.IntKind.i64 0), (Go.Value.int Go.IntKind.i64 2)], s)]) (
 (O.len s 99 a0).bind fun v2 =>
 (O.bop .gtr 3 a1 v2).bind fun v3 =>
 (O.boolO v3).bind fun b6 => cond b6 (
 some [(.tuple #[(Go.Value.int Go.IntKind.u64 0), (Go.Value.int Go.IntKind.i64 0), (Go.Value.int Go.IntKind.i64 2)], s)]) (
 (O.slc s 99 a0 (some a1) none none).bind fun v7 =>
 (O.len s 99 v7).bind fun v8 =>
 iterS (f146_l0 O C n a1 v7 v8 )
 (fun i35 x36 s37 => (bif Nat.beq i35 0 then
 some [(.tuple #[(Go.Value.int Go.IntKind.u64 0), (Go.Value.int Go.IntKind.i64 0), (Go.Value.int Go.IntKind.i64 7)], s37)] else none))
 (fun x38 s39 => some [(.tuple #[x38.1, x38.2.1, x38.2.2.1], s39)]) n ((Go.Value.int Go.IntKind.u64 0), (Go.Value.int Go.IntKind.i64 0), (Go.Value.int Go.IntKind.i64 0), (Go.Value.int Go.IntKind.u64 0), undefV, undefV, (Go.Value.int Go.IntKind.i64 0), undefV) s)) (
 none)
theorem f146_l0_k (C : OracleJ H) (n : Nat) (i0 : Value) (i1 : Value) (i10 : Value) (i11 : Value) (i13 : Value) (i14 : Value) (i15 : Value) (i16 : Value) (i17 : Value) (i18 : Value) (i19 : Value) (i20 : Value) (i21 : Value) (i : Nat) (x : Value × Value × Value × Value × Value × Value × Value × Value) (s : St H) : (kBlock 0 (kSeq Tryz.prog false C n 146 none (cdp Tryz.f146 [1, 1, 1, 1]) (kFun Tryz.prog Tryz.f146))) (.exit i) (f146_l0_m i0 i1 i10 i11 i13 i14 i15 i16 i17 i18 i19 i20 i21 x) s =
 (bif Nat.beq i 0 then
 some [(.tuple #[(Go.Value.int Go.IntKind.u64 0), (Go.Value.int Go.IntKind.i64 0), (Go.Value.int Go.IntKind.i64 7)], s)] else none) := by kernel_rfl
theorem f146_r (C : OracleJ H) (n : Nat) (a0 : Value) (a1 : Value) (s : St H) : bodyD Tryz.prog false C n 146 Tryz.f146 [a0, a1] s = f146 (dOps (H := H) Tryz.prog) C n a0 a1 s := by
  have h1 : bodyD Tryz.prog false C n 146 Tryz.f146 [a0, a1] s =
 ((dOps (H := H) Tryz.prog).bop .lss 3 a1 (Go.Value.int Go.IntKind.i64 0)).bind fun v40 =>
 gd v40 (
 some [(.tuple #[(Go.Value.int Go.IntKind.u64 0), (Go.Value.int Go.IntKind.i64 0), (Go.Value.int Go.IntKind.i64 2)], s)]) (
 ((dOps (H := H) Tryz.prog).len s 99 a0).bind fun v41 =>
 ((dOps (H := H) Tryz.prog).bop .gtr 3 a1 v41).bind fun v42 =>
 ((dOps (H := H) Tryz.prog).boolO v42).bind fun b45 => cond b45 (
 some [(.tuple #[(Go.Value.int Go.IntKind.u64 0), (Go.Value.int Go.IntKind.i64 0), (Go.Value.int Go.IntKind.i64 2)], s)]) (
 ((dOps (H := H) Tryz.prog).slc s 99 a0 (some a1) none none).bind fun v46 =>
 ((dOps (H := H) Tryz.prog).len s 99 v46).bind fun v47 =>
 iter (fun t s k => exec Tryz.prog false C n 146 none (cdp Tryz.f146 [1, 1, 1, 0, 1, 0, 0]) t s k) (scratch (cdp Tryz.f146 [1, 1, 1, 0, 1, 0, 0])) n (f146_l0_m a0 a1 a1 v40 a1 a0 v41 v42 v42 a0 a1 v46 v47 ((Go.Value.int Go.IntKind.u64 0), (Go.Value.int Go.IntKind.i64 0), (Go.Value.int Go.IntKind.i64 0), (Go.Value.int Go.IntKind.u64 0), undefV, undefV, (Go.Value.int Go.IntKind.i64 0), undefV)) s (kBlock 0 (kSeq Tryz.prog false C n 146 none (cdp Tryz.f146 [1, 1, 1, 1]) (kFun Tryz.prog Tryz.f146))))) (
 none) := by kernel_rfl
  rw [h1]
  simp only [f146_l0_e, f146_l0_k]
  show _ = f146 (dOps (H := H) Tryz.prog) C n a0 a1 s
  kernel_rfl
/-! tidepole/xor.Get -/
noncomputable def f150 (O : Ops H) (C : OracleJ H) (n : Nat) (a0 : Value) (a1 : Value) (s : St H) : Option (List (Value × St H)) :=
 (O.box s a1).bind fun p1 =>
 (O.alloc p1.2 118).bind fun p2 =>
 (O.load p2.2 118 p1.1).bind fun v3 =>
 (C (.fn 110) [v3] p2.2).bind fun L4 => manyK L4 fun v5 s6 =>
 (O.uop .not v5).bind fun v7 =>
 (O.boolO v7).bind fun b8 => cond b8 (
 (O.build 118 []).bind fun v9 =>
 (O.store s6 118 p2.1 v9).bind fun s10 =>
 (O.load s10 118 p2.1).bind fun v11 => some [(.tuple #[v11, (Go.Value.int Go.IntKind.u64 0), (Go.Value.int Go.IntKind.i64 2)], s10)]) (
 (O.fieldAddr 118 p1.1 0).bind fun v12 =>
 (O.load s6 3 v12).bind fun v13 =>
 (O.bop .eql 3 v13 (Go.Value.int Go.IntKind.i64 0)).bind fun v14 =>
 (O.boolO v14).bind fun b15 => cond b15 (
 (C (.fn 152) [a0, (Go.Value.int Go.IntKind.i64 64)] s6).bind fun L16 => manyK L16 fun v17 s18 =>
 (O.extract v17 0).bind fun v19 =>
 (O.extract v17 1).bind fun v20 =>
 (O.bop .neq 32 v20 (Go.Value.int Go.IntKind.i64 0)).bind fun v21 =>
 (O.boolO v21).bind fun b22 => cond b22 (
 (O.build 118 []).bind fun v23 =>
 (O.store s18 118 p2.1 v23).bind fun s24 =>
 (O.load s24 118 p2.1).bind fun v25 => some [(.tuple #[v25, (Go.Value.int Go.IntKind.u64 0), v20], s24)]) (
 (O.load s18 118 p1.1).bind fun v26 =>
 (O.load s18 118 p1.1).bind fun v27 =>
 (oneO C (.fn 111) [v27] s18).bind fun p28 =>
 (oneO C (.fn 116) [v26, v19, p28.1] p28.2).bind fun p29 =>
 (O.store p29.2 118 p2.1 p29.1).bind fun s30 =>
 bif (eqO H (O.load s18 118 p1.1) v26 && (eqO H (O.load p28.2 118 p1.1) v26 && (true))) && (true) then
 (O.load s30 118 p2.1).bind fun v31 => some [(.tuple #[v31, v19, v20], s30)]
 else none)) (
 (O.load s6 118 p1.1).bind fun v32 =>
 (C (.fn 111) [v32] s6).bind fun L33 => manyK L33 fun v34 s35 =>
 (C (.fn 158) [a0, v34] s35).bind fun L36 => manyK L36 fun v37 s38 =>
 (O.extract v37 0).bind fun v39 =>
 (O.extract v37 1).bind fun v40 =>
 (O.extract v37 2).bind fun v41 =>
 (O.alloc s38 169).bind fun p42 =>
 (O.store p42.2 169 p42.1 v40).bind fun s43 =>
 (O.bop .neq 32 v41 (Go.Value.int Go.IntKind.i64 0)).bind fun v44 =>
 (O.boolO v44).bind fun b45 => cond b45 (
 (O.build 118 []).bind fun v46 =>
 (O.store s43 118 p2.1 v46).bind fun s47 =>
 (O.load s47 118 p2.1).bind fun v48 => some [(.tuple #[v48, (Go.Value.int Go.IntKind.u64 0), v41], s47)]) (
 (O.load s43 118 p1.1).bind fun v49 =>
 (O.fieldAddr 118 p1.1 1).bind fun v50 =>
 (O.load s43 26 v50).bind fun v51 =>
 (O.bop .xor 26 v51 v39).bind fun v52 =>
 (O.load s43 169 p42.1).bind fun v53 =>
 (oneO C (.fn 116) [v49, v52, v53] s43).bind fun p54 =>
 (O.fieldAddr 118 p1.1 1).bind fun v55 =>
 (O.load p54.2 26 v55).bind fun v56 =>
 (O.bop .xor 26 v56 v39).bind fun v57 =>
 (O.store p54.2 118 p2.1 p54.1).bind fun s58 =>
 bif (eqO H (O.load s43 26 v55) v56 && (eqO H (O.load p54.2 26 v55) v56 && (eqO H (O.load s58 26 v55) v56 && (true)))) && (true) then
 (O.load s58 118 p2.1).bind fun v59 => some [(.tuple #[v59, v57, v41], s58)]
 else none)))
theorem f150_r (C : OracleJ H) (n : Nat) (a0 : Value) (a1 : Value) (s : St H) : bodyD Tryz.prog false C n 150 Tryz.f150 [a0, a1] s = f150 (dOps (H := H) Tryz.prog) C n a0 a1 s := by kernel_rfl
/-! tidepole/crc.step -/
noncomputable def f154 (O : Ops H) (C : OracleJ H) (n : Nat) (a0 : Value) (s : St H) : Option (List (Value × St H)) :=
 (O.box s a0).bind fun p1 =>
 (O.load p1.2 151 p1.1).bind fun v2 =>
 (C (.fn 160) [v2] p1.2).bind fun L3 => manyK L3 fun v4 s5 =>
 rngO Tryz.prog O C 154 v4 [a0, p1.1, (Go.Value.int Go.IntKind.u32 0), undefV, v2, v4, undefV, undefV, undefV] [6] (cdp Tryz.f154 [1, 0, 1, 0, 0]) (cdp Tryz.f154 [1, 0, 1, 0, 1]) s5
 (fun s6 => (O.load s6 151 p1.1).bind fun v11 =>
 some [(v11, s6)])
 (fun s7 => some [((Go.Value.int Go.IntKind.u32 0), s7)])
 (fun i9 s8 => (bif Nat.beq i9 0 then
 (O.load s8 151 p1.1).bind fun v12 =>
 some [(v12, s8)] else none))
theorem f154_r (C : OracleJ H) (n : Nat) (a0 : Value) (s : St H) : bodyD Tryz.prog false C n 154 Tryz.f154 [a0] s = f154 (dOps (H := H) Tryz.prog) C n a0 s := by kernel_rfl
/-! tidepole/xor.differs -/
noncomputable def f158 (O : Ops H) (C : OracleJ H) (n : Nat) (a0 : Value) (a1 : Value) (s : St H) : Option (List (Value × St H)) :=
 (O.box s a1).bind fun p1 =>
 (O.alloc p1.2 169).bind fun p2 =>
 (O.buildSlice false p2.2 47 1 [(0, (Go.Value.int Go.IntKind.i64 1))]).bind fun p3 =>
 (C (.fn 162) [a0, p3.1] p3.2).bind fun L4 => manyK L4 fun v5 s6 =>
 (O.extract v5 0).bind fun v7 =>
 (O.extract v5 1).bind fun v8 =>
 jn (fun (j518_23 : Value) =>
 (O.boolO j518_23).bind fun b17 => cond b17 (
 (O.load s6 169 p1.1).bind fun v18 =>
 (O.store s6 169 p2.1 v18).bind fun s19 =>
 (O.load s19 169 p2.1).bind fun v20 => some [(.tuple #[(Go.Value.int Go.IntKind.u64 0), v20, v8], s19)]) (
 (O.buildSlice false s6 47 1 [(0, (Go.Value.int Go.IntKind.i64 1))]).bind fun p21 =>
 (C (.fn 162) [a0, p21.1] p21.2).bind fun L22 => manyK L22 fun v23 s24 =>
 (O.extract v23 0).bind fun v25 =>
 (O.extract v23 1).bind fun v26 =>
 (O.bop .neq 32 v26 (Go.Value.int Go.IntKind.i64 0)).bind fun v27 =>
 (O.boolO v27).bind fun b28 => cond b28 (
 (O.load s24 169 p1.1).bind fun v29 =>
 (O.store s24 169 p2.1 v29).bind fun s30 =>
 (O.load s30 169 p2.1).bind fun v31 => some [(.tuple #[(Go.Value.int Go.IntKind.u64 0), v31, v26], s30)]) (
 (O.indexAddr 39 v25 (Go.Value.int Go.IntKind.i64 0)).bind fun v32 =>
 (O.load s24 26 v32).bind fun v33 =>
 (O.bop .eql 26 v33 (Go.Value.int Go.IntKind.u64 1)).bind fun v34 =>
 (O.boolO v34).bind fun b35 => cond b35 (
 (O.load s24 169 p1.1).bind fun v36 =>
 (C (.fn 163) [a0, v36] s24).bind fun L37 => manyK L37 fun v38 s39 =>
 (O.extract v38 0).bind fun v40 =>
 (O.extract v38 1).bind fun v41 =>
 (O.extract v38 2).bind fun v42 =>
 (O.store s39 169 p2.1 v41).bind fun s43 =>
 (O.load s43 169 p2.1).bind fun v44 => some [(.tuple #[v40, v44, v42], s43)]) (
 (O.fieldAddr 169 p1.1 0).bind fun v45 =>
 (O.load s24 3 v45).bind fun v46 =>
 (O.bop .eql 3 v46 (Go.Value.int Go.IntKind.i64 64)).bind fun v47 =>
 (O.boolO v47).bind fun b48 => cond b48 (
 (O.load s24 169 p1.1).bind fun v49 =>
 (O.store s24 169 p2.1 v49).bind fun s50 =>
 (O.load s50 169 p2.1).bind fun v51 => some [(.tuple #[(Go.Value.int Go.IntKind.u64 0), v51, (Go.Value.int Go.IntKind.i64 50)], s50)]) (
 (O.load s24 169 p1.1).bind fun v52 =>
 (C (.fn 164) [a0, v52] s24).bind fun L53 => manyK L53 fun v54 s55 =>
 (O.extract v54 0).bind fun v56 =>
 (O.extract v54 1).bind fun v57 =>
 (O.load s55 169 p1.1).bind fun v58 =>
 (O.store s55 169 p2.1 v58).bind fun s59 =>
 (O.load s59 169 p2.1).bind fun v60 => some [(.tuple #[v56, v60, v57], s59)]))))) fun k518 =>
 (O.bop .neq 32 v8 (Go.Value.int Go.IntKind.i64 0)).bind fun v9 =>
 gd v9 (
 k518 (.bool true)) (
 (O.indexAddr 39 v7 (Go.Value.int Go.IntKind.i64 0)).bind fun v10 =>
 (O.load s6 26 v10).bind fun v11 =>
 (O.bop .eql 26 v11 (Go.Value.int Go.IntKind.u64 0)).bind fun v12 =>
 k518 v12) (
 none)
theorem f158_r (C : OracleJ H) (n : Nat) (a0 : Value) (a1 : Value) (s : St H) : bodyD Tryz.prog false C n 158 Tryz.f158 [a0, a1] s = f158 (dOps (H := H) Tryz.prog) C n a0 a1 s := by kernel_rfl
/-! tidepole/xor.read -/
def f162_l0_m (i0 : Value) (i1 : Value) (i11 : Value) (i12 : Value) (x : Value × Value × Value × Value × Value × Value × Value) : List Value := [i0, i1, undefV, undefV, x.1, x.2.1, x.2.2.1, undefV, x.2.2.2.1, x.2.2.2.2.1, x.2.2.2.2.2.1, i11, i12, x.2.2.2.2.2.2, dc, dc, dc, dc, dc, dc, dc, dc, dc, dc, dc, dc, dc, dc, dc, dc, dc, undefV]
noncomputable def f162_l0 (O : Ops H) (C : OracleJ H) (n : Nat) (i0 : Value) (i11 : Value) (i12 : Value) (nx : (Value × Value × Value × Value × Value × Value × Value) → St H → Option (List (Value × St H))) (kx : Nat → (Value × Value × Value × Value × Value × Value × Value) → St H → Option (List (Value × St H))) (kr : (Value × Value × Value × Value × Value × Value × Value) → St H → Option (List (Value × St H))) (x : Value × Value × Value × Value × Value × Value × Value) (s : St H) : Option (List (Value × St H)) :=
 (O.bop .lss 3 x.2.2.2.2.2.2 i12).bind fun v2 =>
 (O.boolO v2).bind fun b3 => cond b3 (
 (O.indexAddr 47 i11 x.2.2.2.2.2.2).bind fun v4 =>
 (O.load s 3 v4).bind fun v5 =>
 (C (.fn 152) [i0, v5] s).bind fun L6 => manyK L6 fun v7 s8 =>
 (O.extract v7 0).bind fun v9 =>
 (O.extract v7 1).bind fun v10 =>
 (O.bop .neq 32 v10 (Go.Value.int Go.IntKind.i64 0)).bind fun v11 =>
 (O.boolO v11).bind fun b12 => cond b12 (
 kr ((fzV 2 #[]), v10, x.2.2.1, v5, v9, v10, x.2.2.2.2.2.2) s8) (
 (O.buildSlice false s8 39 1 [(0, v9)]).bind fun p13 =>
 (O.append false p13.2 39 39 x.2.2.1 p13.1).bind fun p14 =>
 (O.bop .add 3 x.2.2.2.2.2.2 (Go.Value.int Go.IntKind.i64 1)).bind fun v15 =>
 nx (x.1, x.2.1, p14.1, v5, v9, v10, v15) p14.2)) (
 kx 0 (x.1, x.2.1, x.2.2.1, x.2.2.2.1, x.2.2.2.2.1, x.2.2.2.2.2.1, x.2.2.2.2.2.2) s)
theorem f162_l0_b (C : OracleJ H) (n : Nat) (i0 : Value) (i1 : Value) (i11 : Value) (i12 : Value) (x : Value × Value × Value × Value × Value × Value × Value) (s : St H) (nx : List Value → St H → Option (List (Value × St H))) (K : Ex → List Value → St H → Option (List (Value × St H))) :
 exec Tryz.prog false C n 162 none (cdp Tryz.f162 [1, 1, 0, 1, 0, 0]) (f162_l0_m i0 i1 i11 i12 x) s (kIter (scratch (cdp Tryz.f162 [1, 1, 0, 1, 0, 0])) nx K) = f162_l0 (dOps (H := H) Tryz.prog) C n i0 i11 i12 (fun x s => nx (f162_l0_m i0 i1 i11 i12 x) s) (fun i x s => K (.exit i) (f162_l0_m i0 i1 i11 i12 x) s) (fun x s => K .ret (f162_l0_m i0 i1 i11 i12 x) s) x s := by kernel_rfl
theorem f162_l0_e (C : OracleJ H) (n : Nat) (i0 : Value) (i1 : Value) (i11 : Value) (i12 : Value) (m : Nat) (x : Value × Value × Value × Value × Value × Value × Value) (s : St H) (K : Ex → List Value → St H → Option (List (Value × St H))) :
 iter (fun t s k => exec Tryz.prog false C n 162 none (cdp Tryz.f162 [1, 1, 0, 1, 0, 0]) t s k) (scratch (cdp Tryz.f162 [1, 1, 0, 1, 0, 0])) m (f162_l0_m i0 i1 i11 i12 x) s K = iterS (f162_l0 (dOps (H := H) Tryz.prog) C n i0 i11 i12) (fun i x s => K (.exit i) (f162_l0_m i0 i1 i11 i12 x) s) (fun x s => K .ret (f162_l0_m i0 i1 i11 i12 x) s) m x s :=
   iter_eq (f162_l0_m i0 i1 i11 i12) (f162_l0 (dOps (H := H) Tryz.prog) C n i0 i11 i12) (fun x s nx K => f162_l0_b C n i0 i1 i11 i12 x s nx K) K m x s
noncomputable def f162 (O : Ops H) (C : OracleJ H) (n : Nat) (a0 : Value) (a1 : Value) (s : St H) : Option (List (Value × St H)) :=
 (O.len s 47 a1).bind fun v1 =>
 iterS (f162_l0 O C n a0 a1 v1 )
 (fun i16 x17 s18 => (bif Nat.beq i16 0 then
 some [(.tuple #[x17.2.2.1, (Go.Value.int Go.IntKind.i64 0)], s18)] else none))
 (fun x19 s20 => some [(.tuple #[x19.1, x19.2.1], s20)]) n ((fzV 2 #[]), (Go.Value.int Go.IntKind.i64 0), (fzV 2 #[]), undefV, undefV, undefV, (Go.Value.int Go.IntKind.i64 0)) s
theorem f162_l0_k (C : OracleJ H) (n : Nat) (i0 : Value) (i1 : Value) (i11 : Value) (i12 : Value) (i : Nat) (x : Value × Value × Value × Value × Value × Value × Value) (s : St H) : (kBlock 0 (kSeq Tryz.prog false C n 162 none (cdp Tryz.f162 [1, 1, 1]) (kFun Tryz.prog Tryz.f162))) (.exit i) (f162_l0_m i0 i1 i11 i12 x) s =
 (bif Nat.beq i 0 then
 some [(.tuple #[x.2.2.1, (Go.Value.int Go.IntKind.i64 0)], s)] else none) := by kernel_rfl
theorem f162_r (C : OracleJ H) (n : Nat) (a0 : Value) (a1 : Value) (s : St H) : bodyD Tryz.prog false C n 162 Tryz.f162 [a0, a1] s = f162 (dOps (H := H) Tryz.prog) C n a0 a1 s := by
  have h1 : bodyD Tryz.prog false C n 162 Tryz.f162 [a0, a1] s =
 ((dOps (H := H) Tryz.prog).len s 47 a1).bind fun v21 =>
 iter (fun t s k => exec Tryz.prog false C n 162 none (cdp Tryz.f162 [1, 1, 0, 1, 0, 0]) t s k) (scratch (cdp Tryz.f162 [1, 1, 0, 1, 0, 0])) n (f162_l0_m a0 a1 a1 v21 ((fzV 2 #[]), (Go.Value.int Go.IntKind.i64 0), (fzV 2 #[]), undefV, undefV, undefV, (Go.Value.int Go.IntKind.i64 0))) s (kBlock 0 (kSeq Tryz.prog false C n 162 none (cdp Tryz.f162 [1, 1, 1]) (kFun Tryz.prog Tryz.f162))) := by kernel_rfl
  rw [h1]
  simp only [f162_l0_e, f162_l0_k]
  show _ = f162 (dOps (H := H) Tryz.prog) C n a0 a1 s
  kernel_rfl
end Go.Proofs.YtdbmfggipeoklaaGreatDoor.S
