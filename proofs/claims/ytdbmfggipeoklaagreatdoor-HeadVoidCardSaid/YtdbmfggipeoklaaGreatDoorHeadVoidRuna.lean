/- The plain runs of functions (printed by shal.py). -/
import Derived.Test.YtdbmfggipeoklaaGreatDoorFv
import Derived.ProofKit
import Derived.Test.YtdbmfggipeoklaaGreatDoorRows
set_option autoImplicit false
set_option linter.unusedVariables false
set_option maxRecDepth 100000
namespace Go.Proofs.YtdbmfggipeoklaaGreatDoor.S
open Go.FS Go.RowKit
variable {H : HeapI}
/-! (*tidepole/head.Head).Add -/
noncomputable def f14 (O : Ops H) (C : OracleJ H) (n : Nat) (a0 : Value) (a1 : Value) (a2 : Value) (s : St H) : Option (List (Value × St H)) :=
 (O.box s a2).bind fun p1 =>
 (O.load p1.2 28 p1.1).bind fun v2 =>
 (C (.fn 34) [a0, a1, v2] p1.2).bind fun L3 => manyK L3 fun v4 s5 =>
 (O.bop .neq 32 v4 (Go.Value.int Go.IntKind.i64 0)).bind fun v6 =>
 (O.boolO v6).bind fun b7 => cond b7 (
 some [(v4, s5)]) (
 (O.nilCheck a0).bind fun v8 =>
 (O.fieldAddr 68 v8 0).bind fun v9 =>
 (O.load s5 66 v9).bind fun v10 =>
 (O.lookup s5 66 v10 a1 false).bind fun v11 =>
 (O.bop .eql 72 v11 (Go.Value.pointer none)).bind fun v12 =>
 jn (fun (j8_8 : Value) (js8 : St H) =>
 (O.load js8 28 p1.1).bind fun v37 =>
 (C (.fn 37) [j8_8, v37] js8).bind fun L38 => manyK L38 fun v39 s40 =>
 (O.load s40 28 p1.1).bind fun v41 =>
 (O.nilCheck j8_8).bind fun v42 =>
 (O.fieldAddr 79 v42 2).bind fun v43 =>
 (O.store s40 28 v43 v41).bind fun s44 =>
 some [((Go.Value.int Go.IntKind.i64 0), s44)]) fun k8 =>
 (O.boolO v12).bind fun b13 => cond b13 (
 (O.load s5 28 p1.1).bind fun v14 =>
 (C (.fn 35) [v14] s5).bind fun L15 => manyK L15 fun v16 s17 =>
 (O.nilCheck a0).bind fun v18 =>
 (O.fieldAddr 68 v18 0).bind fun v19 =>
 (O.load s17 66 v19).bind fun v20 =>
 (O.mapUpdate s17 66 v20 a1 v16).bind fun s21 =>
 k8 v16 s21) (
 (O.nilCheck v11).bind fun v22 =>
 (O.fieldAddr 79 v22 2).bind fun v23 =>
 (O.load s5 28 v23).bind fun v24 =>
 (O.load s5 28 p1.1).bind fun v25 =>
 (oneO C (.fn 36) [v24, v25] s5).bind fun p26 =>
 (O.bop .neq 32 p26.1 (Go.Value.int Go.IntKind.i64 0)).bind fun v27 =>
 (O.boolO v27).bind fun b28 => cond b28 (
 some [(p26.1, p26.2)]) (
 k8 v11 p26.2)))
theorem f14_r (C : OracleJ H) (n : Nat) (a0 : Value) (a1 : Value) (a2 : Value) (s : St H) : bodyD Tryz.prog false C n 14 Tryz.f14 [a0, a1, a2] s = f14 (dOps (H := H) Tryz.prog) C n a0 a1 a2 s := by kernel_rfl
/-! tidepole/tidepolebase.SameInts -/
def f29_l0_m (i0 : Value) (i1 : Value) (i6 : Value) (i7 : Value) (i8 : Value) (i9 : Value) (i10 : Value) (x : Value × Value) : List Value := [i0, i1, undefV, undefV, x.1, x.2, i6, i7, i8, i9, i10, dc, dc, dc, dc, dc, dc, dc, dc, dc, dc, dc, dc, dc, dc, dc]
noncomputable def f29_l0 (O : Ops H) (C : OracleJ H) (n : Nat) (i0 : Value) (i1 : Value) (nx : (Value × Value) → St H → Option (List (Value × St H))) (kx : Nat → (Value × Value) → St H → Option (List (Value × St H))) (kr : (Value × Value) → St H → Option (List (Value × St H))) (x : Value × Value) (s : St H) : Option (List (Value × St H)) :=
 (O.len s 47 i0).bind fun v5 =>
 (O.bop .lss 3 x.2 v5).bind fun v6 =>
 (O.boolO v6).bind fun b7 => cond b7 (
 (O.indexAddr 47 i0 x.2).bind fun v8 =>
 (O.load s 3 v8).bind fun v9 =>
 (O.indexAddr 47 i1 x.2).bind fun v10 =>
 (O.load s 3 v10).bind fun v11 =>
 (O.bop .neq 3 v9 v11).bind fun v12 =>
 (O.boolO v12).bind fun b13 => cond b13 (
 kr ((.bool false), x.2) s) (
 (O.bop .add 3 x.2 (Go.Value.int Go.IntKind.i64 1)).bind fun v14 =>
 nx (x.1, v14) s)) (
 kx 0 (x.1, x.2) s)
theorem f29_l0_b (C : OracleJ H) (n : Nat) (i0 : Value) (i1 : Value) (i6 : Value) (i7 : Value) (i8 : Value) (i9 : Value) (i10 : Value) (x : Value × Value) (s : St H) (nx : List Value → St H → Option (List (Value × St H))) (K : Ex → List Value → St H → Option (List (Value × St H))) :
 exec Tryz.prog false C n 29 none (cdp Tryz.f29 [1, 1, 0, 1, 0, 0]) (f29_l0_m i0 i1 i6 i7 i8 i9 i10 x) s (kIter (scratch (cdp Tryz.f29 [1, 1, 0, 1, 0, 0])) nx K) = f29_l0 (dOps (H := H) Tryz.prog) C n i0 i1 (fun x s => nx (f29_l0_m i0 i1 i6 i7 i8 i9 i10 x) s) (fun i x s => K (.exit i) (f29_l0_m i0 i1 i6 i7 i8 i9 i10 x) s) (fun x s => K .ret (f29_l0_m i0 i1 i6 i7 i8 i9 i10 x) s) x s := by kernel_rfl
theorem f29_l0_e (C : OracleJ H) (n : Nat) (i0 : Value) (i1 : Value) (i6 : Value) (i7 : Value) (i8 : Value) (i9 : Value) (i10 : Value) (m : Nat) (x : Value × Value) (s : St H) (K : Ex → List Value → St H → Option (List (Value × St H))) :
 iter (fun t s k => exec Tryz.prog false C n 29 none (cdp Tryz.f29 [1, 1, 0, 1, 0, 0]) t s k) (scratch (cdp Tryz.f29 [1, 1, 0, 1, 0, 0])) m (f29_l0_m i0 i1 i6 i7 i8 i9 i10 x) s K = iterS (f29_l0 (dOps (H := H) Tryz.prog) C n i0 i1) (fun i x s => K (.exit i) (f29_l0_m i0 i1 i6 i7 i8 i9 i10 x) s) (fun x s => K .ret (f29_l0_m i0 i1 i6 i7 i8 i9 i10 x) s) m x s :=
   iter_eq (f29_l0_m i0 i1 i6 i7 i8 i9 i10) (f29_l0 (dOps (H := H) Tryz.prog) C n i0 i1) (fun x s nx K => f29_l0_b C n i0 i1 i6 i7 i8 i9 i10 x s nx K) K m x s
noncomputable def f29 (O : Ops H) (C : OracleJ H) (n : Nat) (a0 : Value) (a1 : Value) (s : St H) : Option (List (Value × St H)) :=
 (O.len s 47 a0).bind fun v1 =>
 (O.len s 47 a1).bind fun v2 =>
 (O.bop .neq 3 v1 v2).bind fun v3 =>
 (O.boolO v3).bind fun b4 => cond b4 (
 some [((.bool false), s)]) (
 iterS (f29_l0 O C n a0 a1 )
 (fun i15 x16 s17 => (bif Nat.beq i15 0 then
 some [((.bool true), s17)] else none))
 (fun x18 s19 => some [(x18.1, s19)]) n ((.bool false), (Go.Value.int Go.IntKind.i64 0)) s)
theorem f29_l0_k (C : OracleJ H) (n : Nat) (i0 : Value) (i1 : Value) (i6 : Value) (i7 : Value) (i8 : Value) (i9 : Value) (i10 : Value) (i : Nat) (x : Value × Value) (s : St H) : (kBlock 0 (kSeq Tryz.prog false C n 29 none (cdp Tryz.f29 [1, 1, 1]) (kFun Tryz.prog Tryz.f29))) (.exit i) (f29_l0_m i0 i1 i6 i7 i8 i9 i10 x) s =
 (bif Nat.beq i 0 then
 some [((.bool true), s)] else none) := by kernel_rfl
theorem f29_r (C : OracleJ H) (n : Nat) (a0 : Value) (a1 : Value) (s : St H) : bodyD Tryz.prog false C n 29 Tryz.f29 [a0, a1] s = f29 (dOps (H := H) Tryz.prog) C n a0 a1 s := by
  have h1 : bodyD Tryz.prog false C n 29 Tryz.f29 [a0, a1] s =
 ((dOps (H := H) Tryz.prog).len s 47 a0).bind fun v20 =>
 ((dOps (H := H) Tryz.prog).len s 47 a1).bind fun v21 =>
 ((dOps (H := H) Tryz.prog).bop .neq 3 v20 v21).bind fun v22 =>
 ((dOps (H := H) Tryz.prog).boolO v22).bind fun b23 => cond b23 (
 some [((.bool false), s)]) (
 iter (fun t s k => exec Tryz.prog false C n 29 none (cdp Tryz.f29 [1, 1, 0, 1, 0, 0]) t s k) (scratch (cdp Tryz.f29 [1, 1, 0, 1, 0, 0])) n (f29_l0_m a0 a1 a0 v20 a1 v21 v22 ((.bool false), (Go.Value.int Go.IntKind.i64 0))) s (kBlock 0 (kSeq Tryz.prog false C n 29 none (cdp Tryz.f29 [1, 1, 1]) (kFun Tryz.prog Tryz.f29)))) := by kernel_rfl
  rw [h1]
  simp only [f29_l0_e, f29_l0_k]
  show _ = f29 (dOps (H := H) Tryz.prog) C n a0 a1 s
  kernel_rfl
/-! (*tidepole/head.Head).Drop$1 -/
noncomputable def f33 (O : Ops H) (C : OracleJ H) (n : Nat) (a0 : Value) (a1 : Value) (s : St H) : Option (List (Value × St H)) :=
 (O.box s a0).bind fun p1 =>
 (O.fieldAddr 28 p1.1 0).bind fun v2 =>
 (O.load p1.2 3 v2).bind fun v3 =>
 (oneO C (.fn 31) [v3] p1.2).bind fun p4 =>
 (O.load p4.2 3 a1).bind fun v5 =>
 (O.bop .eql 3 p4.1 v5).bind fun v6 =>
 bif (eqO H (O.load p1.2 3 a1) v5 && (eqO H (O.load p4.2 3 a1) v5 && (true))) && (true) then
 some [(v6, p4.2)]
 else none
theorem f33_r (C : OracleJ H) (n : Nat) (a0 : Value) (a1 : Value) (s : St H) : bodyD Tryz.prog false C n 33 Tryz.f33 [a0, a1] s = f33 (dOps (H := H) Tryz.prog) C n a0 a1 s := by kernel_rfl
/-! (*tidepole/head.series).put -/
noncomputable def f37 (O : Ops H) (C : OracleJ H) (n : Nat) (a0 : Value) (a1 : Value) (s : St H) : Option (List (Value × St H)) :=
 (O.box s a1).bind fun p1 =>
 (O.nilCheck a0).bind fun v2 =>
 (O.fieldAddr 79 v2 0).bind fun v3 =>
 (O.load p1.2 76 v3).bind fun v4 =>
 (C (.fn 58) [v4] p1.2).bind fun L5 => manyK L5 fun v6 s7 =>
 (O.bop .eql 3 v6 (Go.Value.int Go.IntKind.i64 120)).bind fun v8 =>
 jn (fun (js47 : St H) =>
 (O.nilCheck a0).bind fun v37 =>
 (O.fieldAddr 79 v37 0).bind fun v38 =>
 (O.load js47 76 v38).bind fun v39 =>
 (O.load js47 28 p1.1).bind fun v40 =>
 (oneO C (.fn 60) [v39, v40] js47).bind fun p41 =>
 some [(.tuple #[], p41.2)]) fun k47 =>
 (O.boolO v8).bind fun b9 => cond b9 (
 (O.nilCheck a0).bind fun v10 =>
 (O.fieldAddr 79 v10 0).bind fun v11 =>
 (O.load s7 76 v11).bind fun v12 =>
 (C (.fn 59) [v12] s7).bind fun L13 => manyK L13 fun v14 s15 =>
 (O.extract v14 0).bind fun v16 =>
 (O.extract v14 1).bind fun v17 =>
 (O.nilCheck a0).bind fun v18 =>
 (O.fieldAddr 79 v18 1).bind fun v19 =>
 (O.load s15 77 v19).bind fun v20 =>
 (O.buildSlice false s15 77 1 [(0, v16)]).bind fun p21 =>
 (O.append false p21.2 77 77 v20 p21.1).bind fun p22 =>
 (C (.fn 56) [] p22.2).bind fun L23 => manyK L23 fun v24 s25 =>
 (O.nilCheck a0).bind fun v26 =>
 (O.fieldAddr 79 v26 1).bind fun v27 =>
 (O.store s25 77 v27 p22.1).bind fun s28 =>
 (O.nilCheck a0).bind fun v29 =>
 (O.fieldAddr 79 v29 0).bind fun v30 =>
 (O.store s28 76 v30 v24).bind fun s31 =>
 k47 s31) (
 k47 s7)
theorem f37_r (C : OracleJ H) (n : Nat) (a0 : Value) (a1 : Value) (s : St H) : bodyD Tryz.prog false C n 37 Tryz.f37 [a0, a1] s = f37 (dOps (H := H) Tryz.prog) C n a0 a1 s := by kernel_rfl
/-! slices.Sort[[]int,int] -/
noncomputable def f44 (O : Ops H) (C : OracleJ H) (n : Nat) (a0 : Value) (s : St H) : Option (List (Value × St H)) :=
 (O.len s 47 a0).bind fun v1 =>
 (O.conv false s 3 114 v1).bind fun p2 =>
 (C (.fn 71) [p2.1] p2.2).bind fun L3 => manyK L3 fun v4 s5 =>
 (C (.fn 70) [a0, (Go.Value.int Go.IntKind.i64 0), v1, v4] s5).bind fun L6 => manyK L6 fun v7 s8 =>
 some [(.tuple #[], s8)]
theorem f44_r (C : OracleJ H) (n : Nat) (a0 : Value) (s : St H) : bodyD Tryz.prog false C n 44 Tryz.f44 [a0] s = f44 (dOps (H := H) Tryz.prog) C n a0 s := by kernel_rfl
/-! tidepole/head.dayOf[int] -/
noncomputable def f55 (O : Ops H) (C : OracleJ H) (n : Nat) (a0 : Value) (a1 : Value) (s : St H) : Option (List (Value × St H)) :=
 (O.bop .quo 3 a0 a1).bind fun v1 =>
 some [(v1, s)]
theorem f55_r (C : OracleJ H) (n : Nat) (a0 : Value) (a1 : Value) (s : St H) : bodyD Tryz.prog false C n 55 Tryz.f55 [a0, a1] s = f55 (dOps (H := H) Tryz.prog) C n a0 a1 s := by kernel_rfl
/-! (*tidepole/chunk.Builder).Bytes -/
noncomputable def f59 (O : Ops H) (C : OracleJ H) (n : Nat) (a0 : Value) (s : St H) : Option (List (Value × St H)) :=
 (C (.fn 77) [a0] s).bind fun L1 => manyK L1 fun v2 s3 =>
 (O.uop .not v2).bind fun v4 =>
 (O.boolO v4).bind fun b5 => cond b5 (
 some [(.tuple #[(fzV 2 #[]), (Go.Value.int Go.IntKind.i64 1)], s3)]) (
 (O.nilCheck a0).bind fun v6 =>
 (O.fieldAddr 127 v6 0).bind fun v7 =>
 (O.fieldAddr 123 v7 0).bind fun v8 =>
 (O.fieldAddr 121 v8 0).bind fun v9 =>
 (O.load s3 3 v9).bind fun v10 =>
 (O.bop .eql 3 v10 (Go.Value.int Go.IntKind.i64 0)).bind fun v11 =>
 (O.boolO v11).bind fun b12 => cond b12 (
 some [(.tuple #[(fzV 2 #[]), (Go.Value.int Go.IntKind.i64 2)], s3)]) (
 (O.nilCheck a0).bind fun v13 =>
 (O.fieldAddr 127 v13 0).bind fun v14 =>
 (O.fieldAddr 123 v14 0).bind fun v15 =>
 (O.fieldAddr 121 v15 0).bind fun v16 =>
 (O.load s3 3 v16).bind fun v17 =>
 (O.conv false s3 3 26 v17).bind fun p18 =>
 (oneO C (.fn 79) [(fzV 2 #[]), p18.1] p18.2).bind fun p19 =>
 (O.nilCheck a0).bind fun v20 =>
 (O.fieldAddr 127 v20 1).bind fun v21 =>
 (O.load p19.2 124 v21).bind fun v22 =>
 (oneO C (.fn 80) [v22] p19.2).bind fun p23 =>
 (oneO C (.fn 78) [p19.1, p23.1] p23.2).bind fun p24 =>
 (O.extract p24.1 0).bind fun v25 =>
 (O.extract p24.1 1).bind fun v26 =>
 bif (eqO H (O.load s3 124 v21) v22 && (eqO H (O.load p19.2 124 v21) v22 && (true))) && (true) then
 (C (.fn 81) [v25] p24.2).bind fun L27 => manyK L27 fun v28 s29 =>
 some [(.tuple #[v28, v26], s29)]
 else none))
theorem f59_r (C : OracleJ H) (n : Nat) (a0 : Value) (s : St H) : bodyD Tryz.prog false C n 59 Tryz.f59 [a0] s = f59 (dOps (H := H) Tryz.prog) C n a0 s := by kernel_rfl
/-! maps.Keys[map[uint64]*tidepole/head.series,uint64,*tidepole/head.series]$1 -/
def f63_l0_m (i0 : Value) (i1 : Value) (i4 : Value) (i5 : Value) (x : Value) : List Value := [i0, i1, undefV, x, i4, i5, dc, dc, dc, dc, dc, dc, dc, dc]
noncomputable def f63_l0 (O : Ops H) (C : OracleJ H) (n : Nat) (i0 : Value) (i5 : Value) (nx : Value → St H → Option (List (Value × St H))) (kx : Nat → Value → St H → Option (List (Value × St H))) (kr : Value → St H → Option (List (Value × St H))) (x : Value) (s : St H) : Option (List (Value × St H)) :=
 (O.nexts s i5).bind fun L3 => manyK L3 fun v4 s5 =>
 (O.extract v4 0).bind fun v6 =>
 (O.boolO v6).bind fun b7 => cond b7 (
 (O.entry s5 i5).bind fun v8 =>
 (O.extract v8 0).bind fun v9 =>
 (O.tgt i0 [v9]).bind fun g10 => (C g10.1 g10.2 s5).bind fun L11 => manyK L11 fun v12 s13 =>
 (O.uop .not v12).bind fun v14 =>
 (O.boolO v14).bind fun b15 => cond b15 (
 kr v9 s13) (
 nx v9 s13)) (
 kx 0 x s5)
theorem f63_l0_b (C : OracleJ H) (n : Nat) (i0 : Value) (i1 : Value) (i4 : Value) (i5 : Value) (x : Value) (s : St H) (nx : List Value → St H → Option (List (Value × St H))) (K : Ex → List Value → St H → Option (List (Value × St H))) :
 exec Tryz.prog false C n 63 none (cdp Tryz.f63 [1, 0, 0]) (f63_l0_m i0 i1 i4 i5 x) s (kIter (scratch (cdp Tryz.f63 [1, 0, 0])) nx K) = f63_l0 (dOps (H := H) Tryz.prog) C n i0 i5 (fun x s => nx (f63_l0_m i0 i1 i4 i5 x) s) (fun i x s => K (.exit i) (f63_l0_m i0 i1 i4 i5 x) s) (fun x s => K .ret (f63_l0_m i0 i1 i4 i5 x) s) x s := by kernel_rfl
theorem f63_l0_e (C : OracleJ H) (n : Nat) (i0 : Value) (i1 : Value) (i4 : Value) (i5 : Value) (m : Nat) (x : Value) (s : St H) (K : Ex → List Value → St H → Option (List (Value × St H))) :
 iter (fun t s k => exec Tryz.prog false C n 63 none (cdp Tryz.f63 [1, 0, 0]) t s k) (scratch (cdp Tryz.f63 [1, 0, 0])) m (f63_l0_m i0 i1 i4 i5 x) s K = iterS (f63_l0 (dOps (H := H) Tryz.prog) C n i0 i5) (fun i x s => K (.exit i) (f63_l0_m i0 i1 i4 i5 x) s) (fun x s => K .ret (f63_l0_m i0 i1 i4 i5 x) s) m x s :=
   iter_eq (f63_l0_m i0 i1 i4 i5) (f63_l0 (dOps (H := H) Tryz.prog) C n i0 i5) (fun x s nx K => f63_l0_b C n i0 i1 i4 i5 x s nx K) K m x s
noncomputable def f63 (O : Ops H) (C : OracleJ H) (n : Nat) (a0 : Value) (a1 : Value) (s : St H) : Option (List (Value × St H)) :=
 (O.load s 66 a1).bind fun v1 =>
 (O.range s 66 v1).bind fun p2 =>
 iterS (f63_l0 O C n a0 p2.1 )
 (fun i16 x17 s18 => (bif Nat.beq i16 0 then
 some [(.tuple #[], s18)] else none))
 (fun x19 s20 => some [(.tuple #[], s20)]) n undefV p2.2
theorem f63_l0_k (C : OracleJ H) (n : Nat) (i0 : Value) (i1 : Value) (i4 : Value) (i5 : Value) (i : Nat) (x : Value) (s : St H) : (kBlock 0 (kFun Tryz.prog Tryz.f63)) (.exit i) (f63_l0_m i0 i1 i4 i5 x) s =
 (bif Nat.beq i 0 then
 some [(.tuple #[], s)] else none) := by kernel_rfl
theorem f63_r (C : OracleJ H) (n : Nat) (a0 : Value) (a1 : Value) (s : St H) : bodyD Tryz.prog false C n 63 Tryz.f63 [a0, a1] s = f63 (dOps (H := H) Tryz.prog) C n a0 a1 s := by
  have h1 : bodyD Tryz.prog false C n 63 Tryz.f63 [a0, a1] s =
 ((dOps (H := H) Tryz.prog).load s 66 a1).bind fun v21 =>
 ((dOps (H := H) Tryz.prog).range s 66 v21).bind fun p22 =>
 iter (fun t s k => exec Tryz.prog false C n 63 none (cdp Tryz.f63 [1, 0, 0]) t s k) (scratch (cdp Tryz.f63 [1, 0, 0])) n (f63_l0_m a0 a1 v21 p22.1 undefV) p22.2 (kBlock 0 (kFun Tryz.prog Tryz.f63)) := by kernel_rfl
  rw [h1]
  simp only [f63_l0_e, f63_l0_k]
  show _ = f63 (dOps (H := H) Tryz.prog) C n a0 a1 s
  kernel_rfl
/-! math/bits.Len -/
noncomputable def f71 (O : Ops H) (C : OracleJ H) (n : Nat) (a0 : Value) (s : St H) : Option (List (Value × St H)) :=
 (C (.fn 99) [a0] s).bind fun L2 => manyK L2 fun v3 s4 =>
 some [(v3, s4)]
theorem f71_r (C : OracleJ H) (n : Nat) (a0 : Value) (s : St H) : bodyD Tryz.prog false C n 71 Tryz.f71 [a0] s = f71 (dOps (H := H) Tryz.prog) C n a0 s := by kernel_rfl
/-! cmp.isNaN[int] -/
noncomputable def f76 (O : Ops H) (C : OracleJ H) (n : Nat) (a0 : Value) (s : St H) : Option (List (Value × St H)) :=
 (O.bop .neq 3 a0 a0).bind fun v1 =>
 some [(v1, s)]
theorem f76_r (C : OracleJ H) (n : Nat) (a0 : Value) (s : St H) : bodyD Tryz.prog false C n 76 Tryz.f76 [a0] s = f76 (dOps (H := H) Tryz.prog) C n a0 s := by kernel_rfl
/-! (*tidepole/bits.Writer).Bytes -/
noncomputable def f80 (O : Ops H) (C : OracleJ H) (n : Nat) (a0 : Value) (s : St H) : Option (List (Value × St H)) :=
 (C (.fn 102) [a0] s).bind fun L1 => manyK L1 fun v2 s3 =>
 (O.uop .not v2).bind fun v4 =>
 (O.boolO v4).bind fun b5 => cond b5 (
 some [((fzV 2 #[]), s3)]) (
 (O.buildSlice false s3 99 0 []).bind fun p6 =>
 (O.nilCheck a0).bind fun v7 =>
 (O.fieldAddr 155 v7 0).bind fun v8 =>
 (O.fieldAddr 153 v8 0).bind fun v9 =>
 (O.load p6.2 99 v9).bind fun v10 =>
 (O.append false p6.2 99 99 p6.1 v10).bind fun p11 =>
 some [(p11.1, p11.2)])
theorem f80_r (C : OracleJ H) (n : Nat) (a0 : Value) (s : St H) : bodyD Tryz.prog false C n 80 Tryz.f80 [a0] s = f80 (dOps (H := H) Tryz.prog) C n a0 s := by kernel_rfl
/-! tidepole/xor.Put -/
noncomputable def f84 (O : Ops H) (C : OracleJ H) (n : Nat) (a0 : Value) (a1 : Value) (a2 : Value) (s : St H) : Option (List (Value × St H)) :=
 (O.box s a1).bind fun p1 =>
 (O.alloc p1.2 118).bind fun p2 =>
 (O.load p2.2 118 p1.1).bind fun v3 =>
 (C (.fn 110) [v3] p2.2).bind fun L4 => manyK L4 fun v5 s6 =>
 (O.uop .not v5).bind fun v7 =>
 (O.boolO v7).bind fun b8 => cond b8 (
 (O.build 118 []).bind fun v9 =>
 (O.store s6 118 p2.1 v9).bind fun s10 =>
 (O.load s10 118 p2.1).bind fun v11 => some [(.tuple #[v11, (Go.Value.int Go.IntKind.i64 2)], s10)]) (
 (O.fieldAddr 118 p1.1 1).bind fun v12 =>
 (O.load s6 26 v12).bind fun v13 =>
 (O.bop .xor 26 a2 v13).bind fun v14 =>
 (O.load s6 118 p1.1).bind fun v15 =>
 (oneO C (.fn 111) [v15] s6).bind fun p16 =>
 (O.alloc p16.2 169).bind fun p17 =>
 (O.store p17.2 169 p17.1 p16.1).bind fun s18 =>
 bif (eqO H (O.load s6 118 p1.1) v15 && (eqO H (O.load p16.2 118 p1.1) v15 && (true))) && ((eqO H (O.load s6 26 v12) v13 && (eqO H (O.load p16.2 26 v12) v13 && (eqO H (O.load p17.2 26 v12) v13 && (true)))) && (true)) then
 (O.fieldAddr 118 p1.1 0).bind fun v19 =>
 (O.load s18 3 v19).bind fun v20 =>
 (O.bop .eql 3 v20 (Go.Value.int Go.IntKind.i64 0)).bind fun v21 =>
 jn (fun (j93_10 : Value) (js93 : St H) =>
 (O.bop .neq 32 j93_10 (Go.Value.int Go.IntKind.i64 0)).bind fun v70 =>
 (O.boolO v70).bind fun b71 => cond b71 (
 (O.build 118 []).bind fun v72 =>
 (O.store js93 118 p2.1 v72).bind fun s73 =>
 (O.load s73 118 p2.1).bind fun v74 => some [(.tuple #[v74, j93_10], s73)]) (
 (O.load js93 118 p1.1).bind fun v75 =>
 (O.load js93 169 p17.1).bind fun v76 =>
 (C (.fn 116) [v75, a2, v76] js93).bind fun L77 => manyK L77 fun v78 s79 =>
 (O.store s79 118 p2.1 v78).bind fun s80 =>
 (O.load s80 118 p2.1).bind fun v81 => some [(.tuple #[v81, j93_10], s80)])) fun k93 =>
 (O.boolO v21).bind fun b22 => cond b22 (
 (O.build 173 [(0, a2), (1, (Go.Value.int Go.IntKind.i64 64))]).bind fun v23 =>
 (O.buildSlice false s18 200 1 [(0, v23)]).bind fun p24 =>
 (C (.fn 112) [a0, p24.1] p24.2).bind fun L25 => manyK L25 fun v26 s27 =>
 k93 v26 s27) (
 (O.bop .eql 26 v14 (Go.Value.int Go.IntKind.u64 0)).bind fun v28 =>
 jn (fun (j96_10 : Value) (js96 : St H) =>
 k93 j96_10 js96) fun k96 =>
 (O.boolO v28).bind fun b29 => cond b29 (
 (O.build 173 [(0, (Go.Value.int Go.IntKind.u64 0)), (1, (Go.Value.int Go.IntKind.i64 1))]).bind fun v30 =>
 (O.buildSlice false s18 200 1 [(0, v30)]).bind fun p31 =>
 (C (.fn 112) [a0, p31.1] p31.2).bind fun L32 => manyK L32 fun v33 s34 =>
 k96 v33 s34) (
 (O.load s18 169 p17.1).bind fun v35 =>
 (oneO C (.fn 114) [v14] s18).bind fun p36 =>
 (oneO C (.fn 113) [v35, p36.1] p36.2).bind fun p37 =>
 bif (eqO H (O.load s18 169 p17.1) v35 && (eqO H (O.load p36.2 169 p17.1) v35 && (true))) && (true) then
 jn (fun (j99_10 : Value) (js99 : St H) =>
 k96 j99_10 js99) fun k99 =>
 (O.boolO p37.1).bind fun b38 => cond b38 (
 (O.build 173 [(0, (Go.Value.int Go.IntKind.u64 2)), (1, (Go.Value.int Go.IntKind.i64 2))]).bind fun v39 =>
 (O.fieldAddr 169 p17.1 1).bind fun v40 =>
 (O.load p37.2 3 v40).bind fun v41 =>
 (O.bop .shr 26 v14 v41).bind fun v42 =>
 (O.load p37.2 169 p17.1).bind fun v43 =>
 (oneO C (.fn 115) [v43] p37.2).bind fun p44 =>
 (O.build 173 [(0, v42), (1, p44.1)]).bind fun v45 =>
 (O.buildSlice false p44.2 200 2 [(0, v39), (1, v45)]).bind fun p46 =>
 (oneO C (.fn 112) [a0, p46.1] p46.2).bind fun p47 =>
 bif (eqO H (O.load p37.2 3 v40) v41 && (eqO H (O.load p44.2 3 v40) v41 && (true))) && (true) then
 k99 p47.1 p47.2
 else none) (
 (C (.fn 114) [v14] p37.2).bind fun L48 => manyK L48 fun v49 s50 =>
 (O.store s50 169 p17.1 v49).bind fun s51 =>
 (O.build 173 [(0, (Go.Value.int Go.IntKind.u64 3)), (1, (Go.Value.int Go.IntKind.i64 2))]).bind fun v52 =>
 (O.fieldAddr 169 p17.1 0).bind fun v53 =>
 (O.load s51 3 v53).bind fun v54 =>
 (O.conv false s51 3 26 v54).bind fun p55 =>
 (O.build 173 [(0, p55.1), (1, (Go.Value.int Go.IntKind.i64 6))]).bind fun v56 =>
 (O.load p55.2 169 p17.1).bind fun v57 =>
 (oneO C (.fn 115) [v57] p55.2).bind fun p58 =>
 (O.bop .sub 3 p58.1 (Go.Value.int Go.IntKind.i64 1)).bind fun v59 =>
 (O.conv false p58.2 3 26 v59).bind fun p60 =>
 (O.build 173 [(0, p60.1), (1, (Go.Value.int Go.IntKind.i64 6))]).bind fun v61 =>
 (O.fieldAddr 169 p17.1 1).bind fun v62 =>
 (O.load p60.2 3 v62).bind fun v63 =>
 (O.bop .shr 26 v14 v63).bind fun v64 =>
 (O.load p60.2 169 p17.1).bind fun v65 =>
 (oneO C (.fn 115) [v65] p60.2).bind fun p66 =>
 (O.build 173 [(0, v64), (1, p66.1)]).bind fun v67 =>
 (O.buildSlice false p66.2 200 4 [(0, v52), (1, v56), (2, v61), (3, v67)]).bind fun p68 =>
 (oneO C (.fn 112) [a0, p68.1] p68.2).bind fun p69 =>
 bif (eqO H (O.load s51 169 p17.1) v65 && (eqO H (O.load p58.2 169 p17.1) v65 && (true))) && ((eqO H (O.load s51 3 v62) v63 && (eqO H (O.load p58.2 3 v62) v63 && (eqO H (O.load p66.2 3 v62) v63 && (true)))) && ((eqO H ((O.conv false p58.2 3 26 v59).map (·.1)) p60.1 && (eqO H ((O.conv false p66.2 3 26 v59).map (·.1)) p60.1 && (true))) && ((eqO H ((O.conv false s51 3 26 v54).map (·.1)) p55.1 && (eqO H ((O.conv false p58.2 3 26 v54).map (·.1)) p55.1 && (eqO H ((O.conv false p66.2 3 26 v54).map (·.1)) p55.1 && (true)))) && ((eqO H (O.load s51 3 v53) v54 && (eqO H (O.load p58.2 3 v53) v54 && (eqO H (O.load p66.2 3 v53) v54 && (true)))) && (true))))) then
 k99 p69.1 p69.2
 else none)
 else none))
 else none)
theorem f84_r (C : OracleJ H) (n : Nat) (a0 : Value) (a1 : Value) (a2 : Value) (s : St H) : bodyD Tryz.prog false C n 84 Tryz.f84 [a0, a1, a2] s = f84 (dOps (H := H) Tryz.prog) C n a0 a1 a2 s := by kernel_rfl
/-! slices.insertionSortOrdered[int] -/
def f89_l1_m (i0 : Value) (i1 : Value) (i2 : Value) (i6 : Value) (i8 : Value) (i9 : Value) (i10 : Value) (i11 : Value) (i12 : Value) (i15 : Value) (x : Value) : List Value := [i0, i1, i2, undefV, undefV, undefV, i6, x, i8, i9, i10, i11, i12, dc, dc, i15, dc, dc, dc, dc, dc, dc, dc, dc, dc, dc, dc, dc, dc, dc, dc, dc, dc, dc, dc, dc, dc, dc, dc, dc, dc, dc, dc, dc, dc, dc, dc, dc, dc]
noncomputable def f89_l1 (O : Ops H) (C : OracleJ H) (n : Nat) (i0 : Value) (i1 : Value) (nx : Value → St H → Option (List (Value × St H))) (kx : Nat → Value → St H → Option (List (Value × St H))) (kr : Value → St H → Option (List (Value × St H))) (x : Value) (s : St H) : Option (List (Value × St H)) :=
 jn (fun (j114_30 : Value) (js114 : St H) =>
 (O.boolO j114_30).bind fun b23 => cond b23 (
 (O.bop .sub 3 x (Go.Value.int Go.IntKind.i64 1)).bind fun v24 =>
 (O.bop .sub 3 x (Go.Value.int Go.IntKind.i64 1)).bind fun v25 =>
 (O.indexAddr 47 i0 v25).bind fun v26 =>
 (O.load js114 3 v26).bind fun v27 =>
 (O.indexAddr 47 i0 x).bind fun v28 =>
 (O.load js114 3 v28).bind fun v29 =>
 (O.indexAddr 47 i0 x).bind fun v30 =>
 (O.store js114 3 v30 v27).bind fun s31 =>
 (O.indexAddr 47 i0 v24).bind fun v32 =>
 (O.store s31 3 v32 v29).bind fun s33 =>
 (O.bop .sub 3 x (Go.Value.int Go.IntKind.i64 1)).bind fun v34 =>
 nx v34 s33) (
 kx 2 x js114)) fun k114 =>
 (O.bop .gtr 3 x i1).bind fun v4 =>
 gd v4 (
 (O.indexAddr 47 i0 x).bind fun v5 =>
 (O.load s 3 v5).bind fun v6 =>
 (O.bop .sub 3 x (Go.Value.int Go.IntKind.i64 1)).bind fun v7 =>
 (O.indexAddr 47 i0 v7).bind fun v8 =>
 (O.load s 3 v8).bind fun v9 =>
 (oneO C (.fn 95) [v6, v9] s).bind fun p10 =>
 k114 p10.1 p10.2) (
 k114 (.bool false) s) (
 none)
theorem f89_l1_b (C : OracleJ H) (n : Nat) (i0 : Value) (i1 : Value) (i2 : Value) (i6 : Value) (i8 : Value) (i9 : Value) (i10 : Value) (i11 : Value) (i12 : Value) (i15 : Value) (x : Value) (s : St H) (nx : List Value → St H → Option (List (Value × St H))) (K : Ex → List Value → St H → Option (List (Value × St H))) :
 exec Tryz.prog false C n 89 none (cdp Tryz.f89 [1, 0, 0, 1, 0, 0, 1, 0, 0]) (f89_l1_m i0 i1 i2 i6 i8 i9 i10 i11 i12 i15 x) s (kIter (scratch (cdp Tryz.f89 [1, 0, 0, 1, 0, 0, 1, 0, 0])) nx K) = f89_l1 (dOps (H := H) Tryz.prog) C n i0 i1 (fun x s => nx (f89_l1_m i0 i1 i2 i6 i8 i9 i10 i11 i12 i15 x) s) (fun i x s => K (.exit i) (f89_l1_m i0 i1 i2 i6 i8 i9 i10 i11 i12 i15 x) s) (fun x s => K .ret (f89_l1_m i0 i1 i2 i6 i8 i9 i10 i11 i12 i15 x) s) x s := by kernel_rfl
theorem f89_l1_e (C : OracleJ H) (n : Nat) (i0 : Value) (i1 : Value) (i2 : Value) (i6 : Value) (i8 : Value) (i9 : Value) (i10 : Value) (i11 : Value) (i12 : Value) (i15 : Value) (m : Nat) (x : Value) (s : St H) (K : Ex → List Value → St H → Option (List (Value × St H))) :
 iter (fun t s k => exec Tryz.prog false C n 89 none (cdp Tryz.f89 [1, 0, 0, 1, 0, 0, 1, 0, 0]) t s k) (scratch (cdp Tryz.f89 [1, 0, 0, 1, 0, 0, 1, 0, 0])) m (f89_l1_m i0 i1 i2 i6 i8 i9 i10 i11 i12 i15 x) s K = iterS (f89_l1 (dOps (H := H) Tryz.prog) C n i0 i1) (fun i x s => K (.exit i) (f89_l1_m i0 i1 i2 i6 i8 i9 i10 i11 i12 i15 x) s) (fun x s => K .ret (f89_l1_m i0 i1 i2 i6 i8 i9 i10 i11 i12 i15 x) s) m x s :=
   iter_eq (f89_l1_m i0 i1 i2 i6 i8 i9 i10 i11 i12 i15) (f89_l1 (dOps (H := H) Tryz.prog) C n i0 i1) (fun x s nx K => f89_l1_b C n i0 i1 i2 i6 i8 i9 i10 i11 i12 i15 x s nx K) K m x s
def f89_l0_m (i0 : Value) (i1 : Value) (i2 : Value) (i8 : Value) (i9 : Value) (x : Value × Value) : List Value := [i0, i1, i2, undefV, undefV, undefV, x.1, x.2, i8, i9, dc, dc, dc, dc, dc, dc, dc, dc, dc, dc, dc, dc, dc, dc, dc, dc, dc, dc, dc, dc, dc, dc, dc, dc, dc, dc, dc, dc, dc, dc, dc, dc, dc, dc, dc, dc, dc, dc, dc]
noncomputable def f89_l0 (O : Ops H) (C : OracleJ H) (n : Nat) (i0 : Value) (i1 : Value) (i2 : Value) (nx : (Value × Value) → St H → Option (List (Value × St H))) (kx : Nat → (Value × Value) → St H → Option (List (Value × St H))) (kr : (Value × Value) → St H → Option (List (Value × St H))) (x : Value × Value) (s : St H) : Option (List (Value × St H)) :=
 (O.bop .lss 3 x.1 i2).bind fun v2 =>
 (O.boolO v2).bind fun b3 => cond b3 (
 iterS (f89_l1 O C n i0 i1 )
 (fun i35 x36 s37 => (bif Nat.beq i35 2 then
 (O.bop .add 3 x.1 (Go.Value.int Go.IntKind.i64 1)).bind fun v42 =>
 nx (v42, x36) s37 else (bif Nat.beq i35 1 then
 (O.bop .add 3 x.1 (Go.Value.int Go.IntKind.i64 1)).bind fun v41 =>
 nx (v41, x36) s37 else kx i35 (x.1, x36) s37)))
 (fun x38 s39 => kr (x.1, x38) s39) n x.1 s) (
 kx 0 (x.1, x.2) s)
theorem f89_l1_k (C : OracleJ H) (n : Nat) (i0 : Value) (i1 : Value) (i2 : Value) (i6 : Value) (i8 : Value) (i9 : Value) (i10 : Value) (i11 : Value) (i12 : Value) (i15 : Value) (nx : List Value → St H → Option (List (Value × St H))) (K : Ex → List Value → St H → Option (List (Value × St H))) (i : Nat) (x : Value) (s : St H) : (kBlock 2 (kBlock 1 (kSeq Tryz.prog false C n 89 none (cdp Tryz.f89 [1, 0, 0, 1, 1]) (kIter (scratch (cdp Tryz.f89 [1, 0, 0])) nx K)))) (.exit i) (f89_l1_m i0 i1 i2 i6 i8 i9 i10 i11 i12 i15 x) s =
 (bif Nat.beq i 2 then
 ((dOps (H := H) Tryz.prog).bop .add 3 i6 (Go.Value.int Go.IntKind.i64 1)).bind fun v47 =>
 nx (f89_l0_m i0 i1 i2 i8 i9 (v47, x)) s else (bif Nat.beq i 1 then
 ((dOps (H := H) Tryz.prog).bop .add 3 i6 (Go.Value.int Go.IntKind.i64 1)).bind fun v48 =>
 nx (f89_l0_m i0 i1 i2 i8 i9 (v48, x)) s else K (.exit i) (f89_l0_m i0 i1 i2 i8 i9 (i6, x)) s)) := by kernel_rfl
theorem f89_l0_b (C : OracleJ H) (n : Nat) (i0 : Value) (i1 : Value) (i2 : Value) (i8 : Value) (i9 : Value) (x : Value × Value) (s : St H) (nx : List Value → St H → Option (List (Value × St H))) (K : Ex → List Value → St H → Option (List (Value × St H))) :
 exec Tryz.prog false C n 89 none (cdp Tryz.f89 [1, 0, 0]) (f89_l0_m i0 i1 i2 i8 i9 x) s (kIter (scratch (cdp Tryz.f89 [1, 0, 0])) nx K) = f89_l0 (dOps (H := H) Tryz.prog) C n i0 i1 i2 (fun x s => nx (f89_l0_m i0 i1 i2 i8 i9 x) s) (fun i x s => K (.exit i) (f89_l0_m i0 i1 i2 i8 i9 x) s) (fun x s => K .ret (f89_l0_m i0 i1 i2 i8 i9 x) s) x s := by
  have h1 : exec Tryz.prog false C n 89 none (cdp Tryz.f89 [1, 0, 0]) (f89_l0_m i0 i1 i2 i8 i9 x) s (kIter (scratch (cdp Tryz.f89 [1, 0, 0])) nx K) =
 ((dOps (H := H) Tryz.prog).bop .lss 3 x.1 i2).bind fun v43 =>
 ((dOps (H := H) Tryz.prog).boolO v43).bind fun b44 => cond b44 (
 iter (fun t s k => exec Tryz.prog false C n 89 none (cdp Tryz.f89 [1, 0, 0, 1, 0, 0, 1, 0, 0]) t s k) (scratch (cdp Tryz.f89 [1, 0, 0, 1, 0, 0, 1, 0, 0])) n (f89_l1_m i0 i1 i2 x.1 i8 i9 x.1 i2 v43 x.1 x.1) s (kBlock 2 (kBlock 1 (kSeq Tryz.prog false C n 89 none (cdp Tryz.f89 [1, 0, 0, 1, 1]) (kIter (scratch (cdp Tryz.f89 [1, 0, 0])) nx K))))) (
 K (.exit 0) (f89_l0_m i0 i1 i2 i8 i9 (x.1, x.2)) s) := by kernel_rfl
  rw [h1]
  simp only [f89_l1_e, f89_l1_k]
  show _ = f89_l0 (dOps (H := H) Tryz.prog) C n i0 i1 i2 (fun x s => nx (f89_l0_m i0 i1 i2 i8 i9 x) s) (fun i x s => K (.exit i) (f89_l0_m i0 i1 i2 i8 i9 x) s) (fun x s => K .ret (f89_l0_m i0 i1 i2 i8 i9 x) s) x s
  kernel_rfl
theorem f89_l0_e (C : OracleJ H) (n : Nat) (i0 : Value) (i1 : Value) (i2 : Value) (i8 : Value) (i9 : Value) (m : Nat) (x : Value × Value) (s : St H) (K : Ex → List Value → St H → Option (List (Value × St H))) :
 iter (fun t s k => exec Tryz.prog false C n 89 none (cdp Tryz.f89 [1, 0, 0]) t s k) (scratch (cdp Tryz.f89 [1, 0, 0])) m (f89_l0_m i0 i1 i2 i8 i9 x) s K = iterS (f89_l0 (dOps (H := H) Tryz.prog) C n i0 i1 i2) (fun i x s => K (.exit i) (f89_l0_m i0 i1 i2 i8 i9 x) s) (fun x s => K .ret (f89_l0_m i0 i1 i2 i8 i9 x) s) m x s :=
   iter_eq (f89_l0_m i0 i1 i2 i8 i9) (f89_l0 (dOps (H := H) Tryz.prog) C n i0 i1 i2) (fun x s nx K => f89_l0_b C n i0 i1 i2 i8 i9 x s nx K) K m x s
noncomputable def f89 (O : Ops H) (C : OracleJ H) (n : Nat) (a0 : Value) (a1 : Value) (a2 : Value) (s : St H) : Option (List (Value × St H)) :=
 (O.bop .add 3 a1 (Go.Value.int Go.IntKind.i64 1)).bind fun v1 =>
 iterS (f89_l0 O C n a0 a1 a2 )
 (fun i49 x50 s51 => (bif Nat.beq i49 0 then
 some [(.tuple #[], s51)] else none))
 (fun x52 s53 => some [(.tuple #[], s53)]) n (v1, undefV) s
theorem f89_l0_k (C : OracleJ H) (n : Nat) (i0 : Value) (i1 : Value) (i2 : Value) (i8 : Value) (i9 : Value) (i : Nat) (x : Value × Value) (s : St H) : (kBlock 0 (kFun Tryz.prog Tryz.f89)) (.exit i) (f89_l0_m i0 i1 i2 i8 i9 x) s =
 (bif Nat.beq i 0 then
 some [(.tuple #[], s)] else none) := by kernel_rfl
theorem f89_r (C : OracleJ H) (n : Nat) (a0 : Value) (a1 : Value) (a2 : Value) (s : St H) : bodyD Tryz.prog false C n 89 Tryz.f89 [a0, a1, a2] s = f89 (dOps (H := H) Tryz.prog) C n a0 a1 a2 s := by
  have h1 : bodyD Tryz.prog false C n 89 Tryz.f89 [a0, a1, a2] s =
 ((dOps (H := H) Tryz.prog).bop .add 3 a1 (Go.Value.int Go.IntKind.i64 1)).bind fun v54 =>
 iter (fun t s k => exec Tryz.prog false C n 89 none (cdp Tryz.f89 [1, 0, 0]) t s k) (scratch (cdp Tryz.f89 [1, 0, 0])) n (f89_l0_m a0 a1 a2 a1 v54 (v54, undefV)) s (kBlock 0 (kFun Tryz.prog Tryz.f89)) := by kernel_rfl
  rw [h1]
  simp only [f89_l0_e, f89_l0_k]
  show _ = f89 (dOps (H := H) Tryz.prog) C n a0 a1 a2 s
  kernel_rfl
/-! slices.reverseRangeOrdered[int] -/
def f93_l0_m (i0 : Value) (i1 : Value) (i2 : Value) (i8 : Value) (i9 : Value) (i10 : Value) (x : Value × Value) : List Value := [i0, i1, i2, undefV, undefV, undefV, x.1, x.2, i8, i9, i10, dc, dc, dc, dc, dc, dc, dc, dc, dc, dc, dc, dc, dc, dc, dc, dc, dc, dc, dc, dc, dc]
noncomputable def f93_l0 (O : Ops H) (C : OracleJ H) (n : Nat) (i0 : Value) (nx : (Value × Value) → St H → Option (List (Value × St H))) (kx : Nat → (Value × Value) → St H → Option (List (Value × St H))) (kr : (Value × Value) → St H → Option (List (Value × St H))) (x : Value × Value) (s : St H) : Option (List (Value × St H)) :=
 (O.bop .lss 3 x.1 x.2).bind fun v2 =>
 (O.boolO v2).bind fun b3 => cond b3 (
 (O.indexAddr 47 i0 x.2).bind fun v4 =>
 (O.load s 3 v4).bind fun v5 =>
 (O.indexAddr 47 i0 x.1).bind fun v6 =>
 (O.load s 3 v6).bind fun v7 =>
 (O.indexAddr 47 i0 x.1).bind fun v8 =>
 (O.store s 3 v8 v5).bind fun s9 =>
 (O.indexAddr 47 i0 x.2).bind fun v10 =>
 (O.store s9 3 v10 v7).bind fun s11 =>
 (O.bop .add 3 x.1 (Go.Value.int Go.IntKind.i64 1)).bind fun v12 =>
 (O.bop .sub 3 x.2 (Go.Value.int Go.IntKind.i64 1)).bind fun v13 =>
 nx (v12, v13) s11) (
 kx 0 (x.1, x.2) s)
theorem f93_l0_b (C : OracleJ H) (n : Nat) (i0 : Value) (i1 : Value) (i2 : Value) (i8 : Value) (i9 : Value) (i10 : Value) (x : Value × Value) (s : St H) (nx : List Value → St H → Option (List (Value × St H))) (K : Ex → List Value → St H → Option (List (Value × St H))) :
 exec Tryz.prog false C n 93 none (cdp Tryz.f93 [1, 1, 0, 0]) (f93_l0_m i0 i1 i2 i8 i9 i10 x) s (kIter (scratch (cdp Tryz.f93 [1, 1, 0, 0])) nx K) = f93_l0 (dOps (H := H) Tryz.prog) C n i0 (fun x s => nx (f93_l0_m i0 i1 i2 i8 i9 i10 x) s) (fun i x s => K (.exit i) (f93_l0_m i0 i1 i2 i8 i9 i10 x) s) (fun x s => K .ret (f93_l0_m i0 i1 i2 i8 i9 i10 x) s) x s := by kernel_rfl
theorem f93_l0_e (C : OracleJ H) (n : Nat) (i0 : Value) (i1 : Value) (i2 : Value) (i8 : Value) (i9 : Value) (i10 : Value) (m : Nat) (x : Value × Value) (s : St H) (K : Ex → List Value → St H → Option (List (Value × St H))) :
 iter (fun t s k => exec Tryz.prog false C n 93 none (cdp Tryz.f93 [1, 1, 0, 0]) t s k) (scratch (cdp Tryz.f93 [1, 1, 0, 0])) m (f93_l0_m i0 i1 i2 i8 i9 i10 x) s K = iterS (f93_l0 (dOps (H := H) Tryz.prog) C n i0) (fun i x s => K (.exit i) (f93_l0_m i0 i1 i2 i8 i9 i10 x) s) (fun x s => K .ret (f93_l0_m i0 i1 i2 i8 i9 i10 x) s) m x s :=
   iter_eq (f93_l0_m i0 i1 i2 i8 i9 i10) (f93_l0 (dOps (H := H) Tryz.prog) C n i0) (fun x s nx K => f93_l0_b C n i0 i1 i2 i8 i9 i10 x s nx K) K m x s
noncomputable def f93 (O : Ops H) (C : OracleJ H) (n : Nat) (a0 : Value) (a1 : Value) (a2 : Value) (s : St H) : Option (List (Value × St H)) :=
 (O.bop .sub 3 a2 (Go.Value.int Go.IntKind.i64 1)).bind fun v1 =>
 iterS (f93_l0 O C n a0 )
 (fun i14 x15 s16 => (bif Nat.beq i14 0 then
 some [(.tuple #[], s16)] else none))
 (fun x17 s18 => some [(.tuple #[], s18)]) n (a1, v1) s
theorem f93_l0_k (C : OracleJ H) (n : Nat) (i0 : Value) (i1 : Value) (i2 : Value) (i8 : Value) (i9 : Value) (i10 : Value) (i : Nat) (x : Value × Value) (s : St H) : (kBlock 0 (kFun Tryz.prog Tryz.f93)) (.exit i) (f93_l0_m i0 i1 i2 i8 i9 i10 x) s =
 (bif Nat.beq i 0 then
 some [(.tuple #[], s)] else none) := by kernel_rfl
theorem f93_r (C : OracleJ H) (n : Nat) (a0 : Value) (a1 : Value) (a2 : Value) (s : St H) : bodyD Tryz.prog false C n 93 Tryz.f93 [a0, a1, a2] s = f93 (dOps (H := H) Tryz.prog) C n a0 a1 a2 s := by
  have h1 : bodyD Tryz.prog false C n 93 Tryz.f93 [a0, a1, a2] s =
 ((dOps (H := H) Tryz.prog).bop .sub 3 a2 (Go.Value.int Go.IntKind.i64 1)).bind fun v19 =>
 iter (fun t s k => exec Tryz.prog false C n 93 none (cdp Tryz.f93 [1, 1, 0, 0]) t s k) (scratch (cdp Tryz.f93 [1, 1, 0, 0])) n (f93_l0_m a0 a1 a2 a1 a2 v19 (a1, v19)) s (kBlock 0 (kFun Tryz.prog Tryz.f93)) := by kernel_rfl
  rw [h1]
  simp only [f93_l0_e, f93_l0_k]
  show _ = f93 (dOps (H := H) Tryz.prog) C n a0 a1 a2 s
  kernel_rfl
/-! math/bits.Len32 -/
noncomputable def f98 (O : Ops H) (C : OracleJ H) (n : Nat) (a0 : Value) (s : St H) : Option (List (Value × St H)) :=
 (O.bop .geq 151 a0 (Go.Value.int Go.IntKind.u32 65536)).bind fun v1 =>
 jn (fun (j151_0 : Value) (j151_2 : Value) =>
 (O.bop .geq 151 j151_0 (Go.Value.int Go.IntKind.u32 256)).bind fun v16 =>
 jn (fun (j161_0 : Value) (j161_2 : Value) =>
 (O.conv false s 151 5 j161_0).bind fun p24 =>
 (O.index 9 (Go.Value.string { data := #[0, 1, 2, 2, 3, 3, 3, 3, 4, 4, 4, 4, 4, 4, 4, 4, 5, 5, 5, 5, 5, 5, 5, 5, 5, 5, 5, 5, 5, 5, 5, 5, 6, 6, 6, 6, 6, 6, 6, 6, 6, 6, 6, 6, 6, 6, 6, 6, 6, 6, 6, 6, 6, 6, 6, 6, 6, 6, 6, 6, 6, 6, 6, 6, 7, 7, 7, 7, 7, 7, 7, 7, 7, 7, 7, 7, 7, 7, 7, 7, 7, 7, 7, 7, 7, 7, 7, 7, 7, 7, 7, 7, 7, 7, 7, 7, 7, 7, 7, 7, 7, 7, 7, 7, 7, 7, 7, 7, 7, 7, 7, 7, 7, 7, 7, 7, 7, 7, 7, 7, 7, 7, 7, 7, 7, 7, 7, 7, 8, 8, 8, 8, 8, 8, 8, 8, 8, 8, 8, 8, 8, 8, 8, 8, 8, 8, 8, 8, 8, 8, 8, 8, 8, 8, 8, 8, 8, 8, 8, 8, 8, 8, 8, 8, 8, 8, 8, 8, 8, 8, 8, 8, 8, 8, 8, 8, 8, 8, 8, 8, 8, 8, 8, 8, 8, 8, 8, 8, 8, 8, 8, 8, 8, 8, 8, 8, 8, 8, 8, 8, 8, 8, 8, 8, 8, 8, 8, 8, 8, 8, 8, 8, 8, 8, 8, 8, 8, 8, 8, 8, 8, 8, 8, 8, 8, 8, 8, 8, 8, 8, 8, 8, 8, 8, 8, 8, 8, 8, 8, 8, 8, 8, 8, 8, 8, 8, 8, 8, 8, 8, 8, 8, 8, 8, 8, 8] }) p24.1).bind fun v25 =>
 (O.conv false p24.2 5 3 v25).bind fun p26 =>
 (O.bop .add 3 j161_2 p26.1).bind fun v27 =>
 some [(v27, p26.2)]) fun k161 =>
 (O.boolO v16).bind fun b17 => cond b17 (
 (O.bop .shr 151 j151_0 (Go.Value.int Go.IntKind.u64 8)).bind fun v18 =>
 (O.bop .add 3 j151_2 (Go.Value.int Go.IntKind.i64 8)).bind fun v19 =>
 k161 v18 v19) (
 k161 j151_0 j151_2)) fun k151 =>
 (O.boolO v1).bind fun b2 => cond b2 (
 (O.bop .shr 151 a0 (Go.Value.int Go.IntKind.u64 16)).bind fun v3 =>
 k151 v3 (Go.Value.int Go.IntKind.i64 16)) (
 k151 a0 (Go.Value.int Go.IntKind.i64 0))
theorem f98_r (C : OracleJ H) (n : Nat) (a0 : Value) (s : St H) : bodyD Tryz.prog false C n 98 Tryz.f98 [a0] s = f98 (dOps (H := H) Tryz.prog) C n a0 s := by kernel_rfl
/-! (*tidepole/bits.Writer).is -/
noncomputable def f102 (O : Ops H) (C : OracleJ H) (n : Nat) (a0 : Value) (s : St H) : Option (List (Value × St H)) :=
 (O.bop .neq 124 a0 (Go.Value.pointer none)).bind fun v1 =>
 gd v1 (
 (O.nilCheck a0).bind fun v2 =>
 (O.fieldAddr 155 v2 0).bind fun v3 =>
 (O.fieldAddr 153 v3 2).bind fun v4 =>
 (O.load s 4 v4).bind fun v5 =>
 some [(v5, s)]) (
 some [((.bool false), s)]) (
 none)
theorem f102_r (C : OracleJ H) (n : Nat) (a0 : Value) (s : St H) : bodyD Tryz.prog false C n 102 Tryz.f102 [a0] s = f102 (dOps (H := H) Tryz.prog) C n a0 s := by kernel_rfl
/-! (tidepole/stamp.State).right -/
noncomputable def f106 (O : Ops H) (C : OracleJ H) (n : Nat) (a0 : Value) (s : St H) : Option (List (Value × St H)) :=
 (O.box s a0).bind fun p1 =>
 (O.fieldAddr 121 p1.1 0).bind fun v2 =>
 (O.load p1.2 3 v2).bind fun v3 =>
 (C (.fn 136) [v3, (Go.Value.int Go.IntKind.i64 4096)] p1.2).bind fun L4 => manyK L4 fun v5 s6 =>
 gd v5 (
 (O.fieldAddr 121 p1.1 1).bind fun v7 =>
 (O.load s6 3 v7).bind fun v8 =>
 (C (.fn 136) [v8, (Go.Value.int Go.IntKind.i64 35184372088832)] s6).bind fun L9 => manyK L9 fun v10 s11 =>
 gd v10 (
 (O.fieldAddr 121 p1.1 2).bind fun v12 =>
 (O.load s11 3 v12).bind fun v13 =>
 (C (.fn 136) [v13, (Go.Value.int Go.IntKind.i64 35184372088832)] s11).bind fun L14 => manyK L14 fun v15 s16 =>
 some [(v15, s16)]) (
 some [((.bool false), s11)]) (
 none)) (
 some [((.bool false), s6)]) (
 none)
theorem f106_r (C : OracleJ H) (n : Nat) (a0 : Value) (s : St H) : bodyD Tryz.prog false C n 106 Tryz.f106 [a0] s = f106 (dOps (H := H) Tryz.prog) C n a0 s := by kernel_rfl
/-! (tidepole/xor.State).right -/
noncomputable def f110 (O : Ops H) (C : OracleJ H) (n : Nat) (a0 : Value) (s : St H) : Option (List (Value × St H)) :=
 (O.box s a0).bind fun p1 =>
 (O.load p1.2 118 p1.1).bind fun v2 =>
 (C (.fn 111) [v2] p1.2).bind fun L3 => manyK L3 fun v4 s5 =>
 (O.alloc s5 169).bind fun p6 =>
 (O.store p6.2 169 p6.1 v4).bind fun s7 =>
 (O.fieldAddr 118 p1.1 0).bind fun v8 =>
 (O.load s7 3 v8).bind fun v9 =>
 (O.bop .lss 3 v9 (Go.Value.int Go.IntKind.i64 0)).bind fun v10 =>
 gd v10 (
 some [((.bool false), s7)]) (
 (O.fieldAddr 118 p1.1 0).bind fun v11 =>
 (O.load s7 3 v11).bind fun v12 =>
 (O.bop .gtr 3 v12 (Go.Value.int Go.IntKind.i64 4096)).bind fun v13 =>
 (O.boolO v13).bind fun b16 => cond b16 (
 some [((.bool false), s7)]) (
 (O.load s7 169 p6.1).bind fun v17 =>
 (O.build 169 [(0, (Go.Value.int Go.IntKind.i64 64)), (1, (Go.Value.int Go.IntKind.i64 0))]).bind fun v18 =>
 (O.bop .eql 169 v17 v18).bind fun v19 =>
 gd v19 (
 some [((.bool true), s7)]) (
 (O.fieldAddr 169 p6.1 0).bind fun v20 =>
 (O.load s7 3 v20).bind fun v21 =>
 (O.bop .geq 3 v21 (Go.Value.int Go.IntKind.i64 0)).bind fun v22 =>
 gd v22 (
 (O.fieldAddr 169 p6.1 1).bind fun v23 =>
 (O.load s7 3 v23).bind fun v24 =>
 (O.bop .geq 3 v24 (Go.Value.int Go.IntKind.i64 0)).bind fun v25 =>
 gd v25 (
 (O.fieldAddr 169 p6.1 0).bind fun v26 =>
 (O.load s7 3 v26).bind fun v27 =>
 (O.bop .lss 3 v27 (Go.Value.int Go.IntKind.i64 64)).bind fun v28 =>
 gd v28 (
 (O.fieldAddr 169 p6.1 1).bind fun v29 =>
 (O.load s7 3 v29).bind fun v30 =>
 (O.bop .lss 3 v30 (Go.Value.int Go.IntKind.i64 64)).bind fun v31 =>
 gd v31 (
 (O.load s7 169 p6.1).bind fun v32 =>
 (C (.fn 115) [v32] s7).bind fun L33 => manyK L33 fun v34 s35 =>
 (O.bop .gtr 3 v34 (Go.Value.int Go.IntKind.i64 0)).bind fun v36 =>
 some [(v36, s35)]) (
 some [((.bool false), s7)]) (
 none)) (
 some [((.bool false), s7)]) (
 none)) (
 some [((.bool false), s7)]) (
 none)) (
 some [((.bool false), s7)]) (
 none)) (
 none))) (
 none)
theorem f110_r (C : OracleJ H) (n : Nat) (a0 : Value) (s : St H) : bodyD Tryz.prog false C n 110 Tryz.f110 [a0] s = f110 (dOps (H := H) Tryz.prog) C n a0 s := by kernel_rfl
/-! tidepole/xor.around[uint64] -/
noncomputable def f114 (O : Ops H) (C : OracleJ H) (n : Nat) (a0 : Value) (s : St H) : Option (List (Value × St H)) :=
 (O.alloc s 169).bind fun p1 =>
 (C (.fn 140) [a0] p1.2).bind fun L2 => manyK L2 fun v3 s4 =>
 (C (.fn 141) [a0] s4).bind fun L5 => manyK L5 fun v6 s7 =>
 (O.build 169 [(0, v3), (1, v6)]).bind fun v8 =>
 (O.store s7 169 p1.1 v8).bind fun s9 =>
 (O.load s9 169 p1.1).bind fun v10 => some [(v10, s9)]
theorem f114_r (C : OracleJ H) (n : Nat) (a0 : Value) (s : St H) : bodyD Tryz.prog false C n 114 Tryz.f114 [a0] s = f114 (dOps (H := H) Tryz.prog) C n a0 s := by kernel_rfl
/-! slices.heapSortOrdered[uint64] -/
def f118_l0_m (i0 : Value) (i1 : Value) (i2 : Value) (i6 : Value) (i8 : Value) (i11 : Value) (i12 : Value) (i13 : Value) (i14 : Value) (i15 : Value) (i16 : Value) (i17 : Value) (x : Value) : List Value := [i0, i1, i2, undefV, undefV, undefV, i6, (Go.Value.int Go.IntKind.i64 0), i8, x, undefV, i11, i12, i13, i14, i15, i16, i17, dc, dc, dc, dc, dc, dc, dc, dc, dc, undefV, undefV, undefV, undefV, undefV, undefV, undefV, undefV, undefV, undefV, undefV, undefV, undefV, undefV, undefV, undefV, undefV, undefV, undefV, undefV, undefV, undefV, undefV, undefV, undefV, undefV, undefV, undefV, undefV]
noncomputable def f118_l0 (O : Ops H) (C : OracleJ H) (n : Nat) (i0 : Value) (i6 : Value) (i8 : Value) (nx : Value → St H → Option (List (Value × St H))) (kx : Nat → Value → St H → Option (List (Value × St H))) (kr : Value → St H → Option (List (Value × St H))) (x : Value) (s : St H) : Option (List (Value × St H)) :=
 (O.bop .geq 3 x (Go.Value.int Go.IntKind.i64 0)).bind fun v4 =>
 (O.boolO v4).bind fun b5 => cond b5 (
 (C (.fn 142) [i0, x, i8, i6] s).bind fun L6 => manyK L6 fun v7 s8 =>
 (O.bop .sub 3 x (Go.Value.int Go.IntKind.i64 1)).bind fun v9 =>
 nx v9 s8) (
 kx 0 x s)
theorem f118_l0_b (C : OracleJ H) (n : Nat) (i0 : Value) (i1 : Value) (i2 : Value) (i6 : Value) (i8 : Value) (i11 : Value) (i12 : Value) (i13 : Value) (i14 : Value) (i15 : Value) (i16 : Value) (i17 : Value) (x : Value) (s : St H) (nx : List Value → St H → Option (List (Value × St H))) (K : Ex → List Value → St H → Option (List (Value × St H))) :
 exec Tryz.prog false C n 118 none (cdp Tryz.f118 [1, 1, 1, 0, 1, 0, 0]) (f118_l0_m i0 i1 i2 i6 i8 i11 i12 i13 i14 i15 i16 i17 x) s (kIter (scratch (cdp Tryz.f118 [1, 1, 1, 0, 1, 0, 0])) nx K) = f118_l0 (dOps (H := H) Tryz.prog) C n i0 i6 i8 (fun x s => nx (f118_l0_m i0 i1 i2 i6 i8 i11 i12 i13 i14 i15 i16 i17 x) s) (fun i x s => K (.exit i) (f118_l0_m i0 i1 i2 i6 i8 i11 i12 i13 i14 i15 i16 i17 x) s) (fun x s => K .ret (f118_l0_m i0 i1 i2 i6 i8 i11 i12 i13 i14 i15 i16 i17 x) s) x s := by kernel_rfl
theorem f118_l0_e (C : OracleJ H) (n : Nat) (i0 : Value) (i1 : Value) (i2 : Value) (i6 : Value) (i8 : Value) (i11 : Value) (i12 : Value) (i13 : Value) (i14 : Value) (i15 : Value) (i16 : Value) (i17 : Value) (m : Nat) (x : Value) (s : St H) (K : Ex → List Value → St H → Option (List (Value × St H))) :
 iter (fun t s k => exec Tryz.prog false C n 118 none (cdp Tryz.f118 [1, 1, 1, 0, 1, 0, 0]) t s k) (scratch (cdp Tryz.f118 [1, 1, 1, 0, 1, 0, 0])) m (f118_l0_m i0 i1 i2 i6 i8 i11 i12 i13 i14 i15 i16 i17 x) s K = iterS (f118_l0 (dOps (H := H) Tryz.prog) C n i0 i6 i8) (fun i x s => K (.exit i) (f118_l0_m i0 i1 i2 i6 i8 i11 i12 i13 i14 i15 i16 i17 x) s) (fun x s => K .ret (f118_l0_m i0 i1 i2 i6 i8 i11 i12 i13 i14 i15 i16 i17 x) s) m x s :=
   iter_eq (f118_l0_m i0 i1 i2 i6 i8 i11 i12 i13 i14 i15 i16 i17) (f118_l0 (dOps (H := H) Tryz.prog) C n i0 i6 i8) (fun x s nx K => f118_l0_b C n i0 i1 i2 i6 i8 i11 i12 i13 i14 i15 i16 i17 x s nx K) K m x s
def f118_l1_m (i0 : Value) (i1 : Value) (i2 : Value) (i6 : Value) (i8 : Value) (i9 : Value) (i11 : Value) (i12 : Value) (i13 : Value) (i14 : Value) (i15 : Value) (i16 : Value) (i17 : Value) (i27 : Value) (i28 : Value) (x : Value) : List Value := [i0, i1, i2, undefV, undefV, undefV, i6, (Go.Value.int Go.IntKind.i64 0), i8, i9, x, i11, i12, i13, i14, i15, i16, i17, dc, dc, dc, dc, dc, dc, dc, dc, dc, i27, i28, dc, dc, dc, dc, dc, dc, dc, dc, dc, dc, dc, dc, dc, dc, dc, dc, dc, dc, dc, dc, dc, dc, dc, dc, dc, dc, dc]
noncomputable def f118_l1 (O : Ops H) (C : OracleJ H) (n : Nat) (i0 : Value) (i6 : Value) (nx : Value → St H → Option (List (Value × St H))) (kx : Nat → Value → St H → Option (List (Value × St H))) (kr : Value → St H → Option (List (Value × St H))) (x : Value) (s : St H) : Option (List (Value × St H)) :=
 (O.bop .geq 3 x (Go.Value.int Go.IntKind.i64 0)).bind fun v16 =>
 (O.boolO v16).bind fun b17 => cond b17 (
 (O.bop .add 3 i6 x).bind fun v18 =>
 (O.bop .add 3 i6 x).bind fun v19 =>
 (O.indexAddr 39 i0 v19).bind fun v20 =>
 (O.load s 26 v20).bind fun v21 =>
 (O.indexAddr 39 i0 i6).bind fun v22 =>
 (O.load s 26 v22).bind fun v23 =>
 (O.indexAddr 39 i0 i6).bind fun v24 =>
 (O.store s 26 v24 v21).bind fun s25 =>
 (O.indexAddr 39 i0 v18).bind fun v26 =>
 (O.store s25 26 v26 v23).bind fun s27 =>
 (C (.fn 142) [i0, (Go.Value.int Go.IntKind.i64 0), x, i6] s27).bind fun L28 => manyK L28 fun v29 s30 =>
 (O.bop .sub 3 x (Go.Value.int Go.IntKind.i64 1)).bind fun v31 =>
 nx v31 s30) (
 kx 2 x s)
theorem f118_l1_b (C : OracleJ H) (n : Nat) (i0 : Value) (i1 : Value) (i2 : Value) (i6 : Value) (i8 : Value) (i9 : Value) (i11 : Value) (i12 : Value) (i13 : Value) (i14 : Value) (i15 : Value) (i16 : Value) (i17 : Value) (i27 : Value) (i28 : Value) (x : Value) (s : St H) (nx : List Value → St H → Option (List (Value × St H))) (K : Ex → List Value → St H → Option (List (Value × St H))) :
 exec Tryz.prog false C n 118 none (cdp Tryz.f118 [1, 1, 1, 1, 1, 0, 0]) (f118_l1_m i0 i1 i2 i6 i8 i9 i11 i12 i13 i14 i15 i16 i17 i27 i28 x) s (kIter (scratch (cdp Tryz.f118 [1, 1, 1, 1, 1, 0, 0])) nx K) = f118_l1 (dOps (H := H) Tryz.prog) C n i0 i6 (fun x s => nx (f118_l1_m i0 i1 i2 i6 i8 i9 i11 i12 i13 i14 i15 i16 i17 i27 i28 x) s) (fun i x s => K (.exit i) (f118_l1_m i0 i1 i2 i6 i8 i9 i11 i12 i13 i14 i15 i16 i17 i27 i28 x) s) (fun x s => K .ret (f118_l1_m i0 i1 i2 i6 i8 i9 i11 i12 i13 i14 i15 i16 i17 i27 i28 x) s) x s := by kernel_rfl
theorem f118_l1_e (C : OracleJ H) (n : Nat) (i0 : Value) (i1 : Value) (i2 : Value) (i6 : Value) (i8 : Value) (i9 : Value) (i11 : Value) (i12 : Value) (i13 : Value) (i14 : Value) (i15 : Value) (i16 : Value) (i17 : Value) (i27 : Value) (i28 : Value) (m : Nat) (x : Value) (s : St H) (K : Ex → List Value → St H → Option (List (Value × St H))) :
 iter (fun t s k => exec Tryz.prog false C n 118 none (cdp Tryz.f118 [1, 1, 1, 1, 1, 0, 0]) t s k) (scratch (cdp Tryz.f118 [1, 1, 1, 1, 1, 0, 0])) m (f118_l1_m i0 i1 i2 i6 i8 i9 i11 i12 i13 i14 i15 i16 i17 i27 i28 x) s K = iterS (f118_l1 (dOps (H := H) Tryz.prog) C n i0 i6) (fun i x s => K (.exit i) (f118_l1_m i0 i1 i2 i6 i8 i9 i11 i12 i13 i14 i15 i16 i17 i27 i28 x) s) (fun x s => K .ret (f118_l1_m i0 i1 i2 i6 i8 i9 i11 i12 i13 i14 i15 i16 i17 i27 i28 x) s) m x s :=
   iter_eq (f118_l1_m i0 i1 i2 i6 i8 i9 i11 i12 i13 i14 i15 i16 i17 i27 i28) (f118_l1 (dOps (H := H) Tryz.prog) C n i0 i6) (fun x s nx K => f118_l1_b C n i0 i1 i2 i6 i8 i9 i11 i12 i13 i14 i15 i16 i17 i27 i28 x s nx K) K m x s
noncomputable def f118 (O : Ops H) (C : OracleJ H) (n : Nat) (a0 : Value) (a1 : Value) (a2 : Value) (s : St H) : Option (List (Value × St H)) :=
 (O.bop .sub 3 a2 a1).bind fun v1 =>
 (O.bop .sub 3 v1 (Go.Value.int Go.IntKind.i64 1)).bind fun v2 =>
 (O.bop .quo 3 v2 (Go.Value.int Go.IntKind.i64 2)).bind fun v3 =>
 iterS (f118_l0 O C n a0 a1 v1 )
 (fun i10 x11 s12 => (bif Nat.beq i10 0 then
 (O.bop .sub 3 v1 (Go.Value.int Go.IntKind.i64 1)).bind fun v15 =>
 iterS (f118_l1 O C n a0 a1 )
 (fun i32 x33 s34 => (bif Nat.beq i32 2 then
 some [(.tuple #[], s34)] else none))
 (fun x35 s36 => some [(.tuple #[], s36)]) n v15 s12 else none))
 (fun x13 s14 => some [(.tuple #[], s14)]) n v3 s
theorem f118_l1_k (C : OracleJ H) (n : Nat) (i0 : Value) (i1 : Value) (i2 : Value) (i6 : Value) (i8 : Value) (i9 : Value) (i11 : Value) (i12 : Value) (i13 : Value) (i14 : Value) (i15 : Value) (i16 : Value) (i17 : Value) (i27 : Value) (i28 : Value) (i : Nat) (x : Value) (s : St H) : (kBlock 2 (kFun Tryz.prog Tryz.f118)) (.exit i) (f118_l1_m i0 i1 i2 i6 i8 i9 i11 i12 i13 i14 i15 i16 i17 i27 i28 x) s =
 (bif Nat.beq i 2 then
 some [(.tuple #[], s)] else none) := by kernel_rfl
theorem f118_l0_k (C : OracleJ H) (n : Nat) (i0 : Value) (i1 : Value) (i2 : Value) (i6 : Value) (i8 : Value) (i11 : Value) (i12 : Value) (i13 : Value) (i14 : Value) (i15 : Value) (i16 : Value) (i17 : Value) (i : Nat) (x : Value) (s : St H) : (kBlock 0 (kSeq Tryz.prog false C n 118 none (cdp Tryz.f118 [1, 1, 1, 1]) (kFun Tryz.prog Tryz.f118))) (.exit i) (f118_l0_m i0 i1 i2 i6 i8 i11 i12 i13 i14 i15 i16 i17 x) s =
 (bif Nat.beq i 0 then
 ((dOps (H := H) Tryz.prog).bop .sub 3 i8 (Go.Value.int Go.IntKind.i64 1)).bind fun v41 =>
 iterS (f118_l1 (dOps (H := H) Tryz.prog) C n i0 i6 )
 (fun i42 x43 s44 => (bif Nat.beq i42 2 then
 some [(.tuple #[], s44)] else none))
 (fun x45 s46 => some [(.tuple #[], s46)]) n v41 s else none) := by
  have h1 : (kBlock 0 (kSeq Tryz.prog false C n 118 none (cdp Tryz.f118 [1, 1, 1, 1]) (kFun Tryz.prog Tryz.f118))) (.exit i) (f118_l0_m i0 i1 i2 i6 i8 i11 i12 i13 i14 i15 i16 i17 x) s =
 (bif Nat.beq i 0 then
 ((dOps (H := H) Tryz.prog).bop .sub 3 i8 (Go.Value.int Go.IntKind.i64 1)).bind fun v40 =>
 iter (fun t s k => exec Tryz.prog false C n 118 none (cdp Tryz.f118 [1, 1, 1, 1, 1, 0, 0]) t s k) (scratch (cdp Tryz.f118 [1, 1, 1, 1, 1, 0, 0])) n (f118_l1_m i0 i1 i2 i6 i8 x i11 i12 i13 i14 i15 i16 i17 i8 v40 v40) s (kBlock 2 (kFun Tryz.prog Tryz.f118)) else none) := by kernel_rfl
  rw [h1]
  simp only [f118_l1_e, f118_l1_k]
  show _ = (bif Nat.beq i 0 then
 ((dOps (H := H) Tryz.prog).bop .sub 3 i8 (Go.Value.int Go.IntKind.i64 1)).bind fun v41 =>
 iterS (f118_l1 (dOps (H := H) Tryz.prog) C n i0 i6 )
 (fun i42 x43 s44 => (bif Nat.beq i42 2 then
 some [(.tuple #[], s44)] else none))
 (fun x45 s46 => some [(.tuple #[], s46)]) n v41 s else none)
  kernel_rfl
theorem f118_r (C : OracleJ H) (n : Nat) (a0 : Value) (a1 : Value) (a2 : Value) (s : St H) : bodyD Tryz.prog false C n 118 Tryz.f118 [a0, a1, a2] s = f118 (dOps (H := H) Tryz.prog) C n a0 a1 a2 s := by
  have h1 : bodyD Tryz.prog false C n 118 Tryz.f118 [a0, a1, a2] s =
 ((dOps (H := H) Tryz.prog).bop .sub 3 a2 a1).bind fun v37 =>
 ((dOps (H := H) Tryz.prog).bop .sub 3 v37 (Go.Value.int Go.IntKind.i64 1)).bind fun v38 =>
 ((dOps (H := H) Tryz.prog).bop .quo 3 v38 (Go.Value.int Go.IntKind.i64 2)).bind fun v39 =>
 iter (fun t s k => exec Tryz.prog false C n 118 none (cdp Tryz.f118 [1, 1, 1, 0, 1, 0, 0]) t s k) (scratch (cdp Tryz.f118 [1, 1, 1, 0, 1, 0, 0])) n (f118_l0_m a0 a1 a2 a1 v37 a1 a2 a1 v37 v37 v38 v39 v39) s (kBlock 0 (kSeq Tryz.prog false C n 118 none (cdp Tryz.f118 [1, 1, 1, 1]) (kFun Tryz.prog Tryz.f118))) := by kernel_rfl
  rw [h1]
  simp only [f118_l0_e, f118_l0_k]
  show _ = f118 (dOps (H := H) Tryz.prog) C n a0 a1 a2 s
  kernel_rfl
/-! cmp.Less[uint64] -/
noncomputable def f123 (O : Ops H) (C : OracleJ H) (n : Nat) (a0 : Value) (a1 : Value) (s : St H) : Option (List (Value × St H)) :=
 (C (.fn 145) [a0] s).bind fun L1 => manyK L1 fun v2 s3 =>
 gd v2 (
 (C (.fn 145) [a1] s3).bind fun L4 => manyK L4 fun v5 s6 =>
 (O.uop .not v5).bind fun v7 =>
 gd v7 (
 some [((.bool true), s6)]) (
 (O.bop .lss 26 a0 a1).bind fun v8 =>
 some [(v8, s6)]) (
 none)) (
 (O.bop .lss 26 a0 a1).bind fun v9 =>
 some [(v9, s3)]) (
 none)
theorem f123_r (C : OracleJ H) (n : Nat) (a0 : Value) (a1 : Value) (s : St H) : bodyD Tryz.prog false C n 123 Tryz.f123 [a0, a1] s = f123 (dOps (H := H) Tryz.prog) C n a0 a1 s := by kernel_rfl
/-! tidepole/bits.NewReader -/
noncomputable def f127 (O : Ops H) (C : OracleJ H) (n : Nat) (a0 : Value) (s : St H) : Option (List (Value × St H)) :=
 (O.buildSlice false s 99 0 []).bind fun p1 =>
 (O.append false p1.2 99 99 p1.1 a0).bind fun p2 =>
 (O.build 208 [(0, p2.1), (2, (.bool true))]).bind fun v3 =>
 (O.box p2.2 v3).bind fun p4 =>
 some [(p4.1, p4.2)]
theorem f127_r (C : OracleJ H) (n : Nat) (a0 : Value) (s : St H) : bodyD Tryz.prog false C n 127 Tryz.f127 [a0] s = f127 (dOps (H := H) Tryz.prog) C n a0 s := by kernel_rfl
/-! slices.nextPowerOfTwo -/
noncomputable def f131 (O : Ops H) (C : OracleJ H) (n : Nat) (a0 : Value) (s : St H) : Option (List (Value × St H)) :=
 (O.conv false s 3 114 a0).bind fun p1 =>
 (C (.fn 71) [p1.1] p1.2).bind fun L2 => manyK L2 fun v3 s4 =>
 (O.bop .shl 114 (Go.Value.int Go.IntKind.u64 1) v3).bind fun v5 =>
 some [(v5, s4)]
theorem f131_r (C : OracleJ H) (n : Nat) (a0 : Value) (s : St H) : bodyD Tryz.prog false C n 131 Tryz.f131 [a0] s = f131 (dOps (H := H) Tryz.prog) C n a0 s := by kernel_rfl
/-! tidepole/crc.More -/
def f135_l0_m (i0 : Value) (i1 : Value) (i8 : Value) (i9 : Value) (i10 : Value) (i11 : Value) (x : Value × Value × Value) : List Value := [i0, i1, undefV, undefV, (Go.Value.int Go.IntKind.u32 0), x.1, undefV, x.2.1, i8, i9, i10, i11, x.2.2, dc, dc, dc, dc, dc, dc, dc, dc, dc, undefV, undefV]
noncomputable def f135_l0 (O : Ops H) (C : OracleJ H) (n : Nat) (i10 : Value) (i11 : Value) (nx : (Value × Value × Value) → St H → Option (List (Value × St H))) (kx : Nat → (Value × Value × Value) → St H → Option (List (Value × St H))) (kr : (Value × Value × Value) → St H → Option (List (Value × St H))) (x : Value × Value × Value) (s : St H) : Option (List (Value × St H)) :=
 (O.bop .lss 3 x.2.2 i11).bind fun v3 =>
 (O.boolO v3).bind fun b4 => cond b4 (
 (O.indexAddr 99 i10 x.2.2).bind fun v5 =>
 (O.load s 5 v5).bind fun v6 =>
 (O.conv false s 5 151 v6).bind fun p7 =>
 (O.bop .xor 151 x.1 p7.1).bind fun v8 =>
 (C (.fn 154) [v8] p7.2).bind fun L9 => manyK L9 fun v10 s11 =>
 (O.bop .add 3 x.2.2 (Go.Value.int Go.IntKind.i64 1)).bind fun v12 =>
 nx (v10, v6, v12) s11) (
 kx 0 (x.1, x.2.1, x.2.2) s)
theorem f135_l0_b (C : OracleJ H) (n : Nat) (i0 : Value) (i1 : Value) (i8 : Value) (i9 : Value) (i10 : Value) (i11 : Value) (x : Value × Value × Value) (s : St H) (nx : List Value → St H → Option (List (Value × St H))) (K : Ex → List Value → St H → Option (List (Value × St H))) :
 exec Tryz.prog false C n 135 none (cdp Tryz.f135 [1, 1, 0, 1, 0, 0]) (f135_l0_m i0 i1 i8 i9 i10 i11 x) s (kIter (scratch (cdp Tryz.f135 [1, 1, 0, 1, 0, 0])) nx K) = f135_l0 (dOps (H := H) Tryz.prog) C n i10 i11 (fun x s => nx (f135_l0_m i0 i1 i8 i9 i10 i11 x) s) (fun i x s => K (.exit i) (f135_l0_m i0 i1 i8 i9 i10 i11 x) s) (fun x s => K .ret (f135_l0_m i0 i1 i8 i9 i10 i11 x) s) x s := by kernel_rfl
theorem f135_l0_e (C : OracleJ H) (n : Nat) (i0 : Value) (i1 : Value) (i8 : Value) (i9 : Value) (i10 : Value) (i11 : Value) (m : Nat) (x : Value × Value × Value) (s : St H) (K : Ex → List Value → St H → Option (List (Value × St H))) :
 iter (fun t s k => exec Tryz.prog false C n 135 none (cdp Tryz.f135 [1, 1, 0, 1, 0, 0]) t s k) (scratch (cdp Tryz.f135 [1, 1, 0, 1, 0, 0])) m (f135_l0_m i0 i1 i8 i9 i10 i11 x) s K = iterS (f135_l0 (dOps (H := H) Tryz.prog) C n i10 i11) (fun i x s => K (.exit i) (f135_l0_m i0 i1 i8 i9 i10 i11 x) s) (fun x s => K .ret (f135_l0_m i0 i1 i8 i9 i10 i11 x) s) m x s :=
   iter_eq (f135_l0_m i0 i1 i8 i9 i10 i11) (f135_l0 (dOps (H := H) Tryz.prog) C n i10 i11) (fun x s nx K => f135_l0_b C n i0 i1 i8 i9 i10 i11 x s nx K) K m x s
noncomputable def f135 (O : Ops H) (C : OracleJ H) (n : Nat) (a0 : Value) (a1 : Value) (s : St H) : Option (List (Value × St H)) :=
 (O.uop .xor a0).bind fun v1 =>
 (O.len s 99 a1).bind fun v2 =>
 iterS (f135_l0 O C n a1 v2 )
 (fun i13 x14 s15 => (bif Nat.beq i13 0 then
 (O.uop .xor x14.1).bind fun v18 =>
 some [(v18, s15)] else none))
 (fun x16 s17 => some [((Go.Value.int Go.IntKind.u32 0), s17)]) n (v1, undefV, (Go.Value.int Go.IntKind.i64 0)) s
theorem f135_l0_k (C : OracleJ H) (n : Nat) (i0 : Value) (i1 : Value) (i8 : Value) (i9 : Value) (i10 : Value) (i11 : Value) (i : Nat) (x : Value × Value × Value) (s : St H) : (kBlock 0 (kSeq Tryz.prog false C n 135 none (cdp Tryz.f135 [1, 1, 1]) (kFun Tryz.prog Tryz.f135))) (.exit i) (f135_l0_m i0 i1 i8 i9 i10 i11 x) s =
 (bif Nat.beq i 0 then
 ((dOps (H := H) Tryz.prog).uop .xor x.1).bind fun v22 =>
 some [(v22, s)] else none) := by kernel_rfl
theorem f135_r (C : OracleJ H) (n : Nat) (a0 : Value) (a1 : Value) (s : St H) : bodyD Tryz.prog false C n 135 Tryz.f135 [a0, a1] s = f135 (dOps (H := H) Tryz.prog) C n a0 a1 s := by
  have h1 : bodyD Tryz.prog false C n 135 Tryz.f135 [a0, a1] s =
 ((dOps (H := H) Tryz.prog).uop .xor a0).bind fun v19 =>
 ((dOps (H := H) Tryz.prog).len s 99 a1).bind fun v20 =>
 iter (fun t s k => exec Tryz.prog false C n 135 none (cdp Tryz.f135 [1, 1, 0, 1, 0, 0]) t s k) (scratch (cdp Tryz.f135 [1, 1, 0, 1, 0, 0])) n (f135_l0_m a0 a1 a0 v19 a1 v20 (v19, undefV, (Go.Value.int Go.IntKind.i64 0))) s (kBlock 0 (kSeq Tryz.prog false C n 135 none (cdp Tryz.f135 [1, 1, 1]) (kFun Tryz.prog Tryz.f135))) := by kernel_rfl
  rw [h1]
  simp only [f135_l0_e, f135_l0_k]
  show _ = f135 (dOps (H := H) Tryz.prog) C n a0 a1 s
  kernel_rfl
/-! (tidepole/stamp.class).holds -/
noncomputable def f139 (O : Ops H) (C : OracleJ H) (n : Nat) (a0 : Value) (a1 : Value) (s : St H) : Option (List (Value × St H)) :=
 (O.box s a0).bind fun p1 =>
 (O.fieldAddr 166 p1.1 2).bind fun v2 =>
 (O.load p1.2 3 v2).bind fun v3 =>
 (O.bop .shr 26 a1 v3).bind fun v4 =>
 (O.bop .eql 26 v4 (Go.Value.int Go.IntKind.u64 0)).bind fun v5 =>
 some [(v5, p1.2)]
theorem f139_r (C : OracleJ H) (n : Nat) (a0 : Value) (a1 : Value) (s : St H) : bodyD Tryz.prog false C n 139 Tryz.f139 [a0, a1] s = f139 (dOps (H := H) Tryz.prog) C n a0 a1 s := by kernel_rfl
/-! slices.medianAdjacentOrdered[uint64] -/
noncomputable def f143 (O : Ops H) (C : OracleJ H) (n : Nat) (a0 : Value) (a1 : Value) (a2 : Value) (s : St H) : Option (List (Value × St H)) :=
 (O.bop .sub 3 a1 (Go.Value.int Go.IntKind.i64 1)).bind fun v1 =>
 (O.bop .add 3 a1 (Go.Value.int Go.IntKind.i64 1)).bind fun v2 =>
 (C (.fn 144) [a0, v1, a1, v2, a2] s).bind fun L3 => manyK L3 fun v4 s5 =>
 some [(v4, s5)]
theorem f143_r (C : OracleJ H) (n : Nat) (a0 : Value) (a1 : Value) (a2 : Value) (s : St H) : bodyD Tryz.prog false C n 143 Tryz.f143 [a0, a1, a2] s = f143 (dOps (H := H) Tryz.prog) C n a0 a1 a2 s := by kernel_rfl
/-! tidepole/crc.Open -/
noncomputable def f147 (O : Ops H) (C : OracleJ H) (n : Nat) (a0 : Value) (s : St H) : Option (List (Value × St H)) :=
 (O.len s 99 a0).bind fun v1 =>
 (O.bop .sub 3 v1 (Go.Value.int Go.IntKind.i64 4)).bind fun v2 =>
 (O.bop .lss 3 v2 (Go.Value.int Go.IntKind.i64 0)).bind fun v3 =>
 (O.boolO v3).bind fun b4 => cond b4 (
 some [(.tuple #[(fzV 2 #[]), (.bool false)], s)]) (
 (O.slc s 99 a0 (some v2) none none).bind fun v5 =>
 (C (.fn 156) [v5] s).bind fun L6 => manyK L6 fun v7 s8 =>
 (O.extract v7 0).bind fun v9 =>
 (O.extract v7 1).bind fun v10 =>
 (O.slc s8 99 a0 none (some v2) none).bind fun v11 =>
 (C (.fn 104) [v11] s8).bind fun L12 => manyK L12 fun v13 s14 =>
 (O.bop .neq 151 v9 v13).bind fun v15 =>
 (O.boolO v15).bind fun b16 => cond b16 (
 some [(.tuple #[(fzV 2 #[]), (.bool false)], s14)]) (
 (O.buildSlice false s14 99 0 []).bind fun p17 =>
 (O.slc p17.2 99 a0 none (some v2) none).bind fun v18 =>
 (O.append false p17.2 99 99 p17.1 v18).bind fun p19 =>
 some [(.tuple #[p19.1, (.bool true)], p19.2)]))
theorem f147_r (C : OracleJ H) (n : Nat) (a0 : Value) (s : St H) : bodyD Tryz.prog false C n 147 Tryz.f147 [a0] s = f147 (dOps (H := H) Tryz.prog) C n a0 s := by kernel_rfl
/-! (*tidepole/bits.Reader).Left -/
noncomputable def f151 (O : Ops H) (C : OracleJ H) (n : Nat) (a0 : Value) (s : St H) : Option (List (Value × St H)) :=
 (C (.fn 159) [a0] s).bind fun L1 => manyK L1 fun v2 s3 =>
 (O.uop .not v2).bind fun v4 =>
 (O.boolO v4).bind fun b5 => cond b5 (
 some [((Go.Value.int Go.IntKind.i64 0), s3)]) (
 (O.nilCheck a0).bind fun v6 =>
 (O.fieldAddr 208 v6 0).bind fun v7 =>
 (O.load s3 99 v7).bind fun v8 =>
 (O.len s3 99 v8).bind fun v9 =>
 (O.bop .mul 3 v9 (Go.Value.int Go.IntKind.i64 8)).bind fun v10 =>
 (O.nilCheck a0).bind fun v11 =>
 (O.fieldAddr 208 v11 1).bind fun v12 =>
 (O.load s3 3 v12).bind fun v13 =>
 (O.bop .sub 3 v10 v13).bind fun v14 =>
 some [(v14, s3)])
theorem f151_r (C : OracleJ H) (n : Nat) (a0 : Value) (s : St H) : bodyD Tryz.prog false C n 151 Tryz.f151 [a0] s = f151 (dOps (H := H) Tryz.prog) C n a0 s := by kernel_rfl
/-! slices.order2Ordered[uint64] -/
noncomputable def f155 (O : Ops H) (C : OracleJ H) (n : Nat) (a0 : Value) (a1 : Value) (a2 : Value) (a3 : Value) (s : St H) : Option (List (Value × St H)) :=
 (O.indexAddr 39 a0 a2).bind fun v1 =>
 (O.load s 26 v1).bind fun v2 =>
 (O.indexAddr 39 a0 a1).bind fun v3 =>
 (O.load s 26 v3).bind fun v4 =>
 (oneO C (.fn 123) [v2, v4] s).bind fun p5 =>
 (O.boolO p5.1).bind fun b6 => cond b6 (
 (O.nilCheck a3).bind fun v7 =>
 (O.load p5.2 3 v7).bind fun v8 =>
 (O.bop .add 3 v8 (Go.Value.int Go.IntKind.i64 1)).bind fun v9 =>
 (O.nilCheck a3).bind fun v10 =>
 (O.store p5.2 3 v10 v9).bind fun s11 =>
 some [(.tuple #[a2, a1], s11)]) (
 some [(.tuple #[a1, a2], p5.2)])
theorem f155_r (C : OracleJ H) (n : Nat) (a0 : Value) (a1 : Value) (a2 : Value) (a3 : Value) (s : St H) : bodyD Tryz.prog false C n 155 Tryz.f155 [a0, a1, a2, a3] s = f155 (dOps (H := H) Tryz.prog) C n a0 a1 a2 a3 s := by kernel_rfl
/-! (*tidepole/bits.Reader).is -/
noncomputable def f159 (O : Ops H) (C : OracleJ H) (n : Nat) (a0 : Value) (s : St H) : Option (List (Value × St H)) :=
 (O.bop .neq 187 a0 (Go.Value.pointer none)).bind fun v1 =>
 gd v1 (
 (O.nilCheck a0).bind fun v2 =>
 (O.fieldAddr 208 v2 2).bind fun v3 =>
 (O.load s 4 v3).bind fun v4 =>
 some [(v4, s)]) (
 some [((.bool false), s)]) (
 none)
theorem f159_r (C : OracleJ H) (n : Nat) (a0 : Value) (s : St H) : bodyD Tryz.prog false C n 159 Tryz.f159 [a0] s = f159 (dOps (H := H) Tryz.prog) C n a0 s := by kernel_rfl
/-! tidepole/xor.fresh -/
noncomputable def f163 (O : Ops H) (C : OracleJ H) (n : Nat) (a0 : Value) (a1 : Value) (s : St H) : Option (List (Value × St H)) :=
 (O.box s a1).bind fun p1 =>
 (O.alloc p1.2 169).bind fun p2 =>
 (O.buildSlice false p2.2 47 2 [(0, (Go.Value.int Go.IntKind.i64 6)), (1, (Go.Value.int Go.IntKind.i64 6))]).bind fun p3 =>
 (C (.fn 162) [a0, p3.1] p3.2).bind fun L4 => manyK L4 fun v5 s6 =>
 (O.extract v5 0).bind fun v7 =>
 (O.extract v5 1).bind fun v8 =>
 (O.bop .neq 32 v8 (Go.Value.int Go.IntKind.i64 0)).bind fun v9 =>
 (O.boolO v9).bind fun b10 => cond b10 (
 (O.build 169 []).bind fun v11 =>
 (O.store s6 169 p2.1 v11).bind fun s12 =>
 (O.load s12 169 p2.1).bind fun v13 => some [(.tuple #[(Go.Value.int Go.IntKind.u64 0), v13, v8], s12)]) (
 (O.indexAddr 39 v7 (Go.Value.int Go.IntKind.i64 0)).bind fun v14 =>
 (O.load s6 26 v14).bind fun v15 =>
 (O.conv false s6 26 3 v15).bind fun p16 =>
 (O.build 169 [(0, p16.1)]).bind fun v17 =>
 (O.alloc p16.2 169).bind fun p18 =>
 (O.store p18.2 169 p18.1 v17).bind fun s19 =>
 (O.fieldAddr 169 p18.1 0).bind fun v20 =>
 (O.load s19 3 v20).bind fun v21 =>
 (O.bop .sub 3 (Go.Value.int Go.IntKind.i64 64) v21).bind fun v22 =>
 (O.indexAddr 39 v7 (Go.Value.int Go.IntKind.i64 1)).bind fun v23 =>
 (O.load s19 26 v23).bind fun v24 =>
 (O.conv false s19 26 3 v24).bind fun p25 =>
 (O.bop .sub 3 v22 p25.1).bind fun v26 =>
 (O.bop .sub 3 v26 (Go.Value.int Go.IntKind.i64 1)).bind fun v27 =>
 (O.fieldAddr 169 p18.1 1).bind fun v28 =>
 (O.store p25.2 3 v28 v27).bind fun s29 =>
 (O.fieldAddr 169 p18.1 1).bind fun v30 =>
 (O.load s29 3 v30).bind fun v31 =>
 (O.bop .lss 3 v31 (Go.Value.int Go.IntKind.i64 0)).bind fun v32 =>
 (O.boolO v32).bind fun b33 => cond b33 (
 (O.build 169 []).bind fun v34 =>
 (O.store s29 169 p2.1 v34).bind fun s35 =>
 (O.load s35 169 p2.1).bind fun v36 => some [(.tuple #[(Go.Value.int Go.IntKind.u64 0), v36, (Go.Value.int Go.IntKind.i64 50)], s35)]) (
 (O.load s29 169 p18.1).bind fun v37 =>
 (C (.fn 164) [a0, v37] s29).bind fun L38 => manyK L38 fun v39 s40 =>
 (O.extract v39 0).bind fun v41 =>
 (O.extract v39 1).bind fun v42 =>
 jn (fun (j269_58 : Value) (js269 : St H) =>
 jn (fun (j272_8 : Value) =>
 (O.load js269 169 p18.1).bind fun v58 =>
 (O.store js269 169 p2.1 v58).bind fun s59 =>
 (O.load s59 169 p2.1).bind fun v60 => some [(.tuple #[v41, v60, j272_8], s59)]) fun k272 =>
 (O.boolO j269_58).bind fun b54 => cond b54 (
 k272 (Go.Value.int Go.IntKind.i64 50)) (
 k272 v42)) fun k269 =>
 (O.bop .eql 32 v42 (Go.Value.int Go.IntKind.i64 0)).bind fun v43 =>
 gd v43 (
 (oneO C (.fn 114) [v41] s40).bind fun p44 =>
 (O.load p44.2 169 p18.1).bind fun v45 =>
 (O.bop .neq 169 p44.1 v45).bind fun v46 =>
 gd v46 (
 bif (eqO H (O.load s40 169 p18.1) v45 && (eqO H (O.load p44.2 169 p18.1) v45 && (true))) && (true) then
 k269 (.bool true) p44.2
 else none) (
 (O.load p44.2 169 p1.1).bind fun v47 =>
 (O.load p44.2 169 p18.1).bind fun v48 =>
 (oneO C (.fn 113) [v47, v48] p44.2).bind fun p49 =>
 bif (eqO H (O.load s40 169 p18.1) v45 && (eqO H (O.load p44.2 169 p18.1) v45 && (true))) && (true) then
 k269 p49.1 p49.2
 else none) (
 none)) (
 k269 (.bool false) s40) (
 none)))
theorem f163_r (C : OracleJ H) (n : Nat) (a0 : Value) (a1 : Value) (s : St H) : bodyD Tryz.prog false C n 163 Tryz.f163 [a0, a1] s = f163 (dOps (H := H) Tryz.prog) C n a0 a1 s := by kernel_rfl
end Go.Proofs.YtdbmfggipeoklaaGreatDoor.S
