/- The plain runs of functions (printed by shal.py). -/
import Derived.Test.YtmhmbmogodofeaaFw
import Derived.ProofKit
import Derived.Test.YtmhmbmogodofeaaRows
set_option autoImplicit false
set_option linter.unusedVariables false
set_option maxRecDepth 100000
namespace Go.Proofs.Ytmhmbmogodofeaa.S
open Go.FS Go.RowKit
variable {H : HeapI}
/-! tidepole/tidepolelaw04.LabelTurns -/
noncomputable def f6 (O : Ops H) (C : OracleJ H) (n : Nat) (a0 : Value) (a1 : Value) (a2 : Value) (s : St H) : Option (List (Value × St H)) :=
 (C (.fn 18) [a0] s).bind fun L1 => manyK L1 fun v2 s3 =>
 (O.len s3 9 a1).bind fun v4 =>
 (O.minO v4 [(Go.Value.int Go.IntKind.i64 65)]).bind fun v5 =>
 (O.slc s3 9 a1 none (some v5) none).bind fun v6 =>
 (O.len s3 9 a2).bind fun v7 =>
 (O.minO v7 [(Go.Value.int Go.IntKind.i64 257)]).bind fun v8 =>
 (O.slc s3 9 a2 none (some v8) none).bind fun v9 =>
 (C (.fn 18) [v2] s3).bind fun L10 => manyK L10 fun v11 s12 =>
 (C (.fn 27) [v11, v6, v9] s12).bind fun L13 => manyK L13 fun v14 s15 =>
 (O.extract v14 0).bind fun v16 =>
 (O.extract v14 1).bind fun v17 =>
 (C (.fn 28) [v2, v6, v9] s15).bind fun L18 => manyK L18 fun v19 s20 =>
 (O.extract v19 0).bind fun v21 =>
 (O.extract v19 1).bind fun v22 =>
 (C (.fn 21) [v16, v21] s20).bind fun L23 => manyK L23 fun v24 s25 =>
 gd v24 (
 (O.bop .eql 26 v17 v22).bind fun v26 =>
 gd v26 (
 (C (.fn 21) [v11, v2] s25).bind fun L27 => manyK L27 fun v28 s29 =>
 gd v28 (
 (C (.fn 17) [] s29).bind fun L30 => manyK L30 fun v31 s32 =>
 some [(v31, s32)]) (
 some [((.bool false), s29)]) (
 none)) (
 some [((.bool false), s25)]) (
 none)) (
 some [((.bool false), s25)]) (
 none)
theorem f6_r (C : OracleJ H) (n : Nat) (a0 : Value) (a1 : Value) (a2 : Value) (s : St H) : bodyD Try.prog false C n 6 Try.f6 [a0, a1, a2] s = f6 (dOps (H := H) Try.prog) C n a0 a1 a2 s := by kernel_rfl
/-! tidepole/tidepolelaw04.LabelUndone -/
noncomputable def f7 (O : Ops H) (C : OracleJ H) (n : Nat) (a0 : Value) (a1 : Value) (a2 : Value) (s : St H) : Option (List (Value × St H)) :=
 (C (.fn 17) [] s).bind fun L1 => manyK L1 fun v2 s3 =>
 (O.uop .not v2).bind fun v4 =>
 (O.boolO v4).bind fun b5 => cond b5 (
 some [((.bool false), s3)]) (
 (C (.fn 18) [a0] s3).bind fun L6 => manyK L6 fun v7 s8 =>
 (O.len s8 9 a1).bind fun v9 =>
 (O.minO v9 [(Go.Value.int Go.IntKind.i64 100)]).bind fun v10 =>
 (O.slc s8 9 a1 none (some v10) none).bind fun v11 =>
 (O.len s8 9 a2).bind fun v12 =>
 (O.minO v12 [(Go.Value.int Go.IntKind.i64 300)]).bind fun v13 =>
 (O.slc s8 9 a2 none (some v13) none).bind fun v14 =>
 (C (.fn 27) [v7, v11, v14] s8).bind fun L15 => manyK L15 fun v16 s17 =>
 (O.extract v16 0).bind fun v18 =>
 (O.extract v16 1).bind fun v19 =>
 (O.bop .neq 26 v19 (Go.Value.int Go.IntKind.i64 0)).bind fun v20 =>
 (O.boolO v20).bind fun b21 => cond b21 (
 (O.len s17 23 v18).bind fun v22 =>
 (O.bop .eql 3 v22 (Go.Value.int Go.IntKind.i64 0)).bind fun v23 =>
 some [(v23, s17)]) (
 (C (.fn 29) [v7, v11] s17).bind fun L24 => manyK L24 fun v25 s26 =>
 (C (.fn 27) [v18, v11, v25] s26).bind fun L27 => manyK L27 fun v28 s29 =>
 (O.extract v28 0).bind fun v30 =>
 (O.extract v28 1).bind fun v31 =>
 (C (.fn 29) [v18, v11] s29).bind fun L32 => manyK L32 fun v33 s34 =>
 (O.bop .eql 9 v33 v14).bind fun v35 =>
 gd v35 (
 (O.bop .eql 26 v31 (Go.Value.int Go.IntKind.i64 0)).bind fun v36 =>
 gd v36 (
 (C (.fn 21) [v30, v7] s34).bind fun L37 => manyK L37 fun v38 s39 =>
 some [(v38, s39)]) (
 some [((.bool false), s34)]) (
 none)) (
 some [((.bool false), s34)]) (
 none)))
theorem f7_r (C : OracleJ H) (n : Nat) (a0 : Value) (a1 : Value) (a2 : Value) (s : St H) : bodyD Try.prog false C n 7 Try.f7 [a0, a1, a2] s = f7 (dOps (H := H) Try.prog) C n a0 a1 a2 s := by kernel_rfl
/-! tidepole/tidepolelaw04.works -/
noncomputable def f17 (O : Ops H) (C : OracleJ H) (n : Nat) (s : St H) : Option (List (Value × St H)) :=
 (O.build 106 [(0, (Go.Value.string { data := #[98] })), (1, (Go.Value.string { data := #[50] }))]).bind fun v1 =>
 (O.build 106 [(0, (Go.Value.string { data := #[97] })), (1, (Go.Value.string { data := #[49] }))]).bind fun v2 =>
 (O.build 106 [(0, (Go.Value.string { data := #[98] })), (1, (Go.Value.string { data := #[51] }))]).bind fun v3 =>
 (O.build 106 [(0, (Go.Value.string { data := #[99] }))]).bind fun v4 =>
 (O.buildSlice false s 23 4 [(0, v1), (1, v2), (2, v3), (3, v4)]).bind fun p5 =>
 (C (.fn 19) [p5.1] p5.2).bind fun L6 => manyK L6 fun v7 s8 =>
 (O.extract v7 0).bind fun v9 =>
 (O.extract v7 1).bind fun v10 =>
 (C (.fn 63) [v9] s8).bind fun L11 => manyK L11 fun v12 s13 =>
 (O.bop .eql 9 v12 (Go.Value.string { data := #[97, 61, 49, 44, 98, 61, 51] })).bind fun v14 =>
 gd v14 (
 (O.bop .eql 26 v10 (Go.Value.int Go.IntKind.i64 0)).bind fun v15 =>
 gd v15 (
 (C (.fn 29) [v9, (Go.Value.string { data := #[98] })] s13).bind fun L16 => manyK L16 fun v17 s18 =>
 (O.bop .eql 9 v17 (Go.Value.string { data := #[51] })).bind fun v19 =>
 some [(v19, s18)]) (
 some [((.bool false), s13)]) (
 none)) (
 some [((.bool false), s13)]) (
 none)
theorem f17_r (C : OracleJ H) (n : Nat) (s : St H) : bodyD Try.prog false C n 17 Try.f17 [] s = f17 (dOps (H := H) Try.prog) C n s := by kernel_rfl
/-! tidepole/tidepolelaw04.few -/
def f18_l0_m (i0 : Value) (i2 : Value) (i5 : Value) (x : Value × Value) : List Value := [i0, undefV, i2, x.1, x.2, i5, dc, dc, dc, dc, dc, dc, dc, dc, dc, dc, dc, dc, dc, dc, dc, dc, dc, dc, dc, dc, dc, dc, dc, dc, dc, dc, dc, dc, dc, dc, dc, dc, dc, dc, dc, dc, dc, dc, dc, dc, undefV]
noncomputable def f18_l0 (O : Ops H) (C : OracleJ H) (n : Nat) (i0 : Value) (nx : (Value × Value) → St H → Option (List (Value × St H))) (kx : Nat → (Value × Value) → St H → Option (List (Value × St H))) (kr : (Value × Value) → St H → Option (List (Value × St H))) (x : Value × Value) (s : St H) : Option (List (Value × St H)) :=
 jn (fun (j27_13 : Value) =>
 (O.boolO j27_13).bind fun b28 => cond b28 (
 (O.indexAddr 23 i0 x.2).bind fun v29 =>
 (O.fieldAddr 106 v29 0).bind fun v30 =>
 (O.load s 9 v30).bind fun v31 =>
 (O.indexAddr 23 i0 x.2).bind fun v32 =>
 (O.fieldAddr 106 v32 0).bind fun v33 =>
 (O.load s 9 v33).bind fun v34 =>
 (O.len s 9 v34).bind fun v35 =>
 (O.minO v35 [(Go.Value.int Go.IntKind.i64 65)]).bind fun v36 =>
 (O.slc s 9 v31 none (some v36) none).bind fun v37 =>
 (O.indexAddr 23 i0 x.2).bind fun v38 =>
 (O.fieldAddr 106 v38 1).bind fun v39 =>
 (O.load s 9 v39).bind fun v40 =>
 (O.indexAddr 23 i0 x.2).bind fun v41 =>
 (O.fieldAddr 106 v41 1).bind fun v42 =>
 (O.load s 9 v42).bind fun v43 =>
 (O.len s 9 v43).bind fun v44 =>
 (O.minO v44 [(Go.Value.int Go.IntKind.i64 257)]).bind fun v45 =>
 (O.slc s 9 v40 none (some v45) none).bind fun v46 =>
 (O.build 106 [(0, v37), (1, v46)]).bind fun v47 =>
 (O.buildSlice false s 23 1 [(0, v47)]).bind fun p48 =>
 (O.append false p48.2 23 23 x.1 p48.1).bind fun p49 =>
 (O.bop .add 3 x.2 (Go.Value.int Go.IntKind.i64 1)).bind fun v50 =>
 nx (p49.1, v50) p49.2) (
 kx 0 (x.1, x.2) s)) fun k27 =>
 (O.len s 23 i0).bind fun v2 =>
 (O.bop .lss 3 x.2 v2).bind fun v3 =>
 gd v3 (
 (O.bop .lss 3 x.2 (Go.Value.int Go.IntKind.i64 40)).bind fun v4 =>
 k27 v4) (
 k27 (.bool false)) (
 none)
theorem f18_l0_b (C : OracleJ H) (n : Nat) (i0 : Value) (i2 : Value) (i5 : Value) (x : Value × Value) (s : St H) (nx : List Value → St H → Option (List (Value × St H))) (K : Ex → List Value → St H → Option (List (Value × St H))) :
 exec Try.prog false C n 18 none (cdp Try.f18 [1, 1, 0, 1, 0, 0]) (f18_l0_m i0 i2 i5 x) s (kIter (scratch (cdp Try.f18 [1, 1, 0, 1, 0, 0])) nx K) = f18_l0 (dOps (H := H) Try.prog) C n i0 (fun x s => nx (f18_l0_m i0 i2 i5 x) s) (fun i x s => K (.exit i) (f18_l0_m i0 i2 i5 x) s) (fun x s => K .ret (f18_l0_m i0 i2 i5 x) s) x s := by kernel_rfl
theorem f18_l0_e (C : OracleJ H) (n : Nat) (i0 : Value) (i2 : Value) (i5 : Value) (m : Nat) (x : Value × Value) (s : St H) (K : Ex → List Value → St H → Option (List (Value × St H))) :
 iter (fun t s k => exec Try.prog false C n 18 none (cdp Try.f18 [1, 1, 0, 1, 0, 0]) t s k) (scratch (cdp Try.f18 [1, 1, 0, 1, 0, 0])) m (f18_l0_m i0 i2 i5 x) s K = iterS (f18_l0 (dOps (H := H) Try.prog) C n i0) (fun i x s => K (.exit i) (f18_l0_m i0 i2 i5 x) s) (fun x s => K .ret (f18_l0_m i0 i2 i5 x) s) m x s :=
   iter_eq (f18_l0_m i0 i2 i5) (f18_l0 (dOps (H := H) Try.prog) C n i0) (fun x s nx K => f18_l0_b C n i0 i2 i5 x s nx K) K m x s
noncomputable def f18 (O : Ops H) (C : OracleJ H) (n : Nat) (a0 : Value) (s : St H) : Option (List (Value × St H)) :=
 (O.buildSlice false s 23 0 []).bind fun p1 =>
 iterS (f18_l0 O C n a0 )
 (fun i51 x52 s53 => (bif Nat.beq i51 0 then
 some [(x52.1, s53)] else none))
 (fun x54 s55 => some [((fzV 2 #[]), s55)]) n (p1.1, (Go.Value.int Go.IntKind.i64 0)) p1.2
theorem f18_l0_k (C : OracleJ H) (n : Nat) (i0 : Value) (i2 : Value) (i5 : Value) (i : Nat) (x : Value × Value) (s : St H) : (kBlock 0 (kSeq Try.prog false C n 18 none (cdp Try.f18 [1, 1, 1]) (kFun Try.prog Try.f18))) (.exit i) (f18_l0_m i0 i2 i5 x) s =
 (bif Nat.beq i 0 then
 some [(x.1, s)] else none) := by kernel_rfl
theorem f18_r (C : OracleJ H) (n : Nat) (a0 : Value) (s : St H) : bodyD Try.prog false C n 18 Try.f18 [a0] s = f18 (dOps (H := H) Try.prog) C n a0 s := by
  have h1 : bodyD Try.prog false C n 18 Try.f18 [a0] s =
 ((dOps (H := H) Try.prog).buildSlice false s 23 0 []).bind fun p56 =>
 iter (fun t s k => exec Try.prog false C n 18 none (cdp Try.f18 [1, 1, 0, 1, 0, 0]) t s k) (scratch (cdp Try.f18 [1, 1, 0, 1, 0, 0])) n (f18_l0_m a0 (fzV 2 #[]) p56.1 (p56.1, (Go.Value.int Go.IntKind.i64 0))) p56.2 (kBlock 0 (kSeq Try.prog false C n 18 none (cdp Try.f18 [1, 1, 1]) (kFun Try.prog Try.f18))) := by kernel_rfl
  rw [h1]
  simp only [f18_l0_e, f18_l0_k]
  show _ = f18 (dOps (H := H) Try.prog) C n a0 s
  kernel_rfl
/-! tidepole/label.Sort -/
def f19_l0_m (i0 : Value) (i2 : Value) (i4 : Value) (i9 : Value) (i10 : Value) (i11 : Value) (i12 : Value) (i13 : Value) (i14 : Value) (x : Value × Value × Value) : List Value := [i0, undefV, i2, (Go.Value.int Go.IntKind.i64 0), i4, x.1, x.2.1, dc, undefV, i9, i10, i11, i12, i13, i14, x.2.2, dc, dc, dc, dc, dc, dc, dc, dc, dc, dc, dc, dc, dc, dc, dc, dc, dc, dc, dc, dc, dc, dc, dc, dc, dc, dc, dc, dc, dc, dc, dc, dc, undefV, undefV, undefV, undefV, undefV, undefV, undefV, undefV, undefV]
noncomputable def f19_l0 (O : Ops H) (C : OracleJ H) (n : Nat) (i4 : Value) (i13 : Value) (i14 : Value) (nx : (Value × Value × Value) → St H → Option (List (Value × St H))) (kx : Nat → (Value × Value × Value) → St H → Option (List (Value × St H))) (kr : (Value × Value × Value) → St H → Option (List (Value × St H))) (x : Value × Value × Value) (s : St H) : Option (List (Value × St H)) :=
 (O.bop .lss 3 x.2.2 i14).bind fun v8 =>
 (O.boolO v8).bind fun b9 => cond b9 (
 (O.indexAddr 23 i13 x.2.2).bind fun v10 =>
 (O.load s 106 v10).bind fun v11 =>
 (O.alloc s 106).bind fun p12 =>
 (O.store p12.2 106 p12.1 v11).bind fun s13 =>
 jn (fun (j53_40 : Value) =>
 (O.boolO j53_40).bind fun b31 => cond b31 (
 (O.bop .add 3 x.2.2 (Go.Value.int Go.IntKind.i64 1)).bind fun v37 =>
 nx (x.1, x.2.2, v37) s13) (
 (O.load s13 106 p12.1).bind fun v32 =>
 (O.indexAddr 23 i4 x.1).bind fun v33 =>
 (O.store s13 106 v33 v32).bind fun s34 =>
 (O.bop .add 3 x.1 (Go.Value.int Go.IntKind.i64 1)).bind fun v35 =>
 (O.bop .add 3 x.2.2 (Go.Value.int Go.IntKind.i64 1)).bind fun v38 =>
 nx (v35, x.2.2, v38) s34)) fun k53 =>
 (O.bop .add 3 x.2.2 (Go.Value.int Go.IntKind.i64 1)).bind fun v14 =>
 (O.len s13 23 i4).bind fun v15 =>
 (O.bop .lss 3 v14 v15).bind fun v16 =>
 gd v16 (
 (O.bop .add 3 x.2.2 (Go.Value.int Go.IntKind.i64 1)).bind fun v17 =>
 (O.indexAddr 23 i4 v17).bind fun v18 =>
 (O.fieldAddr 106 v18 0).bind fun v19 =>
 (O.load s13 9 v19).bind fun v20 =>
 (O.fieldAddr 106 p12.1 0).bind fun v21 =>
 (O.load s13 9 v21).bind fun v22 =>
 (O.bop .eql 9 v20 v22).bind fun v23 =>
 gd v23 (
 k53 (.bool true)) (
 (O.fieldAddr 106 p12.1 1).bind fun v24 =>
 (O.load s13 9 v24).bind fun v25 =>
 (O.bop .eql 9 v25 (Go.Value.string { data := #[] })).bind fun v26 =>
 k53 v26) (
 none)) (
 (O.fieldAddr 106 p12.1 1).bind fun v27 =>
 (O.load s13 9 v27).bind fun v28 =>
 (O.bop .eql 9 v28 (Go.Value.string { data := #[] })).bind fun v29 =>
 k53 v29) (
 none)) (
 kx 0 (x.1, x.2.1, x.2.2) s)
theorem f19_l0_b (C : OracleJ H) (n : Nat) (i0 : Value) (i2 : Value) (i4 : Value) (i9 : Value) (i10 : Value) (i11 : Value) (i12 : Value) (i13 : Value) (i14 : Value) (x : Value × Value × Value) (s : St H) (nx : List Value → St H → Option (List (Value × St H))) (K : Ex → List Value → St H → Option (List (Value × St H))) :
 exec Try.prog false C n 19 none (cdp Try.f19 [1, 1, 1, 1, 0, 1, 0, 0]) (f19_l0_m i0 i2 i4 i9 i10 i11 i12 i13 i14 x) s (kIter (scratch (cdp Try.f19 [1, 1, 1, 1, 0, 1, 0, 0])) nx K) = f19_l0 (dOps (H := H) Try.prog) C n i4 i13 i14 (fun x s => nx (f19_l0_m i0 i2 i4 i9 i10 i11 i12 i13 i14 x) s) (fun i x s => K (.exit i) (f19_l0_m i0 i2 i4 i9 i10 i11 i12 i13 i14 x) s) (fun x s => K .ret (f19_l0_m i0 i2 i4 i9 i10 i11 i12 i13 i14 x) s) x s := by kernel_rfl
theorem f19_l0_e (C : OracleJ H) (n : Nat) (i0 : Value) (i2 : Value) (i4 : Value) (i9 : Value) (i10 : Value) (i11 : Value) (i12 : Value) (i13 : Value) (i14 : Value) (m : Nat) (x : Value × Value × Value) (s : St H) (K : Ex → List Value → St H → Option (List (Value × St H))) :
 iter (fun t s k => exec Try.prog false C n 19 none (cdp Try.f19 [1, 1, 1, 1, 0, 1, 0, 0]) t s k) (scratch (cdp Try.f19 [1, 1, 1, 1, 0, 1, 0, 0])) m (f19_l0_m i0 i2 i4 i9 i10 i11 i12 i13 i14 x) s K = iterS (f19_l0 (dOps (H := H) Try.prog) C n i4 i13 i14) (fun i x s => K (.exit i) (f19_l0_m i0 i2 i4 i9 i10 i11 i12 i13 i14 x) s) (fun x s => K .ret (f19_l0_m i0 i2 i4 i9 i10 i11 i12 i13 i14 x) s) m x s :=
   iter_eq (f19_l0_m i0 i2 i4 i9 i10 i11 i12 i13 i14) (f19_l0 (dOps (H := H) Try.prog) C n i4 i13 i14) (fun x s nx K => f19_l0_b C n i0 i2 i4 i9 i10 i11 i12 i13 i14 x s nx K) K m x s
noncomputable def f19 (O : Ops H) (C : OracleJ H) (n : Nat) (a0 : Value) (s : St H) : Option (List (Value × St H)) :=
 (C (.fn 64) [a0] s).bind fun L1 => manyK L1 fun v2 s3 =>
 (C (.fn 65) [v2, (.func (.func 66) #[] #[])] s3).bind fun L4 => manyK L4 fun v5 s6 =>
 (O.len s6 23 v2).bind fun v7 =>
 iterS (f19_l0 O C n v2 v2 v7 )
 (fun i39 x40 s41 => (bif Nat.beq i39 0 then
 (O.slc s41 23 v2 none (some x40.1) none).bind fun v44 =>
 (C (.fn 22) [v44] s41).bind fun L45 => manyK L45 fun v46 s47 =>
 (O.bop .neq 26 v46 (Go.Value.int Go.IntKind.i64 0)).bind fun v48 =>
 (O.boolO v48).bind fun b49 => cond b49 (
 some [(.tuple #[(fzV 2 #[]), v46], s47)]) (
 some [(.tuple #[v44, (Go.Value.int Go.IntKind.i64 0)], s47)]) else none))
 (fun x42 s43 => some [(.tuple #[(fzV 2 #[]), (Go.Value.int Go.IntKind.i64 0)], s43)]) n ((Go.Value.int Go.IntKind.i64 0), undefV, (Go.Value.int Go.IntKind.i64 0)) s6
theorem f19_l0_k (C : OracleJ H) (n : Nat) (i0 : Value) (i2 : Value) (i4 : Value) (i9 : Value) (i10 : Value) (i11 : Value) (i12 : Value) (i13 : Value) (i14 : Value) (i : Nat) (x : Value × Value × Value) (s : St H) : (kBlock 0 (kSeq Try.prog false C n 19 none (cdp Try.f19 [1, 1, 1, 1, 1]) (kFun Try.prog Try.f19))) (.exit i) (f19_l0_m i0 i2 i4 i9 i10 i11 i12 i13 i14 x) s =
 (bif Nat.beq i 0 then
 ((dOps (H := H) Try.prog).slc s 23 i4 none (some x.1) none).bind fun v63 =>
 (C (.fn 22) [v63] s).bind fun L64 => manyK L64 fun v65 s66 =>
 ((dOps (H := H) Try.prog).bop .neq 26 v65 (Go.Value.int Go.IntKind.i64 0)).bind fun v67 =>
 ((dOps (H := H) Try.prog).boolO v67).bind fun b68 => cond b68 (
 some [(.tuple #[(fzV 2 #[]), v65], s66)]) (
 some [(.tuple #[v63, (Go.Value.int Go.IntKind.i64 0)], s66)]) else none) := by kernel_rfl
theorem f19_r (C : OracleJ H) (n : Nat) (a0 : Value) (s : St H) : bodyD Try.prog false C n 19 Try.f19 [a0] s = f19 (dOps (H := H) Try.prog) C n a0 s := by
  have h1 : bodyD Try.prog false C n 19 Try.f19 [a0] s =
 (C (.fn 64) [a0] s).bind fun L50 => manyK L50 fun v51 s52 =>
 (C (.fn 65) [v51, (.func (.func 66) #[] #[])] s52).bind fun L53 => manyK L53 fun v54 s55 =>
 ((dOps (H := H) Try.prog).len s55 23 v51).bind fun v56 =>
 iter (fun t s k => exec Try.prog false C n 19 none (cdp Try.f19 [1, 1, 1, 1, 0, 1, 0, 0]) t s k) (scratch (cdp Try.f19 [1, 1, 1, 1, 0, 1, 0, 0])) n (f19_l0_m a0 (fzV 2 #[]) v51 a0 v51 v51 v54 v51 v56 ((Go.Value.int Go.IntKind.i64 0), undefV, (Go.Value.int Go.IntKind.i64 0))) s55 (kBlock 0 (kSeq Try.prog false C n 19 none (cdp Try.f19 [1, 1, 1, 1, 1]) (kFun Try.prog Try.f19))) := by kernel_rfl
  rw [h1]
  simp only [f19_l0_e, f19_l0_k]
  show _ = f19 (dOps (H := H) Try.prog) C n a0 s
  kernel_rfl
/-! tidepole/tidepolebase.SameLabels -/
def f21_l0_m (i0 : Value) (i1 : Value) (i6 : Value) (i7 : Value) (i8 : Value) (i9 : Value) (i10 : Value) (x : Value × Value) : List Value := [i0, i1, undefV, undefV, x.1, x.2, i6, i7, i8, i9, i10, dc, dc, dc, dc, dc, dc, dc, dc, dc, dc, dc, dc, dc, dc, dc]
noncomputable def f21_l0 (O : Ops H) (C : OracleJ H) (n : Nat) (i0 : Value) (i1 : Value) (nx : (Value × Value) → St H → Option (List (Value × St H))) (kx : Nat → (Value × Value) → St H → Option (List (Value × St H))) (kr : (Value × Value) → St H → Option (List (Value × St H))) (x : Value × Value) (s : St H) : Option (List (Value × St H)) :=
 (O.len s 23 i0).bind fun v5 =>
 (O.bop .lss 3 x.2 v5).bind fun v6 =>
 (O.boolO v6).bind fun b7 => cond b7 (
 (O.indexAddr 23 i0 x.2).bind fun v8 =>
 (O.load s 106 v8).bind fun v9 =>
 (O.indexAddr 23 i1 x.2).bind fun v10 =>
 (O.load s 106 v10).bind fun v11 =>
 (O.bop .neq 106 v9 v11).bind fun v12 =>
 (O.boolO v12).bind fun b13 => cond b13 (
 kr ((.bool false), x.2) s) (
 (O.bop .add 3 x.2 (Go.Value.int Go.IntKind.i64 1)).bind fun v14 =>
 nx (x.1, v14) s)) (
 kx 0 (x.1, x.2) s)
theorem f21_l0_b (C : OracleJ H) (n : Nat) (i0 : Value) (i1 : Value) (i6 : Value) (i7 : Value) (i8 : Value) (i9 : Value) (i10 : Value) (x : Value × Value) (s : St H) (nx : List Value → St H → Option (List (Value × St H))) (K : Ex → List Value → St H → Option (List (Value × St H))) :
 exec Try.prog false C n 21 none (cdp Try.f21 [1, 1, 0, 1, 0, 0]) (f21_l0_m i0 i1 i6 i7 i8 i9 i10 x) s (kIter (scratch (cdp Try.f21 [1, 1, 0, 1, 0, 0])) nx K) = f21_l0 (dOps (H := H) Try.prog) C n i0 i1 (fun x s => nx (f21_l0_m i0 i1 i6 i7 i8 i9 i10 x) s) (fun i x s => K (.exit i) (f21_l0_m i0 i1 i6 i7 i8 i9 i10 x) s) (fun x s => K .ret (f21_l0_m i0 i1 i6 i7 i8 i9 i10 x) s) x s := by kernel_rfl
theorem f21_l0_e (C : OracleJ H) (n : Nat) (i0 : Value) (i1 : Value) (i6 : Value) (i7 : Value) (i8 : Value) (i9 : Value) (i10 : Value) (m : Nat) (x : Value × Value) (s : St H) (K : Ex → List Value → St H → Option (List (Value × St H))) :
 iter (fun t s k => exec Try.prog false C n 21 none (cdp Try.f21 [1, 1, 0, 1, 0, 0]) t s k) (scratch (cdp Try.f21 [1, 1, 0, 1, 0, 0])) m (f21_l0_m i0 i1 i6 i7 i8 i9 i10 x) s K = iterS (f21_l0 (dOps (H := H) Try.prog) C n i0 i1) (fun i x s => K (.exit i) (f21_l0_m i0 i1 i6 i7 i8 i9 i10 x) s) (fun x s => K .ret (f21_l0_m i0 i1 i6 i7 i8 i9 i10 x) s) m x s :=
   iter_eq (f21_l0_m i0 i1 i6 i7 i8 i9 i10) (f21_l0 (dOps (H := H) Try.prog) C n i0 i1) (fun x s nx K => f21_l0_b C n i0 i1 i6 i7 i8 i9 i10 x s nx K) K m x s
noncomputable def f21 (O : Ops H) (C : OracleJ H) (n : Nat) (a0 : Value) (a1 : Value) (s : St H) : Option (List (Value × St H)) :=
 (O.len s 23 a0).bind fun v1 =>
 (O.len s 23 a1).bind fun v2 =>
 (O.bop .neq 3 v1 v2).bind fun v3 =>
 (O.boolO v3).bind fun b4 => cond b4 (
 some [((.bool false), s)]) (
 iterS (f21_l0 O C n a0 a1 )
 (fun i15 x16 s17 => (bif Nat.beq i15 0 then
 some [((.bool true), s17)] else none))
 (fun x18 s19 => some [(x18.1, s19)]) n ((.bool false), (Go.Value.int Go.IntKind.i64 0)) s)
theorem f21_l0_k (C : OracleJ H) (n : Nat) (i0 : Value) (i1 : Value) (i6 : Value) (i7 : Value) (i8 : Value) (i9 : Value) (i10 : Value) (i : Nat) (x : Value × Value) (s : St H) : (kBlock 0 (kSeq Try.prog false C n 21 none (cdp Try.f21 [1, 1, 1]) (kFun Try.prog Try.f21))) (.exit i) (f21_l0_m i0 i1 i6 i7 i8 i9 i10 x) s =
 (bif Nat.beq i 0 then
 some [((.bool true), s)] else none) := by kernel_rfl
theorem f21_r (C : OracleJ H) (n : Nat) (a0 : Value) (a1 : Value) (s : St H) : bodyD Try.prog false C n 21 Try.f21 [a0, a1] s = f21 (dOps (H := H) Try.prog) C n a0 a1 s := by
  have h1 : bodyD Try.prog false C n 21 Try.f21 [a0, a1] s =
 ((dOps (H := H) Try.prog).len s 23 a0).bind fun v20 =>
 ((dOps (H := H) Try.prog).len s 23 a1).bind fun v21 =>
 ((dOps (H := H) Try.prog).bop .neq 3 v20 v21).bind fun v22 =>
 ((dOps (H := H) Try.prog).boolO v22).bind fun b23 => cond b23 (
 some [((.bool false), s)]) (
 iter (fun t s k => exec Try.prog false C n 21 none (cdp Try.f21 [1, 1, 0, 1, 0, 0]) t s k) (scratch (cdp Try.f21 [1, 1, 0, 1, 0, 0])) n (f21_l0_m a0 a1 a0 v20 a1 v21 v22 ((.bool false), (Go.Value.int Go.IntKind.i64 0))) s (kBlock 0 (kSeq Try.prog false C n 21 none (cdp Try.f21 [1, 1, 1]) (kFun Try.prog Try.f21)))) := by kernel_rfl
  rw [h1]
  simp only [f21_l0_e, f21_l0_k]
  show _ = f21 (dOps (H := H) Try.prog) C n a0 a1 s
  kernel_rfl
/-! tidepole/label.Check -/
def f22_l0_m (i0 : Value) (i6 : Value) (i7 : Value) (i8 : Value) (i10 : Value) (i11 : Value) (i12 : Value) (i13 : Value) (i14 : Value) (i15 : Value) (x : Value × Value × Value) : List Value := [i0, undefV, x.1, x.2.1, undefV, dc, i6, i7, i8, (.bool false), i10, i11, i12, i13, i14, i15, x.2.2, dc, dc, dc, dc, dc, dc, dc, dc, dc, dc, dc, dc, dc, dc, dc, dc, dc, dc, dc, dc, dc, dc, dc, dc, dc, dc, dc]
noncomputable def f22_l0 (O : Ops H) (C : OracleJ H) (n : Nat) (i14 : Value) (i15 : Value) (nx : (Value × Value × Value) → St H → Option (List (Value × St H))) (kx : Nat → (Value × Value × Value) → St H → Option (List (Value × St H))) (kr : (Value × Value × Value) → St H → Option (List (Value × St H))) (x : Value × Value × Value) (s : St H) : Option (List (Value × St H)) :=
 (O.bop .lss 3 x.2.2 i15).bind fun v9 =>
 (O.boolO v9).bind fun b10 => cond b10 (
 (O.indexAddr 23 i14 x.2.2).bind fun v11 =>
 (O.load s 106 v11).bind fun v12 =>
 (O.alloc s 106).bind fun p13 =>
 (O.store p13.2 106 p13.1 v12).bind fun s14 =>
 (O.fieldAddr 106 p13.1 0).bind fun v15 =>
 (O.load s14 9 v15).bind fun v16 =>
 (C (.fn 68) [v16] s14).bind fun L17 => manyK L17 fun v18 s19 =>
 (O.uop .not v18).bind fun v20 =>
 gd v20 (
 kr ((Go.Value.int Go.IntKind.i64 40), x.2.1, x.2.2) s19) (
 (O.fieldAddr 106 p13.1 0).bind fun v21 =>
 (O.load s19 9 v21).bind fun v22 =>
 (O.bop .leq 9 v22 x.2.1).bind fun v23 =>
 gd v23 (
 kr ((Go.Value.int Go.IntKind.i64 40), x.2.1, x.2.2) s19) (
 (O.fieldAddr 106 p13.1 1).bind fun v24 =>
 (O.load s19 9 v24).bind fun v25 =>
 (O.bop .eql 9 v25 (Go.Value.string { data := #[] })).bind fun v26 =>
 gd v26 (
 kr ((Go.Value.int Go.IntKind.i64 40), x.2.1, x.2.2) s19) (
 (O.fieldAddr 106 p13.1 1).bind fun v27 =>
 (O.load s19 9 v27).bind fun v28 =>
 (O.len s19 9 v28).bind fun v29 =>
 (O.bop .gtr 3 v29 (Go.Value.int Go.IntKind.i64 256)).bind fun v30 =>
 (O.boolO v30).bind fun b35 => cond b35 (
 kr ((Go.Value.int Go.IntKind.i64 40), x.2.1, x.2.2) s19) (
 (O.fieldAddr 106 p13.1 0).bind fun v36 =>
 (O.load s19 9 v36).bind fun v37 =>
 (O.bop .add 3 x.2.2 (Go.Value.int Go.IntKind.i64 1)).bind fun v38 =>
 nx (x.1, v37, v38) s19)) (
 none)) (
 none)) (
 none)) (
 kx 0 (x.1, x.2.1, x.2.2) s)
theorem f22_l0_b (C : OracleJ H) (n : Nat) (i0 : Value) (i6 : Value) (i7 : Value) (i8 : Value) (i10 : Value) (i11 : Value) (i12 : Value) (i13 : Value) (i14 : Value) (i15 : Value) (x : Value × Value × Value) (s : St H) (nx : List Value → St H → Option (List (Value × St H))) (K : Ex → List Value → St H → Option (List (Value × St H))) :
 exec Try.prog false C n 22 none (cdp Try.f22 [1, 1, 1, 0, 1, 0, 0]) (f22_l0_m i0 i6 i7 i8 i10 i11 i12 i13 i14 i15 x) s (kIter (scratch (cdp Try.f22 [1, 1, 1, 0, 1, 0, 0])) nx K) = f22_l0 (dOps (H := H) Try.prog) C n i14 i15 (fun x s => nx (f22_l0_m i0 i6 i7 i8 i10 i11 i12 i13 i14 i15 x) s) (fun i x s => K (.exit i) (f22_l0_m i0 i6 i7 i8 i10 i11 i12 i13 i14 i15 x) s) (fun x s => K .ret (f22_l0_m i0 i6 i7 i8 i10 i11 i12 i13 i14 i15 x) s) x s := by kernel_rfl
theorem f22_l0_e (C : OracleJ H) (n : Nat) (i0 : Value) (i6 : Value) (i7 : Value) (i8 : Value) (i10 : Value) (i11 : Value) (i12 : Value) (i13 : Value) (i14 : Value) (i15 : Value) (m : Nat) (x : Value × Value × Value) (s : St H) (K : Ex → List Value → St H → Option (List (Value × St H))) :
 iter (fun t s k => exec Try.prog false C n 22 none (cdp Try.f22 [1, 1, 1, 0, 1, 0, 0]) t s k) (scratch (cdp Try.f22 [1, 1, 1, 0, 1, 0, 0])) m (f22_l0_m i0 i6 i7 i8 i10 i11 i12 i13 i14 i15 x) s K = iterS (f22_l0 (dOps (H := H) Try.prog) C n i14 i15) (fun i x s => K (.exit i) (f22_l0_m i0 i6 i7 i8 i10 i11 i12 i13 i14 i15 x) s) (fun x s => K .ret (f22_l0_m i0 i6 i7 i8 i10 i11 i12 i13 i14 i15 x) s) m x s :=
   iter_eq (f22_l0_m i0 i6 i7 i8 i10 i11 i12 i13 i14 i15) (f22_l0 (dOps (H := H) Try.prog) C n i14 i15) (fun x s nx K => f22_l0_b C n i0 i6 i7 i8 i10 i11 i12 i13 i14 i15 x s nx K) K m x s
noncomputable def f22 (O : Ops H) (C : OracleJ H) (n : Nat) (a0 : Value) (s : St H) : Option (List (Value × St H)) :=
 (O.len s 23 a0).bind fun v1 =>
 (O.bop .eql 3 v1 (Go.Value.int Go.IntKind.i64 0)).bind fun v2 =>
 gd v2 (
 some [((Go.Value.int Go.IntKind.i64 40), s)]) (
 (O.len s 23 a0).bind fun v3 =>
 (O.bop .gtr 3 v3 (Go.Value.int Go.IntKind.i64 16)).bind fun v4 =>
 (O.boolO v4).bind fun b7 => cond b7 (
 some [((Go.Value.int Go.IntKind.i64 40), s)]) (
 (O.len s 23 a0).bind fun v8 =>
 iterS (f22_l0 O C n a0 v8 )
 (fun i39 x40 s41 => (bif Nat.beq i39 0 then
 some [((Go.Value.int Go.IntKind.i64 0), s41)] else none))
 (fun x42 s43 => some [(x42.1, s43)]) n ((Go.Value.int Go.IntKind.i64 0), (Go.Value.string { data := #[] }), (Go.Value.int Go.IntKind.i64 0)) s)) (
 none)
theorem f22_l0_k (C : OracleJ H) (n : Nat) (i0 : Value) (i6 : Value) (i7 : Value) (i8 : Value) (i10 : Value) (i11 : Value) (i12 : Value) (i13 : Value) (i14 : Value) (i15 : Value) (i : Nat) (x : Value × Value × Value) (s : St H) : (kBlock 0 (kSeq Try.prog false C n 22 none (cdp Try.f22 [1, 1, 1, 1]) (kFun Try.prog Try.f22))) (.exit i) (f22_l0_m i0 i6 i7 i8 i10 i11 i12 i13 i14 i15 x) s =
 (bif Nat.beq i 0 then
 some [((Go.Value.int Go.IntKind.i64 0), s)] else none) := by kernel_rfl
theorem f22_r (C : OracleJ H) (n : Nat) (a0 : Value) (s : St H) : bodyD Try.prog false C n 22 Try.f22 [a0] s = f22 (dOps (H := H) Try.prog) C n a0 s := by
  have h1 : bodyD Try.prog false C n 22 Try.f22 [a0] s =
 ((dOps (H := H) Try.prog).len s 23 a0).bind fun v44 =>
 ((dOps (H := H) Try.prog).bop .eql 3 v44 (Go.Value.int Go.IntKind.i64 0)).bind fun v45 =>
 gd v45 (
 some [((Go.Value.int Go.IntKind.i64 40), s)]) (
 ((dOps (H := H) Try.prog).len s 23 a0).bind fun v46 =>
 ((dOps (H := H) Try.prog).bop .gtr 3 v46 (Go.Value.int Go.IntKind.i64 16)).bind fun v47 =>
 ((dOps (H := H) Try.prog).boolO v47).bind fun b50 => cond b50 (
 some [((Go.Value.int Go.IntKind.i64 40), s)]) (
 ((dOps (H := H) Try.prog).len s 23 a0).bind fun v51 =>
 iter (fun t s k => exec Try.prog false C n 22 none (cdp Try.f22 [1, 1, 1, 0, 1, 0, 0]) t s k) (scratch (cdp Try.f22 [1, 1, 1, 0, 1, 0, 0])) n (f22_l0_m a0 a0 v44 v45 a0 v46 v47 v47 a0 v51 ((Go.Value.int Go.IntKind.i64 0), (Go.Value.string { data := #[] }), (Go.Value.int Go.IntKind.i64 0))) s (kBlock 0 (kSeq Try.prog false C n 22 none (cdp Try.f22 [1, 1, 1, 1]) (kFun Try.prog Try.f22))))) (
 none) := by kernel_rfl
  rw [h1]
  simp only [f22_l0_e, f22_l0_k]
  show _ = f22 (dOps (H := H) Try.prog) C n a0 s
  kernel_rfl
/-! tidepole/label.With -/
def f27_l0_m (i0 : Value) (i1 : Value) (i2 : Value) (i4 : Value) (i6 : Value) (i8 : Value) (i9 : Value) (i12 : Value) (i13 : Value) (i14 : Value) (i15 : Value) (i17 : Value) (i18 : Value) (i19 : Value) (i20 : Value) (i21 : Value) (i22 : Value) (x : Value) : List Value := [i0, i1, i2, undefV, i4, undefV, i6, (Go.Value.int Go.IntKind.i64 0), i8, i9, x, undefV, i12, i13, i14, i15, undefV, i17, i18, i19, i20, i21, i22, dc, dc, dc, dc, dc, dc, dc, dc, dc, dc, dc, dc, dc, dc, dc, undefV, undefV, undefV, undefV, undefV, undefV, undefV, undefV, undefV, undefV, undefV, undefV, undefV]
noncomputable def f27_l0 (O : Ops H) (C : OracleJ H) (n : Nat) (i4 : Value) (i9 : Value) (nx : Value → St H → Option (List (Value × St H))) (kx : Nat → Value → St H → Option (List (Value × St H))) (kr : Value → St H → Option (List (Value × St H))) (x : Value) (s : St H) : Option (List (Value × St H)) :=
 jn (fun (j150_35 : Value) =>
 (O.boolO j150_35).bind fun b24 => cond b24 (
 (O.bop .add 3 x (Go.Value.int Go.IntKind.i64 1)).bind fun v25 =>
 nx v25 s) (
 kx 0 x s)) fun k150 =>
 (O.len s 23 i9).bind fun v15 =>
 (O.bop .lss 3 x v15).bind fun v16 =>
 gd v16 (
 (O.indexAddr 23 i9 x).bind fun v17 =>
 (O.fieldAddr 106 v17 0).bind fun v18 =>
 (O.load s 9 v18).bind fun v19 =>
 (O.load s 9 i4).bind fun v20 =>
 (O.bop .lss 9 v19 v20).bind fun v21 =>
 k150 v21) (
 k150 (.bool false)) (
 none)
theorem f27_l0_b (C : OracleJ H) (n : Nat) (i0 : Value) (i1 : Value) (i2 : Value) (i4 : Value) (i6 : Value) (i8 : Value) (i9 : Value) (i12 : Value) (i13 : Value) (i14 : Value) (i15 : Value) (i17 : Value) (i18 : Value) (i19 : Value) (i20 : Value) (i21 : Value) (i22 : Value) (x : Value) (s : St H) (nx : List Value → St H → Option (List (Value × St H))) (K : Ex → List Value → St H → Option (List (Value × St H))) :
 exec Try.prog true C n 27 none (cdp Try.f27 [1, 1, 1, 0, 1, 0, 1, 0, 0, 0]) (f27_l0_m i0 i1 i2 i4 i6 i8 i9 i12 i13 i14 i15 i17 i18 i19 i20 i21 i22 x) s (kIter (scratch (cdp Try.f27 [1, 1, 1, 0, 1, 0, 1, 0, 0, 0])) nx K) = f27_l0 (dOps (H := H) Try.prog) C n i4 i9 (fun x s => nx (f27_l0_m i0 i1 i2 i4 i6 i8 i9 i12 i13 i14 i15 i17 i18 i19 i20 i21 i22 x) s) (fun i x s => K (.exit i) (f27_l0_m i0 i1 i2 i4 i6 i8 i9 i12 i13 i14 i15 i17 i18 i19 i20 i21 i22 x) s) (fun x s => K .ret (f27_l0_m i0 i1 i2 i4 i6 i8 i9 i12 i13 i14 i15 i17 i18 i19 i20 i21 i22 x) s) x s := by kernel_rfl
theorem f27_l0_e (C : OracleJ H) (n : Nat) (i0 : Value) (i1 : Value) (i2 : Value) (i4 : Value) (i6 : Value) (i8 : Value) (i9 : Value) (i12 : Value) (i13 : Value) (i14 : Value) (i15 : Value) (i17 : Value) (i18 : Value) (i19 : Value) (i20 : Value) (i21 : Value) (i22 : Value) (m : Nat) (x : Value) (s : St H) (K : Ex → List Value → St H → Option (List (Value × St H))) :
 iter (fun t s k => exec Try.prog true C n 27 none (cdp Try.f27 [1, 1, 1, 0, 1, 0, 1, 0, 0, 0]) t s k) (scratch (cdp Try.f27 [1, 1, 1, 0, 1, 0, 1, 0, 0, 0])) m (f27_l0_m i0 i1 i2 i4 i6 i8 i9 i12 i13 i14 i15 i17 i18 i19 i20 i21 i22 x) s K = iterS (f27_l0 (dOps (H := H) Try.prog) C n i4 i9) (fun i x s => K (.exit i) (f27_l0_m i0 i1 i2 i4 i6 i8 i9 i12 i13 i14 i15 i17 i18 i19 i20 i21 i22 x) s) (fun x s => K .ret (f27_l0_m i0 i1 i2 i4 i6 i8 i9 i12 i13 i14 i15 i17 i18 i19 i20 i21 i22 x) s) m x s :=
   iter_eq (f27_l0_m i0 i1 i2 i4 i6 i8 i9 i12 i13 i14 i15 i17 i18 i19 i20 i21 i22) (f27_l0 (dOps (H := H) Try.prog) C n i4 i9) (fun x s nx K => f27_l0_b C n i0 i1 i2 i4 i6 i8 i9 i12 i13 i14 i15 i17 i18 i19 i20 i21 i22 x s nx K) K m x s
noncomputable def f27 (O : Ops H) (C : OracleJ H) (n : Nat) (a0 : Value) (a1 : Value) (a2 : Value) (s : St H) : Option (List (Value × St H)) :=
 (O.box s a1).bind fun p1 =>
 (C (.fn 22) [a0] p1.2).bind fun L2 => manyK L2 fun v3 s4 =>
 (O.bop .neq 26 v3 (Go.Value.int Go.IntKind.i64 0)).bind fun v5 =>
 (O.boolO v5).bind fun b6 => cond b6 (
 some [(.tuple #[(fzV 2 #[]), v3], s4)]) (
 (C (.fn 64) [a0] s4).bind fun L7 => manyK L7 fun v8 s9 =>
 (C (.fn 76) [v8, (.func (.func 77) #[] #[p1.1])] s9).bind fun L10 => manyK L10 fun v11 s12 =>
 (O.bop .neq 9 a2 (Go.Value.string { data := #[] })).bind fun v13 =>
 jn (fun (j147_9 : Value) (js147 : St H) =>
 (C (.fn 22) [j147_9] js147).bind fun L42 => manyK L42 fun v43 s44 =>
 (O.bop .neq 26 v43 (Go.Value.int Go.IntKind.i64 0)).bind fun v45 =>
 (O.boolO v45).bind fun b46 => cond b46 (
 some [(.tuple #[(fzV 2 #[]), v43], s44)]) (
 some [(.tuple #[j147_9, (Go.Value.int Go.IntKind.i64 0)], s44)])) fun k147 =>
 (O.boolO v13).bind fun b14 => cond b14 (
 iterS (f27_l0 O C n p1.1 v11 )
 (fun i26 x27 s28 => (bif Nat.beq i26 0 then
 (O.load s28 9 p1.1).bind fun v31 =>
 (O.build 106 [(0, v31), (1, a2)]).bind fun v32 =>
 (O.buildSlice true s28 22 1 [(0, v32)]).bind fun p33 =>
 (C (.fn 78) [v11, x27, p33.1] p33.2).bind fun L34 => manyK L34 fun v35 s36 =>
 k147 v35 s36 else none))
 (fun x29 s30 => some [(.tuple #[(fzV 2 #[]), (Go.Value.int Go.IntKind.i64 0)], s30)]) n (Go.Value.int Go.IntKind.i64 0) s12) (
 k147 v11 s12))
theorem f27_l0_k (C : OracleJ H) (n : Nat) (i0 : Value) (i1 : Value) (i2 : Value) (i4 : Value) (i6 : Value) (i8 : Value) (i9 : Value) (i12 : Value) (i13 : Value) (i14 : Value) (i15 : Value) (i17 : Value) (i18 : Value) (i19 : Value) (i20 : Value) (i21 : Value) (i22 : Value) (i : Nat) (x : Value) (s : St H) : (kBlock 0 (kSeq Try.prog true C n 27 none (cdp Try.f27 [1, 1, 1, 0, 1, 0, 1, 1]) (kSeq Try.prog true C n 27 none (cdp Try.f27 [1, 1, 1, 1]) (kFun Try.prog Try.f27)))) (.exit i) (f27_l0_m i0 i1 i2 i4 i6 i8 i9 i12 i13 i14 i15 i17 i18 i19 i20 i21 i22 x) s =
 (bif Nat.beq i 0 then
 ((dOps (H := H) Try.prog).load s 9 i4).bind fun v72 =>
 ((dOps (H := H) Try.prog).build 106 [(0, v72), (1, i2)]).bind fun v73 =>
 ((dOps (H := H) Try.prog).buildSlice true s 22 1 [(0, v73)]).bind fun p74 =>
 (C (.fn 78) [i9, x, p74.1] p74.2).bind fun L75 => manyK L75 fun v76 s77 =>
 (C (.fn 22) [v76] s77).bind fun L78 => manyK L78 fun v79 s80 =>
 ((dOps (H := H) Try.prog).bop .neq 26 v79 (Go.Value.int Go.IntKind.i64 0)).bind fun v81 =>
 ((dOps (H := H) Try.prog).boolO v81).bind fun b82 => cond b82 (
 some [(.tuple #[(fzV 2 #[]), v79], s80)]) (
 some [(.tuple #[v76, (Go.Value.int Go.IntKind.i64 0)], s80)]) else none) := by kernel_rfl
theorem f27_r (C : OracleJ H) (n : Nat) (a0 : Value) (a1 : Value) (a2 : Value) (s : St H) : bodyD Try.prog true C n 27 Try.f27 [a0, a1, a2] s = f27 (dOps (H := H) Try.prog) C n a0 a1 a2 s := by
  have h1 : bodyD Try.prog true C n 27 Try.f27 [a0, a1, a2] s =
 ((dOps (H := H) Try.prog).box s a1).bind fun p47 =>
 (C (.fn 22) [a0] p47.2).bind fun L48 => manyK L48 fun v49 s50 =>
 ((dOps (H := H) Try.prog).bop .neq 26 v49 (Go.Value.int Go.IntKind.i64 0)).bind fun v51 =>
 ((dOps (H := H) Try.prog).boolO v51).bind fun b52 => cond b52 (
 some [(.tuple #[(fzV 2 #[]), v49], s50)]) (
 (C (.fn 64) [a0] s50).bind fun L53 => manyK L53 fun v54 s55 =>
 (C (.fn 76) [v54, (.func (.func 77) #[] #[p47.1])] s55).bind fun L56 => manyK L56 fun v57 s58 =>
 ((dOps (H := H) Try.prog).bop .neq 9 a2 (Go.Value.string { data := #[] })).bind fun v59 =>
 ((dOps (H := H) Try.prog).boolO v59).bind fun b60 => cond b60 (
 iter (fun t s k => exec Try.prog true C n 27 none (cdp Try.f27 [1, 1, 1, 0, 1, 0, 1, 0, 0, 0]) t s k) (scratch (cdp Try.f27 [1, 1, 1, 0, 1, 0, 1, 0, 0, 0])) n (f27_l0_m a0 a1 a2 p47.1 (fzV 2 #[]) v49 v57 a0 v49 v49 v51 a0 v54 (.func (.func 77) #[] #[p47.1]) v57 a2 v59 (Go.Value.int Go.IntKind.i64 0)) s58 (kBlock 0 (kSeq Try.prog true C n 27 none (cdp Try.f27 [1, 1, 1, 0, 1, 0, 1, 1]) (kSeq Try.prog true C n 27 none (cdp Try.f27 [1, 1, 1, 1]) (kFun Try.prog Try.f27))))) (
 (C (.fn 22) [v57] s58).bind fun L83 => manyK L83 fun v84 s85 =>
 ((dOps (H := H) Try.prog).bop .neq 26 v84 (Go.Value.int Go.IntKind.i64 0)).bind fun v86 =>
 ((dOps (H := H) Try.prog).boolO v86).bind fun b87 => cond b87 (
 some [(.tuple #[(fzV 2 #[]), v84], s85)]) (
 some [(.tuple #[v57, (Go.Value.int Go.IntKind.i64 0)], s85)]))) := by kernel_rfl
  rw [h1]
  simp only [f27_l0_e, f27_l0_k]
  show _ = f27 (dOps (H := H) Try.prog) C n a0 a1 a2 s
  kernel_rfl
/-! tidepole/tidepoleref04.With -/
def f28_l0_m (i0 : Value) (i1 : Value) (i2 : Value) (i6 : Value) (i11 : Value) (i12 : Value) (i13 : Value) (i14 : Value) (i15 : Value) (i16 : Value) (x : Value × Value × Value) : List Value := [i0, i1, i2, undefV, undefV, undefV, i6, (Go.Value.int Go.IntKind.i64 0), x.1, x.2.1, x.2.2, i11, i12, i13, i14, i15, i16, dc, dc, dc, dc, dc, dc, dc, dc, dc, dc, dc, dc, dc, dc, dc, dc, dc, dc, dc, dc, dc, dc, dc, dc, dc, dc, dc, dc, dc, dc, dc, dc, dc, dc, dc, dc, dc, undefV, undefV, undefV, undefV, undefV, undefV, undefV, undefV, undefV, undefV, undefV, undefV]
noncomputable def f28_l0 (O : Ops H) (C : OracleJ H) (n : Nat) (i0 : Value) (i1 : Value) (i2 : Value) (nx : (Value × Value × Value) → St H → Option (List (Value × St H))) (kx : Nat → (Value × Value × Value) → St H → Option (List (Value × St H))) (kr : (Value × Value × Value) → St H → Option (List (Value × St H))) (x : Value × Value × Value) (s : St H) : Option (List (Value × St H)) :=
 (O.len s 23 i0).bind fun v8 =>
 (O.bop .lss 3 x.2.2 v8).bind fun v9 =>
 (O.boolO v9).bind fun b10 => cond b10 (
 jn (fun (j206_33 : Value) =>
 jn (fun (j216_8 : Value) (j216_9 : Value) (js216 : St H) =>
 (O.indexAddr 23 i0 x.2.2).bind fun v51 =>
 (O.fieldAddr 106 v51 0).bind fun v52 =>
 (O.load js216 9 v52).bind fun v53 =>
 (O.bop .neq 9 v53 i1).bind fun v54 =>
 jn (fun (j223_8 : Value) (js223 : St H) =>
 (O.bop .add 3 x.2.2 (Go.Value.int Go.IntKind.i64 1)).bind fun v60 =>
 nx (j223_8, j216_9, v60) js223) fun k223 =>
 (O.boolO v54).bind fun b55 => cond b55 (
 (O.indexAddr 23 i0 x.2.2).bind fun v56 =>
 (O.load js216 106 v56).bind fun v57 =>
 (O.buildSlice false js216 23 1 [(0, v57)]).bind fun p58 =>
 (O.append false p58.2 23 23 j216_8 p58.1).bind fun p59 =>
 k223 p59.1 p59.2) (
 k223 j216_8 js216)) fun k216 =>
 (O.boolO j206_33).bind fun b38 => cond b38 (
 (O.build 106 [(0, i1), (1, i2)]).bind fun v39 =>
 (O.buildSlice false s 23 1 [(0, v39)]).bind fun p40 =>
 (O.append false p40.2 23 23 x.1 p40.1).bind fun p41 =>
 k216 p41.1 (.bool true) p41.2) (
 k216 x.1 x.2.1 s)) fun k206 =>
 (O.uop .not x.2.1).bind fun v11 =>
 gd v11 (
 (O.indexAddr 23 i0 x.2.2).bind fun v12 =>
 (O.fieldAddr 106 v12 0).bind fun v13 =>
 (O.load s 9 v13).bind fun v14 =>
 (O.bop .geq 9 v14 i1).bind fun v15 =>
 k206 v15) (
 k206 (.bool false)) (
 none)) (
 kx 0 (x.1, x.2.1, x.2.2) s)
theorem f28_l0_b (C : OracleJ H) (n : Nat) (i0 : Value) (i1 : Value) (i2 : Value) (i6 : Value) (i11 : Value) (i12 : Value) (i13 : Value) (i14 : Value) (i15 : Value) (i16 : Value) (x : Value × Value × Value) (s : St H) (nx : List Value → St H → Option (List (Value × St H))) (K : Ex → List Value → St H → Option (List (Value × St H))) :
 exec Try.prog false C n 28 none (cdp Try.f28 [1, 1, 1, 1, 0, 1, 0, 0]) (f28_l0_m i0 i1 i2 i6 i11 i12 i13 i14 i15 i16 x) s (kIter (scratch (cdp Try.f28 [1, 1, 1, 1, 0, 1, 0, 0])) nx K) = f28_l0 (dOps (H := H) Try.prog) C n i0 i1 i2 (fun x s => nx (f28_l0_m i0 i1 i2 i6 i11 i12 i13 i14 i15 i16 x) s) (fun i x s => K (.exit i) (f28_l0_m i0 i1 i2 i6 i11 i12 i13 i14 i15 i16 x) s) (fun x s => K .ret (f28_l0_m i0 i1 i2 i6 i11 i12 i13 i14 i15 i16 x) s) x s := by kernel_rfl
theorem f28_l0_e (C : OracleJ H) (n : Nat) (i0 : Value) (i1 : Value) (i2 : Value) (i6 : Value) (i11 : Value) (i12 : Value) (i13 : Value) (i14 : Value) (i15 : Value) (i16 : Value) (m : Nat) (x : Value × Value × Value) (s : St H) (K : Ex → List Value → St H → Option (List (Value × St H))) :
 iter (fun t s k => exec Try.prog false C n 28 none (cdp Try.f28 [1, 1, 1, 1, 0, 1, 0, 0]) t s k) (scratch (cdp Try.f28 [1, 1, 1, 1, 0, 1, 0, 0])) m (f28_l0_m i0 i1 i2 i6 i11 i12 i13 i14 i15 i16 x) s K = iterS (f28_l0 (dOps (H := H) Try.prog) C n i0 i1 i2) (fun i x s => K (.exit i) (f28_l0_m i0 i1 i2 i6 i11 i12 i13 i14 i15 i16 x) s) (fun x s => K .ret (f28_l0_m i0 i1 i2 i6 i11 i12 i13 i14 i15 i16 x) s) m x s :=
   iter_eq (f28_l0_m i0 i1 i2 i6 i11 i12 i13 i14 i15 i16) (f28_l0 (dOps (H := H) Try.prog) C n i0 i1 i2) (fun x s nx K => f28_l0_b C n i0 i1 i2 i6 i11 i12 i13 i14 i15 i16 x s nx K) K m x s
noncomputable def f28 (O : Ops H) (C : OracleJ H) (n : Nat) (a0 : Value) (a1 : Value) (a2 : Value) (s : St H) : Option (List (Value × St H)) :=
 (C (.fn 79) [a0] s).bind fun L1 => manyK L1 fun v2 s3 =>
 (O.bop .neq 26 v2 (Go.Value.int Go.IntKind.i64 0)).bind fun v4 =>
 (O.boolO v4).bind fun b5 => cond b5 (
 some [(.tuple #[(fzV 2 #[]), (Go.Value.int Go.IntKind.i64 40)], s3)]) (
 (O.buildSlice false s3 23 0 []).bind fun p6 =>
 (O.bop .eql 9 a2 (Go.Value.string { data := #[] })).bind fun v7 =>
 iterS (f28_l0 O C n a0 a1 a2 )
 (fun i61 x62 s63 => (bif Nat.beq i61 0 then
 (O.uop .not x62.2.1).bind fun v66 =>
 jn (fun (j227_8 : Value) (js227 : St H) =>
 (C (.fn 79) [j227_8] js227).bind fun L76 => manyK L76 fun v77 s78 =>
 (O.bop .neq 26 v77 (Go.Value.int Go.IntKind.i64 0)).bind fun v79 =>
 (O.boolO v79).bind fun b80 => cond b80 (
 some [(.tuple #[(fzV 2 #[]), (Go.Value.int Go.IntKind.i64 40)], s78)]) (
 some [(.tuple #[j227_8, (Go.Value.int Go.IntKind.i64 0)], s78)])) fun k227 =>
 (O.boolO v66).bind fun b67 => cond b67 (
 (O.build 106 [(0, a1), (1, a2)]).bind fun v68 =>
 (O.buildSlice false s63 23 1 [(0, v68)]).bind fun p69 =>
 (O.append false p69.2 23 23 x62.1 p69.1).bind fun p70 =>
 k227 p70.1 p70.2) (
 k227 x62.1 s63) else none))
 (fun x64 s65 => some [(.tuple #[(fzV 2 #[]), (Go.Value.int Go.IntKind.i64 0)], s65)]) n (p6.1, v7, (Go.Value.int Go.IntKind.i64 0)) p6.2)
theorem f28_l0_k (C : OracleJ H) (n : Nat) (i0 : Value) (i1 : Value) (i2 : Value) (i6 : Value) (i11 : Value) (i12 : Value) (i13 : Value) (i14 : Value) (i15 : Value) (i16 : Value) (i : Nat) (x : Value × Value × Value) (s : St H) : (kBlock 0 (kSeq Try.prog false C n 28 none (cdp Try.f28 [1, 1, 1, 1, 1]) (kFun Try.prog Try.f28))) (.exit i) (f28_l0_m i0 i1 i2 i6 i11 i12 i13 i14 i15 i16 x) s =
 (bif Nat.beq i 0 then
 ((dOps (H := H) Try.prog).uop .not x.2.1).bind fun v103 =>
 jn (fun (j257_8 : Value) (js257 : St H) =>
 (C (.fn 79) [j257_8] js257).bind fun L113 => manyK L113 fun v114 s115 =>
 ((dOps (H := H) Try.prog).bop .neq 26 v114 (Go.Value.int Go.IntKind.i64 0)).bind fun v116 =>
 ((dOps (H := H) Try.prog).boolO v116).bind fun b117 => cond b117 (
 some [(.tuple #[(fzV 2 #[]), (Go.Value.int Go.IntKind.i64 40)], s115)]) (
 some [(.tuple #[j257_8, (Go.Value.int Go.IntKind.i64 0)], s115)])) fun k257 =>
 ((dOps (H := H) Try.prog).boolO v103).bind fun b104 => cond b104 (
 ((dOps (H := H) Try.prog).build 106 [(0, i1), (1, i2)]).bind fun v105 =>
 ((dOps (H := H) Try.prog).buildSlice false s 23 1 [(0, v105)]).bind fun p106 =>
 ((dOps (H := H) Try.prog).append false p106.2 23 23 x.1 p106.1).bind fun p107 =>
 k257 p107.1 p107.2) (
 k257 x.1 s) else none) := by kernel_rfl
theorem f28_r (C : OracleJ H) (n : Nat) (a0 : Value) (a1 : Value) (a2 : Value) (s : St H) : bodyD Try.prog false C n 28 Try.f28 [a0, a1, a2] s = f28 (dOps (H := H) Try.prog) C n a0 a1 a2 s := by
  have h1 : bodyD Try.prog false C n 28 Try.f28 [a0, a1, a2] s =
 (C (.fn 79) [a0] s).bind fun L81 => manyK L81 fun v82 s83 =>
 ((dOps (H := H) Try.prog).bop .neq 26 v82 (Go.Value.int Go.IntKind.i64 0)).bind fun v84 =>
 ((dOps (H := H) Try.prog).boolO v84).bind fun b85 => cond b85 (
 some [(.tuple #[(fzV 2 #[]), (Go.Value.int Go.IntKind.i64 40)], s83)]) (
 ((dOps (H := H) Try.prog).buildSlice false s83 23 0 []).bind fun p86 =>
 ((dOps (H := H) Try.prog).bop .eql 9 a2 (Go.Value.string { data := #[] })).bind fun v87 =>
 iter (fun t s k => exec Try.prog false C n 28 none (cdp Try.f28 [1, 1, 1, 1, 0, 1, 0, 0]) t s k) (scratch (cdp Try.f28 [1, 1, 1, 1, 0, 1, 0, 0])) n (f28_l0_m a0 a1 a2 (fzV 2 #[]) a0 v82 v84 p86.1 a2 v87 (p86.1, v87, (Go.Value.int Go.IntKind.i64 0))) p86.2 (kBlock 0 (kSeq Try.prog false C n 28 none (cdp Try.f28 [1, 1, 1, 1, 1]) (kFun Try.prog Try.f28)))) := by kernel_rfl
  rw [h1]
  simp only [f28_l0_e, f28_l0_k]
  show _ = f28 (dOps (H := H) Try.prog) C n a0 a1 a2 s
  kernel_rfl
/-! tidepole/label.Get -/
noncomputable def f29 (O : Ops H) (C : OracleJ H) (n : Nat) (a0 : Value) (a1 : Value) (s : St H) : Option (List (Value × St H)) :=
 (C (.fn 80) [a0, a1] s).bind fun L1 => manyK L1 fun v2 s3 =>
 (O.bop .geq 3 v2 (Go.Value.int Go.IntKind.i64 0)).bind fun v4 =>
 (O.boolO v4).bind fun b5 => cond b5 (
 (O.indexAddr 23 a0 v2).bind fun v6 =>
 (O.fieldAddr 106 v6 1).bind fun v7 =>
 (O.load s3 9 v7).bind fun v8 =>
 some [(v8, s3)]) (
 some [((Go.Value.string { data := #[] }), s3)])
theorem f29_r (C : OracleJ H) (n : Nat) (a0 : Value) (a1 : Value) (s : St H) : bodyD Try.prog false C n 29 Try.f29 [a0, a1] s = f29 (dOps (H := H) Try.prog) C n a0 a1 s := by kernel_rfl
/-! slices.Clone[tidepole/api.Labels,tidepole/api.Label] -/
noncomputable def f64 (O : Ops H) (C : OracleJ H) (n : Nat) (a0 : Value) (s : St H) : Option (List (Value × St H)) :=
 (O.bop .eql 23 a0 (fzV 2 #[])).bind fun v1 =>
 (O.boolO v1).bind fun b2 => cond b2 (
 some [((fzV 2 #[]), s)]) (
 (O.buildSlice true s 23 0 []).bind fun p3 =>
 (O.append true p3.2 23 23 p3.1 a0).bind fun p4 =>
 some [(p4.1, p4.2)])
theorem f64_r (C : OracleJ H) (n : Nat) (a0 : Value) (s : St H) : bodyD Try.prog true C n 64 Try.f64 [a0] s = f64 (dOps (H := H) Try.prog) C n a0 s := by kernel_rfl
/-! slices.SortStableFunc[tidepole/api.Labels,tidepole/api.Label] -/
noncomputable def f65 (O : Ops H) (C : OracleJ H) (n : Nat) (a0 : Value) (a1 : Value) (s : St H) : Option (List (Value × St H)) :=
 (O.len s 23 a0).bind fun v1 =>
 (C (.fn 116) [a0, v1, a1] s).bind fun L2 => manyK L2 fun v3 s4 =>
 some [(.tuple #[], s4)]
theorem f65_r (C : OracleJ H) (n : Nat) (a0 : Value) (a1 : Value) (s : St H) : bodyD Try.prog false C n 65 Try.f65 [a0, a1] s = f65 (dOps (H := H) Try.prog) C n a0 a1 s := by kernel_rfl
/-! tidepole/label.Sort$1 -/
noncomputable def f66 (O : Ops H) (C : OracleJ H) (n : Nat) (a0 : Value) (a1 : Value) (s : St H) : Option (List (Value × St H)) :=
 (O.box s a0).bind fun p1 =>
 (O.box p1.2 a1).bind fun p2 =>
 (O.fieldAddr 106 p1.1 0).bind fun v3 =>
 (O.load p2.2 9 v3).bind fun v4 =>
 (O.fieldAddr 106 p2.1 0).bind fun v5 =>
 (O.load p2.2 9 v5).bind fun v6 =>
 (C (.fn 67) [v4, v6] p2.2).bind fun L7 => manyK L7 fun v8 s9 =>
 some [(v8, s9)]
theorem f66_r (C : OracleJ H) (n : Nat) (a0 : Value) (a1 : Value) (s : St H) : bodyD Try.prog false C n 66 Try.f66 [a0, a1] s = f66 (dOps (H := H) Try.prog) C n a0 a1 s := by kernel_rfl
/-! tidepole/label.named -/
def f68_l0_m (i0 : Value) (i4 : Value) (i5 : Value) (x : Value × Value × Value) : List Value := [i0, undefV, x.1, x.2.1, i4, i5, x.2.2, dc, dc, dc, dc, dc, dc, dc, dc, dc, dc, undefV, undefV, undefV, undefV, undefV, undefV, undefV]
noncomputable def f68_l0 (O : Ops H) (C : OracleJ H) (n : Nat) (i0 : Value) (i5 : Value) (nx : (Value × Value × Value) → St H → Option (List (Value × St H))) (kx : Nat → (Value × Value × Value) → St H → Option (List (Value × St H))) (kr : (Value × Value × Value) → St H → Option (List (Value × St H))) (x : Value × Value × Value) (s : St H) : Option (List (Value × St H)) :=
 (O.bop .lss 3 x.2.2 i5).bind fun v2 =>
 (O.boolO v2).bind fun b3 => cond b3 (
 (O.index 9 i0 x.2.2).bind fun v4 =>
 (O.bop .eql 3 x.2.2 (Go.Value.int Go.IntKind.i64 0)).bind fun v5 =>
 (C (.fn 118) [v4, v5] s).bind fun L6 => manyK L6 fun v7 s8 =>
 (O.uop .not v7).bind fun v9 =>
 (O.boolO v9).bind fun b10 => cond b10 (
 kr ((.bool false), x.2.2, x.2.2) s8) (
 (O.bop .add 3 x.2.2 (Go.Value.int Go.IntKind.i64 1)).bind fun v11 =>
 nx (x.1, x.2.2, v11) s8)) (
 kx 0 (x.1, x.2.1, x.2.2) s)
theorem f68_l0_b (C : OracleJ H) (n : Nat) (i0 : Value) (i4 : Value) (i5 : Value) (x : Value × Value × Value) (s : St H) (nx : List Value → St H → Option (List (Value × St H))) (K : Ex → List Value → St H → Option (List (Value × St H))) :
 exec Try.prog false C n 68 none (cdp Try.f68 [1, 0, 1, 0, 0]) (f68_l0_m i0 i4 i5 x) s (kIter (scratch (cdp Try.f68 [1, 0, 1, 0, 0])) nx K) = f68_l0 (dOps (H := H) Try.prog) C n i0 i5 (fun x s => nx (f68_l0_m i0 i4 i5 x) s) (fun i x s => K (.exit i) (f68_l0_m i0 i4 i5 x) s) (fun x s => K .ret (f68_l0_m i0 i4 i5 x) s) x s := by kernel_rfl
theorem f68_l0_e (C : OracleJ H) (n : Nat) (i0 : Value) (i4 : Value) (i5 : Value) (m : Nat) (x : Value × Value × Value) (s : St H) (K : Ex → List Value → St H → Option (List (Value × St H))) :
 iter (fun t s k => exec Try.prog false C n 68 none (cdp Try.f68 [1, 0, 1, 0, 0]) t s k) (scratch (cdp Try.f68 [1, 0, 1, 0, 0])) m (f68_l0_m i0 i4 i5 x) s K = iterS (f68_l0 (dOps (H := H) Try.prog) C n i0 i5) (fun i x s => K (.exit i) (f68_l0_m i0 i4 i5 x) s) (fun x s => K .ret (f68_l0_m i0 i4 i5 x) s) m x s :=
   iter_eq (f68_l0_m i0 i4 i5) (f68_l0 (dOps (H := H) Try.prog) C n i0 i5) (fun x s nx K => f68_l0_b C n i0 i4 i5 x s nx K) K m x s
noncomputable def f68 (O : Ops H) (C : OracleJ H) (n : Nat) (a0 : Value) (s : St H) : Option (List (Value × St H)) :=
 (O.len s 9 a0).bind fun v1 =>
 iterS (f68_l0 O C n a0 v1 )
 (fun i12 x13 s14 => (bif Nat.beq i12 0 then
 (O.bop .neq 9 a0 (Go.Value.string { data := #[] })).bind fun v17 =>
 gd v17 (
 (O.len s14 9 a0).bind fun v18 =>
 (O.bop .leq 3 v18 (Go.Value.int Go.IntKind.i64 64)).bind fun v19 =>
 some [(v19, s14)]) (
 some [((.bool false), s14)]) (
 none) else none))
 (fun x15 s16 => some [(x15.1, s16)]) n ((.bool false), undefV, (Go.Value.int Go.IntKind.i64 0)) s
theorem f68_l0_k (C : OracleJ H) (n : Nat) (i0 : Value) (i4 : Value) (i5 : Value) (i : Nat) (x : Value × Value × Value) (s : St H) : (kBlock 0 (kSeq Try.prog false C n 68 none (cdp Try.f68 [1, 1]) (kFun Try.prog Try.f68))) (.exit i) (f68_l0_m i0 i4 i5 x) s =
 (bif Nat.beq i 0 then
 ((dOps (H := H) Try.prog).bop .neq 9 i0 (Go.Value.string { data := #[] })).bind fun v24 =>
 gd v24 (
 ((dOps (H := H) Try.prog).len s 9 i0).bind fun v25 =>
 ((dOps (H := H) Try.prog).bop .leq 3 v25 (Go.Value.int Go.IntKind.i64 64)).bind fun v26 =>
 some [(v26, s)]) (
 some [((.bool false), s)]) (
 none) else none) := by kernel_rfl
theorem f68_r (C : OracleJ H) (n : Nat) (a0 : Value) (s : St H) : bodyD Try.prog false C n 68 Try.f68 [a0] s = f68 (dOps (H := H) Try.prog) C n a0 s := by
  have h1 : bodyD Try.prog false C n 68 Try.f68 [a0] s =
 ((dOps (H := H) Try.prog).len s 9 a0).bind fun v20 =>
 iter (fun t s k => exec Try.prog false C n 68 none (cdp Try.f68 [1, 0, 1, 0, 0]) t s k) (scratch (cdp Try.f68 [1, 0, 1, 0, 0])) n (f68_l0_m a0 a0 v20 ((.bool false), undefV, (Go.Value.int Go.IntKind.i64 0))) s (kBlock 0 (kSeq Try.prog false C n 68 none (cdp Try.f68 [1, 1]) (kFun Try.prog Try.f68))) := by kernel_rfl
  rw [h1]
  simp only [f68_l0_e, f68_l0_k]
  show _ = f68 (dOps (H := H) Try.prog) C n a0 s
  kernel_rfl
/-! tidepole/vint.Put -/
noncomputable def f72 (O : Ops H) (C : OracleJ H) (n : Nat) (a0 : Value) (a1 : Value) (s : St H) : Option (List (Value × St H)) :=
 (C (.fn 123) [a0, a1, (.func (.func 124) #[] #[])] s).bind fun L1 => manyK L1 fun v2 s3 =>
 some [(v2, s3)]
theorem f72_r (C : OracleJ H) (n : Nat) (a0 : Value) (a1 : Value) (s : St H) : bodyD Try.prog false C n 72 Try.f72 [a0, a1] s = f72 (dOps (H := H) Try.prog) C n a0 a1 s := by kernel_rfl
/-! tidepole/vint.PutBytes -/
noncomputable def f73 (O : Ops H) (C : OracleJ H) (n : Nat) (a0 : Value) (a1 : Value) (s : St H) : Option (List (Value × St H)) :=
 (O.len s 35 a1).bind fun v1 =>
 (O.bop .gtr 3 v1 (Go.Value.int Go.IntKind.i64 65536)).bind fun v2 =>
 (O.boolO v2).bind fun b3 => cond b3 (
 some [(.tuple #[(fzV 2 #[]), (Go.Value.int Go.IntKind.i64 3)], s)]) (
 (O.len s 35 a1).bind fun v4 =>
 (O.conv false s 3 70 v4).bind fun p5 =>
 (C (.fn 72) [a0, p5.1] p5.2).bind fun L6 => manyK L6 fun v7 s8 =>
 (O.append false s8 35 35 v7 a1).bind fun p9 =>
 some [(.tuple #[p9.1, (Go.Value.int Go.IntKind.i64 0)], p9.2)])
theorem f73_r (C : OracleJ H) (n : Nat) (a0 : Value) (a1 : Value) (s : St H) : bodyD Try.prog false C n 73 Try.f73 [a0, a1] s = f73 (dOps (H := H) Try.prog) C n a0 a1 s := by kernel_rfl
/-! tidepole/vint.Read -/
def f74_l0_m (i0 : Value) (i1 : Value) (i10 : Value) (i11 : Value) (i13 : Value) (i14 : Value) (i15 : Value) (i16 : Value) (i17 : Value) (i18 : Value) (i19 : Value) (i20 : Value) (i21 : Value) (x : Value × Value × Value × Value × Value × Value × Value × Value) : List Value := [i0, i1, undefV, undefV, x.1, x.2.1, x.2.2.1, x.2.2.2.1, x.2.2.2.2.1, x.2.2.2.2.2.1, i10, i11, (.bool false), i13, i14, i15, i16, i17, i18, i19, i20, i21, x.2.2.2.2.2.2.1, dc, dc, dc, dc, x.2.2.2.2.2.2.2, dc, dc, dc, dc, dc, dc, dc, dc, dc, dc, dc, dc, dc, dc, dc, dc, dc, dc, dc, dc, dc, dc, dc, dc, dc, dc, dc, dc]
noncomputable def f74_l0 (O : Ops H) (C : OracleJ H) (n : Nat) (i1 : Value) (i20 : Value) (i21 : Value) (nx : (Value × Value × Value × Value × Value × Value × Value × Value) → St H → Option (List (Value × St H))) (kx : Nat → (Value × Value × Value × Value × Value × Value × Value × Value) → St H → Option (List (Value × St H))) (kr : (Value × Value × Value × Value × Value × Value × Value × Value) → St H → Option (List (Value × St H))) (x : Value × Value × Value × Value × Value × Value × Value × Value) (s : St H) : Option (List (Value × St H)) :=
 (O.bop .lss 3 x.2.2.2.2.2.2.1 i21).bind fun v9 =>
 (O.boolO v9).bind fun b10 => cond b10 (
 (O.indexAddr 35 i20 x.2.2.2.2.2.2.1).bind fun v11 =>
 (O.load s 5 v11).bind fun v12 =>
 jn (fun (j319_27 : Value) =>
 jn (fun (j326_27 : Value) =>
 (O.boolO j326_27).bind fun b24 => cond b24 (
 kr ((Go.Value.int Go.IntKind.u64 0), (Go.Value.int Go.IntKind.i64 0), (Go.Value.int Go.IntKind.i64 10), x.2.2.2.1, x.2.2.2.2.2.2.1, v12, x.2.2.2.2.2.2.1, j326_27) s) (
 (O.bop .and 5 v12 (Go.Value.int Go.IntKind.u8 127)).bind fun v25 =>
 (O.conv false s 5 70 v25).bind fun p26 =>
 (O.bop .mul 3 (Go.Value.int Go.IntKind.i64 7) x.2.2.2.2.2.2.1).bind fun v27 =>
 (O.bop .shl 70 p26.1 v27).bind fun v28 =>
 (O.bop .or 70 x.2.2.2.1 v28).bind fun v29 =>
 (O.bop .lss 5 v12 (Go.Value.int Go.IntKind.u8 128)).bind fun v30 =>
 (O.boolO v30).bind fun b31 => cond b31 (
 (O.bop .add 3 i1 x.2.2.2.2.2.2.1).bind fun v32 =>
 (O.bop .add 3 v32 (Go.Value.int Go.IntKind.i64 1)).bind fun v33 =>
 kr (v29, v33, (Go.Value.int Go.IntKind.i64 0), v29, x.2.2.2.2.2.2.1, v12, x.2.2.2.2.2.2.1, j326_27) p26.2) (
 (O.bop .add 3 x.2.2.2.2.2.2.1 (Go.Value.int Go.IntKind.i64 1)).bind fun v34 =>
 nx (x.1, x.2.1, x.2.2.1, v29, x.2.2.2.2.2.2.1, v12, v34, j326_27) p26.2))) fun k326 =>
 (O.boolO j319_27).bind fun b20 => cond b20 (
 k326 j319_27) (
 jn (fun (j327_27 : Value) =>
 k326 j327_27) fun k327 =>
 (O.bop .gtr 3 x.2.2.2.2.2.2.1 (Go.Value.int Go.IntKind.i64 0)).bind fun v21 =>
 gd v21 (
 (O.bop .eql 5 v12 (Go.Value.int Go.IntKind.u8 0)).bind fun v22 =>
 k327 v22) (
 k327 (.bool false)) (
 none))) fun k319 =>
 (O.bop .eql 3 x.2.2.2.2.2.2.1 (Go.Value.int Go.IntKind.i64 9)).bind fun v13 =>
 gd v13 (
 (O.bop .gtr 5 v12 (Go.Value.int Go.IntKind.u8 1)).bind fun v14 =>
 k319 v14) (
 k319 (.bool false)) (
 none)) (
 kx 0 (x.1, x.2.1, x.2.2.1, x.2.2.2.1, x.2.2.2.2.1, x.2.2.2.2.2.1, x.2.2.2.2.2.2.1, x.2.2.2.2.2.2.2) s)
theorem f74_l0_b (C : OracleJ H) (n : Nat) (i0 : Value) (i1 : Value) (i10 : Value) (i11 : Value) (i13 : Value) (i14 : Value) (i15 : Value) (i16 : Value) (i17 : Value) (i18 : Value) (i19 : Value) (i20 : Value) (i21 : Value) (x : Value × Value × Value × Value × Value × Value × Value × Value) (s : St H) (nx : List Value → St H → Option (List (Value × St H))) (K : Ex → List Value → St H → Option (List (Value × St H))) :
 exec Try.prog false C n 74 none (cdp Try.f74 [1, 1, 1, 0, 1, 0, 0]) (f74_l0_m i0 i1 i10 i11 i13 i14 i15 i16 i17 i18 i19 i20 i21 x) s (kIter (scratch (cdp Try.f74 [1, 1, 1, 0, 1, 0, 0])) nx K) = f74_l0 (dOps (H := H) Try.prog) C n i1 i20 i21 (fun x s => nx (f74_l0_m i0 i1 i10 i11 i13 i14 i15 i16 i17 i18 i19 i20 i21 x) s) (fun i x s => K (.exit i) (f74_l0_m i0 i1 i10 i11 i13 i14 i15 i16 i17 i18 i19 i20 i21 x) s) (fun x s => K .ret (f74_l0_m i0 i1 i10 i11 i13 i14 i15 i16 i17 i18 i19 i20 i21 x) s) x s := by kernel_rfl
theorem f74_l0_e (C : OracleJ H) (n : Nat) (i0 : Value) (i1 : Value) (i10 : Value) (i11 : Value) (i13 : Value) (i14 : Value) (i15 : Value) (i16 : Value) (i17 : Value) (i18 : Value) (i19 : Value) (i20 : Value) (i21 : Value) (m : Nat) (x : Value × Value × Value × Value × Value × Value × Value × Value) (s : St H) (K : Ex → List Value → St H → Option (List (Value × St H))) :
 iter (fun t s k => exec Try.prog false C n 74 none (cdp Try.f74 [1, 1, 1, 0, 1, 0, 0]) t s k) (scratch (cdp Try.f74 [1, 1, 1, 0, 1, 0, 0])) m (f74_l0_m i0 i1 i10 i11 i13 i14 i15 i16 i17 i18 i19 i20 i21 x) s K = iterS (f74_l0 (dOps (H := H) Try.prog) C n i1 i20 i21) (fun i x s => K (.exit i) (f74_l0_m i0 i1 i10 i11 i13 i14 i15 i16 i17 i18 i19 i20 i21 x) s) (fun x s => K .ret (f74_l0_m i0 i1 i10 i11 i13 i14 i15 i16 i17 i18 i19 i20 i21 x) s) m x s :=
   iter_eq (f74_l0_m i0 i1 i10 i11 i13 i14 i15 i16 i17 i18 i19 i20 i21) (f74_l0 (dOps (H := H) Try.prog) C n i1 i20 i21) (fun x s nx K => f74_l0_b C n i0 i1 i10 i11 i13 i14 i15 i16 i17 i18 i19 i20 i21 x s nx K) K m x s
noncomputable def f74 (O : Ops H) (C : OracleJ H) (n : Nat) (a0 : Value) (a1 : Value) (s : St H) : Option (List (Value × St H)) :=
 (O.bop .lss 3 a1 (Go.Value.int Go.IntKind.i64 0)).bind fun v1 =>
 gd v1 (
 some [(.tuple #[(Go.Value.int Go.IntKind.u64 0), (Go.Value.int Go.IntKind.i64 0), (Go.Value.int Go.IntKind.i64 2)], s)]) (
 (O.len s 35 a0).bind fun v2 =>
 (O.bop .gtr 3 a1 v2).bind fun v3 =>
 (O.boolO v3).bind fun b6 => cond b6 (
 some [(.tuple #[(Go.Value.int Go.IntKind.u64 0), (Go.Value.int Go.IntKind.i64 0), (Go.Value.int Go.IntKind.i64 2)], s)]) (
 (O.slc s 35 a0 (some a1) none none).bind fun v7 =>
 (O.len s 35 v7).bind fun v8 =>
 iterS (f74_l0 O C n a1 v7 v8 )
 (fun i35 x36 s37 => (bif Nat.beq i35 0 then
 some [(.tuple #[(Go.Value.int Go.IntKind.u64 0), (Go.Value.int Go.IntKind.i64 0), (Go.Value.int Go.IntKind.i64 7)], s37)] else none))
 (fun x38 s39 => some [(.tuple #[x38.1, x38.2.1, x38.2.2.1], s39)]) n ((Go.Value.int Go.IntKind.u64 0), (Go.Value.int Go.IntKind.i64 0), (Go.Value.int Go.IntKind.i64 0), (Go.Value.int Go.IntKind.u64 0), undefV, undefV, (Go.Value.int Go.IntKind.i64 0), undefV) s)) (
 none)
theorem f74_l0_k (C : OracleJ H) (n : Nat) (i0 : Value) (i1 : Value) (i10 : Value) (i11 : Value) (i13 : Value) (i14 : Value) (i15 : Value) (i16 : Value) (i17 : Value) (i18 : Value) (i19 : Value) (i20 : Value) (i21 : Value) (i : Nat) (x : Value × Value × Value × Value × Value × Value × Value × Value) (s : St H) : (kBlock 0 (kSeq Try.prog false C n 74 none (cdp Try.f74 [1, 1, 1, 1]) (kFun Try.prog Try.f74))) (.exit i) (f74_l0_m i0 i1 i10 i11 i13 i14 i15 i16 i17 i18 i19 i20 i21 x) s =
 (bif Nat.beq i 0 then
 some [(.tuple #[(Go.Value.int Go.IntKind.u64 0), (Go.Value.int Go.IntKind.i64 0), (Go.Value.int Go.IntKind.i64 7)], s)] else none) := by kernel_rfl
theorem f74_r (C : OracleJ H) (n : Nat) (a0 : Value) (a1 : Value) (s : St H) : bodyD Try.prog false C n 74 Try.f74 [a0, a1] s = f74 (dOps (H := H) Try.prog) C n a0 a1 s := by
  have h1 : bodyD Try.prog false C n 74 Try.f74 [a0, a1] s =
 ((dOps (H := H) Try.prog).bop .lss 3 a1 (Go.Value.int Go.IntKind.i64 0)).bind fun v40 =>
 gd v40 (
 some [(.tuple #[(Go.Value.int Go.IntKind.u64 0), (Go.Value.int Go.IntKind.i64 0), (Go.Value.int Go.IntKind.i64 2)], s)]) (
 ((dOps (H := H) Try.prog).len s 35 a0).bind fun v41 =>
 ((dOps (H := H) Try.prog).bop .gtr 3 a1 v41).bind fun v42 =>
 ((dOps (H := H) Try.prog).boolO v42).bind fun b45 => cond b45 (
 some [(.tuple #[(Go.Value.int Go.IntKind.u64 0), (Go.Value.int Go.IntKind.i64 0), (Go.Value.int Go.IntKind.i64 2)], s)]) (
 ((dOps (H := H) Try.prog).slc s 35 a0 (some a1) none none).bind fun v46 =>
 ((dOps (H := H) Try.prog).len s 35 v46).bind fun v47 =>
 iter (fun t s k => exec Try.prog false C n 74 none (cdp Try.f74 [1, 1, 1, 0, 1, 0, 0]) t s k) (scratch (cdp Try.f74 [1, 1, 1, 0, 1, 0, 0])) n (f74_l0_m a0 a1 a1 v40 a1 a0 v41 v42 v42 a0 a1 v46 v47 ((Go.Value.int Go.IntKind.u64 0), (Go.Value.int Go.IntKind.i64 0), (Go.Value.int Go.IntKind.i64 0), (Go.Value.int Go.IntKind.u64 0), undefV, undefV, (Go.Value.int Go.IntKind.i64 0), undefV)) s (kBlock 0 (kSeq Try.prog false C n 74 none (cdp Try.f74 [1, 1, 1, 1]) (kFun Try.prog Try.f74))))) (
 none) := by kernel_rfl
  rw [h1]
  simp only [f74_l0_e, f74_l0_k]
  show _ = f74 (dOps (H := H) Try.prog) C n a0 a1 s
  kernel_rfl
/-! slices.DeleteFunc[tidepole/api.Labels,tidepole/api.Label] -/
def f76_l0_m (i0 : Value) (i1 : Value) (i4 : Value) (i8 : Value) (i9 : Value) (i10 : Value) (i11 : Value) (i12 : Value) (i14 : Value) (i15 : Value) (x : Value × Value) : List Value := [i0, i1, undefV, undefV, i4, x.1, x.2, dc, i8, i9, i10, i11, i12, undefV, i14, i15, dc, dc, dc, dc, dc, dc, dc, dc, dc, dc, dc, dc, dc, dc, dc, dc, dc, dc, dc, dc, undefV, undefV, undefV, undefV, undefV, undefV]
noncomputable def f76_l0 (O : Ops H) (C : OracleJ H) (n : Nat) (i0 : Value) (i1 : Value) (nx : (Value × Value) → St H → Option (List (Value × St H))) (kx : Nat → (Value × Value) → St H → Option (List (Value × St H))) (kr : (Value × Value) → St H → Option (List (Value × St H))) (x : Value × Value) (s : St H) : Option (List (Value × St H)) :=
 (O.len s 23 i0).bind fun v7 =>
 (O.bop .lss 3 x.2 v7).bind fun v8 =>
 (O.boolO v8).bind fun b9 => cond b9 (
 (O.indexAddr 23 i0 x.2).bind fun v10 =>
 (O.load s 106 v10).bind fun v11 =>
 (O.alloc s 106).bind fun p12 =>
 (O.store p12.2 106 p12.1 v11).bind fun s13 =>
 (O.load s13 106 p12.1).bind fun v14 =>
 (O.tgt i1 [v14]).bind fun g15 => (C g15.1 g15.2 s13).bind fun L16 => manyK L16 fun v17 s18 =>
 (O.uop .not v17).bind fun v19 =>
 jn (fun (j361_5 : Value) (js361 : St H) =>
 (O.bop .add 3 x.2 (Go.Value.int Go.IntKind.i64 1)).bind fun v25 =>
 nx (j361_5, v25) js361) fun k361 =>
 (O.boolO v19).bind fun b20 => cond b20 (
 (O.load s18 106 p12.1).bind fun v21 =>
 (O.indexAddr 23 i0 x.1).bind fun v22 =>
 (O.store s18 106 v22 v21).bind fun s23 =>
 (O.bop .add 3 x.1 (Go.Value.int Go.IntKind.i64 1)).bind fun v24 =>
 k361 v24 s23) (
 k361 x.1 s18)) (
 kx 0 (x.1, x.2) s)
theorem f76_l0_b (C : OracleJ H) (n : Nat) (i0 : Value) (i1 : Value) (i4 : Value) (i8 : Value) (i9 : Value) (i10 : Value) (i11 : Value) (i12 : Value) (i14 : Value) (i15 : Value) (x : Value × Value) (s : St H) (nx : List Value → St H → Option (List (Value × St H))) (K : Ex → List Value → St H → Option (List (Value × St H))) :
 exec Try.prog false C n 76 none (cdp Try.f76 [1, 1, 1, 0, 1, 0, 0]) (f76_l0_m i0 i1 i4 i8 i9 i10 i11 i12 i14 i15 x) s (kIter (scratch (cdp Try.f76 [1, 1, 1, 0, 1, 0, 0])) nx K) = f76_l0 (dOps (H := H) Try.prog) C n i0 i1 (fun x s => nx (f76_l0_m i0 i1 i4 i8 i9 i10 i11 i12 i14 i15 x) s) (fun i x s => K (.exit i) (f76_l0_m i0 i1 i4 i8 i9 i10 i11 i12 i14 i15 x) s) (fun x s => K .ret (f76_l0_m i0 i1 i4 i8 i9 i10 i11 i12 i14 i15 x) s) x s := by kernel_rfl
theorem f76_l0_e (C : OracleJ H) (n : Nat) (i0 : Value) (i1 : Value) (i4 : Value) (i8 : Value) (i9 : Value) (i10 : Value) (i11 : Value) (i12 : Value) (i14 : Value) (i15 : Value) (m : Nat) (x : Value × Value) (s : St H) (K : Ex → List Value → St H → Option (List (Value × St H))) :
 iter (fun t s k => exec Try.prog false C n 76 none (cdp Try.f76 [1, 1, 1, 0, 1, 0, 0]) t s k) (scratch (cdp Try.f76 [1, 1, 1, 0, 1, 0, 0])) m (f76_l0_m i0 i1 i4 i8 i9 i10 i11 i12 i14 i15 x) s K = iterS (f76_l0 (dOps (H := H) Try.prog) C n i0 i1) (fun i x s => K (.exit i) (f76_l0_m i0 i1 i4 i8 i9 i10 i11 i12 i14 i15 x) s) (fun x s => K .ret (f76_l0_m i0 i1 i4 i8 i9 i10 i11 i12 i14 i15 x) s) m x s :=
   iter_eq (f76_l0_m i0 i1 i4 i8 i9 i10 i11 i12 i14 i15) (f76_l0 (dOps (H := H) Try.prog) C n i0 i1) (fun x s nx K => f76_l0_b C n i0 i1 i4 i8 i9 i10 i11 i12 i14 i15 x s nx K) K m x s
noncomputable def f76 (O : Ops H) (C : OracleJ H) (n : Nat) (a0 : Value) (a1 : Value) (s : St H) : Option (List (Value × St H)) :=
 (C (.fn 126) [a0, a1] s).bind fun L1 => manyK L1 fun v2 s3 =>
 (O.bop .eql 3 v2 (Go.Value.int Go.IntKind.i64 (-1))).bind fun v4 =>
 (O.boolO v4).bind fun b5 => cond b5 (
 some [(a0, s3)]) (
 (O.bop .add 3 v2 (Go.Value.int Go.IntKind.i64 1)).bind fun v6 =>
 iterS (f76_l0 O C n a0 a1 )
 (fun i26 x27 s28 => (bif Nat.beq i26 0 then
 (O.slc s28 23 a0 (some x27.1) none none).bind fun v31 =>
 (O.clear s28 23 v31).bind fun s32 =>
 (O.slc s32 23 a0 none (some x27.1) none).bind fun v33 =>
 some [(v33, s32)] else none))
 (fun x29 s30 => some [((fzV 2 #[]), s30)]) n (v2, v6) s3)
theorem f76_l0_k (C : OracleJ H) (n : Nat) (i0 : Value) (i1 : Value) (i4 : Value) (i8 : Value) (i9 : Value) (i10 : Value) (i11 : Value) (i12 : Value) (i14 : Value) (i15 : Value) (i : Nat) (x : Value × Value) (s : St H) : (kBlock 0 (kSeq Try.prog false C n 76 none (cdp Try.f76 [1, 1, 1, 1]) (kFun Try.prog Try.f76))) (.exit i) (f76_l0_m i0 i1 i4 i8 i9 i10 i11 i12 i14 i15 x) s =
 (bif Nat.beq i 0 then
 ((dOps (H := H) Try.prog).slc s 23 i0 (some x.1) none none).bind fun v43 =>
 ((dOps (H := H) Try.prog).clear s 23 v43).bind fun s44 =>
 ((dOps (H := H) Try.prog).slc s44 23 i0 none (some x.1) none).bind fun v45 =>
 some [(v45, s44)] else none) := by kernel_rfl
theorem f76_r (C : OracleJ H) (n : Nat) (a0 : Value) (a1 : Value) (s : St H) : bodyD Try.prog false C n 76 Try.f76 [a0, a1] s = f76 (dOps (H := H) Try.prog) C n a0 a1 s := by
  have h1 : bodyD Try.prog false C n 76 Try.f76 [a0, a1] s =
 (C (.fn 126) [a0, a1] s).bind fun L34 => manyK L34 fun v35 s36 =>
 ((dOps (H := H) Try.prog).bop .eql 3 v35 (Go.Value.int Go.IntKind.i64 (-1))).bind fun v37 =>
 ((dOps (H := H) Try.prog).boolO v37).bind fun b38 => cond b38 (
 some [(a0, s36)]) (
 ((dOps (H := H) Try.prog).bop .add 3 v35 (Go.Value.int Go.IntKind.i64 1)).bind fun v39 =>
 iter (fun t s k => exec Try.prog false C n 76 none (cdp Try.f76 [1, 1, 1, 0, 1, 0, 0]) t s k) (scratch (cdp Try.f76 [1, 1, 1, 0, 1, 0, 0])) n (f76_l0_m a0 a1 (fzV 2 #[]) a0 a1 v35 v35 v37 v35 v39 (v35, v39)) s36 (kBlock 0 (kSeq Try.prog false C n 76 none (cdp Try.f76 [1, 1, 1, 1]) (kFun Try.prog Try.f76)))) := by kernel_rfl
  rw [h1]
  simp only [f76_l0_e, f76_l0_k]
  show _ = f76 (dOps (H := H) Try.prog) C n a0 a1 s
  kernel_rfl
/-! tidepole/label.With$1 -/
noncomputable def f77 (O : Ops H) (C : OracleJ H) (n : Nat) (a0 : Value) (a1 : Value) (s : St H) : Option (List (Value × St H)) :=
 (O.box s a0).bind fun p1 =>
 (O.fieldAddr 106 p1.1 0).bind fun v2 =>
 (O.load p1.2 9 v2).bind fun v3 =>
 (O.load p1.2 9 a1).bind fun v4 =>
 (O.bop .eql 9 v3 v4).bind fun v5 =>
 some [(v5, p1.2)]
theorem f77_r (C : OracleJ H) (n : Nat) (a0 : Value) (a1 : Value) (s : St H) : bodyD Try.prog false C n 77 Try.f77 [a0, a1] s = f77 (dOps (H := H) Try.prog) C n a0 a1 s := by kernel_rfl
/-! tidepole/tidepoleref04.Check -/
def f79_l0_m (i0 : Value) (i4 : Value) (i5 : Value) (i6 : Value) (i8 : Value) (i9 : Value) (i10 : Value) (i11 : Value) (x : Value × Value) : List Value := [i0, undefV, x.1, x.2, i4, i5, i6, (.bool false), i8, i9, i10, i11, dc, dc, dc, dc, dc, dc, dc, dc, dc, dc, dc, dc, dc, dc, dc, dc, dc, dc, dc, dc, dc, dc, dc, dc, dc, dc, dc, dc, dc, dc, dc, dc, dc, dc, dc, dc, dc, dc, dc, dc, dc, dc, dc, dc, dc, dc, dc, dc]
noncomputable def f79_l0 (O : Ops H) (C : OracleJ H) (n : Nat) (i0 : Value) (nx : (Value × Value) → St H → Option (List (Value × St H))) (kx : Nat → (Value × Value) → St H → Option (List (Value × St H))) (kr : (Value × Value) → St H → Option (List (Value × St H))) (x : Value × Value) (s : St H) : Option (List (Value × St H)) :=
 (O.len s 23 i0).bind fun v8 =>
 (O.bop .lss 3 x.2 v8).bind fun v9 =>
 (O.boolO v9).bind fun b10 => cond b10 (
 (O.indexAddr 23 i0 x.2).bind fun v11 =>
 (O.fieldAddr 106 v11 0).bind fun v12 =>
 (O.load s 9 v12).bind fun v13 =>
 (oneO C (.fn 129) [v13] s).bind fun p14 =>
 (O.uop .not p14.1).bind fun v15 =>
 gd v15 (
 kr ((Go.Value.int Go.IntKind.i64 40), x.2) p14.2) (
 (O.indexAddr 23 i0 x.2).bind fun v16 =>
 (O.fieldAddr 106 v16 1).bind fun v17 =>
 (O.load p14.2 9 v17).bind fun v18 =>
 (O.bop .eql 9 v18 (Go.Value.string { data := #[] })).bind fun v19 =>
 gd v19 (
 kr ((Go.Value.int Go.IntKind.i64 40), x.2) p14.2) (
 (O.indexAddr 23 i0 x.2).bind fun v20 =>
 (O.fieldAddr 106 v20 1).bind fun v21 =>
 (O.load p14.2 9 v21).bind fun v22 =>
 (O.len p14.2 9 v22).bind fun v23 =>
 (O.bop .gtr 3 v23 (Go.Value.int Go.IntKind.i64 256)).bind fun v24 =>
 gd v24 (
 kr ((Go.Value.int Go.IntKind.i64 40), x.2) p14.2) (
 (O.bop .gtr 3 x.2 (Go.Value.int Go.IntKind.i64 0)).bind fun v25 =>
 gd v25 (
 (O.bop .sub 3 x.2 (Go.Value.int Go.IntKind.i64 1)).bind fun v26 =>
 (O.indexAddr 23 i0 v26).bind fun v27 =>
 (O.fieldAddr 106 v27 0).bind fun v28 =>
 (O.load p14.2 9 v28).bind fun v29 =>
 (O.indexAddr 23 i0 x.2).bind fun v30 =>
 (O.fieldAddr 106 v30 0).bind fun v31 =>
 (O.load p14.2 9 v31).bind fun v32 =>
 (O.bop .geq 9 v29 v32).bind fun v33 =>
 (O.boolO v33).bind fun b38 => cond b38 (
 kr ((Go.Value.int Go.IntKind.i64 40), x.2) p14.2) (
 (O.bop .add 3 x.2 (Go.Value.int Go.IntKind.i64 1)).bind fun v41 =>
 nx (x.1, v41) p14.2)) (
 (O.bop .add 3 x.2 (Go.Value.int Go.IntKind.i64 1)).bind fun v42 =>
 nx (x.1, v42) p14.2) (
 none)) (
 none)) (
 none)) (
 none)) (
 kx 0 (x.1, x.2) s)
theorem f79_l0_b (C : OracleJ H) (n : Nat) (i0 : Value) (i4 : Value) (i5 : Value) (i6 : Value) (i8 : Value) (i9 : Value) (i10 : Value) (i11 : Value) (x : Value × Value) (s : St H) (nx : List Value → St H → Option (List (Value × St H))) (K : Ex → List Value → St H → Option (List (Value × St H))) :
 exec Try.prog false C n 79 none (cdp Try.f79 [1, 1, 0, 1, 0, 0]) (f79_l0_m i0 i4 i5 i6 i8 i9 i10 i11 x) s (kIter (scratch (cdp Try.f79 [1, 1, 0, 1, 0, 0])) nx K) = f79_l0 (dOps (H := H) Try.prog) C n i0 (fun x s => nx (f79_l0_m i0 i4 i5 i6 i8 i9 i10 i11 x) s) (fun i x s => K (.exit i) (f79_l0_m i0 i4 i5 i6 i8 i9 i10 i11 x) s) (fun x s => K .ret (f79_l0_m i0 i4 i5 i6 i8 i9 i10 i11 x) s) x s := by kernel_rfl
theorem f79_l0_e (C : OracleJ H) (n : Nat) (i0 : Value) (i4 : Value) (i5 : Value) (i6 : Value) (i8 : Value) (i9 : Value) (i10 : Value) (i11 : Value) (m : Nat) (x : Value × Value) (s : St H) (K : Ex → List Value → St H → Option (List (Value × St H))) :
 iter (fun t s k => exec Try.prog false C n 79 none (cdp Try.f79 [1, 1, 0, 1, 0, 0]) t s k) (scratch (cdp Try.f79 [1, 1, 0, 1, 0, 0])) m (f79_l0_m i0 i4 i5 i6 i8 i9 i10 i11 x) s K = iterS (f79_l0 (dOps (H := H) Try.prog) C n i0) (fun i x s => K (.exit i) (f79_l0_m i0 i4 i5 i6 i8 i9 i10 i11 x) s) (fun x s => K .ret (f79_l0_m i0 i4 i5 i6 i8 i9 i10 i11 x) s) m x s :=
   iter_eq (f79_l0_m i0 i4 i5 i6 i8 i9 i10 i11) (f79_l0 (dOps (H := H) Try.prog) C n i0) (fun x s nx K => f79_l0_b C n i0 i4 i5 i6 i8 i9 i10 i11 x s nx K) K m x s
noncomputable def f79 (O : Ops H) (C : OracleJ H) (n : Nat) (a0 : Value) (s : St H) : Option (List (Value × St H)) :=
 (O.len s 23 a0).bind fun v1 =>
 (O.bop .lss 3 v1 (Go.Value.int Go.IntKind.i64 1)).bind fun v2 =>
 gd v2 (
 some [((Go.Value.int Go.IntKind.i64 40), s)]) (
 (O.len s 23 a0).bind fun v3 =>
 (O.bop .gtr 3 v3 (Go.Value.int Go.IntKind.i64 16)).bind fun v4 =>
 (O.boolO v4).bind fun b7 => cond b7 (
 some [((Go.Value.int Go.IntKind.i64 40), s)]) (
 iterS (f79_l0 O C n a0 )
 (fun i43 x44 s45 => (bif Nat.beq i43 0 then
 some [((Go.Value.int Go.IntKind.i64 0), s45)] else none))
 (fun x46 s47 => some [(x46.1, s47)]) n ((Go.Value.int Go.IntKind.i64 0), (Go.Value.int Go.IntKind.i64 0)) s)) (
 none)
theorem f79_l0_k (C : OracleJ H) (n : Nat) (i0 : Value) (i4 : Value) (i5 : Value) (i6 : Value) (i8 : Value) (i9 : Value) (i10 : Value) (i11 : Value) (i : Nat) (x : Value × Value) (s : St H) : (kBlock 0 (kSeq Try.prog false C n 79 none (cdp Try.f79 [1, 1, 1]) (kFun Try.prog Try.f79))) (.exit i) (f79_l0_m i0 i4 i5 i6 i8 i9 i10 i11 x) s =
 (bif Nat.beq i 0 then
 some [((Go.Value.int Go.IntKind.i64 0), s)] else none) := by kernel_rfl
theorem f79_r (C : OracleJ H) (n : Nat) (a0 : Value) (s : St H) : bodyD Try.prog false C n 79 Try.f79 [a0] s = f79 (dOps (H := H) Try.prog) C n a0 s := by
  have h1 : bodyD Try.prog false C n 79 Try.f79 [a0] s =
 ((dOps (H := H) Try.prog).len s 23 a0).bind fun v48 =>
 ((dOps (H := H) Try.prog).bop .lss 3 v48 (Go.Value.int Go.IntKind.i64 1)).bind fun v49 =>
 gd v49 (
 some [((Go.Value.int Go.IntKind.i64 40), s)]) (
 ((dOps (H := H) Try.prog).len s 23 a0).bind fun v50 =>
 ((dOps (H := H) Try.prog).bop .gtr 3 v50 (Go.Value.int Go.IntKind.i64 16)).bind fun v51 =>
 ((dOps (H := H) Try.prog).boolO v51).bind fun b54 => cond b54 (
 some [((Go.Value.int Go.IntKind.i64 40), s)]) (
 iter (fun t s k => exec Try.prog false C n 79 none (cdp Try.f79 [1, 1, 0, 1, 0, 0]) t s k) (scratch (cdp Try.f79 [1, 1, 0, 1, 0, 0])) n (f79_l0_m a0 a0 v48 v49 a0 v50 v51 v51 ((Go.Value.int Go.IntKind.i64 0), (Go.Value.int Go.IntKind.i64 0))) s (kBlock 0 (kSeq Try.prog false C n 79 none (cdp Try.f79 [1, 1, 1]) (kFun Try.prog Try.f79))))) (
 none) := by kernel_rfl
  rw [h1]
  simp only [f79_l0_e, f79_l0_k]
  show _ = f79 (dOps (H := H) Try.prog) C n a0 s
  kernel_rfl
/-! tidepole/label.at -/
noncomputable def f80 (O : Ops H) (C : OracleJ H) (n : Nat) (a0 : Value) (a1 : Value) (s : St H) : Option (List (Value × St H)) :=
 (O.box s a1).bind fun p1 =>
 (C (.fn 126) [a0, (.func (.func 130) #[] #[p1.1])] p1.2).bind fun L2 => manyK L2 fun v3 s4 =>
 some [(v3, s4)]
theorem f80_r (C : OracleJ H) (n : Nat) (a0 : Value) (a1 : Value) (s : St H) : bodyD Try.prog false C n 80 Try.f80 [a0, a1] s = f80 (dOps (H := H) Try.prog) C n a0 a1 s := by kernel_rfl
/-! slices.stableCmpFunc[tidepole/api.Label] -/
def f116_l0_m (i0 : Value) (i1 : Value) (i2 : Value) (x : Value × Value) : List Value := [i0, i1, i2, undefV, undefV, undefV, (Go.Value.int Go.IntKind.i64 20), x.1, x.2, undefV, (Go.Value.int Go.IntKind.i64 20), dc, dc, dc, dc, dc, dc, dc, dc, dc, dc, dc, dc, undefV, undefV, undefV, undefV, undefV, undefV, undefV, undefV, undefV, undefV, undefV, undefV, undefV, undefV, undefV, undefV, undefV, undefV, undefV, undefV, undefV, undefV, undefV, undefV, undefV, undefV, undefV, undefV, undefV, undefV, undefV, undefV, undefV, undefV, undefV, undefV, undefV, undefV, undefV, undefV]
noncomputable def f116_l0 (O : Ops H) (C : OracleJ H) (n : Nat) (i0 : Value) (i1 : Value) (i2 : Value) (nx : (Value × Value) → St H → Option (List (Value × St H))) (kx : Nat → (Value × Value) → St H → Option (List (Value × St H))) (kr : (Value × Value) → St H → Option (List (Value × St H))) (x : Value × Value) (s : St H) : Option (List (Value × St H)) :=
 (O.bop .leq 3 x.2 i1).bind fun v1 =>
 (O.boolO v1).bind fun b2 => cond b2 (
 (C (.fn 159) [i0, x.1, x.2, i2] s).bind fun L3 => manyK L3 fun v4 s5 =>
 (O.bop .add 3 x.2 (Go.Value.int Go.IntKind.i64 20)).bind fun v6 =>
 nx (x.2, v6) s5) (
 kx 0 (x.1, x.2) s)
theorem f116_l0_b (C : OracleJ H) (n : Nat) (i0 : Value) (i1 : Value) (i2 : Value) (x : Value × Value) (s : St H) (nx : List Value → St H → Option (List (Value × St H))) (K : Ex → List Value → St H → Option (List (Value × St H))) :
 exec Try.prog false C n 116 none (cdp Try.f116 [1, 1, 0, 0, 0]) (f116_l0_m i0 i1 i2 x) s (kIter (scratch (cdp Try.f116 [1, 1, 0, 0, 0])) nx K) = f116_l0 (dOps (H := H) Try.prog) C n i0 i1 i2 (fun x s => nx (f116_l0_m i0 i1 i2 x) s) (fun i x s => K (.exit i) (f116_l0_m i0 i1 i2 x) s) (fun x s => K .ret (f116_l0_m i0 i1 i2 x) s) x s := by kernel_rfl
theorem f116_l0_e (C : OracleJ H) (n : Nat) (i0 : Value) (i1 : Value) (i2 : Value) (m : Nat) (x : Value × Value) (s : St H) (K : Ex → List Value → St H → Option (List (Value × St H))) :
 iter (fun t s k => exec Try.prog false C n 116 none (cdp Try.f116 [1, 1, 0, 0, 0]) t s k) (scratch (cdp Try.f116 [1, 1, 0, 0, 0])) m (f116_l0_m i0 i1 i2 x) s K = iterS (f116_l0 (dOps (H := H) Try.prog) C n i0 i1 i2) (fun i x s => K (.exit i) (f116_l0_m i0 i1 i2 x) s) (fun x s => K .ret (f116_l0_m i0 i1 i2 x) s) m x s :=
   iter_eq (f116_l0_m i0 i1 i2) (f116_l0 (dOps (H := H) Try.prog) C n i0 i1 i2) (fun x s nx K => f116_l0_b C n i0 i1 i2 x s nx K) K m x s
def f116_l2_m (i0 : Value) (i1 : Value) (i2 : Value) (i6 : Value) (i9 : Value) (i23 : Value) (i24 : Value) (i25 : Value) (i26 : Value) (i27 : Value) (i28 : Value) (i29 : Value) (i30 : Value) (i31 : Value) (i32 : Value) (x : Value × Value) : List Value := [i0, i1, i2, undefV, undefV, undefV, i6, x.1, x.2, i9, (Go.Value.int Go.IntKind.i64 20), dc, dc, dc, dc, dc, dc, dc, dc, dc, dc, dc, dc, i23, i24, i25, i26, i27, i28, i29, i30, i31, i32, dc, dc, dc, dc, dc, dc, dc, dc, dc, dc, dc, dc, dc, dc, dc, dc, dc, dc, dc, dc, dc, dc, dc, dc, dc, dc, dc, dc, dc, dc]
noncomputable def f116_l2 (O : Ops H) (C : OracleJ H) (n : Nat) (i0 : Value) (i1 : Value) (i2 : Value) (i6 : Value) (nx : (Value × Value) → St H → Option (List (Value × St H))) (kx : Nat → (Value × Value) → St H → Option (List (Value × St H))) (kr : (Value × Value) → St H → Option (List (Value × St H))) (x : Value × Value) (s : St H) : Option (List (Value × St H)) :=
 (O.bop .leq 3 x.2 i1).bind fun v18 =>
 (O.boolO v18).bind fun b19 => cond b19 (
 (O.bop .add 3 x.1 i6).bind fun v20 =>
 (C (.fn 160) [i0, x.1, v20, x.2, i2] s).bind fun L21 => manyK L21 fun v22 s23 =>
 (O.bop .mul 3 (Go.Value.int Go.IntKind.i64 2) i6).bind fun v24 =>
 (O.bop .add 3 x.2 v24).bind fun v25 =>
 nx (x.2, v25) s23) (
 kx 4 (x.1, x.2) s)
theorem f116_l2_b (C : OracleJ H) (n : Nat) (i0 : Value) (i1 : Value) (i2 : Value) (i6 : Value) (i9 : Value) (i23 : Value) (i24 : Value) (i25 : Value) (i26 : Value) (i27 : Value) (i28 : Value) (i29 : Value) (i30 : Value) (i31 : Value) (i32 : Value) (x : Value × Value) (s : St H) (nx : List Value → St H → Option (List (Value × St H))) (K : Ex → List Value → St H → Option (List (Value × St H))) :
 exec Try.prog false C n 116 none (cdp Try.f116 [1, 1, 1, 1, 0, 0, 1, 0, 1, 0, 0, 0]) (f116_l2_m i0 i1 i2 i6 i9 i23 i24 i25 i26 i27 i28 i29 i30 i31 i32 x) s (kIter (scratch (cdp Try.f116 [1, 1, 1, 1, 0, 0, 1, 0, 1, 0, 0, 0])) nx K) = f116_l2 (dOps (H := H) Try.prog) C n i0 i1 i2 i6 (fun x s => nx (f116_l2_m i0 i1 i2 i6 i9 i23 i24 i25 i26 i27 i28 i29 i30 i31 i32 x) s) (fun i x s => K (.exit i) (f116_l2_m i0 i1 i2 i6 i9 i23 i24 i25 i26 i27 i28 i29 i30 i31 i32 x) s) (fun x s => K .ret (f116_l2_m i0 i1 i2 i6 i9 i23 i24 i25 i26 i27 i28 i29 i30 i31 i32 x) s) x s := by kernel_rfl
theorem f116_l2_e (C : OracleJ H) (n : Nat) (i0 : Value) (i1 : Value) (i2 : Value) (i6 : Value) (i9 : Value) (i23 : Value) (i24 : Value) (i25 : Value) (i26 : Value) (i27 : Value) (i28 : Value) (i29 : Value) (i30 : Value) (i31 : Value) (i32 : Value) (m : Nat) (x : Value × Value) (s : St H) (K : Ex → List Value → St H → Option (List (Value × St H))) :
 iter (fun t s k => exec Try.prog false C n 116 none (cdp Try.f116 [1, 1, 1, 1, 0, 0, 1, 0, 1, 0, 0, 0]) t s k) (scratch (cdp Try.f116 [1, 1, 1, 1, 0, 0, 1, 0, 1, 0, 0, 0])) m (f116_l2_m i0 i1 i2 i6 i9 i23 i24 i25 i26 i27 i28 i29 i30 i31 i32 x) s K = iterS (f116_l2 (dOps (H := H) Try.prog) C n i0 i1 i2 i6) (fun i x s => K (.exit i) (f116_l2_m i0 i1 i2 i6 i9 i23 i24 i25 i26 i27 i28 i29 i30 i31 i32 x) s) (fun x s => K .ret (f116_l2_m i0 i1 i2 i6 i9 i23 i24 i25 i26 i27 i28 i29 i30 i31 i32 x) s) m x s :=
   iter_eq (f116_l2_m i0 i1 i2 i6 i9 i23 i24 i25 i26 i27 i28 i29 i30 i31 i32) (f116_l2 (dOps (H := H) Try.prog) C n i0 i1 i2 i6) (fun x s nx K => f116_l2_b C n i0 i1 i2 i6 i9 i23 i24 i25 i26 i27 i28 i29 i30 i31 i32 x s nx K) K m x s
def f116_l1_m (i0 : Value) (i1 : Value) (i2 : Value) (i23 : Value) (i24 : Value) (i25 : Value) (i26 : Value) (i27 : Value) (x : Value × Value × Value × Value) : List Value := [i0, i1, i2, undefV, undefV, undefV, x.1, x.2.1, x.2.2.1, x.2.2.2, (Go.Value.int Go.IntKind.i64 20), dc, dc, dc, dc, dc, dc, dc, dc, dc, dc, dc, dc, i23, i24, i25, i26, i27, dc, dc, dc, dc, dc, dc, dc, dc, dc, dc, dc, dc, dc, dc, dc, dc, dc, dc, dc, dc, dc, dc, dc, dc, dc, dc, dc, dc, dc, dc, dc, dc, dc, dc, dc]
noncomputable def f116_l1 (O : Ops H) (C : OracleJ H) (n : Nat) (i0 : Value) (i1 : Value) (i2 : Value) (i26 : Value) (nx : (Value × Value × Value × Value) → St H → Option (List (Value × St H))) (kx : Nat → (Value × Value × Value × Value) → St H → Option (List (Value × St H))) (kr : (Value × Value × Value × Value) → St H → Option (List (Value × St H))) (x : Value × Value × Value × Value) (s : St H) : Option (List (Value × St H)) :=
 (O.bop .lss 3 x.1 i1).bind fun v15 =>
 (O.boolO v15).bind fun b16 => cond b16 (
 (O.bop .mul 3 (Go.Value.int Go.IntKind.i64 2) x.1).bind fun v17 =>
 iterS (f116_l2 O C n i0 i1 i2 x.1 )
 (fun i26 x27 s28 => (bif Nat.beq i26 4 then
 (O.bop .add 3 x27.1 x.1).bind fun v31 =>
 (O.bop .lss 3 v31 i1).bind fun v32 =>
 jn (fun (js438 : St H) =>
 (O.bop .mul 3 x.1 (Go.Value.int Go.IntKind.i64 2)).bind fun v38 =>
 nx (v38, x27.1, x27.2, v31) js438) fun k438 =>
 (O.boolO v32).bind fun b33 => cond b33 (
 (C (.fn 160) [i0, x27.1, v31, i1, i2] s28).bind fun L34 => manyK L34 fun v35 s36 =>
 k438 s36) (
 k438 s28) else (bif Nat.beq i26 3 then
 nx (x.1, x27.1, x27.2, x.2.2.2) s28 else kx i26 (x.1, x27.1, x27.2, x.2.2.2) s28)))
 (fun x29 s30 => kr (x.1, x29.1, x29.2, x.2.2.2) s30) n ((Go.Value.int Go.IntKind.i64 0), v17) s) (
 kx 2 (x.1, x.2.1, x.2.2.1, x.2.2.2) s)
theorem f116_l2_k (C : OracleJ H) (n : Nat) (i0 : Value) (i1 : Value) (i2 : Value) (i6 : Value) (i9 : Value) (i23 : Value) (i24 : Value) (i25 : Value) (i26 : Value) (i27 : Value) (i28 : Value) (i29 : Value) (i30 : Value) (i31 : Value) (i32 : Value) (nx : List Value → St H → Option (List (Value × St H))) (K : Ex → List Value → St H → Option (List (Value × St H))) (i : Nat) (x : Value × Value) (s : St H) : (kBlock 4 (kSeq Try.prog false C n 116 none (cdp Try.f116 [1, 1, 1, 1, 0, 0, 1, 0, 1, 1]) (kBlock 3 (kIter (scratch (cdp Try.f116 [1, 1, 1, 1, 0, 0])) nx K)))) (.exit i) (f116_l2_m i0 i1 i2 i6 i9 i23 i24 i25 i26 i27 i28 i29 i30 i31 i32 x) s =
 (bif Nat.beq i 4 then
 ((dOps (H := H) Try.prog).bop .add 3 x.1 i6).bind fun v50 =>
 ((dOps (H := H) Try.prog).bop .lss 3 v50 i1).bind fun v51 =>
 jn (fun (js455 : St H) =>
 ((dOps (H := H) Try.prog).bop .mul 3 i6 (Go.Value.int Go.IntKind.i64 2)).bind fun v57 =>
 nx (f116_l1_m i0 i1 i2 i23 i24 i25 i26 i27 (v57, x.1, x.2, v50)) js455) fun k455 =>
 ((dOps (H := H) Try.prog).boolO v51).bind fun b52 => cond b52 (
 (C (.fn 160) [i0, x.1, v50, i1, i2] s).bind fun L53 => manyK L53 fun v54 s55 =>
 k455 s55) (
 k455 s) else (bif Nat.beq i 3 then
 nx (f116_l1_m i0 i1 i2 i23 i24 i25 i26 i27 (i6, x.1, x.2, i9)) s else K (.exit i) (f116_l1_m i0 i1 i2 i23 i24 i25 i26 i27 (i6, x.1, x.2, i9)) s)) := by kernel_rfl
theorem f116_l1_b (C : OracleJ H) (n : Nat) (i0 : Value) (i1 : Value) (i2 : Value) (i23 : Value) (i24 : Value) (i25 : Value) (i26 : Value) (i27 : Value) (x : Value × Value × Value × Value) (s : St H) (nx : List Value → St H → Option (List (Value × St H))) (K : Ex → List Value → St H → Option (List (Value × St H))) :
 exec Try.prog false C n 116 none (cdp Try.f116 [1, 1, 1, 1, 0, 0]) (f116_l1_m i0 i1 i2 i23 i24 i25 i26 i27 x) s (kIter (scratch (cdp Try.f116 [1, 1, 1, 1, 0, 0])) nx K) = f116_l1 (dOps (H := H) Try.prog) C n i0 i1 i2 i26 (fun x s => nx (f116_l1_m i0 i1 i2 i23 i24 i25 i26 i27 x) s) (fun i x s => K (.exit i) (f116_l1_m i0 i1 i2 i23 i24 i25 i26 i27 x) s) (fun x s => K .ret (f116_l1_m i0 i1 i2 i23 i24 i25 i26 i27 x) s) x s := by
  have h1 : exec Try.prog false C n 116 none (cdp Try.f116 [1, 1, 1, 1, 0, 0]) (f116_l1_m i0 i1 i2 i23 i24 i25 i26 i27 x) s (kIter (scratch (cdp Try.f116 [1, 1, 1, 1, 0, 0])) nx K) =
 ((dOps (H := H) Try.prog).bop .lss 3 x.1 i1).bind fun v39 =>
 ((dOps (H := H) Try.prog).boolO v39).bind fun b40 => cond b40 (
 ((dOps (H := H) Try.prog).bop .mul 3 (Go.Value.int Go.IntKind.i64 2) x.1).bind fun v41 =>
 iter (fun t s k => exec Try.prog false C n 116 none (cdp Try.f116 [1, 1, 1, 1, 0, 0, 1, 0, 1, 0, 0, 0]) t s k) (scratch (cdp Try.f116 [1, 1, 1, 1, 0, 0, 1, 0, 1, 0, 0, 0])) n (f116_l2_m i0 i1 i2 x.1 x.2.2.2 i23 i24 i25 i26 i27 x.1 i1 v39 x.1 v41 ((Go.Value.int Go.IntKind.i64 0), v41)) s (kBlock 4 (kSeq Try.prog false C n 116 none (cdp Try.f116 [1, 1, 1, 1, 0, 0, 1, 0, 1, 1]) (kBlock 3 (kIter (scratch (cdp Try.f116 [1, 1, 1, 1, 0, 0])) nx K))))) (
 K (.exit 2) (f116_l1_m i0 i1 i2 i23 i24 i25 i26 i27 (x.1, x.2.1, x.2.2.1, x.2.2.2)) s) := by kernel_rfl
  rw [h1]
  simp only [f116_l2_e, f116_l2_k]
  show _ = f116_l1 (dOps (H := H) Try.prog) C n i0 i1 i2 i26 (fun x s => nx (f116_l1_m i0 i1 i2 i23 i24 i25 i26 i27 x) s) (fun i x s => K (.exit i) (f116_l1_m i0 i1 i2 i23 i24 i25 i26 i27 x) s) (fun x s => K .ret (f116_l1_m i0 i1 i2 i23 i24 i25 i26 i27 x) s) x s
  kernel_rfl
theorem f116_l1_e (C : OracleJ H) (n : Nat) (i0 : Value) (i1 : Value) (i2 : Value) (i23 : Value) (i24 : Value) (i25 : Value) (i26 : Value) (i27 : Value) (m : Nat) (x : Value × Value × Value × Value) (s : St H) (K : Ex → List Value → St H → Option (List (Value × St H))) :
 iter (fun t s k => exec Try.prog false C n 116 none (cdp Try.f116 [1, 1, 1, 1, 0, 0]) t s k) (scratch (cdp Try.f116 [1, 1, 1, 1, 0, 0])) m (f116_l1_m i0 i1 i2 i23 i24 i25 i26 i27 x) s K = iterS (f116_l1 (dOps (H := H) Try.prog) C n i0 i1 i2 i26) (fun i x s => K (.exit i) (f116_l1_m i0 i1 i2 i23 i24 i25 i26 i27 x) s) (fun x s => K .ret (f116_l1_m i0 i1 i2 i23 i24 i25 i26 i27 x) s) m x s :=
   iter_eq (f116_l1_m i0 i1 i2 i23 i24 i25 i26 i27) (f116_l1 (dOps (H := H) Try.prog) C n i0 i1 i2 i26) (fun x s nx K => f116_l1_b C n i0 i1 i2 i23 i24 i25 i26 i27 x s nx K) K m x s
noncomputable def f116 (O : Ops H) (C : OracleJ H) (n : Nat) (a0 : Value) (a1 : Value) (a2 : Value) (s : St H) : Option (List (Value × St H)) :=
 iterS (f116_l0 O C n a0 a1 a2 )
 (fun i7 x8 s9 => (bif Nat.beq i7 0 then
 (C (.fn 159) [a0, x8.1, a1, a2] s9).bind fun L12 => manyK L12 fun v13 s14 =>
 iterS (f116_l1 O C n a0 a1 a2 a2 )
 (fun i58 x59 s60 => (bif Nat.beq i58 2 then
 some [(.tuple #[], s60)] else none))
 (fun x61 s62 => some [(.tuple #[], s62)]) n ((Go.Value.int Go.IntKind.i64 20), x8.1, x8.2, undefV) s14 else none))
 (fun x10 s11 => some [(.tuple #[], s11)]) n ((Go.Value.int Go.IntKind.i64 0), (Go.Value.int Go.IntKind.i64 20)) s
theorem f116_l1_k (C : OracleJ H) (n : Nat) (i0 : Value) (i1 : Value) (i2 : Value) (i23 : Value) (i24 : Value) (i25 : Value) (i26 : Value) (i27 : Value) (i : Nat) (x : Value × Value × Value × Value) (s : St H) : (kBlock 2 (kFun Try.prog Try.f116)) (.exit i) (f116_l1_m i0 i1 i2 i23 i24 i25 i26 i27 x) s =
 (bif Nat.beq i 2 then
 some [(.tuple #[], s)] else none) := by kernel_rfl
theorem f116_l0_k (C : OracleJ H) (n : Nat) (i0 : Value) (i1 : Value) (i2 : Value) (i : Nat) (x : Value × Value) (s : St H) : (kBlock 0 (kSeq Try.prog false C n 116 none (cdp Try.f116 [1, 1, 1]) (kFun Try.prog Try.f116))) (.exit i) (f116_l0_m i0 i1 i2 x) s =
 (bif Nat.beq i 0 then
 (C (.fn 159) [i0, x.1, i1, i2] s).bind fun L66 => manyK L66 fun v67 s68 =>
 iterS (f116_l1 (dOps (H := H) Try.prog) C n i0 i1 i2 i2 )
 (fun i69 x70 s71 => (bif Nat.beq i69 2 then
 some [(.tuple #[], s71)] else none))
 (fun x72 s73 => some [(.tuple #[], s73)]) n ((Go.Value.int Go.IntKind.i64 20), x.1, x.2, undefV) s68 else none) := by
  have h1 : (kBlock 0 (kSeq Try.prog false C n 116 none (cdp Try.f116 [1, 1, 1]) (kFun Try.prog Try.f116))) (.exit i) (f116_l0_m i0 i1 i2 x) s =
 (bif Nat.beq i 0 then
 (C (.fn 159) [i0, x.1, i1, i2] s).bind fun L63 => manyK L63 fun v64 s65 =>
 iter (fun t s k => exec Try.prog false C n 116 none (cdp Try.f116 [1, 1, 1, 1, 0, 0]) t s k) (scratch (cdp Try.f116 [1, 1, 1, 1, 0, 0])) n (f116_l1_m i0 i1 i2 i0 x.1 i1 i2 v64 ((Go.Value.int Go.IntKind.i64 20), x.1, x.2, undefV)) s65 (kBlock 2 (kFun Try.prog Try.f116)) else none) := by kernel_rfl
  rw [h1]
  simp only [f116_l1_e, f116_l1_k]
  show _ = (bif Nat.beq i 0 then
 (C (.fn 159) [i0, x.1, i1, i2] s).bind fun L66 => manyK L66 fun v67 s68 =>
 iterS (f116_l1 (dOps (H := H) Try.prog) C n i0 i1 i2 i2 )
 (fun i69 x70 s71 => (bif Nat.beq i69 2 then
 some [(.tuple #[], s71)] else none))
 (fun x72 s73 => some [(.tuple #[], s73)]) n ((Go.Value.int Go.IntKind.i64 20), x.1, x.2, undefV) s68 else none)
  kernel_rfl
theorem f116_r (C : OracleJ H) (n : Nat) (a0 : Value) (a1 : Value) (a2 : Value) (s : St H) : bodyD Try.prog false C n 116 Try.f116 [a0, a1, a2] s = f116 (dOps (H := H) Try.prog) C n a0 a1 a2 s := by
  have h1 : bodyD Try.prog false C n 116 Try.f116 [a0, a1, a2] s =
 iter (fun t s k => exec Try.prog false C n 116 none (cdp Try.f116 [1, 1, 0, 0, 0]) t s k) (scratch (cdp Try.f116 [1, 1, 0, 0, 0])) n (f116_l0_m a0 a1 a2 ((Go.Value.int Go.IntKind.i64 0), (Go.Value.int Go.IntKind.i64 20))) s (kBlock 0 (kSeq Try.prog false C n 116 none (cdp Try.f116 [1, 1, 1]) (kFun Try.prog Try.f116))) := by kernel_rfl
  rw [h1]
  simp only [f116_l0_e, f116_l0_k]
  show _ = f116 (dOps (H := H) Try.prog) C n a0 a1 a2 s
  kernel_rfl
/-! tidepole/label.letter -/
noncomputable def f118 (O : Ops H) (C : OracleJ H) (n : Nat) (a0 : Value) (a1 : Value) (s : St H) : Option (List (Value × St H)) :=
 (O.bop .eql 5 a0 (Go.Value.int Go.IntKind.u8 95)).bind fun v1 =>
 jn (fun (j469_5 : Value) =>
 (O.boolO j469_5).bind fun b18 => cond b18 (
 some [((.bool true), s)]) (
 jn (fun (j484_20 : Value) =>
 (O.boolO j484_20).bind fun b23 => cond b23 (
 (O.uop .not a1).bind fun v24 =>
 some [(v24, s)]) (
 some [((.bool false), s)])) fun k484 =>
 (O.bop .geq 5 a0 (Go.Value.int Go.IntKind.u8 48)).bind fun v19 =>
 gd v19 (
 (O.bop .leq 5 a0 (Go.Value.int Go.IntKind.u8 57)).bind fun v20 =>
 k484 v20) (
 k484 (.bool false)) (
 none))) fun k469 =>
 (O.boolO v1).bind fun b2 => cond b2 (
 k469 v1) (
 jn (fun (j470_5 : Value) =>
 jn (fun (j473_5 : Value) =>
 k469 j473_5) fun k473 =>
 (O.boolO j470_5).bind fun b8 => cond b8 (
 k473 j470_5) (
 jn (fun (j474_5 : Value) =>
 k473 j474_5) fun k474 =>
 (O.bop .geq 5 a0 (Go.Value.int Go.IntKind.u8 65)).bind fun v9 =>
 gd v9 (
 (O.bop .leq 5 a0 (Go.Value.int Go.IntKind.u8 90)).bind fun v10 =>
 k474 v10) (
 k474 (.bool false)) (
 none))) fun k470 =>
 (O.bop .geq 5 a0 (Go.Value.int Go.IntKind.u8 97)).bind fun v3 =>
 gd v3 (
 (O.bop .leq 5 a0 (Go.Value.int Go.IntKind.u8 122)).bind fun v4 =>
 k470 v4) (
 k470 (.bool false)) (
 none))
theorem f118_r (C : OracleJ H) (n : Nat) (a0 : Value) (a1 : Value) (s : St H) : bodyD Try.prog false C n 118 Try.f118 [a0, a1] s = f118 (dOps (H := H) Try.prog) C n a0 a1 s := by kernel_rfl
/-! tidepole/vint.put[uint64] -/
def f123_l0_m (i0 : Value) (i1 : Value) (i2 : Value) (i6 : Value) (i9 : Value) (i10 : Value) (i11 : Value) (i12 : Value) (i13 : Value) (i14 : Value) (i15 : Value) (i16 : Value) (i17 : Value) (x : Value × Value) : List Value := [i0, i1, i2, undefV, undefV, undefV, i6, x.1, x.2, i9, i10, i11, i12, i13, i14, i15, i16, i17, dc, dc, dc, dc, dc, dc, dc, dc, dc, dc, undefV, undefV, undefV, undefV, undefV]
noncomputable def f123_l0 (O : Ops H) (C : OracleJ H) (n : Nat) (nx : (Value × Value) → St H → Option (List (Value × St H))) (kx : Nat → (Value × Value) → St H → Option (List (Value × St H))) (kr : (Value × Value) → St H → Option (List (Value × St H))) (x : Value × Value) (s : St H) : Option (List (Value × St H)) :=
 (O.bop .gtr 70 x.2 (Go.Value.int Go.IntKind.u64 127)).bind fun v9 =>
 (O.boolO v9).bind fun b10 => cond b10 (
 (O.conv false s 70 5 x.2).bind fun p11 =>
 (O.bop .or 5 p11.1 (Go.Value.int Go.IntKind.u8 128)).bind fun v12 =>
 (O.buildSlice false p11.2 35 1 [(0, v12)]).bind fun p13 =>
 (O.append false p13.2 35 35 x.1 p13.1).bind fun p14 =>
 (O.bop .shr 70 x.2 (Go.Value.int Go.IntKind.u64 7)).bind fun v15 =>
 nx (p14.1, v15) p14.2) (
 kx 0 (x.1, x.2) s)
theorem f123_l0_b (C : OracleJ H) (n : Nat) (i0 : Value) (i1 : Value) (i2 : Value) (i6 : Value) (i9 : Value) (i10 : Value) (i11 : Value) (i12 : Value) (i13 : Value) (i14 : Value) (i15 : Value) (i16 : Value) (i17 : Value) (x : Value × Value) (s : St H) (nx : List Value → St H → Option (List (Value × St H))) (K : Ex → List Value → St H → Option (List (Value × St H))) :
 exec Try.prog false C n 123 none (cdp Try.f123 [1, 1, 1, 0, 0, 0]) (f123_l0_m i0 i1 i2 i6 i9 i10 i11 i12 i13 i14 i15 i16 i17 x) s (kIter (scratch (cdp Try.f123 [1, 1, 1, 0, 0, 0])) nx K) = f123_l0 (dOps (H := H) Try.prog) C n (fun x s => nx (f123_l0_m i0 i1 i2 i6 i9 i10 i11 i12 i13 i14 i15 i16 i17 x) s) (fun i x s => K (.exit i) (f123_l0_m i0 i1 i2 i6 i9 i10 i11 i12 i13 i14 i15 i16 i17 x) s) (fun x s => K .ret (f123_l0_m i0 i1 i2 i6 i9 i10 i11 i12 i13 i14 i15 i16 i17 x) s) x s := by kernel_rfl
theorem f123_l0_e (C : OracleJ H) (n : Nat) (i0 : Value) (i1 : Value) (i2 : Value) (i6 : Value) (i9 : Value) (i10 : Value) (i11 : Value) (i12 : Value) (i13 : Value) (i14 : Value) (i15 : Value) (i16 : Value) (i17 : Value) (m : Nat) (x : Value × Value) (s : St H) (K : Ex → List Value → St H → Option (List (Value × St H))) :
 iter (fun t s k => exec Try.prog false C n 123 none (cdp Try.f123 [1, 1, 1, 0, 0, 0]) t s k) (scratch (cdp Try.f123 [1, 1, 1, 0, 0, 0])) m (f123_l0_m i0 i1 i2 i6 i9 i10 i11 i12 i13 i14 i15 i16 i17 x) s K = iterS (f123_l0 (dOps (H := H) Try.prog) C n) (fun i x s => K (.exit i) (f123_l0_m i0 i1 i2 i6 i9 i10 i11 i12 i13 i14 i15 i16 i17 x) s) (fun x s => K .ret (f123_l0_m i0 i1 i2 i6 i9 i10 i11 i12 i13 i14 i15 i16 i17 x) s) m x s :=
   iter_eq (f123_l0_m i0 i1 i2 i6 i9 i10 i11 i12 i13 i14 i15 i16 i17) (f123_l0 (dOps (H := H) Try.prog) C n) (fun x s nx K => f123_l0_b C n i0 i1 i2 i6 i9 i10 i11 i12 i13 i14 i15 i16 i17 x s nx K) K m x s
noncomputable def f123 (O : Ops H) (C : OracleJ H) (n : Nat) (a0 : Value) (a1 : Value) (a2 : Value) (s : St H) : Option (List (Value × St H)) :=
 (O.len s 35 a0).bind fun v1 =>
 (O.bop .add 3 v1 (Go.Value.int Go.IntKind.i64 10)).bind fun v2 =>
 (O.makeSlice false s 35 (Go.Value.int Go.IntKind.i64 0) v2).bind fun p3 =>
 (O.append false p3.2 35 35 p3.1 a0).bind fun p4 =>
 (O.tgt a2 [a1]).bind fun g5 => (C g5.1 g5.2 p4.2).bind fun L6 => manyK L6 fun v7 s8 =>
 iterS (f123_l0 O C n )
 (fun i16 x17 s18 => (bif Nat.beq i16 0 then
 (O.conv false s18 70 5 x17.2).bind fun p21 =>
 (O.buildSlice false p21.2 35 1 [(0, p21.1)]).bind fun p22 =>
 (O.append false p22.2 35 35 x17.1 p22.1).bind fun p23 =>
 some [(p23.1, p23.2)] else none))
 (fun x19 s20 => some [((fzV 2 #[]), s20)]) n (p4.1, v7) s8
theorem f123_l0_k (C : OracleJ H) (n : Nat) (i0 : Value) (i1 : Value) (i2 : Value) (i6 : Value) (i9 : Value) (i10 : Value) (i11 : Value) (i12 : Value) (i13 : Value) (i14 : Value) (i15 : Value) (i16 : Value) (i17 : Value) (i : Nat) (x : Value × Value) (s : St H) : (kBlock 0 (kSeq Try.prog false C n 123 none (cdp Try.f123 [1, 1, 1, 1]) (kFun Try.prog Try.f123))) (.exit i) (f123_l0_m i0 i1 i2 i6 i9 i10 i11 i12 i13 i14 i15 i16 i17 x) s =
 (bif Nat.beq i 0 then
 ((dOps (H := H) Try.prog).conv false s 70 5 x.2).bind fun p35 =>
 ((dOps (H := H) Try.prog).buildSlice false p35.2 35 1 [(0, p35.1)]).bind fun p36 =>
 ((dOps (H := H) Try.prog).append false p36.2 35 35 x.1 p36.1).bind fun p37 =>
 some [(p37.1, p37.2)] else none) := by kernel_rfl
theorem f123_r (C : OracleJ H) (n : Nat) (a0 : Value) (a1 : Value) (a2 : Value) (s : St H) : bodyD Try.prog false C n 123 Try.f123 [a0, a1, a2] s = f123 (dOps (H := H) Try.prog) C n a0 a1 a2 s := by
  have h1 : bodyD Try.prog false C n 123 Try.f123 [a0, a1, a2] s =
 ((dOps (H := H) Try.prog).len s 35 a0).bind fun v24 =>
 ((dOps (H := H) Try.prog).bop .add 3 v24 (Go.Value.int Go.IntKind.i64 10)).bind fun v25 =>
 ((dOps (H := H) Try.prog).makeSlice false s 35 (Go.Value.int Go.IntKind.i64 0) v25).bind fun p26 =>
 ((dOps (H := H) Try.prog).append false p26.2 35 35 p26.1 a0).bind fun p27 =>
 ((dOps (H := H) Try.prog).tgt a2 [a1]).bind fun g28 => (C g28.1 g28.2 p27.2).bind fun L29 => manyK L29 fun v30 s31 =>
 iter (fun t s k => exec Try.prog false C n 123 none (cdp Try.f123 [1, 1, 1, 0, 0, 0]) t s k) (scratch (cdp Try.f123 [1, 1, 1, 0, 0, 0])) n (f123_l0_m a0 a1 a2 (fzV 2 #[]) a0 v24 v25 p26.1 a0 p27.1 a2 a1 v30 (p27.1, v30)) s31 (kBlock 0 (kSeq Try.prog false C n 123 none (cdp Try.f123 [1, 1, 1, 1]) (kFun Try.prog Try.f123))) := by kernel_rfl
  rw [h1]
  simp only [f123_l0_e, f123_l0_k]
  show _ = f123 (dOps (H := H) Try.prog) C n a0 a1 a2 s
  kernel_rfl
/-! tidepole/vint.plain -/
noncomputable def f124 (O : Ops H) (C : OracleJ H) (n : Nat) (a0 : Value) (s : St H) : Option (List (Value × St H)) :=
 some [(a0, s)]
theorem f124_r (C : OracleJ H) (n : Nat) (a0 : Value) (s : St H) : bodyD Try.prog false C n 124 Try.f124 [a0] s = f124 (dOps (H := H) Try.prog) C n a0 s := by kernel_rfl
/-! slices.IndexFunc[tidepole/api.Labels,tidepole/api.Label] -/
def f126_l0_m (i0 : Value) (i1 : Value) (i6 : Value) (i7 : Value) (x : Value × Value × Value) : List Value := [i0, i1, undefV, undefV, x.1, x.2.1, i6, i7, x.2.2, dc, dc, dc, dc, dc, dc, dc, dc, dc, dc]
noncomputable def f126_l0 (O : Ops H) (C : OracleJ H) (n : Nat) (i0 : Value) (i1 : Value) (i7 : Value) (nx : (Value × Value × Value) → St H → Option (List (Value × St H))) (kx : Nat → (Value × Value × Value) → St H → Option (List (Value × St H))) (kr : (Value × Value × Value) → St H → Option (List (Value × St H))) (x : Value × Value × Value) (s : St H) : Option (List (Value × St H)) :=
 (O.bop .lss 3 x.2.2 i7).bind fun v2 =>
 (O.boolO v2).bind fun b3 => cond b3 (
 (O.indexAddr 23 i0 x.2.2).bind fun v4 =>
 (O.load s 106 v4).bind fun v5 =>
 (O.tgt i1 [v5]).bind fun g6 => (C g6.1 g6.2 s).bind fun L7 => manyK L7 fun v8 s9 =>
 (O.boolO v8).bind fun b10 => cond b10 (
 kr (x.2.2, x.2.2, x.2.2) s9) (
 (O.bop .add 3 x.2.2 (Go.Value.int Go.IntKind.i64 1)).bind fun v11 =>
 nx (x.1, x.2.2, v11) s9)) (
 kx 0 (x.1, x.2.1, x.2.2) s)
theorem f126_l0_b (C : OracleJ H) (n : Nat) (i0 : Value) (i1 : Value) (i6 : Value) (i7 : Value) (x : Value × Value × Value) (s : St H) (nx : List Value → St H → Option (List (Value × St H))) (K : Ex → List Value → St H → Option (List (Value × St H))) :
 exec Try.prog false C n 126 none (cdp Try.f126 [1, 0, 1, 0, 0]) (f126_l0_m i0 i1 i6 i7 x) s (kIter (scratch (cdp Try.f126 [1, 0, 1, 0, 0])) nx K) = f126_l0 (dOps (H := H) Try.prog) C n i0 i1 i7 (fun x s => nx (f126_l0_m i0 i1 i6 i7 x) s) (fun i x s => K (.exit i) (f126_l0_m i0 i1 i6 i7 x) s) (fun x s => K .ret (f126_l0_m i0 i1 i6 i7 x) s) x s := by kernel_rfl
theorem f126_l0_e (C : OracleJ H) (n : Nat) (i0 : Value) (i1 : Value) (i6 : Value) (i7 : Value) (m : Nat) (x : Value × Value × Value) (s : St H) (K : Ex → List Value → St H → Option (List (Value × St H))) :
 iter (fun t s k => exec Try.prog false C n 126 none (cdp Try.f126 [1, 0, 1, 0, 0]) t s k) (scratch (cdp Try.f126 [1, 0, 1, 0, 0])) m (f126_l0_m i0 i1 i6 i7 x) s K = iterS (f126_l0 (dOps (H := H) Try.prog) C n i0 i1 i7) (fun i x s => K (.exit i) (f126_l0_m i0 i1 i6 i7 x) s) (fun x s => K .ret (f126_l0_m i0 i1 i6 i7 x) s) m x s :=
   iter_eq (f126_l0_m i0 i1 i6 i7) (f126_l0 (dOps (H := H) Try.prog) C n i0 i1 i7) (fun x s nx K => f126_l0_b C n i0 i1 i6 i7 x s nx K) K m x s
noncomputable def f126 (O : Ops H) (C : OracleJ H) (n : Nat) (a0 : Value) (a1 : Value) (s : St H) : Option (List (Value × St H)) :=
 (O.len s 23 a0).bind fun v1 =>
 iterS (f126_l0 O C n a0 a1 v1 )
 (fun i12 x13 s14 => (bif Nat.beq i12 0 then
 some [((Go.Value.int Go.IntKind.i64 (-1)), s14)] else none))
 (fun x15 s16 => some [(x15.1, s16)]) n ((Go.Value.int Go.IntKind.i64 0), undefV, (Go.Value.int Go.IntKind.i64 0)) s
theorem f126_l0_k (C : OracleJ H) (n : Nat) (i0 : Value) (i1 : Value) (i6 : Value) (i7 : Value) (i : Nat) (x : Value × Value × Value) (s : St H) : (kBlock 0 (kSeq Try.prog false C n 126 none (cdp Try.f126 [1, 1]) (kFun Try.prog Try.f126))) (.exit i) (f126_l0_m i0 i1 i6 i7 x) s =
 (bif Nat.beq i 0 then
 some [((Go.Value.int Go.IntKind.i64 (-1)), s)] else none) := by kernel_rfl
theorem f126_r (C : OracleJ H) (n : Nat) (a0 : Value) (a1 : Value) (s : St H) : bodyD Try.prog false C n 126 Try.f126 [a0, a1] s = f126 (dOps (H := H) Try.prog) C n a0 a1 s := by
  have h1 : bodyD Try.prog false C n 126 Try.f126 [a0, a1] s =
 ((dOps (H := H) Try.prog).len s 23 a0).bind fun v17 =>
 iter (fun t s k => exec Try.prog false C n 126 none (cdp Try.f126 [1, 0, 1, 0, 0]) t s k) (scratch (cdp Try.f126 [1, 0, 1, 0, 0])) n (f126_l0_m a0 a1 a0 v17 ((Go.Value.int Go.IntKind.i64 0), undefV, (Go.Value.int Go.IntKind.i64 0))) s (kBlock 0 (kSeq Try.prog false C n 126 none (cdp Try.f126 [1, 1]) (kFun Try.prog Try.f126))) := by kernel_rfl
  rw [h1]
  simp only [f126_l0_e, f126_l0_k]
  show _ = f126 (dOps (H := H) Try.prog) C n a0 a1 s
  kernel_rfl
/-! tidepole/tidepoleref04.Name -/
def f129_l0_m (i0 : Value) (i6 : Value) (i7 : Value) (i9 : Value) (i10 : Value) (i11 : Value) (i12 : Value) (x : Value × Value × Value × Value) : List Value := [i0, undefV, x.1, x.2.1, x.2.2.1, x.2.2.2, i6, i7, (.bool false), i9, i10, i11, i12, dc, dc, dc, dc, dc, dc, dc, dc, dc, dc, dc, dc, dc, dc, dc, dc, dc, dc, dc, dc, dc, dc, dc, dc, dc, dc, dc, dc, dc, dc, dc, dc, dc, dc, dc, dc, dc, dc, dc, dc, dc]
noncomputable def f129_l0 (O : Ops H) (C : OracleJ H) (n : Nat) (i0 : Value) (nx : (Value × Value × Value × Value) → St H → Option (List (Value × St H))) (kx : Nat → (Value × Value × Value × Value) → St H → Option (List (Value × St H))) (kr : (Value × Value × Value × Value) → St H → Option (List (Value × St H))) (x : Value × Value × Value × Value) (s : St H) : Option (List (Value × St H)) :=
 (O.len s 9 i0).bind fun v7 =>
 (O.bop .lss 3 x.2.1 v7).bind fun v8 =>
 (O.boolO v8).bind fun b9 => cond b9 (
 (O.index 9 i0 x.2.1).bind fun v10 =>
 jn (fun (j537_5 : Value) =>
 (O.uop .not j537_5).bind fun v30 =>
 gd v30 (
 (O.bop .eql 3 x.2.1 (Go.Value.int Go.IntKind.i64 0)).bind fun v31 =>
 gd v31 (
 kr ((.bool false), x.2.1, v10, j537_5) s) (
 (O.bop .lss 5 v10 (Go.Value.int Go.IntKind.u8 48)).bind fun v32 =>
 gd v32 (
 kr ((.bool false), x.2.1, v10, j537_5) s) (
 (O.bop .gtr 5 v10 (Go.Value.int Go.IntKind.u8 57)).bind fun v33 =>
 (O.boolO v33).bind fun b37 => cond b37 (
 kr ((.bool false), x.2.1, v10, j537_5) s) (
 (O.bop .add 3 x.2.1 (Go.Value.int Go.IntKind.i64 1)).bind fun v40 =>
 nx (x.1, v40, v10, j537_5) s)) (
 none)) (
 none)) (
 (O.bop .add 3 x.2.1 (Go.Value.int Go.IntKind.i64 1)).bind fun v41 =>
 nx (x.1, v41, v10, j537_5) s) (
 none)) fun k537 =>
 (O.bop .geq 5 v10 (Go.Value.int Go.IntKind.u8 97)).bind fun v11 =>
 gd v11 (
 (O.bop .leq 5 v10 (Go.Value.int Go.IntKind.u8 122)).bind fun v12 =>
 gd v12 (
 k537 (.bool true)) (
 (O.bop .geq 5 v10 (Go.Value.int Go.IntKind.u8 65)).bind fun v13 =>
 gd v13 (
 (O.bop .leq 5 v10 (Go.Value.int Go.IntKind.u8 90)).bind fun v14 =>
 gd v14 (
 k537 (.bool true)) (
 (O.bop .eql 5 v10 (Go.Value.int Go.IntKind.u8 95)).bind fun v15 =>
 k537 v15) (
 none)) (
 (O.bop .eql 5 v10 (Go.Value.int Go.IntKind.u8 95)).bind fun v16 =>
 k537 v16) (
 none)) (
 none)) (
 (O.bop .geq 5 v10 (Go.Value.int Go.IntKind.u8 65)).bind fun v17 =>
 gd v17 (
 (O.bop .leq 5 v10 (Go.Value.int Go.IntKind.u8 90)).bind fun v18 =>
 gd v18 (
 k537 (.bool true)) (
 (O.bop .eql 5 v10 (Go.Value.int Go.IntKind.u8 95)).bind fun v19 =>
 k537 v19) (
 none)) (
 (O.bop .eql 5 v10 (Go.Value.int Go.IntKind.u8 95)).bind fun v20 =>
 k537 v20) (
 none)) (
 none)) (
 kx 0 (x.1, x.2.1, x.2.2.1, x.2.2.2) s)
theorem f129_l0_b (C : OracleJ H) (n : Nat) (i0 : Value) (i6 : Value) (i7 : Value) (i9 : Value) (i10 : Value) (i11 : Value) (i12 : Value) (x : Value × Value × Value × Value) (s : St H) (nx : List Value → St H → Option (List (Value × St H))) (K : Ex → List Value → St H → Option (List (Value × St H))) :
 exec Try.prog false C n 129 none (cdp Try.f129 [1, 1, 0, 1, 0, 0]) (f129_l0_m i0 i6 i7 i9 i10 i11 i12 x) s (kIter (scratch (cdp Try.f129 [1, 1, 0, 1, 0, 0])) nx K) = f129_l0 (dOps (H := H) Try.prog) C n i0 (fun x s => nx (f129_l0_m i0 i6 i7 i9 i10 i11 i12 x) s) (fun i x s => K (.exit i) (f129_l0_m i0 i6 i7 i9 i10 i11 i12 x) s) (fun x s => K .ret (f129_l0_m i0 i6 i7 i9 i10 i11 i12 x) s) x s := by kernel_rfl
theorem f129_l0_e (C : OracleJ H) (n : Nat) (i0 : Value) (i6 : Value) (i7 : Value) (i9 : Value) (i10 : Value) (i11 : Value) (i12 : Value) (m : Nat) (x : Value × Value × Value × Value) (s : St H) (K : Ex → List Value → St H → Option (List (Value × St H))) :
 iter (fun t s k => exec Try.prog false C n 129 none (cdp Try.f129 [1, 1, 0, 1, 0, 0]) t s k) (scratch (cdp Try.f129 [1, 1, 0, 1, 0, 0])) m (f129_l0_m i0 i6 i7 i9 i10 i11 i12 x) s K = iterS (f129_l0 (dOps (H := H) Try.prog) C n i0) (fun i x s => K (.exit i) (f129_l0_m i0 i6 i7 i9 i10 i11 i12 x) s) (fun x s => K .ret (f129_l0_m i0 i6 i7 i9 i10 i11 i12 x) s) m x s :=
   iter_eq (f129_l0_m i0 i6 i7 i9 i10 i11 i12) (f129_l0 (dOps (H := H) Try.prog) C n i0) (fun x s nx K => f129_l0_b C n i0 i6 i7 i9 i10 i11 i12 x s nx K) K m x s
noncomputable def f129 (O : Ops H) (C : OracleJ H) (n : Nat) (a0 : Value) (s : St H) : Option (List (Value × St H)) :=
 (O.bop .eql 9 a0 (Go.Value.string { data := #[] })).bind fun v1 =>
 gd v1 (
 some [((.bool false), s)]) (
 (O.len s 9 a0).bind fun v2 =>
 (O.bop .gtr 3 v2 (Go.Value.int Go.IntKind.i64 64)).bind fun v3 =>
 (O.boolO v3).bind fun b6 => cond b6 (
 some [((.bool false), s)]) (
 iterS (f129_l0 O C n a0 )
 (fun i42 x43 s44 => (bif Nat.beq i42 0 then
 some [((.bool true), s44)] else none))
 (fun x45 s46 => some [(x45.1, s46)]) n ((.bool false), (Go.Value.int Go.IntKind.i64 0), undefV, undefV) s)) (
 none)
theorem f129_l0_k (C : OracleJ H) (n : Nat) (i0 : Value) (i6 : Value) (i7 : Value) (i9 : Value) (i10 : Value) (i11 : Value) (i12 : Value) (i : Nat) (x : Value × Value × Value × Value) (s : St H) : (kBlock 0 (kSeq Try.prog false C n 129 none (cdp Try.f129 [1, 1, 1]) (kFun Try.prog Try.f129))) (.exit i) (f129_l0_m i0 i6 i7 i9 i10 i11 i12 x) s =
 (bif Nat.beq i 0 then
 some [((.bool true), s)] else none) := by kernel_rfl
theorem f129_r (C : OracleJ H) (n : Nat) (a0 : Value) (s : St H) : bodyD Try.prog false C n 129 Try.f129 [a0] s = f129 (dOps (H := H) Try.prog) C n a0 s := by
  have h1 : bodyD Try.prog false C n 129 Try.f129 [a0] s =
 ((dOps (H := H) Try.prog).bop .eql 9 a0 (Go.Value.string { data := #[] })).bind fun v47 =>
 gd v47 (
 some [((.bool false), s)]) (
 ((dOps (H := H) Try.prog).len s 9 a0).bind fun v48 =>
 ((dOps (H := H) Try.prog).bop .gtr 3 v48 (Go.Value.int Go.IntKind.i64 64)).bind fun v49 =>
 ((dOps (H := H) Try.prog).boolO v49).bind fun b52 => cond b52 (
 some [((.bool false), s)]) (
 iter (fun t s k => exec Try.prog false C n 129 none (cdp Try.f129 [1, 1, 0, 1, 0, 0]) t s k) (scratch (cdp Try.f129 [1, 1, 0, 1, 0, 0])) n (f129_l0_m a0 a0 v47 a0 v48 v49 v49 ((.bool false), (Go.Value.int Go.IntKind.i64 0), undefV, undefV)) s (kBlock 0 (kSeq Try.prog false C n 129 none (cdp Try.f129 [1, 1, 1]) (kFun Try.prog Try.f129))))) (
 none) := by kernel_rfl
  rw [h1]
  simp only [f129_l0_e, f129_l0_k]
  show _ = f129 (dOps (H := H) Try.prog) C n a0 s
  kernel_rfl
/-! tidepole/label.at$1 -/
noncomputable def f130 (O : Ops H) (C : OracleJ H) (n : Nat) (a0 : Value) (a1 : Value) (s : St H) : Option (List (Value × St H)) :=
 (O.box s a0).bind fun p1 =>
 (O.fieldAddr 106 p1.1 0).bind fun v2 =>
 (O.load p1.2 9 v2).bind fun v3 =>
 (O.load p1.2 9 a1).bind fun v4 =>
 (O.bop .eql 9 v3 v4).bind fun v5 =>
 some [(v5, p1.2)]
theorem f130_r (C : OracleJ H) (n : Nat) (a0 : Value) (a1 : Value) (s : St H) : bodyD Try.prog false C n 130 Try.f130 [a0, a1] s = f130 (dOps (H := H) Try.prog) C n a0 a1 s := by kernel_rfl
/-! tidepole/vint.ReadBytes -/
noncomputable def f137 (O : Ops H) (C : OracleJ H) (n : Nat) (a0 : Value) (a1 : Value) (s : St H) : Option (List (Value × St H)) :=
 (C (.fn 74) [a0, a1] s).bind fun L1 => manyK L1 fun v2 s3 =>
 (O.extract v2 0).bind fun v4 =>
 (O.extract v2 1).bind fun v5 =>
 (O.extract v2 2).bind fun v6 =>
 (O.bop .neq 26 v6 (Go.Value.int Go.IntKind.i64 0)).bind fun v7 =>
 (O.boolO v7).bind fun b8 => cond b8 (
 some [(.tuple #[(fzV 2 #[]), (Go.Value.int Go.IntKind.i64 0), v6], s3)]) (
 (O.bop .gtr 70 v4 (Go.Value.int Go.IntKind.u64 65536)).bind fun v9 =>
 (O.boolO v9).bind fun b10 => cond b10 (
 some [(.tuple #[(fzV 2 #[]), (Go.Value.int Go.IntKind.i64 0), (Go.Value.int Go.IntKind.i64 3)], s3)]) (
 (O.len s3 35 a0).bind fun v11 =>
 (O.bop .sub 3 v11 v5).bind fun v12 =>
 (O.conv false s3 3 70 v12).bind fun p13 =>
 (O.bop .gtr 70 v4 p13.1).bind fun v14 =>
 (O.boolO v14).bind fun b15 => cond b15 (
 some [(.tuple #[(fzV 2 #[]), (Go.Value.int Go.IntKind.i64 0), (Go.Value.int Go.IntKind.i64 7)], p13.2)]) (
 (O.conv false p13.2 70 3 v4).bind fun p16 =>
 (O.bop .add 3 v5 p16.1).bind fun v17 =>
 (O.buildSlice false p16.2 35 0 []).bind fun p18 =>
 (O.slc p18.2 35 a0 (some v5) (some v17) none).bind fun v19 =>
 (O.append false p18.2 35 35 p18.1 v19).bind fun p20 =>
 some [(.tuple #[p20.1, v17, v6], p20.2)])))
theorem f137_r (C : OracleJ H) (n : Nat) (a0 : Value) (a1 : Value) (s : St H) : bodyD Try.prog false C n 137 Try.f137 [a0, a1] s = f137 (dOps (H := H) Try.prog) C n a0 a1 s := by kernel_rfl
/-! slices.insertionSortCmpFunc[tidepole/api.Label] -/
def f159_l1_m (i0 : Value) (i1 : Value) (i2 : Value) (i3 : Value) (i8 : Value) (i10 : Value) (i11 : Value) (i12 : Value) (i13 : Value) (i14 : Value) (i17 : Value) (x : Value) : List Value := [i0, i1, i2, i3, undefV, undefV, undefV, undefV, i8, x, i10, i11, i12, i13, i14, dc, dc, i17, dc, dc, dc, dc, dc, dc, dc, dc, dc, dc, dc, dc, dc, dc, dc, dc, dc, dc, dc, dc, dc, dc, dc, dc, dc, dc, dc, dc, dc, dc, dc, dc, dc, dc, dc]
noncomputable def f159_l1 (O : Ops H) (C : OracleJ H) (n : Nat) (i0 : Value) (i1 : Value) (i3 : Value) (nx : Value → St H → Option (List (Value × St H))) (kx : Nat → Value → St H → Option (List (Value × St H))) (kr : Value → St H → Option (List (Value × St H))) (x : Value) (s : St H) : Option (List (Value × St H)) :=
 jn (fun (j587_34 : Value) (js587 : St H) =>
 (O.boolO j587_34).bind fun b25 => cond b25 (
 (O.bop .sub 3 x (Go.Value.int Go.IntKind.i64 1)).bind fun v26 =>
 (O.bop .sub 3 x (Go.Value.int Go.IntKind.i64 1)).bind fun v27 =>
 (O.indexAddr 22 i0 v27).bind fun v28 =>
 (O.load js587 106 v28).bind fun v29 =>
 (O.indexAddr 22 i0 x).bind fun v30 =>
 (O.load js587 106 v30).bind fun v31 =>
 (O.indexAddr 22 i0 x).bind fun v32 =>
 (O.store js587 106 v32 v29).bind fun s33 =>
 (O.indexAddr 22 i0 v26).bind fun v34 =>
 (O.store s33 106 v34 v31).bind fun s35 =>
 (O.bop .sub 3 x (Go.Value.int Go.IntKind.i64 1)).bind fun v36 =>
 nx v36 s35) (
 kx 2 x js587)) fun k587 =>
 (O.bop .gtr 3 x i1).bind fun v4 =>
 gd v4 (
 (O.indexAddr 22 i0 x).bind fun v5 =>
 (O.load s 106 v5).bind fun v6 =>
 (O.bop .sub 3 x (Go.Value.int Go.IntKind.i64 1)).bind fun v7 =>
 (O.indexAddr 22 i0 v7).bind fun v8 =>
 (O.load s 106 v8).bind fun v9 =>
 (O.tgt i3 [v6, v9]).bind fun g10 => (oneO C g10.1 g10.2 s).bind fun p11 =>
 (O.bop .lss 3 p11.1 (Go.Value.int Go.IntKind.i64 0)).bind fun v12 =>
 k587 v12 p11.2) (
 k587 (.bool false) s) (
 none)
theorem f159_l1_b (C : OracleJ H) (n : Nat) (i0 : Value) (i1 : Value) (i2 : Value) (i3 : Value) (i8 : Value) (i10 : Value) (i11 : Value) (i12 : Value) (i13 : Value) (i14 : Value) (i17 : Value) (x : Value) (s : St H) (nx : List Value → St H → Option (List (Value × St H))) (K : Ex → List Value → St H → Option (List (Value × St H))) :
 exec Try.prog false C n 159 none (cdp Try.f159 [1, 0, 0, 1, 0, 0, 1, 0, 0]) (f159_l1_m i0 i1 i2 i3 i8 i10 i11 i12 i13 i14 i17 x) s (kIter (scratch (cdp Try.f159 [1, 0, 0, 1, 0, 0, 1, 0, 0])) nx K) = f159_l1 (dOps (H := H) Try.prog) C n i0 i1 i3 (fun x s => nx (f159_l1_m i0 i1 i2 i3 i8 i10 i11 i12 i13 i14 i17 x) s) (fun i x s => K (.exit i) (f159_l1_m i0 i1 i2 i3 i8 i10 i11 i12 i13 i14 i17 x) s) (fun x s => K .ret (f159_l1_m i0 i1 i2 i3 i8 i10 i11 i12 i13 i14 i17 x) s) x s := by kernel_rfl
theorem f159_l1_e (C : OracleJ H) (n : Nat) (i0 : Value) (i1 : Value) (i2 : Value) (i3 : Value) (i8 : Value) (i10 : Value) (i11 : Value) (i12 : Value) (i13 : Value) (i14 : Value) (i17 : Value) (m : Nat) (x : Value) (s : St H) (K : Ex → List Value → St H → Option (List (Value × St H))) :
 iter (fun t s k => exec Try.prog false C n 159 none (cdp Try.f159 [1, 0, 0, 1, 0, 0, 1, 0, 0]) t s k) (scratch (cdp Try.f159 [1, 0, 0, 1, 0, 0, 1, 0, 0])) m (f159_l1_m i0 i1 i2 i3 i8 i10 i11 i12 i13 i14 i17 x) s K = iterS (f159_l1 (dOps (H := H) Try.prog) C n i0 i1 i3) (fun i x s => K (.exit i) (f159_l1_m i0 i1 i2 i3 i8 i10 i11 i12 i13 i14 i17 x) s) (fun x s => K .ret (f159_l1_m i0 i1 i2 i3 i8 i10 i11 i12 i13 i14 i17 x) s) m x s :=
   iter_eq (f159_l1_m i0 i1 i2 i3 i8 i10 i11 i12 i13 i14 i17) (f159_l1 (dOps (H := H) Try.prog) C n i0 i1 i3) (fun x s nx K => f159_l1_b C n i0 i1 i2 i3 i8 i10 i11 i12 i13 i14 i17 x s nx K) K m x s
def f159_l0_m (i0 : Value) (i1 : Value) (i2 : Value) (i3 : Value) (i10 : Value) (i11 : Value) (x : Value × Value) : List Value := [i0, i1, i2, i3, undefV, undefV, undefV, undefV, x.1, x.2, i10, i11, dc, dc, dc, dc, dc, dc, dc, dc, dc, dc, dc, dc, dc, dc, dc, dc, dc, dc, dc, dc, dc, dc, dc, dc, dc, dc, dc, dc, dc, dc, dc, dc, dc, dc, dc, dc, dc, dc, dc, dc, dc]
noncomputable def f159_l0 (O : Ops H) (C : OracleJ H) (n : Nat) (i0 : Value) (i1 : Value) (i2 : Value) (i3 : Value) (nx : (Value × Value) → St H → Option (List (Value × St H))) (kx : Nat → (Value × Value) → St H → Option (List (Value × St H))) (kr : (Value × Value) → St H → Option (List (Value × St H))) (x : Value × Value) (s : St H) : Option (List (Value × St H)) :=
 (O.bop .lss 3 x.1 i2).bind fun v2 =>
 (O.boolO v2).bind fun b3 => cond b3 (
 iterS (f159_l1 O C n i0 i1 i3 )
 (fun i37 x38 s39 => (bif Nat.beq i37 2 then
 (O.bop .add 3 x.1 (Go.Value.int Go.IntKind.i64 1)).bind fun v44 =>
 nx (v44, x38) s39 else (bif Nat.beq i37 1 then
 (O.bop .add 3 x.1 (Go.Value.int Go.IntKind.i64 1)).bind fun v43 =>
 nx (v43, x38) s39 else kx i37 (x.1, x38) s39)))
 (fun x40 s41 => kr (x.1, x40) s41) n x.1 s) (
 kx 0 (x.1, x.2) s)
theorem f159_l1_k (C : OracleJ H) (n : Nat) (i0 : Value) (i1 : Value) (i2 : Value) (i3 : Value) (i8 : Value) (i10 : Value) (i11 : Value) (i12 : Value) (i13 : Value) (i14 : Value) (i17 : Value) (nx : List Value → St H → Option (List (Value × St H))) (K : Ex → List Value → St H → Option (List (Value × St H))) (i : Nat) (x : Value) (s : St H) : (kBlock 2 (kBlock 1 (kSeq Try.prog false C n 159 none (cdp Try.f159 [1, 0, 0, 1, 1]) (kIter (scratch (cdp Try.f159 [1, 0, 0])) nx K)))) (.exit i) (f159_l1_m i0 i1 i2 i3 i8 i10 i11 i12 i13 i14 i17 x) s =
 (bif Nat.beq i 2 then
 ((dOps (H := H) Try.prog).bop .add 3 i8 (Go.Value.int Go.IntKind.i64 1)).bind fun v49 =>
 nx (f159_l0_m i0 i1 i2 i3 i10 i11 (v49, x)) s else (bif Nat.beq i 1 then
 ((dOps (H := H) Try.prog).bop .add 3 i8 (Go.Value.int Go.IntKind.i64 1)).bind fun v50 =>
 nx (f159_l0_m i0 i1 i2 i3 i10 i11 (v50, x)) s else K (.exit i) (f159_l0_m i0 i1 i2 i3 i10 i11 (i8, x)) s)) := by kernel_rfl
theorem f159_l0_b (C : OracleJ H) (n : Nat) (i0 : Value) (i1 : Value) (i2 : Value) (i3 : Value) (i10 : Value) (i11 : Value) (x : Value × Value) (s : St H) (nx : List Value → St H → Option (List (Value × St H))) (K : Ex → List Value → St H → Option (List (Value × St H))) :
 exec Try.prog false C n 159 none (cdp Try.f159 [1, 0, 0]) (f159_l0_m i0 i1 i2 i3 i10 i11 x) s (kIter (scratch (cdp Try.f159 [1, 0, 0])) nx K) = f159_l0 (dOps (H := H) Try.prog) C n i0 i1 i2 i3 (fun x s => nx (f159_l0_m i0 i1 i2 i3 i10 i11 x) s) (fun i x s => K (.exit i) (f159_l0_m i0 i1 i2 i3 i10 i11 x) s) (fun x s => K .ret (f159_l0_m i0 i1 i2 i3 i10 i11 x) s) x s := by
  have h1 : exec Try.prog false C n 159 none (cdp Try.f159 [1, 0, 0]) (f159_l0_m i0 i1 i2 i3 i10 i11 x) s (kIter (scratch (cdp Try.f159 [1, 0, 0])) nx K) =
 ((dOps (H := H) Try.prog).bop .lss 3 x.1 i2).bind fun v45 =>
 ((dOps (H := H) Try.prog).boolO v45).bind fun b46 => cond b46 (
 iter (fun t s k => exec Try.prog false C n 159 none (cdp Try.f159 [1, 0, 0, 1, 0, 0, 1, 0, 0]) t s k) (scratch (cdp Try.f159 [1, 0, 0, 1, 0, 0, 1, 0, 0])) n (f159_l1_m i0 i1 i2 i3 x.1 i10 i11 x.1 i2 v45 x.1 x.1) s (kBlock 2 (kBlock 1 (kSeq Try.prog false C n 159 none (cdp Try.f159 [1, 0, 0, 1, 1]) (kIter (scratch (cdp Try.f159 [1, 0, 0])) nx K))))) (
 K (.exit 0) (f159_l0_m i0 i1 i2 i3 i10 i11 (x.1, x.2)) s) := by kernel_rfl
  rw [h1]
  simp only [f159_l1_e, f159_l1_k]
  show _ = f159_l0 (dOps (H := H) Try.prog) C n i0 i1 i2 i3 (fun x s => nx (f159_l0_m i0 i1 i2 i3 i10 i11 x) s) (fun i x s => K (.exit i) (f159_l0_m i0 i1 i2 i3 i10 i11 x) s) (fun x s => K .ret (f159_l0_m i0 i1 i2 i3 i10 i11 x) s) x s
  kernel_rfl
theorem f159_l0_e (C : OracleJ H) (n : Nat) (i0 : Value) (i1 : Value) (i2 : Value) (i3 : Value) (i10 : Value) (i11 : Value) (m : Nat) (x : Value × Value) (s : St H) (K : Ex → List Value → St H → Option (List (Value × St H))) :
 iter (fun t s k => exec Try.prog false C n 159 none (cdp Try.f159 [1, 0, 0]) t s k) (scratch (cdp Try.f159 [1, 0, 0])) m (f159_l0_m i0 i1 i2 i3 i10 i11 x) s K = iterS (f159_l0 (dOps (H := H) Try.prog) C n i0 i1 i2 i3) (fun i x s => K (.exit i) (f159_l0_m i0 i1 i2 i3 i10 i11 x) s) (fun x s => K .ret (f159_l0_m i0 i1 i2 i3 i10 i11 x) s) m x s :=
   iter_eq (f159_l0_m i0 i1 i2 i3 i10 i11) (f159_l0 (dOps (H := H) Try.prog) C n i0 i1 i2 i3) (fun x s nx K => f159_l0_b C n i0 i1 i2 i3 i10 i11 x s nx K) K m x s
noncomputable def f159 (O : Ops H) (C : OracleJ H) (n : Nat) (a0 : Value) (a1 : Value) (a2 : Value) (a3 : Value) (s : St H) : Option (List (Value × St H)) :=
 (O.bop .add 3 a1 (Go.Value.int Go.IntKind.i64 1)).bind fun v1 =>
 iterS (f159_l0 O C n a0 a1 a2 a3 )
 (fun i51 x52 s53 => (bif Nat.beq i51 0 then
 some [(.tuple #[], s53)] else none))
 (fun x54 s55 => some [(.tuple #[], s55)]) n (v1, undefV) s
theorem f159_l0_k (C : OracleJ H) (n : Nat) (i0 : Value) (i1 : Value) (i2 : Value) (i3 : Value) (i10 : Value) (i11 : Value) (i : Nat) (x : Value × Value) (s : St H) : (kBlock 0 (kFun Try.prog Try.f159)) (.exit i) (f159_l0_m i0 i1 i2 i3 i10 i11 x) s =
 (bif Nat.beq i 0 then
 some [(.tuple #[], s)] else none) := by kernel_rfl
theorem f159_r (C : OracleJ H) (n : Nat) (a0 : Value) (a1 : Value) (a2 : Value) (a3 : Value) (s : St H) : bodyD Try.prog false C n 159 Try.f159 [a0, a1, a2, a3] s = f159 (dOps (H := H) Try.prog) C n a0 a1 a2 a3 s := by
  have h1 : bodyD Try.prog false C n 159 Try.f159 [a0, a1, a2, a3] s =
 ((dOps (H := H) Try.prog).bop .add 3 a1 (Go.Value.int Go.IntKind.i64 1)).bind fun v56 =>
 iter (fun t s k => exec Try.prog false C n 159 none (cdp Try.f159 [1, 0, 0]) t s k) (scratch (cdp Try.f159 [1, 0, 0])) n (f159_l0_m a0 a1 a2 a3 a1 v56 (v56, undefV)) s (kBlock 0 (kFun Try.prog Try.f159)) := by kernel_rfl
  rw [h1]
  simp only [f159_l0_e, f159_l0_k]
  show _ = f159 (dOps (H := H) Try.prog) C n a0 a1 a2 a3 s
  kernel_rfl
end Go.Proofs.Ytmhmbmogodofeaa.S
