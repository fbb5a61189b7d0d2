/- The plain runs of functions (printed by shal.py). -/
import Derived.Test.YtmhmbmogodofeaaFw
import Derived.ProofKit
import Derived.Test.YtmhmbmogodofeaaRows
set_option autoImplicit false
set_option linter.unusedVariables false
set_option maxRecDepth 100000
namespace Go.Proofs.Ytmhmbmogodofeaa.S
open Go.FS Go.RowKit
variable {H : HeapI}
/-! tidepole/tidepolelaw04.LabelSorts -/
noncomputable def f3 (O : Ops H) (C : OracleJ H) (n : Nat) (a0 : Value) (a1 : Value) (s : St H) : Option (List (Value × St H)) :=
 (C (.fn 17) [] s).bind fun L1 => manyK L1 fun v2 s3 =>
 (O.uop .not v2).bind fun v4 =>
 (O.boolO v4).bind fun b5 => cond b5 (
 some [((.bool false), s3)]) (
 (C (.fn 18) [a0] s3).bind fun L6 => manyK L6 fun v7 s8 =>
 (C (.fn 19) [v7] s8).bind fun L9 => manyK L9 fun v10 s11 =>
 (O.extract v10 0).bind fun v12 =>
 (O.extract v10 1).bind fun v13 =>
 (O.bop .neq 26 v13 (Go.Value.int Go.IntKind.i64 0)).bind fun v14 =>
 (O.boolO v14).bind fun b15 => cond b15 (
 (O.len s11 23 v12).bind fun v16 =>
 (O.bop .eql 3 v16 (Go.Value.int Go.IntKind.i64 0)).bind fun v17 =>
 some [(v17, s11)]) (
 (C (.fn 19) [v12] s11).bind fun L18 => manyK L18 fun v19 s20 =>
 (O.extract v19 0).bind fun v21 =>
 (O.extract v19 1).bind fun v22 =>
 (O.len s20 23 v12).bind fun v23 =>
 (C (.fn 20) [a1, v23] s20).bind fun L24 => manyK L24 fun v25 s26 =>
 (O.buildSlice false s26 23 0 []).bind fun p27 =>
 (O.slc p27.2 23 v12 (some v25) none none).bind fun v28 =>
 (O.append false p27.2 23 23 p27.1 v28).bind fun p29 =>
 (O.slc p29.2 23 v12 none (some v25) none).bind fun v30 =>
 (O.append false p29.2 23 23 p29.1 v30).bind fun p31 =>
 (oneO C (.fn 19) [p31.1] p31.2).bind fun p32 =>
 (O.extract p32.1 0).bind fun v33 =>
 (O.extract p32.1 1).bind fun v34 =>
 (O.bop .eql 26 v22 (Go.Value.int Go.IntKind.i64 0)).bind fun v35 =>
 gd v35 (
 (C (.fn 21) [v12, v21] p32.2).bind fun L36 => manyK L36 fun v37 s38 =>
 gd v37 (
 (O.bop .eql 26 v34 (Go.Value.int Go.IntKind.i64 0)).bind fun v39 =>
 gd v39 (
 (C (.fn 21) [v12, v33] s38).bind fun L40 => manyK L40 fun v41 s42 =>
 gd v41 (
 (C (.fn 22) [v12] s42).bind fun L43 => manyK L43 fun v44 s45 =>
 (O.bop .eql 26 v44 (Go.Value.int Go.IntKind.i64 0)).bind fun v46 =>
 some [(v46, s45)]) (
 some [((.bool false), s42)]) (
 none)) (
 some [((.bool false), s38)]) (
 none)) (
 some [((.bool false), s38)]) (
 none)) (
 some [((.bool false), p32.2)]) (
 none)))
theorem f3_r (C : OracleJ H) (n : Nat) (a0 : Value) (a1 : Value) (s : St H) : bodyD Try.prog false C n 3 Try.f3 [a0, a1] s = f3 (dOps (H := H) Try.prog) C n a0 a1 s := by kernel_rfl
/-! tidepole/tidepolelaw04.works -/
noncomputable def f17 (O : Ops H) (C : OracleJ H) (n : Nat) (s : St H) : Option (List (Value × St H)) :=
 (O.build 106 [(0, (Go.Value.string { data := #[98] })), (1, (Go.Value.string { data := #[50] }))]).bind fun v1 =>
 (O.build 106 [(0, (Go.Value.string { data := #[97] })), (1, (Go.Value.string { data := #[49] }))]).bind fun v2 =>
 (O.build 106 [(0, (Go.Value.string { data := #[98] })), (1, (Go.Value.string { data := #[51] }))]).bind fun v3 =>
 (O.build 106 [(0, (Go.Value.string { data := #[99] }))]).bind fun v4 =>
 (O.buildSlice false s 23 4 [(0, v1), (1, v2), (2, v3), (3, v4)]).bind fun p5 =>
 (C (.fn 19) [p5.1] p5.2).bind fun L6 => manyK L6 fun v7 s8 =>
 (O.extract v7 0).bind fun v9 =>
 (O.extract v7 1).bind fun v10 =>
 (C (.fn 63) [v9] s8).bind fun L11 => manyK L11 fun v12 s13 =>
 (O.bop .eql 9 v12 (Go.Value.string { data := #[97, 61, 49, 44, 98, 61, 51] })).bind fun v14 =>
 gd v14 (
 (O.bop .eql 26 v10 (Go.Value.int Go.IntKind.i64 0)).bind fun v15 =>
 gd v15 (
 (C (.fn 29) [v9, (Go.Value.string { data := #[98] })] s13).bind fun L16 => manyK L16 fun v17 s18 =>
 (O.bop .eql 9 v17 (Go.Value.string { data := #[51] })).bind fun v19 =>
 some [(v19, s18)]) (
 some [((.bool false), s13)]) (
 none)) (
 some [((.bool false), s13)]) (
 none)
theorem f17_r (C : OracleJ H) (n : Nat) (s : St H) : bodyD Try.prog false C n 17 Try.f17 [] s = f17 (dOps (H := H) Try.prog) C n s := by kernel_rfl
/-! tidepole/tidepolelaw04.few -/
def f18_l0_m (i0 : Value) (i2 : Value) (i5 : Value) (x : Value × Value) : List Value := [i0, undefV, i2, x.1, x.2, i5, dc, dc, dc, dc, dc, dc, dc, dc, dc, dc, dc, dc, dc, dc, dc, dc, dc, dc, dc, dc, dc, dc, dc, dc, dc, dc, dc, dc, dc, dc, dc, dc, dc, dc, dc, dc, dc, dc, dc, dc, undefV]
noncomputable def f18_l0 (O : Ops H) (C : OracleJ H) (n : Nat) (i0 : Value) (nx : (Value × Value) → St H → Option (List (Value × St H))) (kx : Nat → (Value × Value) → St H → Option (List (Value × St H))) (kr : (Value × Value) → St H → Option (List (Value × St H))) (x : Value × Value) (s : St H) : Option (List (Value × St H)) :=
 jn (fun (j21_13 : Value) =>
 (O.boolO j21_13).bind fun b28 => cond b28 (
 (O.indexAddr 23 i0 x.2).bind fun v29 =>
 (O.fieldAddr 106 v29 0).bind fun v30 =>
 (O.load s 9 v30).bind fun v31 =>
 (O.indexAddr 23 i0 x.2).bind fun v32 =>
 (O.fieldAddr 106 v32 0).bind fun v33 =>
 (O.load s 9 v33).bind fun v34 =>
 (O.len s 9 v34).bind fun v35 =>
 (O.minO v35 [(Go.Value.int Go.IntKind.i64 65)]).bind fun v36 =>
 (O.slc s 9 v31 none (some v36) none).bind fun v37 =>
 (O.indexAddr 23 i0 x.2).bind fun v38 =>
 (O.fieldAddr 106 v38 1).bind fun v39 =>
 (O.load s 9 v39).bind fun v40 =>
 (O.indexAddr 23 i0 x.2).bind fun v41 =>
 (O.fieldAddr 106 v41 1).bind fun v42 =>
 (O.load s 9 v42).bind fun v43 =>
 (O.len s 9 v43).bind fun v44 =>
 (O.minO v44 [(Go.Value.int Go.IntKind.i64 257)]).bind fun v45 =>
 (O.slc s 9 v40 none (some v45) none).bind fun v46 =>
 (O.build 106 [(0, v37), (1, v46)]).bind fun v47 =>
 (O.buildSlice true s 23 1 [(0, v47)]).bind fun p48 =>
 (O.append true p48.2 23 23 x.1 p48.1).bind fun p49 =>
 (O.bop .add 3 x.2 (Go.Value.int Go.IntKind.i64 1)).bind fun v50 =>
 nx (p49.1, v50) p49.2) (
 kx 0 (x.1, x.2) s)) fun k21 =>
 (O.len s 23 i0).bind fun v2 =>
 (O.bop .lss 3 x.2 v2).bind fun v3 =>
 gd v3 (
 (O.bop .lss 3 x.2 (Go.Value.int Go.IntKind.i64 40)).bind fun v4 =>
 k21 v4) (
 k21 (.bool false)) (
 none)
theorem f18_l0_b (C : OracleJ H) (n : Nat) (i0 : Value) (i2 : Value) (i5 : Value) (x : Value × Value) (s : St H) (nx : List Value → St H → Option (List (Value × St H))) (K : Ex → List Value → St H → Option (List (Value × St H))) :
 exec Try.prog true C n 18 none (cdp Try.f18 [1, 1, 0, 1, 0, 0]) (f18_l0_m i0 i2 i5 x) s (kIter (scratch (cdp Try.f18 [1, 1, 0, 1, 0, 0])) nx K) = f18_l0 (dOps (H := H) Try.prog) C n i0 (fun x s => nx (f18_l0_m i0 i2 i5 x) s) (fun i x s => K (.exit i) (f18_l0_m i0 i2 i5 x) s) (fun x s => K .ret (f18_l0_m i0 i2 i5 x) s) x s := by kernel_rfl
theorem f18_l0_e (C : OracleJ H) (n : Nat) (i0 : Value) (i2 : Value) (i5 : Value) (m : Nat) (x : Value × Value) (s : St H) (K : Ex → List Value → St H → Option (List (Value × St H))) :
 iter (fun t s k => exec Try.prog true C n 18 none (cdp Try.f18 [1, 1, 0, 1, 0, 0]) t s k) (scratch (cdp Try.f18 [1, 1, 0, 1, 0, 0])) m (f18_l0_m i0 i2 i5 x) s K = iterS (f18_l0 (dOps (H := H) Try.prog) C n i0) (fun i x s => K (.exit i) (f18_l0_m i0 i2 i5 x) s) (fun x s => K .ret (f18_l0_m i0 i2 i5 x) s) m x s :=
   iter_eq (f18_l0_m i0 i2 i5) (f18_l0 (dOps (H := H) Try.prog) C n i0) (fun x s nx K => f18_l0_b C n i0 i2 i5 x s nx K) K m x s
noncomputable def f18 (O : Ops H) (C : OracleJ H) (n : Nat) (a0 : Value) (s : St H) : Option (List (Value × St H)) :=
 (O.buildSlice true s 23 0 []).bind fun p1 =>
 iterS (f18_l0 O C n a0 )
 (fun i51 x52 s53 => (bif Nat.beq i51 0 then
 some [(x52.1, s53)] else none))
 (fun x54 s55 => some [((fzV 2 #[]), s55)]) n (p1.1, (Go.Value.int Go.IntKind.i64 0)) p1.2
theorem f18_l0_k (C : OracleJ H) (n : Nat) (i0 : Value) (i2 : Value) (i5 : Value) (i : Nat) (x : Value × Value) (s : St H) : (kBlock 0 (kSeq Try.prog true C n 18 none (cdp Try.f18 [1, 1, 1]) (kFun Try.prog Try.f18))) (.exit i) (f18_l0_m i0 i2 i5 x) s =
 (bif Nat.beq i 0 then
 some [(x.1, s)] else none) := by kernel_rfl
theorem f18_r (C : OracleJ H) (n : Nat) (a0 : Value) (s : St H) : bodyD Try.prog true C n 18 Try.f18 [a0] s = f18 (dOps (H := H) Try.prog) C n a0 s := by
  have h1 : bodyD Try.prog true C n 18 Try.f18 [a0] s =
 ((dOps (H := H) Try.prog).buildSlice true s 23 0 []).bind fun p56 =>
 iter (fun t s k => exec Try.prog true C n 18 none (cdp Try.f18 [1, 1, 0, 1, 0, 0]) t s k) (scratch (cdp Try.f18 [1, 1, 0, 1, 0, 0])) n (f18_l0_m a0 (fzV 2 #[]) p56.1 (p56.1, (Go.Value.int Go.IntKind.i64 0))) p56.2 (kBlock 0 (kSeq Try.prog true C n 18 none (cdp Try.f18 [1, 1, 1]) (kFun Try.prog Try.f18))) := by kernel_rfl
  rw [h1]
  simp only [f18_l0_e, f18_l0_k]
  show _ = f18 (dOps (H := H) Try.prog) C n a0 s
  kernel_rfl
/-! tidepole/label.Sort -/
def f19_l0_m (i0 : Value) (i2 : Value) (i4 : Value) (i9 : Value) (i10 : Value) (i11 : Value) (i12 : Value) (i13 : Value) (i14 : Value) (x : Value × Value × Value) : List Value := [i0, undefV, i2, (Go.Value.int Go.IntKind.i64 0), i4, x.1, x.2.1, dc, undefV, i9, i10, i11, i12, i13, i14, x.2.2, dc, dc, dc, dc, dc, dc, dc, dc, dc, dc, dc, dc, dc, dc, dc, dc, dc, dc, dc, dc, dc, dc, dc, dc, dc, dc, dc, dc, dc, dc, dc, dc, undefV, undefV, undefV, undefV, undefV, undefV, undefV, undefV, undefV]
noncomputable def f19_l0 (O : Ops H) (C : OracleJ H) (n : Nat) (i4 : Value) (i13 : Value) (i14 : Value) (nx : (Value × Value × Value) → St H → Option (List (Value × St H))) (kx : Nat → (Value × Value × Value) → St H → Option (List (Value × St H))) (kr : (Value × Value × Value) → St H → Option (List (Value × St H))) (x : Value × Value × Value) (s : St H) : Option (List (Value × St H)) :=
 (O.bop .lss 3 x.2.2 i14).bind fun v8 =>
 (O.boolO v8).bind fun b9 => cond b9 (
 (O.indexAddr 23 i13 x.2.2).bind fun v10 =>
 (O.load s 106 v10).bind fun v11 =>
 (O.alloc s 106).bind fun p12 =>
 (O.store p12.2 106 p12.1 v11).bind fun s13 =>
 jn (fun (j47_40 : Value) =>
 (O.boolO j47_40).bind fun b31 => cond b31 (
 (O.bop .add 3 x.2.2 (Go.Value.int Go.IntKind.i64 1)).bind fun v37 =>
 nx (x.1, x.2.2, v37) s13) (
 (O.load s13 106 p12.1).bind fun v32 =>
 (O.indexAddr 23 i4 x.1).bind fun v33 =>
 (O.store s13 106 v33 v32).bind fun s34 =>
 (O.bop .add 3 x.1 (Go.Value.int Go.IntKind.i64 1)).bind fun v35 =>
 (O.bop .add 3 x.2.2 (Go.Value.int Go.IntKind.i64 1)).bind fun v38 =>
 nx (v35, x.2.2, v38) s34)) fun k47 =>
 (O.bop .add 3 x.2.2 (Go.Value.int Go.IntKind.i64 1)).bind fun v14 =>
 (O.len s13 23 i4).bind fun v15 =>
 (O.bop .lss 3 v14 v15).bind fun v16 =>
 gd v16 (
 (O.bop .add 3 x.2.2 (Go.Value.int Go.IntKind.i64 1)).bind fun v17 =>
 (O.indexAddr 23 i4 v17).bind fun v18 =>
 (O.fieldAddr 106 v18 0).bind fun v19 =>
 (O.load s13 9 v19).bind fun v20 =>
 (O.fieldAddr 106 p12.1 0).bind fun v21 =>
 (O.load s13 9 v21).bind fun v22 =>
 (O.bop .eql 9 v20 v22).bind fun v23 =>
 gd v23 (
 k47 (.bool true)) (
 (O.fieldAddr 106 p12.1 1).bind fun v24 =>
 (O.load s13 9 v24).bind fun v25 =>
 (O.bop .eql 9 v25 (Go.Value.string { data := #[] })).bind fun v26 =>
 k47 v26) (
 none)) (
 (O.fieldAddr 106 p12.1 1).bind fun v27 =>
 (O.load s13 9 v27).bind fun v28 =>
 (O.bop .eql 9 v28 (Go.Value.string { data := #[] })).bind fun v29 =>
 k47 v29) (
 none)) (
 kx 0 (x.1, x.2.1, x.2.2) s)
theorem f19_l0_b (C : OracleJ H) (n : Nat) (i0 : Value) (i2 : Value) (i4 : Value) (i9 : Value) (i10 : Value) (i11 : Value) (i12 : Value) (i13 : Value) (i14 : Value) (x : Value × Value × Value) (s : St H) (nx : List Value → St H → Option (List (Value × St H))) (K : Ex → List Value → St H → Option (List (Value × St H))) :
 exec Try.prog false C n 19 none (cdp Try.f19 [1, 1, 1, 1, 0, 1, 0, 0]) (f19_l0_m i0 i2 i4 i9 i10 i11 i12 i13 i14 x) s (kIter (scratch (cdp Try.f19 [1, 1, 1, 1, 0, 1, 0, 0])) nx K) = f19_l0 (dOps (H := H) Try.prog) C n i4 i13 i14 (fun x s => nx (f19_l0_m i0 i2 i4 i9 i10 i11 i12 i13 i14 x) s) (fun i x s => K (.exit i) (f19_l0_m i0 i2 i4 i9 i10 i11 i12 i13 i14 x) s) (fun x s => K .ret (f19_l0_m i0 i2 i4 i9 i10 i11 i12 i13 i14 x) s) x s := by kernel_rfl
theorem f19_l0_e (C : OracleJ H) (n : Nat) (i0 : Value) (i2 : Value) (i4 : Value) (i9 : Value) (i10 : Value) (i11 : Value) (i12 : Value) (i13 : Value) (i14 : Value) (m : Nat) (x : Value × Value × Value) (s : St H) (K : Ex → List Value → St H → Option (List (Value × St H))) :
 iter (fun t s k => exec Try.prog false C n 19 none (cdp Try.f19 [1, 1, 1, 1, 0, 1, 0, 0]) t s k) (scratch (cdp Try.f19 [1, 1, 1, 1, 0, 1, 0, 0])) m (f19_l0_m i0 i2 i4 i9 i10 i11 i12 i13 i14 x) s K = iterS (f19_l0 (dOps (H := H) Try.prog) C n i4 i13 i14) (fun i x s => K (.exit i) (f19_l0_m i0 i2 i4 i9 i10 i11 i12 i13 i14 x) s) (fun x s => K .ret (f19_l0_m i0 i2 i4 i9 i10 i11 i12 i13 i14 x) s) m x s :=
   iter_eq (f19_l0_m i0 i2 i4 i9 i10 i11 i12 i13 i14) (f19_l0 (dOps (H := H) Try.prog) C n i4 i13 i14) (fun x s nx K => f19_l0_b C n i0 i2 i4 i9 i10 i11 i12 i13 i14 x s nx K) K m x s
noncomputable def f19 (O : Ops H) (C : OracleJ H) (n : Nat) (a0 : Value) (s : St H) : Option (List (Value × St H)) :=
 (C (.fn 64) [a0] s).bind fun L1 => manyK L1 fun v2 s3 =>
 (C (.fn 65) [v2, (.func (.func 66) #[] #[])] s3).bind fun L4 => manyK L4 fun v5 s6 =>
 (O.len s6 23 v2).bind fun v7 =>
 iterS (f19_l0 O C n v2 v2 v7 )
 (fun i39 x40 s41 => (bif Nat.beq i39 0 then
 (O.slc s41 23 v2 none (some x40.1) none).bind fun v44 =>
 (C (.fn 22) [v44] s41).bind fun L45 => manyK L45 fun v46 s47 =>
 (O.bop .neq 26 v46 (Go.Value.int Go.IntKind.i64 0)).bind fun v48 =>
 (O.boolO v48).bind fun b49 => cond b49 (
 some [(.tuple #[(fzV 2 #[]), v46], s47)]) (
 some [(.tuple #[v44, (Go.Value.int Go.IntKind.i64 0)], s47)]) else none))
 (fun x42 s43 => some [(.tuple #[(fzV 2 #[]), (Go.Value.int Go.IntKind.i64 0)], s43)]) n ((Go.Value.int Go.IntKind.i64 0), undefV, (Go.Value.int Go.IntKind.i64 0)) s6
theorem f19_l0_k (C : OracleJ H) (n : Nat) (i0 : Value) (i2 : Value) (i4 : Value) (i9 : Value) (i10 : Value) (i11 : Value) (i12 : Value) (i13 : Value) (i14 : Value) (i : Nat) (x : Value × Value × Value) (s : St H) : (kBlock 0 (kSeq Try.prog false C n 19 none (cdp Try.f19 [1, 1, 1, 1, 1]) (kFun Try.prog Try.f19))) (.exit i) (f19_l0_m i0 i2 i4 i9 i10 i11 i12 i13 i14 x) s =
 (bif Nat.beq i 0 then
 ((dOps (H := H) Try.prog).slc s 23 i4 none (some x.1) none).bind fun v63 =>
 (C (.fn 22) [v63] s).bind fun L64 => manyK L64 fun v65 s66 =>
 ((dOps (H := H) Try.prog).bop .neq 26 v65 (Go.Value.int Go.IntKind.i64 0)).bind fun v67 =>
 ((dOps (H := H) Try.prog).boolO v67).bind fun b68 => cond b68 (
 some [(.tuple #[(fzV 2 #[]), v65], s66)]) (
 some [(.tuple #[v63, (Go.Value.int Go.IntKind.i64 0)], s66)]) else none) := by kernel_rfl
theorem f19_r (C : OracleJ H) (n : Nat) (a0 : Value) (s : St H) : bodyD Try.prog false C n 19 Try.f19 [a0] s = f19 (dOps (H := H) Try.prog) C n a0 s := by
  have h1 : bodyD Try.prog false C n 19 Try.f19 [a0] s =
 (C (.fn 64) [a0] s).bind fun L50 => manyK L50 fun v51 s52 =>
 (C (.fn 65) [v51, (.func (.func 66) #[] #[])] s52).bind fun L53 => manyK L53 fun v54 s55 =>
 ((dOps (H := H) Try.prog).len s55 23 v51).bind fun v56 =>
 iter (fun t s k => exec Try.prog false C n 19 none (cdp Try.f19 [1, 1, 1, 1, 0, 1, 0, 0]) t s k) (scratch (cdp Try.f19 [1, 1, 1, 1, 0, 1, 0, 0])) n (f19_l0_m a0 (fzV 2 #[]) v51 a0 v51 v51 v54 v51 v56 ((Go.Value.int Go.IntKind.i64 0), undefV, (Go.Value.int Go.IntKind.i64 0))) s55 (kBlock 0 (kSeq Try.prog false C n 19 none (cdp Try.f19 [1, 1, 1, 1, 1]) (kFun Try.prog Try.f19))) := by kernel_rfl
  rw [h1]
  simp only [f19_l0_e, f19_l0_k]
  show _ = f19 (dOps (H := H) Try.prog) C n a0 s
  kernel_rfl
/-! tidepole/tidepolebase.Among -/
noncomputable def f20 (O : Ops H) (C : OracleJ H) (n : Nat) (a0 : Value) (a1 : Value) (s : St H) : Option (List (Value × St H)) :=
 (O.bop .lss 3 a1 (Go.Value.int Go.IntKind.i64 1)).bind fun v1 =>
 (O.boolO v1).bind fun b2 => cond b2 (
 some [((Go.Value.int Go.IntKind.i64 0), s)]) (
 (O.conv false s 3 70 a0).bind fun p3 =>
 (O.conv false p3.2 3 70 a1).bind fun p4 =>
 (O.bop .rem 70 p3.1 p4.1).bind fun v5 =>
 (O.conv false p4.2 70 3 v5).bind fun p6 =>
 some [(p6.1, p6.2)])
theorem f20_r (C : OracleJ H) (n : Nat) (a0 : Value) (a1 : Value) (s : St H) : bodyD Try.prog false C n 20 Try.f20 [a0, a1] s = f20 (dOps (H := H) Try.prog) C n a0 a1 s := by kernel_rfl
/-! tidepole/tidepolebase.SameLabels -/
def f21_l0_m (i0 : Value) (i1 : Value) (i6 : Value) (i7 : Value) (i8 : Value) (i9 : Value) (i10 : Value) (x : Value × Value) : List Value := [i0, i1, undefV, undefV, x.1, x.2, i6, i7, i8, i9, i10, dc, dc, dc, dc, dc, dc, dc, dc, dc, dc, dc, dc, dc, dc, dc]
noncomputable def f21_l0 (O : Ops H) (C : OracleJ H) (n : Nat) (i0 : Value) (i1 : Value) (nx : (Value × Value) → St H → Option (List (Value × St H))) (kx : Nat → (Value × Value) → St H → Option (List (Value × St H))) (kr : (Value × Value) → St H → Option (List (Value × St H))) (x : Value × Value) (s : St H) : Option (List (Value × St H)) :=
 (O.len s 23 i0).bind fun v5 =>
 (O.bop .lss 3 x.2 v5).bind fun v6 =>
 (O.boolO v6).bind fun b7 => cond b7 (
 (O.indexAddr 23 i0 x.2).bind fun v8 =>
 (O.load s 106 v8).bind fun v9 =>
 (O.indexAddr 23 i1 x.2).bind fun v10 =>
 (O.load s 106 v10).bind fun v11 =>
 (O.bop .neq 106 v9 v11).bind fun v12 =>
 (O.boolO v12).bind fun b13 => cond b13 (
 kr ((.bool false), x.2) s) (
 (O.bop .add 3 x.2 (Go.Value.int Go.IntKind.i64 1)).bind fun v14 =>
 nx (x.1, v14) s)) (
 kx 0 (x.1, x.2) s)
theorem f21_l0_b (C : OracleJ H) (n : Nat) (i0 : Value) (i1 : Value) (i6 : Value) (i7 : Value) (i8 : Value) (i9 : Value) (i10 : Value) (x : Value × Value) (s : St H) (nx : List Value → St H → Option (List (Value × St H))) (K : Ex → List Value → St H → Option (List (Value × St H))) :
 exec Try.prog false C n 21 none (cdp Try.f21 [1, 1, 0, 1, 0, 0]) (f21_l0_m i0 i1 i6 i7 i8 i9 i10 x) s (kIter (scratch (cdp Try.f21 [1, 1, 0, 1, 0, 0])) nx K) = f21_l0 (dOps (H := H) Try.prog) C n i0 i1 (fun x s => nx (f21_l0_m i0 i1 i6 i7 i8 i9 i10 x) s) (fun i x s => K (.exit i) (f21_l0_m i0 i1 i6 i7 i8 i9 i10 x) s) (fun x s => K .ret (f21_l0_m i0 i1 i6 i7 i8 i9 i10 x) s) x s := by kernel_rfl
theorem f21_l0_e (C : OracleJ H) (n : Nat) (i0 : Value) (i1 : Value) (i6 : Value) (i7 : Value) (i8 : Value) (i9 : Value) (i10 : Value) (m : Nat) (x : Value × Value) (s : St H) (K : Ex → List Value → St H → Option (List (Value × St H))) :
 iter (fun t s k => exec Try.prog false C n 21 none (cdp Try.f21 [1, 1, 0, 1, 0, 0]) t s k) (scratch (cdp Try.f21 [1, 1, 0, 1, 0, 0])) m (f21_l0_m i0 i1 i6 i7 i8 i9 i10 x) s K = iterS (f21_l0 (dOps (H := H) Try.prog) C n i0 i1) (fun i x s => K (.exit i) (f21_l0_m i0 i1 i6 i7 i8 i9 i10 x) s) (fun x s => K .ret (f21_l0_m i0 i1 i6 i7 i8 i9 i10 x) s) m x s :=
   iter_eq (f21_l0_m i0 i1 i6 i7 i8 i9 i10) (f21_l0 (dOps (H := H) Try.prog) C n i0 i1) (fun x s nx K => f21_l0_b C n i0 i1 i6 i7 i8 i9 i10 x s nx K) K m x s
noncomputable def f21 (O : Ops H) (C : OracleJ H) (n : Nat) (a0 : Value) (a1 : Value) (s : St H) : Option (List (Value × St H)) :=
 (O.len s 23 a0).bind fun v1 =>
 (O.len s 23 a1).bind fun v2 =>
 (O.bop .neq 3 v1 v2).bind fun v3 =>
 (O.boolO v3).bind fun b4 => cond b4 (
 some [((.bool false), s)]) (
 iterS (f21_l0 O C n a0 a1 )
 (fun i15 x16 s17 => (bif Nat.beq i15 0 then
 some [((.bool true), s17)] else none))
 (fun x18 s19 => some [(x18.1, s19)]) n ((.bool false), (Go.Value.int Go.IntKind.i64 0)) s)
theorem f21_l0_k (C : OracleJ H) (n : Nat) (i0 : Value) (i1 : Value) (i6 : Value) (i7 : Value) (i8 : Value) (i9 : Value) (i10 : Value) (i : Nat) (x : Value × Value) (s : St H) : (kBlock 0 (kSeq Try.prog false C n 21 none (cdp Try.f21 [1, 1, 1]) (kFun Try.prog Try.f21))) (.exit i) (f21_l0_m i0 i1 i6 i7 i8 i9 i10 x) s =
 (bif Nat.beq i 0 then
 some [((.bool true), s)] else none) := by kernel_rfl
theorem f21_r (C : OracleJ H) (n : Nat) (a0 : Value) (a1 : Value) (s : St H) : bodyD Try.prog false C n 21 Try.f21 [a0, a1] s = f21 (dOps (H := H) Try.prog) C n a0 a1 s := by
  have h1 : bodyD Try.prog false C n 21 Try.f21 [a0, a1] s =
 ((dOps (H := H) Try.prog).len s 23 a0).bind fun v20 =>
 ((dOps (H := H) Try.prog).len s 23 a1).bind fun v21 =>
 ((dOps (H := H) Try.prog).bop .neq 3 v20 v21).bind fun v22 =>
 ((dOps (H := H) Try.prog).boolO v22).bind fun b23 => cond b23 (
 some [((.bool false), s)]) (
 iter (fun t s k => exec Try.prog false C n 21 none (cdp Try.f21 [1, 1, 0, 1, 0, 0]) t s k) (scratch (cdp Try.f21 [1, 1, 0, 1, 0, 0])) n (f21_l0_m a0 a1 a0 v20 a1 v21 v22 ((.bool false), (Go.Value.int Go.IntKind.i64 0))) s (kBlock 0 (kSeq Try.prog false C n 21 none (cdp Try.f21 [1, 1, 1]) (kFun Try.prog Try.f21)))) := by kernel_rfl
  rw [h1]
  simp only [f21_l0_e, f21_l0_k]
  show _ = f21 (dOps (H := H) Try.prog) C n a0 a1 s
  kernel_rfl
/-! tidepole/label.Check -/
def f22_l0_m (i0 : Value) (i6 : Value) (i7 : Value) (i8 : Value) (i10 : Value) (i11 : Value) (i12 : Value) (i13 : Value) (i14 : Value) (i15 : Value) (x : Value × Value × Value) : List Value := [i0, undefV, x.1, x.2.1, undefV, dc, i6, i7, i8, (.bool false), i10, i11, i12, i13, i14, i15, x.2.2, dc, dc, dc, dc, dc, dc, dc, dc, dc, dc, dc, dc, dc, dc, dc, dc, dc, dc, dc, dc, dc, dc, dc, dc, dc, dc, dc]
noncomputable def f22_l0 (O : Ops H) (C : OracleJ H) (n : Nat) (i14 : Value) (i15 : Value) (nx : (Value × Value × Value) → St H → Option (List (Value × St H))) (kx : Nat → (Value × Value × Value) → St H → Option (List (Value × St H))) (kr : (Value × Value × Value) → St H → Option (List (Value × St H))) (x : Value × Value × Value) (s : St H) : Option (List (Value × St H)) :=
 (O.bop .lss 3 x.2.2 i15).bind fun v9 =>
 (O.boolO v9).bind fun b10 => cond b10 (
 (O.indexAddr 23 i14 x.2.2).bind fun v11 =>
 (O.load s 106 v11).bind fun v12 =>
 (O.alloc s 106).bind fun p13 =>
 (O.store p13.2 106 p13.1 v12).bind fun s14 =>
 (O.fieldAddr 106 p13.1 0).bind fun v15 =>
 (O.load s14 9 v15).bind fun v16 =>
 (C (.fn 68) [v16] s14).bind fun L17 => manyK L17 fun v18 s19 =>
 (O.uop .not v18).bind fun v20 =>
 gd v20 (
 kr ((Go.Value.int Go.IntKind.i64 40), x.2.1, x.2.2) s19) (
 (O.fieldAddr 106 p13.1 0).bind fun v21 =>
 (O.load s19 9 v21).bind fun v22 =>
 (O.bop .leq 9 v22 x.2.1).bind fun v23 =>
 gd v23 (
 kr ((Go.Value.int Go.IntKind.i64 40), x.2.1, x.2.2) s19) (
 (O.fieldAddr 106 p13.1 1).bind fun v24 =>
 (O.load s19 9 v24).bind fun v25 =>
 (O.bop .eql 9 v25 (Go.Value.string { data := #[] })).bind fun v26 =>
 gd v26 (
 kr ((Go.Value.int Go.IntKind.i64 40), x.2.1, x.2.2) s19) (
 (O.fieldAddr 106 p13.1 1).bind fun v27 =>
 (O.load s19 9 v27).bind fun v28 =>
 (O.len s19 9 v28).bind fun v29 =>
 (O.bop .gtr 3 v29 (Go.Value.int Go.IntKind.i64 256)).bind fun v30 =>
 (O.boolO v30).bind fun b35 => cond b35 (
 kr ((Go.Value.int Go.IntKind.i64 40), x.2.1, x.2.2) s19) (
 (O.fieldAddr 106 p13.1 0).bind fun v36 =>
 (O.load s19 9 v36).bind fun v37 =>
 (O.bop .add 3 x.2.2 (Go.Value.int Go.IntKind.i64 1)).bind fun v38 =>
 nx (x.1, v37, v38) s19)) (
 none)) (
 none)) (
 none)) (
 kx 0 (x.1, x.2.1, x.2.2) s)
theorem f22_l0_b (C : OracleJ H) (n : Nat) (i0 : Value) (i6 : Value) (i7 : Value) (i8 : Value) (i10 : Value) (i11 : Value) (i12 : Value) (i13 : Value) (i14 : Value) (i15 : Value) (x : Value × Value × Value) (s : St H) (nx : List Value → St H → Option (List (Value × St H))) (K : Ex → List Value → St H → Option (List (Value × St H))) :
 exec Try.prog false C n 22 none (cdp Try.f22 [1, 1, 1, 0, 1, 0, 0]) (f22_l0_m i0 i6 i7 i8 i10 i11 i12 i13 i14 i15 x) s (kIter (scratch (cdp Try.f22 [1, 1, 1, 0, 1, 0, 0])) nx K) = f22_l0 (dOps (H := H) Try.prog) C n i14 i15 (fun x s => nx (f22_l0_m i0 i6 i7 i8 i10 i11 i12 i13 i14 i15 x) s) (fun i x s => K (.exit i) (f22_l0_m i0 i6 i7 i8 i10 i11 i12 i13 i14 i15 x) s) (fun x s => K .ret (f22_l0_m i0 i6 i7 i8 i10 i11 i12 i13 i14 i15 x) s) x s := by kernel_rfl
theorem f22_l0_e (C : OracleJ H) (n : Nat) (i0 : Value) (i6 : Value) (i7 : Value) (i8 : Value) (i10 : Value) (i11 : Value) (i12 : Value) (i13 : Value) (i14 : Value) (i15 : Value) (m : Nat) (x : Value × Value × Value) (s : St H) (K : Ex → List Value → St H → Option (List (Value × St H))) :
 iter (fun t s k => exec Try.prog false C n 22 none (cdp Try.f22 [1, 1, 1, 0, 1, 0, 0]) t s k) (scratch (cdp Try.f22 [1, 1, 1, 0, 1, 0, 0])) m (f22_l0_m i0 i6 i7 i8 i10 i11 i12 i13 i14 i15 x) s K = iterS (f22_l0 (dOps (H := H) Try.prog) C n i14 i15) (fun i x s => K (.exit i) (f22_l0_m i0 i6 i7 i8 i10 i11 i12 i13 i14 i15 x) s) (fun x s => K .ret (f22_l0_m i0 i6 i7 i8 i10 i11 i12 i13 i14 i15 x) s) m x s :=
   iter_eq (f22_l0_m i0 i6 i7 i8 i10 i11 i12 i13 i14 i15) (f22_l0 (dOps (H := H) Try.prog) C n i14 i15) (fun x s nx K => f22_l0_b C n i0 i6 i7 i8 i10 i11 i12 i13 i14 i15 x s nx K) K m x s
noncomputable def f22 (O : Ops H) (C : OracleJ H) (n : Nat) (a0 : Value) (s : St H) : Option (List (Value × St H)) :=
 (O.len s 23 a0).bind fun v1 =>
 (O.bop .eql 3 v1 (Go.Value.int Go.IntKind.i64 0)).bind fun v2 =>
 gd v2 (
 some [((Go.Value.int Go.IntKind.i64 40), s)]) (
 (O.len s 23 a0).bind fun v3 =>
 (O.bop .gtr 3 v3 (Go.Value.int Go.IntKind.i64 16)).bind fun v4 =>
 (O.boolO v4).bind fun b7 => cond b7 (
 some [((Go.Value.int Go.IntKind.i64 40), s)]) (
 (O.len s 23 a0).bind fun v8 =>
 iterS (f22_l0 O C n a0 v8 )
 (fun i39 x40 s41 => (bif Nat.beq i39 0 then
 some [((Go.Value.int Go.IntKind.i64 0), s41)] else none))
 (fun x42 s43 => some [(x42.1, s43)]) n ((Go.Value.int Go.IntKind.i64 0), (Go.Value.string { data := #[] }), (Go.Value.int Go.IntKind.i64 0)) s)) (
 none)
theorem f22_l0_k (C : OracleJ H) (n : Nat) (i0 : Value) (i6 : Value) (i7 : Value) (i8 : Value) (i10 : Value) (i11 : Value) (i12 : Value) (i13 : Value) (i14 : Value) (i15 : Value) (i : Nat) (x : Value × Value × Value) (s : St H) : (kBlock 0 (kSeq Try.prog false C n 22 none (cdp Try.f22 [1, 1, 1, 1]) (kFun Try.prog Try.f22))) (.exit i) (f22_l0_m i0 i6 i7 i8 i10 i11 i12 i13 i14 i15 x) s =
 (bif Nat.beq i 0 then
 some [((Go.Value.int Go.IntKind.i64 0), s)] else none) := by kernel_rfl
theorem f22_r (C : OracleJ H) (n : Nat) (a0 : Value) (s : St H) : bodyD Try.prog false C n 22 Try.f22 [a0] s = f22 (dOps (H := H) Try.prog) C n a0 s := by
  have h1 : bodyD Try.prog false C n 22 Try.f22 [a0] s =
 ((dOps (H := H) Try.prog).len s 23 a0).bind fun v44 =>
 ((dOps (H := H) Try.prog).bop .eql 3 v44 (Go.Value.int Go.IntKind.i64 0)).bind fun v45 =>
 gd v45 (
 some [((Go.Value.int Go.IntKind.i64 40), s)]) (
 ((dOps (H := H) Try.prog).len s 23 a0).bind fun v46 =>
 ((dOps (H := H) Try.prog).bop .gtr 3 v46 (Go.Value.int Go.IntKind.i64 16)).bind fun v47 =>
 ((dOps (H := H) Try.prog).boolO v47).bind fun b50 => cond b50 (
 some [((Go.Value.int Go.IntKind.i64 40), s)]) (
 ((dOps (H := H) Try.prog).len s 23 a0).bind fun v51 =>
 iter (fun t s k => exec Try.prog false C n 22 none (cdp Try.f22 [1, 1, 1, 0, 1, 0, 0]) t s k) (scratch (cdp Try.f22 [1, 1, 1, 0, 1, 0, 0])) n (f22_l0_m a0 a0 v44 v45 a0 v46 v47 v47 a0 v51 ((Go.Value.int Go.IntKind.i64 0), (Go.Value.string { data := #[] }), (Go.Value.int Go.IntKind.i64 0))) s (kBlock 0 (kSeq Try.prog false C n 22 none (cdp Try.f22 [1, 1, 1, 1]) (kFun Try.prog Try.f22))))) (
 none) := by kernel_rfl
  rw [h1]
  simp only [f22_l0_e, f22_l0_k]
  show _ = f22 (dOps (H := H) Try.prog) C n a0 s
  kernel_rfl
/-! tidepole/label.Put -/
def f24_l0_m (i0 : Value) (i1 : Value) (i4 : Value) (i6 : Value) (i10 : Value) (i11 : Value) (i12 : Value) (i13 : Value) (i15 : Value) (i16 : Value) (i17 : Value) (i18 : Value) (i19 : Value) (i20 : Value) (i21 : Value) (x : Value × Value) : List Value := [i0, i1, undefV, undefV, i4, (Go.Value.int Go.IntKind.i64 0), i6, x.1, undefV, dc, i10, i11, i12, i13, undefV, i15, i16, i17, i18, i19, i20, i21, x.2, dc, dc, dc, dc, dc, dc, dc, dc, dc, dc, dc, dc, dc, dc, dc, dc, dc, dc, dc, dc, undefV]
noncomputable def f24_l0 (O : Ops H) (C : OracleJ H) (n : Nat) (i20 : Value) (i21 : Value) (nx : (Value × Value) → St H → Option (List (Value × St H))) (kx : Nat → (Value × Value) → St H → Option (List (Value × St H))) (kr : (Value × Value) → St H → Option (List (Value × St H))) (x : Value × Value) (s : St H) : Option (List (Value × St H)) :=
 (O.bop .lss 3 x.2 i21).bind fun v12 =>
 (O.boolO v12).bind fun b13 => cond b13 (
 (O.indexAddr 23 i20 x.2).bind fun v14 =>
 (O.load s 106 v14).bind fun v15 =>
 (O.alloc s 106).bind fun p16 =>
 (O.store p16.2 106 p16.1 v15).bind fun s17 =>
 (O.fieldAddr 106 p16.1 0).bind fun v18 =>
 (O.load s17 9 v18).bind fun v19 =>
 (O.conv false s17 9 35 v19).bind fun p20 =>
 (C (.fn 73) [x.1, p20.1] p20.2).bind fun L21 => manyK L21 fun v22 s23 =>
 (O.extract v22 0).bind fun v24 =>
 (O.extract v22 1).bind fun v25 =>
 (O.fieldAddr 106 p16.1 1).bind fun v26 =>
 (O.load s23 9 v26).bind fun v27 =>
 (O.conv false s23 9 35 v27).bind fun p28 =>
 (C (.fn 73) [v24, p28.1] p28.2).bind fun L29 => manyK L29 fun v30 s31 =>
 (O.extract v30 0).bind fun v32 =>
 (O.extract v30 1).bind fun v33 =>
 (O.bop .add 3 x.2 (Go.Value.int Go.IntKind.i64 1)).bind fun v34 =>
 nx (v32, v34) s31) (
 kx 0 (x.1, x.2) s)
theorem f24_l0_b (C : OracleJ H) (n : Nat) (i0 : Value) (i1 : Value) (i4 : Value) (i6 : Value) (i10 : Value) (i11 : Value) (i12 : Value) (i13 : Value) (i15 : Value) (i16 : Value) (i17 : Value) (i18 : Value) (i19 : Value) (i20 : Value) (i21 : Value) (x : Value × Value) (s : St H) (nx : List Value → St H → Option (List (Value × St H))) (K : Ex → List Value → St H → Option (List (Value × St H))) :
 exec Try.prog false C n 24 none (cdp Try.f24 [1, 1, 1, 0, 1, 0, 0]) (f24_l0_m i0 i1 i4 i6 i10 i11 i12 i13 i15 i16 i17 i18 i19 i20 i21 x) s (kIter (scratch (cdp Try.f24 [1, 1, 1, 0, 1, 0, 0])) nx K) = f24_l0 (dOps (H := H) Try.prog) C n i20 i21 (fun x s => nx (f24_l0_m i0 i1 i4 i6 i10 i11 i12 i13 i15 i16 i17 i18 i19 i20 i21 x) s) (fun i x s => K (.exit i) (f24_l0_m i0 i1 i4 i6 i10 i11 i12 i13 i15 i16 i17 i18 i19 i20 i21 x) s) (fun x s => K .ret (f24_l0_m i0 i1 i4 i6 i10 i11 i12 i13 i15 i16 i17 i18 i19 i20 i21 x) s) x s := by kernel_rfl
theorem f24_l0_e (C : OracleJ H) (n : Nat) (i0 : Value) (i1 : Value) (i4 : Value) (i6 : Value) (i10 : Value) (i11 : Value) (i12 : Value) (i13 : Value) (i15 : Value) (i16 : Value) (i17 : Value) (i18 : Value) (i19 : Value) (i20 : Value) (i21 : Value) (m : Nat) (x : Value × Value) (s : St H) (K : Ex → List Value → St H → Option (List (Value × St H))) :
 iter (fun t s k => exec Try.prog false C n 24 none (cdp Try.f24 [1, 1, 1, 0, 1, 0, 0]) t s k) (scratch (cdp Try.f24 [1, 1, 1, 0, 1, 0, 0])) m (f24_l0_m i0 i1 i4 i6 i10 i11 i12 i13 i15 i16 i17 i18 i19 i20 i21 x) s K = iterS (f24_l0 (dOps (H := H) Try.prog) C n i20 i21) (fun i x s => K (.exit i) (f24_l0_m i0 i1 i4 i6 i10 i11 i12 i13 i15 i16 i17 i18 i19 i20 i21 x) s) (fun x s => K .ret (f24_l0_m i0 i1 i4 i6 i10 i11 i12 i13 i15 i16 i17 i18 i19 i20 i21 x) s) m x s :=
   iter_eq (f24_l0_m i0 i1 i4 i6 i10 i11 i12 i13 i15 i16 i17 i18 i19 i20 i21) (f24_l0 (dOps (H := H) Try.prog) C n i20 i21) (fun x s nx K => f24_l0_b C n i0 i1 i4 i6 i10 i11 i12 i13 i15 i16 i17 i18 i19 i20 i21 x s nx K) K m x s
noncomputable def f24 (O : Ops H) (C : OracleJ H) (n : Nat) (a0 : Value) (a1 : Value) (s : St H) : Option (List (Value × St H)) :=
 (C (.fn 22) [a1] s).bind fun L1 => manyK L1 fun v2 s3 =>
 (O.bop .neq 26 v2 (Go.Value.int Go.IntKind.i64 0)).bind fun v4 =>
 (O.boolO v4).bind fun b5 => cond b5 (
 some [(.tuple #[(fzV 2 #[]), v2], s3)]) (
 (O.len s3 23 a1).bind fun v6 =>
 (O.conv false s3 3 70 v6).bind fun p7 =>
 (C (.fn 72) [a0, p7.1] p7.2).bind fun L8 => manyK L8 fun v9 s10 =>
 (O.len s10 23 a1).bind fun v11 =>
 iterS (f24_l0 O C n a1 v11 )
 (fun i35 x36 s37 => (bif Nat.beq i35 0 then
 some [(.tuple #[x36.1, (Go.Value.int Go.IntKind.i64 0)], s37)] else none))
 (fun x38 s39 => some [(.tuple #[(fzV 2 #[]), (Go.Value.int Go.IntKind.i64 0)], s39)]) n (v9, (Go.Value.int Go.IntKind.i64 0)) s10)
theorem f24_l0_k (C : OracleJ H) (n : Nat) (i0 : Value) (i1 : Value) (i4 : Value) (i6 : Value) (i10 : Value) (i11 : Value) (i12 : Value) (i13 : Value) (i15 : Value) (i16 : Value) (i17 : Value) (i18 : Value) (i19 : Value) (i20 : Value) (i21 : Value) (i : Nat) (x : Value × Value) (s : St H) : (kBlock 0 (kSeq Try.prog false C n 24 none (cdp Try.f24 [1, 1, 1, 1]) (kFun Try.prog Try.f24))) (.exit i) (f24_l0_m i0 i1 i4 i6 i10 i11 i12 i13 i15 i16 i17 i18 i19 i20 i21 x) s =
 (bif Nat.beq i 0 then
 some [(.tuple #[x.1, (Go.Value.int Go.IntKind.i64 0)], s)] else none) := by kernel_rfl
theorem f24_r (C : OracleJ H) (n : Nat) (a0 : Value) (a1 : Value) (s : St H) : bodyD Try.prog false C n 24 Try.f24 [a0, a1] s = f24 (dOps (H := H) Try.prog) C n a0 a1 s := by
  have h1 : bodyD Try.prog false C n 24 Try.f24 [a0, a1] s =
 (C (.fn 22) [a1] s).bind fun L40 => manyK L40 fun v41 s42 =>
 ((dOps (H := H) Try.prog).bop .neq 26 v41 (Go.Value.int Go.IntKind.i64 0)).bind fun v43 =>
 ((dOps (H := H) Try.prog).boolO v43).bind fun b44 => cond b44 (
 some [(.tuple #[(fzV 2 #[]), v41], s42)]) (
 ((dOps (H := H) Try.prog).len s42 23 a1).bind fun v45 =>
 ((dOps (H := H) Try.prog).conv false s42 3 70 v45).bind fun p46 =>
 (C (.fn 72) [a0, p46.1] p46.2).bind fun L47 => manyK L47 fun v48 s49 =>
 ((dOps (H := H) Try.prog).len s49 23 a1).bind fun v50 =>
 iter (fun t s k => exec Try.prog false C n 24 none (cdp Try.f24 [1, 1, 1, 0, 1, 0, 0]) t s k) (scratch (cdp Try.f24 [1, 1, 1, 0, 1, 0, 0])) n (f24_l0_m a0 a1 (fzV 2 #[]) v41 a1 v41 v41 v43 a0 a1 v45 p46.1 v48 a1 v50 (v48, (Go.Value.int Go.IntKind.i64 0))) s49 (kBlock 0 (kSeq Try.prog false C n 24 none (cdp Try.f24 [1, 1, 1, 1]) (kFun Try.prog Try.f24)))) := by kernel_rfl
  rw [h1]
  simp only [f24_l0_e, f24_l0_k]
  show _ = f24 (dOps (H := H) Try.prog) C n a0 a1 s
  kernel_rfl
/-! tidepole/label.Read -/
def f25_l0_m (i0 : Value) (i7 : Value) (i8 : Value) (i14 : Value) (i15 : Value) (i16 : Value) (i17 : Value) (i18 : Value) (i19 : Value) (i20 : Value) (i21 : Value) (i22 : Value) (i23 : Value) (i25 : Value) (i26 : Value) (i27 : Value) (i28 : Value) (i29 : Value) (x : Value × Value × Value × Value × Value × Value × Value × Value) : List Value := [i0, x.1, undefV, undefV, x.2.1, x.2.2.1, x.2.2.2.1, i7, i8, x.2.2.2.2.1, dc, x.2.2.2.2.2.1, x.2.2.2.2.2.2.1, undefV, i14, i15, i16, i17, i18, i19, i20, i21, i22, i23, undefV, i25, i26, i27, i28, i29, x.2.2.2.2.2.2.2, dc, dc, dc, dc, dc, dc, dc, dc, dc, dc, dc, dc, dc, dc, dc, dc, dc, undefV, undefV, undefV, undefV, undefV, undefV, undefV]
noncomputable def f25_l0 (O : Ops H) (C : OracleJ H) (n : Nat) (i0 : Value) (i29 : Value) (nx : (Value × Value × Value × Value × Value × Value × Value × Value) → St H → Option (List (Value × St H))) (kx : Nat → (Value × Value × Value × Value × Value × Value × Value × Value) → St H → Option (List (Value × St H))) (kr : (Value × Value × Value × Value × Value × Value × Value × Value) → St H → Option (List (Value × St H))) (x : Value × Value × Value × Value × Value × Value × Value × Value) (s : St H) : Option (List (Value × St H)) :=
 (O.bop .lss 3 x.2.2.2.2.2.2.2 i29).bind fun v12 =>
 (O.boolO v12).bind fun b13 => cond b13 (
 (C (.fn 75) [i0, x.1] s).bind fun L14 => manyK L14 fun v15 s16 =>
 (O.extract v15 0).bind fun v17 =>
 (O.extract v15 1).bind fun v18 =>
 (O.extract v15 2).bind fun v19 =>
 (O.alloc s16 106).bind fun p20 =>
 (O.store p20.2 106 p20.1 v17).bind fun s21 =>
 (O.bop .neq 26 v19 (Go.Value.int Go.IntKind.i64 0)).bind fun v22 =>
 (O.boolO v22).bind fun b23 => cond b23 (
 kr (x.1, (fzV 2 #[]), (Go.Value.int Go.IntKind.i64 0), v19, x.2.2.2.2.1, v18, v19, x.2.2.2.2.2.2.2) s21) (
 (O.load s21 106 p20.1).bind fun v24 =>
 (O.buildSlice false s21 23 1 [(0, v24)]).bind fun p25 =>
 (O.append false p25.2 23 23 x.2.2.2.2.1 p25.1).bind fun p26 =>
 (O.bop .add 3 x.2.2.2.2.2.2.2 (Go.Value.int Go.IntKind.i64 1)).bind fun v27 =>
 nx (v18, x.2.1, x.2.2.1, x.2.2.2.1, p26.1, v18, v19, v27) p26.2)) (
 kx 1 (x.1, x.2.1, x.2.2.1, x.2.2.2.1, x.2.2.2.2.1, x.2.2.2.2.2.1, x.2.2.2.2.2.2.1, x.2.2.2.2.2.2.2) s)
theorem f25_l0_b (C : OracleJ H) (n : Nat) (i0 : Value) (i7 : Value) (i8 : Value) (i14 : Value) (i15 : Value) (i16 : Value) (i17 : Value) (i18 : Value) (i19 : Value) (i20 : Value) (i21 : Value) (i22 : Value) (i23 : Value) (i25 : Value) (i26 : Value) (i27 : Value) (i28 : Value) (i29 : Value) (x : Value × Value × Value × Value × Value × Value × Value × Value) (s : St H) (nx : List Value → St H → Option (List (Value × St H))) (K : Ex → List Value → St H → Option (List (Value × St H))) :
 exec Try.prog false C n 25 none (cdp Try.f25 [1, 1, 1, 1, 0, 1, 0, 0]) (f25_l0_m i0 i7 i8 i14 i15 i16 i17 i18 i19 i20 i21 i22 i23 i25 i26 i27 i28 i29 x) s (kIter (scratch (cdp Try.f25 [1, 1, 1, 1, 0, 1, 0, 0])) nx K) = f25_l0 (dOps (H := H) Try.prog) C n i0 i29 (fun x s => nx (f25_l0_m i0 i7 i8 i14 i15 i16 i17 i18 i19 i20 i21 i22 i23 i25 i26 i27 i28 i29 x) s) (fun i x s => K (.exit i) (f25_l0_m i0 i7 i8 i14 i15 i16 i17 i18 i19 i20 i21 i22 i23 i25 i26 i27 i28 i29 x) s) (fun x s => K .ret (f25_l0_m i0 i7 i8 i14 i15 i16 i17 i18 i19 i20 i21 i22 i23 i25 i26 i27 i28 i29 x) s) x s := by kernel_rfl
theorem f25_l0_e (C : OracleJ H) (n : Nat) (i0 : Value) (i7 : Value) (i8 : Value) (i14 : Value) (i15 : Value) (i16 : Value) (i17 : Value) (i18 : Value) (i19 : Value) (i20 : Value) (i21 : Value) (i22 : Value) (i23 : Value) (i25 : Value) (i26 : Value) (i27 : Value) (i28 : Value) (i29 : Value) (m : Nat) (x : Value × Value × Value × Value × Value × Value × Value × Value) (s : St H) (K : Ex → List Value → St H → Option (List (Value × St H))) :
 iter (fun t s k => exec Try.prog false C n 25 none (cdp Try.f25 [1, 1, 1, 1, 0, 1, 0, 0]) t s k) (scratch (cdp Try.f25 [1, 1, 1, 1, 0, 1, 0, 0])) m (f25_l0_m i0 i7 i8 i14 i15 i16 i17 i18 i19 i20 i21 i22 i23 i25 i26 i27 i28 i29 x) s K = iterS (f25_l0 (dOps (H := H) Try.prog) C n i0 i29) (fun i x s => K (.exit i) (f25_l0_m i0 i7 i8 i14 i15 i16 i17 i18 i19 i20 i21 i22 i23 i25 i26 i27 i28 i29 x) s) (fun x s => K .ret (f25_l0_m i0 i7 i8 i14 i15 i16 i17 i18 i19 i20 i21 i22 i23 i25 i26 i27 i28 i29 x) s) m x s :=
   iter_eq (f25_l0_m i0 i7 i8 i14 i15 i16 i17 i18 i19 i20 i21 i22 i23 i25 i26 i27 i28 i29) (f25_l0 (dOps (H := H) Try.prog) C n i0 i29) (fun x s nx K => f25_l0_b C n i0 i7 i8 i14 i15 i16 i17 i18 i19 i20 i21 i22 i23 i25 i26 i27 i28 i29 x s nx K) K m x s
noncomputable def f25 (O : Ops H) (C : OracleJ H) (n : Nat) (a0 : Value) (a1 : Value) (s : St H) : Option (List (Value × St H)) :=
 (C (.fn 74) [a0, a1] s).bind fun L1 => manyK L1 fun v2 s3 =>
 (O.extract v2 0).bind fun v4 =>
 (O.extract v2 1).bind fun v5 =>
 (O.extract v2 2).bind fun v6 =>
 (O.bop .neq 26 v6 (Go.Value.int Go.IntKind.i64 0)).bind fun v7 =>
 (O.boolO v7).bind fun b8 => cond b8 (
 some [(.tuple #[(fzV 2 #[]), (Go.Value.int Go.IntKind.i64 0), v6], s3)]) (
 (O.bop .gtr 70 v4 (Go.Value.int Go.IntKind.u64 16)).bind fun v9 =>
 (O.boolO v9).bind fun b10 => cond b10 (
 some [(.tuple #[(fzV 2 #[]), (Go.Value.int Go.IntKind.i64 0), (Go.Value.int Go.IntKind.i64 40)], s3)]) (
 (O.conv false s3 70 3 v4).bind fun p11 =>
 iterS (f25_l0 O C n a0 p11.1 )
 (fun i28 x29 s30 => (bif Nat.beq i28 1 then
 (C (.fn 22) [x29.2.2.2.2.1] s30).bind fun L33 => manyK L33 fun v34 s35 =>
 (O.bop .neq 26 v34 (Go.Value.int Go.IntKind.i64 0)).bind fun v36 =>
 (O.boolO v36).bind fun b37 => cond b37 (
 some [(.tuple #[(fzV 2 #[]), (Go.Value.int Go.IntKind.i64 0), v34], s35)]) (
 some [(.tuple #[x29.2.2.2.2.1, x29.1, (Go.Value.int Go.IntKind.i64 0)], s35)]) else none))
 (fun x31 s32 => some [(.tuple #[x31.2.1, x31.2.2.1, x31.2.2.2.1], s32)]) n (v5, (fzV 2 #[]), (Go.Value.int Go.IntKind.i64 0), (Go.Value.int Go.IntKind.i64 0), (fzV 2 #[]), undefV, undefV, (Go.Value.int Go.IntKind.i64 0)) p11.2))
theorem f25_l0_k (C : OracleJ H) (n : Nat) (i0 : Value) (i7 : Value) (i8 : Value) (i14 : Value) (i15 : Value) (i16 : Value) (i17 : Value) (i18 : Value) (i19 : Value) (i20 : Value) (i21 : Value) (i22 : Value) (i23 : Value) (i25 : Value) (i26 : Value) (i27 : Value) (i28 : Value) (i29 : Value) (i : Nat) (x : Value × Value × Value × Value × Value × Value × Value × Value) (s : St H) : (kBlock 1 (kSeq Try.prog false C n 25 none (cdp Try.f25 [1, 1, 1, 1, 1]) (kFun Try.prog Try.f25))) (.exit i) (f25_l0_m i0 i7 i8 i14 i15 i16 i17 i18 i19 i20 i21 i22 i23 i25 i26 i27 i28 i29 x) s =
 (bif Nat.beq i 1 then
 (C (.fn 22) [x.2.2.2.2.1] s).bind fun L54 => manyK L54 fun v55 s56 =>
 ((dOps (H := H) Try.prog).bop .neq 26 v55 (Go.Value.int Go.IntKind.i64 0)).bind fun v57 =>
 ((dOps (H := H) Try.prog).boolO v57).bind fun b58 => cond b58 (
 some [(.tuple #[(fzV 2 #[]), (Go.Value.int Go.IntKind.i64 0), v55], s56)]) (
 some [(.tuple #[x.2.2.2.2.1, x.1, (Go.Value.int Go.IntKind.i64 0)], s56)]) else none) := by kernel_rfl
theorem f25_r (C : OracleJ H) (n : Nat) (a0 : Value) (a1 : Value) (s : St H) : bodyD Try.prog false C n 25 Try.f25 [a0, a1] s = f25 (dOps (H := H) Try.prog) C n a0 a1 s := by
  have h1 : bodyD Try.prog false C n 25 Try.f25 [a0, a1] s =
 (C (.fn 74) [a0, a1] s).bind fun L38 => manyK L38 fun v39 s40 =>
 ((dOps (H := H) Try.prog).extract v39 0).bind fun v41 =>
 ((dOps (H := H) Try.prog).extract v39 1).bind fun v42 =>
 ((dOps (H := H) Try.prog).extract v39 2).bind fun v43 =>
 ((dOps (H := H) Try.prog).bop .neq 26 v43 (Go.Value.int Go.IntKind.i64 0)).bind fun v44 =>
 ((dOps (H := H) Try.prog).boolO v44).bind fun b45 => cond b45 (
 some [(.tuple #[(fzV 2 #[]), (Go.Value.int Go.IntKind.i64 0), v43], s40)]) (
 ((dOps (H := H) Try.prog).bop .gtr 70 v41 (Go.Value.int Go.IntKind.u64 16)).bind fun v46 =>
 ((dOps (H := H) Try.prog).boolO v46).bind fun b47 => cond b47 (
 some [(.tuple #[(fzV 2 #[]), (Go.Value.int Go.IntKind.i64 0), (Go.Value.int Go.IntKind.i64 40)], s40)]) (
 ((dOps (H := H) Try.prog).conv false s40 70 3 v41).bind fun p48 =>
 iter (fun t s k => exec Try.prog false C n 25 none (cdp Try.f25 [1, 1, 1, 1, 0, 1, 0, 0]) t s k) (scratch (cdp Try.f25 [1, 1, 1, 1, 0, 1, 0, 0])) n (f25_l0_m a0 v41 v43 v39 a0 a1 v39 v41 v42 v43 v44 v43 v44 v46 v41 v46 v41 p48.1 (v42, (fzV 2 #[]), (Go.Value.int Go.IntKind.i64 0), (Go.Value.int Go.IntKind.i64 0), (fzV 2 #[]), undefV, undefV, (Go.Value.int Go.IntKind.i64 0))) p48.2 (kBlock 1 (kSeq Try.prog false C n 25 none (cdp Try.f25 [1, 1, 1, 1, 1]) (kFun Try.prog Try.f25))))) := by kernel_rfl
  rw [h1]
  simp only [f25_l0_e, f25_l0_k]
  show _ = f25 (dOps (H := H) Try.prog) C n a0 a1 s
  kernel_rfl
/-! tidepole/tidepolebase.SameBytes -/
noncomputable def f26 (O : Ops H) (C : OracleJ H) (n : Nat) (a0 : Value) (a1 : Value) (s : St H) : Option (List (Value × St H)) :=
 (O.conv false s 35 9 a0).bind fun p1 =>
 (O.conv false p1.2 35 9 a1).bind fun p2 =>
 (O.bop .eql 9 p1.1 p2.1).bind fun v3 =>
 some [(v3, p2.2)]
theorem f26_r (C : OracleJ H) (n : Nat) (a0 : Value) (a1 : Value) (s : St H) : bodyD Try.prog false C n 26 Try.f26 [a0, a1] s = f26 (dOps (H := H) Try.prog) C n a0 a1 s := by kernel_rfl
/-! tidepole/label.Get -/
noncomputable def f29 (O : Ops H) (C : OracleJ H) (n : Nat) (a0 : Value) (a1 : Value) (s : St H) : Option (List (Value × St H)) :=
 (C (.fn 80) [a0, a1] s).bind fun L1 => manyK L1 fun v2 s3 =>
 (O.bop .geq 3 v2 (Go.Value.int Go.IntKind.i64 0)).bind fun v4 =>
 (O.boolO v4).bind fun b5 => cond b5 (
 (O.indexAddr 23 a0 v2).bind fun v6 =>
 (O.fieldAddr 106 v6 1).bind fun v7 =>
 (O.load s3 9 v7).bind fun v8 =>
 some [(v8, s3)]) (
 some [((Go.Value.string { data := #[] }), s3)])
theorem f29_r (C : OracleJ H) (n : Nat) (a0 : Value) (a1 : Value) (s : St H) : bodyD Try.prog false C n 29 Try.f29 [a0, a1] s = f29 (dOps (H := H) Try.prog) C n a0 a1 s := by kernel_rfl
/-! slices.Clone[tidepole/api.Labels,tidepole/api.Label] -/
noncomputable def f64 (O : Ops H) (C : OracleJ H) (n : Nat) (a0 : Value) (s : St H) : Option (List (Value × St H)) :=
 (O.bop .eql 23 a0 (fzV 2 #[])).bind fun v1 =>
 (O.boolO v1).bind fun b2 => cond b2 (
 some [((fzV 2 #[]), s)]) (
 (O.buildSlice true s 23 0 []).bind fun p3 =>
 (O.append true p3.2 23 23 p3.1 a0).bind fun p4 =>
 some [(p4.1, p4.2)])
theorem f64_r (C : OracleJ H) (n : Nat) (a0 : Value) (s : St H) : bodyD Try.prog true C n 64 Try.f64 [a0] s = f64 (dOps (H := H) Try.prog) C n a0 s := by kernel_rfl
/-! slices.SortStableFunc[tidepole/api.Labels,tidepole/api.Label] -/
noncomputable def f65 (O : Ops H) (C : OracleJ H) (n : Nat) (a0 : Value) (a1 : Value) (s : St H) : Option (List (Value × St H)) :=
 (O.len s 23 a0).bind fun v1 =>
 (C (.fn 116) [a0, v1, a1] s).bind fun L2 => manyK L2 fun v3 s4 =>
 some [(.tuple #[], s4)]
theorem f65_r (C : OracleJ H) (n : Nat) (a0 : Value) (a1 : Value) (s : St H) : bodyD Try.prog false C n 65 Try.f65 [a0, a1] s = f65 (dOps (H := H) Try.prog) C n a0 a1 s := by kernel_rfl
/-! tidepole/label.Sort$1 -/
noncomputable def f66 (O : Ops H) (C : OracleJ H) (n : Nat) (a0 : Value) (a1 : Value) (s : St H) : Option (List (Value × St H)) :=
 (O.box s a0).bind fun p1 =>
 (O.box p1.2 a1).bind fun p2 =>
 (O.fieldAddr 106 p1.1 0).bind fun v3 =>
 (O.load p2.2 9 v3).bind fun v4 =>
 (O.fieldAddr 106 p2.1 0).bind fun v5 =>
 (O.load p2.2 9 v5).bind fun v6 =>
 (C (.fn 67) [v4, v6] p2.2).bind fun L7 => manyK L7 fun v8 s9 =>
 some [(v8, s9)]
theorem f66_r (C : OracleJ H) (n : Nat) (a0 : Value) (a1 : Value) (s : St H) : bodyD Try.prog false C n 66 Try.f66 [a0, a1] s = f66 (dOps (H := H) Try.prog) C n a0 a1 s := by kernel_rfl
/-! tidepole/label.named -/
def f68_l0_m (i0 : Value) (i4 : Value) (i5 : Value) (x : Value × Value × Value) : List Value := [i0, undefV, x.1, x.2.1, i4, i5, x.2.2, dc, dc, dc, dc, dc, dc, dc, dc, dc, dc, undefV, undefV, undefV, undefV, undefV, undefV, undefV]
noncomputable def f68_l0 (O : Ops H) (C : OracleJ H) (n : Nat) (i0 : Value) (i5 : Value) (nx : (Value × Value × Value) → St H → Option (List (Value × St H))) (kx : Nat → (Value × Value × Value) → St H → Option (List (Value × St H))) (kr : (Value × Value × Value) → St H → Option (List (Value × St H))) (x : Value × Value × Value) (s : St H) : Option (List (Value × St H)) :=
 (O.bop .lss 3 x.2.2 i5).bind fun v2 =>
 (O.boolO v2).bind fun b3 => cond b3 (
 (O.index 9 i0 x.2.2).bind fun v4 =>
 (O.bop .eql 3 x.2.2 (Go.Value.int Go.IntKind.i64 0)).bind fun v5 =>
 (C (.fn 118) [v4, v5] s).bind fun L6 => manyK L6 fun v7 s8 =>
 (O.uop .not v7).bind fun v9 =>
 (O.boolO v9).bind fun b10 => cond b10 (
 kr ((.bool false), x.2.2, x.2.2) s8) (
 (O.bop .add 3 x.2.2 (Go.Value.int Go.IntKind.i64 1)).bind fun v11 =>
 nx (x.1, x.2.2, v11) s8)) (
 kx 0 (x.1, x.2.1, x.2.2) s)
theorem f68_l0_b (C : OracleJ H) (n : Nat) (i0 : Value) (i4 : Value) (i5 : Value) (x : Value × Value × Value) (s : St H) (nx : List Value → St H → Option (List (Value × St H))) (K : Ex → List Value → St H → Option (List (Value × St H))) :
 exec Try.prog false C n 68 none (cdp Try.f68 [1, 0, 1, 0, 0]) (f68_l0_m i0 i4 i5 x) s (kIter (scratch (cdp Try.f68 [1, 0, 1, 0, 0])) nx K) = f68_l0 (dOps (H := H) Try.prog) C n i0 i5 (fun x s => nx (f68_l0_m i0 i4 i5 x) s) (fun i x s => K (.exit i) (f68_l0_m i0 i4 i5 x) s) (fun x s => K .ret (f68_l0_m i0 i4 i5 x) s) x s := by kernel_rfl
theorem f68_l0_e (C : OracleJ H) (n : Nat) (i0 : Value) (i4 : Value) (i5 : Value) (m : Nat) (x : Value × Value × Value) (s : St H) (K : Ex → List Value → St H → Option (List (Value × St H))) :
 iter (fun t s k => exec Try.prog false C n 68 none (cdp Try.f68 [1, 0, 1, 0, 0]) t s k) (scratch (cdp Try.f68 [1, 0, 1, 0, 0])) m (f68_l0_m i0 i4 i5 x) s K = iterS (f68_l0 (dOps (H := H) Try.prog) C n i0 i5) (fun i x s => K (.exit i) (f68_l0_m i0 i4 i5 x) s) (fun x s => K .ret (f68_l0_m i0 i4 i5 x) s) m x s :=
   iter_eq (f68_l0_m i0 i4 i5) (f68_l0 (dOps (H := H) Try.prog) C n i0 i5) (fun x s nx K => f68_l0_b C n i0 i4 i5 x s nx K) K m x s
noncomputable def f68 (O : Ops H) (C : OracleJ H) (n : Nat) (a0 : Value) (s : St H) : Option (List (Value × St H)) :=
 (O.len s 9 a0).bind fun v1 =>
 iterS (f68_l0 O C n a0 v1 )
 (fun i12 x13 s14 => (bif Nat.beq i12 0 then
 (O.bop .neq 9 a0 (Go.Value.string { data := #[] })).bind fun v17 =>
 gd v17 (
 (O.len s14 9 a0).bind fun v18 =>
 (O.bop .leq 3 v18 (Go.Value.int Go.IntKind.i64 64)).bind fun v19 =>
 some [(v19, s14)]) (
 some [((.bool false), s14)]) (
 none) else none))
 (fun x15 s16 => some [(x15.1, s16)]) n ((.bool false), undefV, (Go.Value.int Go.IntKind.i64 0)) s
theorem f68_l0_k (C : OracleJ H) (n : Nat) (i0 : Value) (i4 : Value) (i5 : Value) (i : Nat) (x : Value × Value × Value) (s : St H) : (kBlock 0 (kSeq Try.prog false C n 68 none (cdp Try.f68 [1, 1]) (kFun Try.prog Try.f68))) (.exit i) (f68_l0_m i0 i4 i5 x) s =
 (bif Nat.beq i 0 then
 ((dOps (H := H) Try.prog).bop .neq 9 i0 (Go.Value.string { data := #[] })).bind fun v24 =>
 gd v24 (
 ((dOps (H := H) Try.prog).len s 9 i0).bind fun v25 =>
 ((dOps (H := H) Try.prog).bop .leq 3 v25 (Go.Value.int Go.IntKind.i64 64)).bind fun v26 =>
 some [(v26, s)]) (
 some [((.bool false), s)]) (
 none) else none) := by kernel_rfl
theorem f68_r (C : OracleJ H) (n : Nat) (a0 : Value) (s : St H) : bodyD Try.prog false C n 68 Try.f68 [a0] s = f68 (dOps (H := H) Try.prog) C n a0 s := by
  have h1 : bodyD Try.prog false C n 68 Try.f68 [a0] s =
 ((dOps (H := H) Try.prog).len s 9 a0).bind fun v20 =>
 iter (fun t s k => exec Try.prog false C n 68 none (cdp Try.f68 [1, 0, 1, 0, 0]) t s k) (scratch (cdp Try.f68 [1, 0, 1, 0, 0])) n (f68_l0_m a0 a0 v20 ((.bool false), undefV, (Go.Value.int Go.IntKind.i64 0))) s (kBlock 0 (kSeq Try.prog false C n 68 none (cdp Try.f68 [1, 1]) (kFun Try.prog Try.f68))) := by kernel_rfl
  rw [h1]
  simp only [f68_l0_e, f68_l0_k]
  show _ = f68 (dOps (H := H) Try.prog) C n a0 s
  kernel_rfl
/-! tidepole/vint.Put -/
noncomputable def f72 (O : Ops H) (C : OracleJ H) (n : Nat) (a0 : Value) (a1 : Value) (s : St H) : Option (List (Value × St H)) :=
 (C (.fn 123) [a0, a1, (.func (.func 124) #[] #[])] s).bind fun L1 => manyK L1 fun v2 s3 =>
 some [(v2, s3)]
theorem f72_r (C : OracleJ H) (n : Nat) (a0 : Value) (a1 : Value) (s : St H) : bodyD Try.prog false C n 72 Try.f72 [a0, a1] s = f72 (dOps (H := H) Try.prog) C n a0 a1 s := by kernel_rfl
/-! tidepole/vint.PutBytes -/
noncomputable def f73 (O : Ops H) (C : OracleJ H) (n : Nat) (a0 : Value) (a1 : Value) (s : St H) : Option (List (Value × St H)) :=
 (O.len s 35 a1).bind fun v1 =>
 (O.bop .gtr 3 v1 (Go.Value.int Go.IntKind.i64 65536)).bind fun v2 =>
 (O.boolO v2).bind fun b3 => cond b3 (
 some [(.tuple #[(fzV 2 #[]), (Go.Value.int Go.IntKind.i64 3)], s)]) (
 (O.len s 35 a1).bind fun v4 =>
 (O.conv false s 3 70 v4).bind fun p5 =>
 (C (.fn 72) [a0, p5.1] p5.2).bind fun L6 => manyK L6 fun v7 s8 =>
 (O.append false s8 35 35 v7 a1).bind fun p9 =>
 some [(.tuple #[p9.1, (Go.Value.int Go.IntKind.i64 0)], p9.2)])
theorem f73_r (C : OracleJ H) (n : Nat) (a0 : Value) (a1 : Value) (s : St H) : bodyD Try.prog false C n 73 Try.f73 [a0, a1] s = f73 (dOps (H := H) Try.prog) C n a0 a1 s := by kernel_rfl
/-! tidepole/vint.Read -/
def f74_l0_m (i0 : Value) (i1 : Value) (i10 : Value) (i11 : Value) (i13 : Value) (i14 : Value) (i15 : Value) (i16 : Value) (i17 : Value) (i18 : Value) (i19 : Value) (i20 : Value) (i21 : Value) (x : Value × Value × Value × Value × Value × Value × Value × Value) : List Value := [i0, i1, undefV, undefV, x.1, x.2.1, x.2.2.1, x.2.2.2.1, x.2.2.2.2.1, x.2.2.2.2.2.1, i10, i11, (.bool false), i13, i14, i15, i16, i17, i18, i19, i20, i21, x.2.2.2.2.2.2.1, dc, dc, dc, dc, x.2.2.2.2.2.2.2, dc, dc, dc, dc, dc, dc, dc, dc, dc, dc, dc, dc, dc, dc, dc, dc, dc, dc, dc, dc, dc, dc, dc, dc, dc, dc, dc, dc]
noncomputable def f74_l0 (O : Ops H) (C : OracleJ H) (n : Nat) (i1 : Value) (i20 : Value) (i21 : Value) (nx : (Value × Value × Value × Value × Value × Value × Value × Value) → St H → Option (List (Value × St H))) (kx : Nat → (Value × Value × Value × Value × Value × Value × Value × Value) → St H → Option (List (Value × St H))) (kr : (Value × Value × Value × Value × Value × Value × Value × Value) → St H → Option (List (Value × St H))) (x : Value × Value × Value × Value × Value × Value × Value × Value) (s : St H) : Option (List (Value × St H)) :=
 (O.bop .lss 3 x.2.2.2.2.2.2.1 i21).bind fun v9 =>
 (O.boolO v9).bind fun b10 => cond b10 (
 (O.indexAddr 35 i20 x.2.2.2.2.2.2.1).bind fun v11 =>
 (O.load s 5 v11).bind fun v12 =>
 jn (fun (j267_27 : Value) =>
 jn (fun (j274_27 : Value) =>
 (O.boolO j274_27).bind fun b24 => cond b24 (
 kr ((Go.Value.int Go.IntKind.u64 0), (Go.Value.int Go.IntKind.i64 0), (Go.Value.int Go.IntKind.i64 10), x.2.2.2.1, x.2.2.2.2.2.2.1, v12, x.2.2.2.2.2.2.1, j274_27) s) (
 (O.bop .and 5 v12 (Go.Value.int Go.IntKind.u8 127)).bind fun v25 =>
 (O.conv false s 5 70 v25).bind fun p26 =>
 (O.bop .mul 3 (Go.Value.int Go.IntKind.i64 7) x.2.2.2.2.2.2.1).bind fun v27 =>
 (O.bop .shl 70 p26.1 v27).bind fun v28 =>
 (O.bop .or 70 x.2.2.2.1 v28).bind fun v29 =>
 (O.bop .lss 5 v12 (Go.Value.int Go.IntKind.u8 128)).bind fun v30 =>
 (O.boolO v30).bind fun b31 => cond b31 (
 (O.bop .add 3 i1 x.2.2.2.2.2.2.1).bind fun v32 =>
 (O.bop .add 3 v32 (Go.Value.int Go.IntKind.i64 1)).bind fun v33 =>
 kr (v29, v33, (Go.Value.int Go.IntKind.i64 0), v29, x.2.2.2.2.2.2.1, v12, x.2.2.2.2.2.2.1, j274_27) p26.2) (
 (O.bop .add 3 x.2.2.2.2.2.2.1 (Go.Value.int Go.IntKind.i64 1)).bind fun v34 =>
 nx (x.1, x.2.1, x.2.2.1, v29, x.2.2.2.2.2.2.1, v12, v34, j274_27) p26.2))) fun k274 =>
 (O.boolO j267_27).bind fun b20 => cond b20 (
 k274 j267_27) (
 jn (fun (j275_27 : Value) =>
 k274 j275_27) fun k275 =>
 (O.bop .gtr 3 x.2.2.2.2.2.2.1 (Go.Value.int Go.IntKind.i64 0)).bind fun v21 =>
 gd v21 (
 (O.bop .eql 5 v12 (Go.Value.int Go.IntKind.u8 0)).bind fun v22 =>
 k275 v22) (
 k275 (.bool false)) (
 none))) fun k267 =>
 (O.bop .eql 3 x.2.2.2.2.2.2.1 (Go.Value.int Go.IntKind.i64 9)).bind fun v13 =>
 gd v13 (
 (O.bop .gtr 5 v12 (Go.Value.int Go.IntKind.u8 1)).bind fun v14 =>
 k267 v14) (
 k267 (.bool false)) (
 none)) (
 kx 0 (x.1, x.2.1, x.2.2.1, x.2.2.2.1, x.2.2.2.2.1, x.2.2.2.2.2.1, x.2.2.2.2.2.2.1, x.2.2.2.2.2.2.2) s)
theorem f74_l0_b (C : OracleJ H) (n : Nat) (i0 : Value) (i1 : Value) (i10 : Value) (i11 : Value) (i13 : Value) (i14 : Value) (i15 : Value) (i16 : Value) (i17 : Value) (i18 : Value) (i19 : Value) (i20 : Value) (i21 : Value) (x : Value × Value × Value × Value × Value × Value × Value × Value) (s : St H) (nx : List Value → St H → Option (List (Value × St H))) (K : Ex → List Value → St H → Option (List (Value × St H))) :
 exec Try.prog false C n 74 none (cdp Try.f74 [1, 1, 1, 0, 1, 0, 0]) (f74_l0_m i0 i1 i10 i11 i13 i14 i15 i16 i17 i18 i19 i20 i21 x) s (kIter (scratch (cdp Try.f74 [1, 1, 1, 0, 1, 0, 0])) nx K) = f74_l0 (dOps (H := H) Try.prog) C n i1 i20 i21 (fun x s => nx (f74_l0_m i0 i1 i10 i11 i13 i14 i15 i16 i17 i18 i19 i20 i21 x) s) (fun i x s => K (.exit i) (f74_l0_m i0 i1 i10 i11 i13 i14 i15 i16 i17 i18 i19 i20 i21 x) s) (fun x s => K .ret (f74_l0_m i0 i1 i10 i11 i13 i14 i15 i16 i17 i18 i19 i20 i21 x) s) x s := by kernel_rfl
theorem f74_l0_e (C : OracleJ H) (n : Nat) (i0 : Value) (i1 : Value) (i10 : Value) (i11 : Value) (i13 : Value) (i14 : Value) (i15 : Value) (i16 : Value) (i17 : Value) (i18 : Value) (i19 : Value) (i20 : Value) (i21 : Value) (m : Nat) (x : Value × Value × Value × Value × Value × Value × Value × Value) (s : St H) (K : Ex → List Value → St H → Option (List (Value × St H))) :
 iter (fun t s k => exec Try.prog false C n 74 none (cdp Try.f74 [1, 1, 1, 0, 1, 0, 0]) t s k) (scratch (cdp Try.f74 [1, 1, 1, 0, 1, 0, 0])) m (f74_l0_m i0 i1 i10 i11 i13 i14 i15 i16 i17 i18 i19 i20 i21 x) s K = iterS (f74_l0 (dOps (H := H) Try.prog) C n i1 i20 i21) (fun i x s => K (.exit i) (f74_l0_m i0 i1 i10 i11 i13 i14 i15 i16 i17 i18 i19 i20 i21 x) s) (fun x s => K .ret (f74_l0_m i0 i1 i10 i11 i13 i14 i15 i16 i17 i18 i19 i20 i21 x) s) m x s :=
   iter_eq (f74_l0_m i0 i1 i10 i11 i13 i14 i15 i16 i17 i18 i19 i20 i21) (f74_l0 (dOps (H := H) Try.prog) C n i1 i20 i21) (fun x s nx K => f74_l0_b C n i0 i1 i10 i11 i13 i14 i15 i16 i17 i18 i19 i20 i21 x s nx K) K m x s
noncomputable def f74 (O : Ops H) (C : OracleJ H) (n : Nat) (a0 : Value) (a1 : Value) (s : St H) : Option (List (Value × St H)) :=
 (O.bop .lss 3 a1 (Go.Value.int Go.IntKind.i64 0)).bind fun v1 =>
 gd v1 (
 some [(.tuple #[(Go.Value.int Go.IntKind.u64 0), (Go.Value.int Go.IntKind.i64 0), (Go.Value.int Go.IntKind.i64 2)], s)]) (
 (O.len s 35 a0).bind fun v2 =>
 (O.bop .gtr 3 a1 v2).bind fun v3 =>
 (O.boolO v3).bind fun b6 => cond b6 (
 some [(.tuple #[(Go.Value.int Go.IntKind.u64 0), (Go.Value.int Go.IntKind.i64 0), (Go.Value.int Go.IntKind.i64 2)], s)]) (
 (O.slc s 35 a0 (some a1) none none).bind fun v7 =>
 (O.len s 35 v7).bind fun v8 =>
 iterS (f74_l0 O C n a1 v7 v8 )
 (fun i35 x36 s37 => (bif Nat.beq i35 0 then
 some [(.tuple #[(Go.Value.int Go.IntKind.u64 0), (Go.Value.int Go.IntKind.i64 0), (Go.Value.int Go.IntKind.i64 7)], s37)] else none))
 (fun x38 s39 => some [(.tuple #[x38.1, x38.2.1, x38.2.2.1], s39)]) n ((Go.Value.int Go.IntKind.u64 0), (Go.Value.int Go.IntKind.i64 0), (Go.Value.int Go.IntKind.i64 0), (Go.Value.int Go.IntKind.u64 0), undefV, undefV, (Go.Value.int Go.IntKind.i64 0), undefV) s)) (
 none)
theorem f74_l0_k (C : OracleJ H) (n : Nat) (i0 : Value) (i1 : Value) (i10 : Value) (i11 : Value) (i13 : Value) (i14 : Value) (i15 : Value) (i16 : Value) (i17 : Value) (i18 : Value) (i19 : Value) (i20 : Value) (i21 : Value) (i : Nat) (x : Value × Value × Value × Value × Value × Value × Value × Value) (s : St H) : (kBlock 0 (kSeq Try.prog false C n 74 none (cdp Try.f74 [1, 1, 1, 1]) (kFun Try.prog Try.f74))) (.exit i) (f74_l0_m i0 i1 i10 i11 i13 i14 i15 i16 i17 i18 i19 i20 i21 x) s =
 (bif Nat.beq i 0 then
 some [(.tuple #[(Go.Value.int Go.IntKind.u64 0), (Go.Value.int Go.IntKind.i64 0), (Go.Value.int Go.IntKind.i64 7)], s)] else none) := by kernel_rfl
theorem f74_r (C : OracleJ H) (n : Nat) (a0 : Value) (a1 : Value) (s : St H) : bodyD Try.prog false C n 74 Try.f74 [a0, a1] s = f74 (dOps (H := H) Try.prog) C n a0 a1 s := by
  have h1 : bodyD Try.prog false C n 74 Try.f74 [a0, a1] s =
 ((dOps (H := H) Try.prog).bop .lss 3 a1 (Go.Value.int Go.IntKind.i64 0)).bind fun v40 =>
 gd v40 (
 some [(.tuple #[(Go.Value.int Go.IntKind.u64 0), (Go.Value.int Go.IntKind.i64 0), (Go.Value.int Go.IntKind.i64 2)], s)]) (
 ((dOps (H := H) Try.prog).len s 35 a0).bind fun v41 =>
 ((dOps (H := H) Try.prog).bop .gtr 3 a1 v41).bind fun v42 =>
 ((dOps (H := H) Try.prog).boolO v42).bind fun b45 => cond b45 (
 some [(.tuple #[(Go.Value.int Go.IntKind.u64 0), (Go.Value.int Go.IntKind.i64 0), (Go.Value.int Go.IntKind.i64 2)], s)]) (
 ((dOps (H := H) Try.prog).slc s 35 a0 (some a1) none none).bind fun v46 =>
 ((dOps (H := H) Try.prog).len s 35 v46).bind fun v47 =>
 iter (fun t s k => exec Try.prog false C n 74 none (cdp Try.f74 [1, 1, 1, 0, 1, 0, 0]) t s k) (scratch (cdp Try.f74 [1, 1, 1, 0, 1, 0, 0])) n (f74_l0_m a0 a1 a1 v40 a1 a0 v41 v42 v42 a0 a1 v46 v47 ((Go.Value.int Go.IntKind.u64 0), (Go.Value.int Go.IntKind.i64 0), (Go.Value.int Go.IntKind.i64 0), (Go.Value.int Go.IntKind.u64 0), undefV, undefV, (Go.Value.int Go.IntKind.i64 0), undefV)) s (kBlock 0 (kSeq Try.prog false C n 74 none (cdp Try.f74 [1, 1, 1, 1]) (kFun Try.prog Try.f74))))) (
 none) := by kernel_rfl
  rw [h1]
  simp only [f74_l0_e, f74_l0_k]
  show _ = f74 (dOps (H := H) Try.prog) C n a0 a1 s
  kernel_rfl
/-! tidepole/label.one -/
noncomputable def f75 (O : Ops H) (C : OracleJ H) (n : Nat) (a0 : Value) (a1 : Value) (s : St H) : Option (List (Value × St H)) :=
 (O.alloc s 106).bind fun p1 =>
 (C (.fn 125) [a0, a1] p1.2).bind fun L2 => manyK L2 fun v3 s4 =>
 (O.extract v3 0).bind fun v5 =>
 (O.extract v3 1).bind fun v6 =>
 (O.extract v3 2).bind fun v7 =>
 (O.bop .neq 26 v7 (Go.Value.int Go.IntKind.i64 0)).bind fun v8 =>
 (O.boolO v8).bind fun b9 => cond b9 (
 (O.build 106 []).bind fun v10 =>
 (O.store s4 106 p1.1 v10).bind fun s11 =>
 (O.load s11 106 p1.1).bind fun v12 => some [(.tuple #[v12, (Go.Value.int Go.IntKind.i64 0), v7], s11)]) (
 (C (.fn 125) [a0, v6] s4).bind fun L13 => manyK L13 fun v14 s15 =>
 (O.extract v14 0).bind fun v16 =>
 (O.extract v14 1).bind fun v17 =>
 (O.extract v14 2).bind fun v18 =>
 (O.build 106 [(0, v5), (1, v16)]).bind fun v19 =>
 (O.store s15 106 p1.1 v19).bind fun s20 =>
 (O.load s20 106 p1.1).bind fun v21 => some [(.tuple #[v21, v17, v18], s20)])
theorem f75_r (C : OracleJ H) (n : Nat) (a0 : Value) (a1 : Value) (s : St H) : bodyD Try.prog false C n 75 Try.f75 [a0, a1] s = f75 (dOps (H := H) Try.prog) C n a0 a1 s := by kernel_rfl
/-! tidepole/label.at -/
noncomputable def f80 (O : Ops H) (C : OracleJ H) (n : Nat) (a0 : Value) (a1 : Value) (s : St H) : Option (List (Value × St H)) :=
 (O.box s a1).bind fun p1 =>
 (C (.fn 126) [a0, (.func (.func 130) #[] #[p1.1])] p1.2).bind fun L2 => manyK L2 fun v3 s4 =>
 some [(v3, s4)]
theorem f80_r (C : OracleJ H) (n : Nat) (a0 : Value) (a1 : Value) (s : St H) : bodyD Try.prog false C n 80 Try.f80 [a0, a1] s = f80 (dOps (H := H) Try.prog) C n a0 a1 s := by kernel_rfl
/-! slices.stableCmpFunc[tidepole/api.Label] -/
def f116_l0_m (i0 : Value) (i1 : Value) (i2 : Value) (x : Value × Value) : List Value := [i0, i1, i2, undefV, undefV, undefV, (Go.Value.int Go.IntKind.i64 20), x.1, x.2, undefV, (Go.Value.int Go.IntKind.i64 20), dc, dc, dc, dc, dc, dc, dc, dc, dc, dc, dc, dc, undefV, undefV, undefV, undefV, undefV, undefV, undefV, undefV, undefV, undefV, undefV, undefV, undefV, undefV, undefV, undefV, undefV, undefV, undefV, undefV, undefV, undefV, undefV, undefV, undefV, undefV, undefV, undefV, undefV, undefV, undefV, undefV, undefV, undefV, undefV, undefV, undefV, undefV, undefV, undefV]
noncomputable def f116_l0 (O : Ops H) (C : OracleJ H) (n : Nat) (i0 : Value) (i1 : Value) (i2 : Value) (nx : (Value × Value) → St H → Option (List (Value × St H))) (kx : Nat → (Value × Value) → St H → Option (List (Value × St H))) (kr : (Value × Value) → St H → Option (List (Value × St H))) (x : Value × Value) (s : St H) : Option (List (Value × St H)) :=
 (O.bop .leq 3 x.2 i1).bind fun v1 =>
 (O.boolO v1).bind fun b2 => cond b2 (
 (C (.fn 159) [i0, x.1, x.2, i2] s).bind fun L3 => manyK L3 fun v4 s5 =>
 (O.bop .add 3 x.2 (Go.Value.int Go.IntKind.i64 20)).bind fun v6 =>
 nx (x.2, v6) s5) (
 kx 0 (x.1, x.2) s)
theorem f116_l0_b (C : OracleJ H) (n : Nat) (i0 : Value) (i1 : Value) (i2 : Value) (x : Value × Value) (s : St H) (nx : List Value → St H → Option (List (Value × St H))) (K : Ex → List Value → St H → Option (List (Value × St H))) :
 exec Try.prog false C n 116 none (cdp Try.f116 [1, 1, 0, 0, 0]) (f116_l0_m i0 i1 i2 x) s (kIter (scratch (cdp Try.f116 [1, 1, 0, 0, 0])) nx K) = f116_l0 (dOps (H := H) Try.prog) C n i0 i1 i2 (fun x s => nx (f116_l0_m i0 i1 i2 x) s) (fun i x s => K (.exit i) (f116_l0_m i0 i1 i2 x) s) (fun x s => K .ret (f116_l0_m i0 i1 i2 x) s) x s := by kernel_rfl
theorem f116_l0_e (C : OracleJ H) (n : Nat) (i0 : Value) (i1 : Value) (i2 : Value) (m : Nat) (x : Value × Value) (s : St H) (K : Ex → List Value → St H → Option (List (Value × St H))) :
 iter (fun t s k => exec Try.prog false C n 116 none (cdp Try.f116 [1, 1, 0, 0, 0]) t s k) (scratch (cdp Try.f116 [1, 1, 0, 0, 0])) m (f116_l0_m i0 i1 i2 x) s K = iterS (f116_l0 (dOps (H := H) Try.prog) C n i0 i1 i2) (fun i x s => K (.exit i) (f116_l0_m i0 i1 i2 x) s) (fun x s => K .ret (f116_l0_m i0 i1 i2 x) s) m x s :=
   iter_eq (f116_l0_m i0 i1 i2) (f116_l0 (dOps (H := H) Try.prog) C n i0 i1 i2) (fun x s nx K => f116_l0_b C n i0 i1 i2 x s nx K) K m x s
def f116_l2_m (i0 : Value) (i1 : Value) (i2 : Value) (i6 : Value) (i9 : Value) (i23 : Value) (i24 : Value) (i25 : Value) (i26 : Value) (i27 : Value) (i28 : Value) (i29 : Value) (i30 : Value) (i31 : Value) (i32 : Value) (x : Value × Value) : List Value := [i0, i1, i2, undefV, undefV, undefV, i6, x.1, x.2, i9, (Go.Value.int Go.IntKind.i64 20), dc, dc, dc, dc, dc, dc, dc, dc, dc, dc, dc, dc, i23, i24, i25, i26, i27, i28, i29, i30, i31, i32, dc, dc, dc, dc, dc, dc, dc, dc, dc, dc, dc, dc, dc, dc, dc, dc, dc, dc, dc, dc, dc, dc, dc, dc, dc, dc, dc, dc, dc, dc]
noncomputable def f116_l2 (O : Ops H) (C : OracleJ H) (n : Nat) (i0 : Value) (i1 : Value) (i2 : Value) (i6 : Value) (nx : (Value × Value) → St H → Option (List (Value × St H))) (kx : Nat → (Value × Value) → St H → Option (List (Value × St H))) (kr : (Value × Value) → St H → Option (List (Value × St H))) (x : Value × Value) (s : St H) : Option (List (Value × St H)) :=
 (O.bop .leq 3 x.2 i1).bind fun v18 =>
 (O.boolO v18).bind fun b19 => cond b19 (
 (O.bop .add 3 x.1 i6).bind fun v20 =>
 (C (.fn 160) [i0, x.1, v20, x.2, i2] s).bind fun L21 => manyK L21 fun v22 s23 =>
 (O.bop .mul 3 (Go.Value.int Go.IntKind.i64 2) i6).bind fun v24 =>
 (O.bop .add 3 x.2 v24).bind fun v25 =>
 nx (x.2, v25) s23) (
 kx 4 (x.1, x.2) s)
theorem f116_l2_b (C : OracleJ H) (n : Nat) (i0 : Value) (i1 : Value) (i2 : Value) (i6 : Value) (i9 : Value) (i23 : Value) (i24 : Value) (i25 : Value) (i26 : Value) (i27 : Value) (i28 : Value) (i29 : Value) (i30 : Value) (i31 : Value) (i32 : Value) (x : Value × Value) (s : St H) (nx : List Value → St H → Option (List (Value × St H))) (K : Ex → List Value → St H → Option (List (Value × St H))) :
 exec Try.prog false C n 116 none (cdp Try.f116 [1, 1, 1, 1, 0, 0, 1, 0, 1, 0, 0, 0]) (f116_l2_m i0 i1 i2 i6 i9 i23 i24 i25 i26 i27 i28 i29 i30 i31 i32 x) s (kIter (scratch (cdp Try.f116 [1, 1, 1, 1, 0, 0, 1, 0, 1, 0, 0, 0])) nx K) = f116_l2 (dOps (H := H) Try.prog) C n i0 i1 i2 i6 (fun x s => nx (f116_l2_m i0 i1 i2 i6 i9 i23 i24 i25 i26 i27 i28 i29 i30 i31 i32 x) s) (fun i x s => K (.exit i) (f116_l2_m i0 i1 i2 i6 i9 i23 i24 i25 i26 i27 i28 i29 i30 i31 i32 x) s) (fun x s => K .ret (f116_l2_m i0 i1 i2 i6 i9 i23 i24 i25 i26 i27 i28 i29 i30 i31 i32 x) s) x s := by kernel_rfl
theorem f116_l2_e (C : OracleJ H) (n : Nat) (i0 : Value) (i1 : Value) (i2 : Value) (i6 : Value) (i9 : Value) (i23 : Value) (i24 : Value) (i25 : Value) (i26 : Value) (i27 : Value) (i28 : Value) (i29 : Value) (i30 : Value) (i31 : Value) (i32 : Value) (m : Nat) (x : Value × Value) (s : St H) (K : Ex → List Value → St H → Option (List (Value × St H))) :
 iter (fun t s k => exec Try.prog false C n 116 none (cdp Try.f116 [1, 1, 1, 1, 0, 0, 1, 0, 1, 0, 0, 0]) t s k) (scratch (cdp Try.f116 [1, 1, 1, 1, 0, 0, 1, 0, 1, 0, 0, 0])) m (f116_l2_m i0 i1 i2 i6 i9 i23 i24 i25 i26 i27 i28 i29 i30 i31 i32 x) s K = iterS (f116_l2 (dOps (H := H) Try.prog) C n i0 i1 i2 i6) (fun i x s => K (.exit i) (f116_l2_m i0 i1 i2 i6 i9 i23 i24 i25 i26 i27 i28 i29 i30 i31 i32 x) s) (fun x s => K .ret (f116_l2_m i0 i1 i2 i6 i9 i23 i24 i25 i26 i27 i28 i29 i30 i31 i32 x) s) m x s :=
   iter_eq (f116_l2_m i0 i1 i2 i6 i9 i23 i24 i25 i26 i27 i28 i29 i30 i31 i32) (f116_l2 (dOps (H := H) Try.prog) C n i0 i1 i2 i6) (fun x s nx K => f116_l2_b C n i0 i1 i2 i6 i9 i23 i24 i25 i26 i27 i28 i29 i30 i31 i32 x s nx K) K m x s
def f116_l1_m (i0 : Value) (i1 : Value) (i2 : Value) (i23 : Value) (i24 : Value) (i25 : Value) (i26 : Value) (i27 : Value) (x : Value × Value × Value × Value) : List Value := [i0, i1, i2, undefV, undefV, undefV, x.1, x.2.1, x.2.2.1, x.2.2.2, (Go.Value.int Go.IntKind.i64 20), dc, dc, dc, dc, dc, dc, dc, dc, dc, dc, dc, dc, i23, i24, i25, i26, i27, dc, dc, dc, dc, dc, dc, dc, dc, dc, dc, dc, dc, dc, dc, dc, dc, dc, dc, dc, dc, dc, dc, dc, dc, dc, dc, dc, dc, dc, dc, dc, dc, dc, dc, dc]
noncomputable def f116_l1 (O : Ops H) (C : OracleJ H) (n : Nat) (i0 : Value) (i1 : Value) (i2 : Value) (i26 : Value) (nx : (Value × Value × Value × Value) → St H → Option (List (Value × St H))) (kx : Nat → (Value × Value × Value × Value) → St H → Option (List (Value × St H))) (kr : (Value × Value × Value × Value) → St H → Option (List (Value × St H))) (x : Value × Value × Value × Value) (s : St H) : Option (List (Value × St H)) :=
 (O.bop .lss 3 x.1 i1).bind fun v15 =>
 (O.boolO v15).bind fun b16 => cond b16 (
 (O.bop .mul 3 (Go.Value.int Go.IntKind.i64 2) x.1).bind fun v17 =>
 iterS (f116_l2 O C n i0 i1 i2 x.1 )
 (fun i26 x27 s28 => (bif Nat.beq i26 4 then
 (O.bop .add 3 x27.1 x.1).bind fun v31 =>
 (O.bop .lss 3 v31 i1).bind fun v32 =>
 jn (fun (js330 : St H) =>
 (O.bop .mul 3 x.1 (Go.Value.int Go.IntKind.i64 2)).bind fun v38 =>
 nx (v38, x27.1, x27.2, v31) js330) fun k330 =>
 (O.boolO v32).bind fun b33 => cond b33 (
 (C (.fn 160) [i0, x27.1, v31, i1, i2] s28).bind fun L34 => manyK L34 fun v35 s36 =>
 k330 s36) (
 k330 s28) else (bif Nat.beq i26 3 then
 nx (x.1, x27.1, x27.2, x.2.2.2) s28 else kx i26 (x.1, x27.1, x27.2, x.2.2.2) s28)))
 (fun x29 s30 => kr (x.1, x29.1, x29.2, x.2.2.2) s30) n ((Go.Value.int Go.IntKind.i64 0), v17) s) (
 kx 2 (x.1, x.2.1, x.2.2.1, x.2.2.2) s)
theorem f116_l2_k (C : OracleJ H) (n : Nat) (i0 : Value) (i1 : Value) (i2 : Value) (i6 : Value) (i9 : Value) (i23 : Value) (i24 : Value) (i25 : Value) (i26 : Value) (i27 : Value) (i28 : Value) (i29 : Value) (i30 : Value) (i31 : Value) (i32 : Value) (nx : List Value → St H → Option (List (Value × St H))) (K : Ex → List Value → St H → Option (List (Value × St H))) (i : Nat) (x : Value × Value) (s : St H) : (kBlock 4 (kSeq Try.prog false C n 116 none (cdp Try.f116 [1, 1, 1, 1, 0, 0, 1, 0, 1, 1]) (kBlock 3 (kIter (scratch (cdp Try.f116 [1, 1, 1, 1, 0, 0])) nx K)))) (.exit i) (f116_l2_m i0 i1 i2 i6 i9 i23 i24 i25 i26 i27 i28 i29 i30 i31 i32 x) s =
 (bif Nat.beq i 4 then
 ((dOps (H := H) Try.prog).bop .add 3 x.1 i6).bind fun v50 =>
 ((dOps (H := H) Try.prog).bop .lss 3 v50 i1).bind fun v51 =>
 jn (fun (js347 : St H) =>
 ((dOps (H := H) Try.prog).bop .mul 3 i6 (Go.Value.int Go.IntKind.i64 2)).bind fun v57 =>
 nx (f116_l1_m i0 i1 i2 i23 i24 i25 i26 i27 (v57, x.1, x.2, v50)) js347) fun k347 =>
 ((dOps (H := H) Try.prog).boolO v51).bind fun b52 => cond b52 (
 (C (.fn 160) [i0, x.1, v50, i1, i2] s).bind fun L53 => manyK L53 fun v54 s55 =>
 k347 s55) (
 k347 s) else (bif Nat.beq i 3 then
 nx (f116_l1_m i0 i1 i2 i23 i24 i25 i26 i27 (i6, x.1, x.2, i9)) s else K (.exit i) (f116_l1_m i0 i1 i2 i23 i24 i25 i26 i27 (i6, x.1, x.2, i9)) s)) := by kernel_rfl
theorem f116_l1_b (C : OracleJ H) (n : Nat) (i0 : Value) (i1 : Value) (i2 : Value) (i23 : Value) (i24 : Value) (i25 : Value) (i26 : Value) (i27 : Value) (x : Value × Value × Value × Value) (s : St H) (nx : List Value → St H → Option (List (Value × St H))) (K : Ex → List Value → St H → Option (List (Value × St H))) :
 exec Try.prog false C n 116 none (cdp Try.f116 [1, 1, 1, 1, 0, 0]) (f116_l1_m i0 i1 i2 i23 i24 i25 i26 i27 x) s (kIter (scratch (cdp Try.f116 [1, 1, 1, 1, 0, 0])) nx K) = f116_l1 (dOps (H := H) Try.prog) C n i0 i1 i2 i26 (fun x s => nx (f116_l1_m i0 i1 i2 i23 i24 i25 i26 i27 x) s) (fun i x s => K (.exit i) (f116_l1_m i0 i1 i2 i23 i24 i25 i26 i27 x) s) (fun x s => K .ret (f116_l1_m i0 i1 i2 i23 i24 i25 i26 i27 x) s) x s := by
  have h1 : exec Try.prog false C n 116 none (cdp Try.f116 [1, 1, 1, 1, 0, 0]) (f116_l1_m i0 i1 i2 i23 i24 i25 i26 i27 x) s (kIter (scratch (cdp Try.f116 [1, 1, 1, 1, 0, 0])) nx K) =
 ((dOps (H := H) Try.prog).bop .lss 3 x.1 i1).bind fun v39 =>
 ((dOps (H := H) Try.prog).boolO v39).bind fun b40 => cond b40 (
 ((dOps (H := H) Try.prog).bop .mul 3 (Go.Value.int Go.IntKind.i64 2) x.1).bind fun v41 =>
 iter (fun t s k => exec Try.prog false C n 116 none (cdp Try.f116 [1, 1, 1, 1, 0, 0, 1, 0, 1, 0, 0, 0]) t s k) (scratch (cdp Try.f116 [1, 1, 1, 1, 0, 0, 1, 0, 1, 0, 0, 0])) n (f116_l2_m i0 i1 i2 x.1 x.2.2.2 i23 i24 i25 i26 i27 x.1 i1 v39 x.1 v41 ((Go.Value.int Go.IntKind.i64 0), v41)) s (kBlock 4 (kSeq Try.prog false C n 116 none (cdp Try.f116 [1, 1, 1, 1, 0, 0, 1, 0, 1, 1]) (kBlock 3 (kIter (scratch (cdp Try.f116 [1, 1, 1, 1, 0, 0])) nx K))))) (
 K (.exit 2) (f116_l1_m i0 i1 i2 i23 i24 i25 i26 i27 (x.1, x.2.1, x.2.2.1, x.2.2.2)) s) := by kernel_rfl
  rw [h1]
  simp only [f116_l2_e, f116_l2_k]
  show _ = f116_l1 (dOps (H := H) Try.prog) C n i0 i1 i2 i26 (fun x s => nx (f116_l1_m i0 i1 i2 i23 i24 i25 i26 i27 x) s) (fun i x s => K (.exit i) (f116_l1_m i0 i1 i2 i23 i24 i25 i26 i27 x) s) (fun x s => K .ret (f116_l1_m i0 i1 i2 i23 i24 i25 i26 i27 x) s) x s
  kernel_rfl
theorem f116_l1_e (C : OracleJ H) (n : Nat) (i0 : Value) (i1 : Value) (i2 : Value) (i23 : Value) (i24 : Value) (i25 : Value) (i26 : Value) (i27 : Value) (m : Nat) (x : Value × Value × Value × Value) (s : St H) (K : Ex → List Value → St H → Option (List (Value × St H))) :
 iter (fun t s k => exec Try.prog false C n 116 none (cdp Try.f116 [1, 1, 1, 1, 0, 0]) t s k) (scratch (cdp Try.f116 [1, 1, 1, 1, 0, 0])) m (f116_l1_m i0 i1 i2 i23 i24 i25 i26 i27 x) s K = iterS (f116_l1 (dOps (H := H) Try.prog) C n i0 i1 i2 i26) (fun i x s => K (.exit i) (f116_l1_m i0 i1 i2 i23 i24 i25 i26 i27 x) s) (fun x s => K .ret (f116_l1_m i0 i1 i2 i23 i24 i25 i26 i27 x) s) m x s :=
   iter_eq (f116_l1_m i0 i1 i2 i23 i24 i25 i26 i27) (f116_l1 (dOps (H := H) Try.prog) C n i0 i1 i2 i26) (fun x s nx K => f116_l1_b C n i0 i1 i2 i23 i24 i25 i26 i27 x s nx K) K m x s
noncomputable def f116 (O : Ops H) (C : OracleJ H) (n : Nat) (a0 : Value) (a1 : Value) (a2 : Value) (s : St H) : Option (List (Value × St H)) :=
 iterS (f116_l0 O C n a0 a1 a2 )
 (fun i7 x8 s9 => (bif Nat.beq i7 0 then
 (C (.fn 159) [a0, x8.1, a1, a2] s9).bind fun L12 => manyK L12 fun v13 s14 =>
 iterS (f116_l1 O C n a0 a1 a2 a2 )
 (fun i58 x59 s60 => (bif Nat.beq i58 2 then
 some [(.tuple #[], s60)] else none))
 (fun x61 s62 => some [(.tuple #[], s62)]) n ((Go.Value.int Go.IntKind.i64 20), x8.1, x8.2, undefV) s14 else none))
 (fun x10 s11 => some [(.tuple #[], s11)]) n ((Go.Value.int Go.IntKind.i64 0), (Go.Value.int Go.IntKind.i64 20)) s
theorem f116_l1_k (C : OracleJ H) (n : Nat) (i0 : Value) (i1 : Value) (i2 : Value) (i23 : Value) (i24 : Value) (i25 : Value) (i26 : Value) (i27 : Value) (i : Nat) (x : Value × Value × Value × Value) (s : St H) : (kBlock 2 (kFun Try.prog Try.f116)) (.exit i) (f116_l1_m i0 i1 i2 i23 i24 i25 i26 i27 x) s =
 (bif Nat.beq i 2 then
 some [(.tuple #[], s)] else none) := by kernel_rfl
theorem f116_l0_k (C : OracleJ H) (n : Nat) (i0 : Value) (i1 : Value) (i2 : Value) (i : Nat) (x : Value × Value) (s : St H) : (kBlock 0 (kSeq Try.prog false C n 116 none (cdp Try.f116 [1, 1, 1]) (kFun Try.prog Try.f116))) (.exit i) (f116_l0_m i0 i1 i2 x) s =
 (bif Nat.beq i 0 then
 (C (.fn 159) [i0, x.1, i1, i2] s).bind fun L66 => manyK L66 fun v67 s68 =>
 iterS (f116_l1 (dOps (H := H) Try.prog) C n i0 i1 i2 i2 )
 (fun i69 x70 s71 => (bif Nat.beq i69 2 then
 some [(.tuple #[], s71)] else none))
 (fun x72 s73 => some [(.tuple #[], s73)]) n ((Go.Value.int Go.IntKind.i64 20), x.1, x.2, undefV) s68 else none) := by
  have h1 : (kBlock 0 (kSeq Try.prog false C n 116 none (cdp Try.f116 [1, 1, 1]) (kFun Try.prog Try.f116))) (.exit i) (f116_l0_m i0 i1 i2 x) s =
 (bif Nat.beq i 0 then
 (C (.fn 159) [i0, x.1, i1, i2] s).bind fun L63 => manyK L63 fun v64 s65 =>
 iter (fun t s k => exec Try.prog false C n 116 none (cdp Try.f116 [1, 1, 1, 1, 0, 0]) t s k) (scratch (cdp Try.f116 [1, 1, 1, 1, 0, 0])) n (f116_l1_m i0 i1 i2 i0 x.1 i1 i2 v64 ((Go.Value.int Go.IntKind.i64 20), x.1, x.2, undefV)) s65 (kBlock 2 (kFun Try.prog Try.f116)) else none) := by kernel_rfl
  rw [h1]
  simp only [f116_l1_e, f116_l1_k]
  show _ = (bif Nat.beq i 0 then
 (C (.fn 159) [i0, x.1, i1, i2] s).bind fun L66 => manyK L66 fun v67 s68 =>
 iterS (f116_l1 (dOps (H := H) Try.prog) C n i0 i1 i2 i2 )
 (fun i69 x70 s71 => (bif Nat.beq i69 2 then
 some [(.tuple #[], s71)] else none))
 (fun x72 s73 => some [(.tuple #[], s73)]) n ((Go.Value.int Go.IntKind.i64 20), x.1, x.2, undefV) s68 else none)
  kernel_rfl
theorem f116_r (C : OracleJ H) (n : Nat) (a0 : Value) (a1 : Value) (a2 : Value) (s : St H) : bodyD Try.prog false C n 116 Try.f116 [a0, a1, a2] s = f116 (dOps (H := H) Try.prog) C n a0 a1 a2 s := by
  have h1 : bodyD Try.prog false C n 116 Try.f116 [a0, a1, a2] s =
 iter (fun t s k => exec Try.prog false C n 116 none (cdp Try.f116 [1, 1, 0, 0, 0]) t s k) (scratch (cdp Try.f116 [1, 1, 0, 0, 0])) n (f116_l0_m a0 a1 a2 ((Go.Value.int Go.IntKind.i64 0), (Go.Value.int Go.IntKind.i64 20))) s (kBlock 0 (kSeq Try.prog false C n 116 none (cdp Try.f116 [1, 1, 1]) (kFun Try.prog Try.f116))) := by kernel_rfl
  rw [h1]
  simp only [f116_l0_e, f116_l0_k]
  show _ = f116 (dOps (H := H) Try.prog) C n a0 a1 a2 s
  kernel_rfl
/-! tidepole/label.letter -/
noncomputable def f118 (O : Ops H) (C : OracleJ H) (n : Nat) (a0 : Value) (a1 : Value) (s : St H) : Option (List (Value × St H)) :=
 (O.bop .eql 5 a0 (Go.Value.int Go.IntKind.u8 95)).bind fun v1 =>
 jn (fun (j361_5 : Value) =>
 (O.boolO j361_5).bind fun b18 => cond b18 (
 some [((.bool true), s)]) (
 jn (fun (j376_20 : Value) =>
 (O.boolO j376_20).bind fun b23 => cond b23 (
 (O.uop .not a1).bind fun v24 =>
 some [(v24, s)]) (
 some [((.bool false), s)])) fun k376 =>
 (O.bop .geq 5 a0 (Go.Value.int Go.IntKind.u8 48)).bind fun v19 =>
 gd v19 (
 (O.bop .leq 5 a0 (Go.Value.int Go.IntKind.u8 57)).bind fun v20 =>
 k376 v20) (
 k376 (.bool false)) (
 none))) fun k361 =>
 (O.boolO v1).bind fun b2 => cond b2 (
 k361 v1) (
 jn (fun (j362_5 : Value) =>
 jn (fun (j365_5 : Value) =>
 k361 j365_5) fun k365 =>
 (O.boolO j362_5).bind fun b8 => cond b8 (
 k365 j362_5) (
 jn (fun (j366_5 : Value) =>
 k365 j366_5) fun k366 =>
 (O.bop .geq 5 a0 (Go.Value.int Go.IntKind.u8 65)).bind fun v9 =>
 gd v9 (
 (O.bop .leq 5 a0 (Go.Value.int Go.IntKind.u8 90)).bind fun v10 =>
 k366 v10) (
 k366 (.bool false)) (
 none))) fun k362 =>
 (O.bop .geq 5 a0 (Go.Value.int Go.IntKind.u8 97)).bind fun v3 =>
 gd v3 (
 (O.bop .leq 5 a0 (Go.Value.int Go.IntKind.u8 122)).bind fun v4 =>
 k362 v4) (
 k362 (.bool false)) (
 none))
theorem f118_r (C : OracleJ H) (n : Nat) (a0 : Value) (a1 : Value) (s : St H) : bodyD Try.prog false C n 118 Try.f118 [a0, a1] s = f118 (dOps (H := H) Try.prog) C n a0 a1 s := by kernel_rfl
/-! tidepole/vint.put[uint64] -/
def f123_l0_m (i0 : Value) (i1 : Value) (i2 : Value) (i6 : Value) (i9 : Value) (i10 : Value) (i11 : Value) (i12 : Value) (i13 : Value) (i14 : Value) (i15 : Value) (i16 : Value) (i17 : Value) (x : Value × Value) : List Value := [i0, i1, i2, undefV, undefV, undefV, i6, x.1, x.2, i9, i10, i11, i12, i13, i14, i15, i16, i17, dc, dc, dc, dc, dc, dc, dc, dc, dc, dc, undefV, undefV, undefV, undefV, undefV]
noncomputable def f123_l0 (O : Ops H) (C : OracleJ H) (n : Nat) (nx : (Value × Value) → St H → Option (List (Value × St H))) (kx : Nat → (Value × Value) → St H → Option (List (Value × St H))) (kr : (Value × Value) → St H → Option (List (Value × St H))) (x : Value × Value) (s : St H) : Option (List (Value × St H)) :=
 (O.bop .gtr 70 x.2 (Go.Value.int Go.IntKind.u64 127)).bind fun v9 =>
 (O.boolO v9).bind fun b10 => cond b10 (
 (O.conv false s 70 5 x.2).bind fun p11 =>
 (O.bop .or 5 p11.1 (Go.Value.int Go.IntKind.u8 128)).bind fun v12 =>
 (O.buildSlice false p11.2 35 1 [(0, v12)]).bind fun p13 =>
 (O.append false p13.2 35 35 x.1 p13.1).bind fun p14 =>
 (O.bop .shr 70 x.2 (Go.Value.int Go.IntKind.u64 7)).bind fun v15 =>
 nx (p14.1, v15) p14.2) (
 kx 0 (x.1, x.2) s)
theorem f123_l0_b (C : OracleJ H) (n : Nat) (i0 : Value) (i1 : Value) (i2 : Value) (i6 : Value) (i9 : Value) (i10 : Value) (i11 : Value) (i12 : Value) (i13 : Value) (i14 : Value) (i15 : Value) (i16 : Value) (i17 : Value) (x : Value × Value) (s : St H) (nx : List Value → St H → Option (List (Value × St H))) (K : Ex → List Value → St H → Option (List (Value × St H))) :
 exec Try.prog false C n 123 none (cdp Try.f123 [1, 1, 1, 0, 0, 0]) (f123_l0_m i0 i1 i2 i6 i9 i10 i11 i12 i13 i14 i15 i16 i17 x) s (kIter (scratch (cdp Try.f123 [1, 1, 1, 0, 0, 0])) nx K) = f123_l0 (dOps (H := H) Try.prog) C n (fun x s => nx (f123_l0_m i0 i1 i2 i6 i9 i10 i11 i12 i13 i14 i15 i16 i17 x) s) (fun i x s => K (.exit i) (f123_l0_m i0 i1 i2 i6 i9 i10 i11 i12 i13 i14 i15 i16 i17 x) s) (fun x s => K .ret (f123_l0_m i0 i1 i2 i6 i9 i10 i11 i12 i13 i14 i15 i16 i17 x) s) x s := by kernel_rfl
theorem f123_l0_e (C : OracleJ H) (n : Nat) (i0 : Value) (i1 : Value) (i2 : Value) (i6 : Value) (i9 : Value) (i10 : Value) (i11 : Value) (i12 : Value) (i13 : Value) (i14 : Value) (i15 : Value) (i16 : Value) (i17 : Value) (m : Nat) (x : Value × Value) (s : St H) (K : Ex → List Value → St H → Option (List (Value × St H))) :
 iter (fun t s k => exec Try.prog false C n 123 none (cdp Try.f123 [1, 1, 1, 0, 0, 0]) t s k) (scratch (cdp Try.f123 [1, 1, 1, 0, 0, 0])) m (f123_l0_m i0 i1 i2 i6 i9 i10 i11 i12 i13 i14 i15 i16 i17 x) s K = iterS (f123_l0 (dOps (H := H) Try.prog) C n) (fun i x s => K (.exit i) (f123_l0_m i0 i1 i2 i6 i9 i10 i11 i12 i13 i14 i15 i16 i17 x) s) (fun x s => K .ret (f123_l0_m i0 i1 i2 i6 i9 i10 i11 i12 i13 i14 i15 i16 i17 x) s) m x s :=
   iter_eq (f123_l0_m i0 i1 i2 i6 i9 i10 i11 i12 i13 i14 i15 i16 i17) (f123_l0 (dOps (H := H) Try.prog) C n) (fun x s nx K => f123_l0_b C n i0 i1 i2 i6 i9 i10 i11 i12 i13 i14 i15 i16 i17 x s nx K) K m x s
noncomputable def f123 (O : Ops H) (C : OracleJ H) (n : Nat) (a0 : Value) (a1 : Value) (a2 : Value) (s : St H) : Option (List (Value × St H)) :=
 (O.len s 35 a0).bind fun v1 =>
 (O.bop .add 3 v1 (Go.Value.int Go.IntKind.i64 10)).bind fun v2 =>
 (O.makeSlice false s 35 (Go.Value.int Go.IntKind.i64 0) v2).bind fun p3 =>
 (O.append false p3.2 35 35 p3.1 a0).bind fun p4 =>
 (O.tgt a2 [a1]).bind fun g5 => (C g5.1 g5.2 p4.2).bind fun L6 => manyK L6 fun v7 s8 =>
 iterS (f123_l0 O C n )
 (fun i16 x17 s18 => (bif Nat.beq i16 0 then
 (O.conv false s18 70 5 x17.2).bind fun p21 =>
 (O.buildSlice false p21.2 35 1 [(0, p21.1)]).bind fun p22 =>
 (O.append false p22.2 35 35 x17.1 p22.1).bind fun p23 =>
 some [(p23.1, p23.2)] else none))
 (fun x19 s20 => some [((fzV 2 #[]), s20)]) n (p4.1, v7) s8
theorem f123_l0_k (C : OracleJ H) (n : Nat) (i0 : Value) (i1 : Value) (i2 : Value) (i6 : Value) (i9 : Value) (i10 : Value) (i11 : Value) (i12 : Value) (i13 : Value) (i14 : Value) (i15 : Value) (i16 : Value) (i17 : Value) (i : Nat) (x : Value × Value) (s : St H) : (kBlock 0 (kSeq Try.prog false C n 123 none (cdp Try.f123 [1, 1, 1, 1]) (kFun Try.prog Try.f123))) (.exit i) (f123_l0_m i0 i1 i2 i6 i9 i10 i11 i12 i13 i14 i15 i16 i17 x) s =
 (bif Nat.beq i 0 then
 ((dOps (H := H) Try.prog).conv false s 70 5 x.2).bind fun p35 =>
 ((dOps (H := H) Try.prog).buildSlice false p35.2 35 1 [(0, p35.1)]).bind fun p36 =>
 ((dOps (H := H) Try.prog).append false p36.2 35 35 x.1 p36.1).bind fun p37 =>
 some [(p37.1, p37.2)] else none) := by kernel_rfl
theorem f123_r (C : OracleJ H) (n : Nat) (a0 : Value) (a1 : Value) (a2 : Value) (s : St H) : bodyD Try.prog false C n 123 Try.f123 [a0, a1, a2] s = f123 (dOps (H := H) Try.prog) C n a0 a1 a2 s := by
  have h1 : bodyD Try.prog false C n 123 Try.f123 [a0, a1, a2] s =
 ((dOps (H := H) Try.prog).len s 35 a0).bind fun v24 =>
 ((dOps (H := H) Try.prog).bop .add 3 v24 (Go.Value.int Go.IntKind.i64 10)).bind fun v25 =>
 ((dOps (H := H) Try.prog).makeSlice false s 35 (Go.Value.int Go.IntKind.i64 0) v25).bind fun p26 =>
 ((dOps (H := H) Try.prog).append false p26.2 35 35 p26.1 a0).bind fun p27 =>
 ((dOps (H := H) Try.prog).tgt a2 [a1]).bind fun g28 => (C g28.1 g28.2 p27.2).bind fun L29 => manyK L29 fun v30 s31 =>
 iter (fun t s k => exec Try.prog false C n 123 none (cdp Try.f123 [1, 1, 1, 0, 0, 0]) t s k) (scratch (cdp Try.f123 [1, 1, 1, 0, 0, 0])) n (f123_l0_m a0 a1 a2 (fzV 2 #[]) a0 v24 v25 p26.1 a0 p27.1 a2 a1 v30 (p27.1, v30)) s31 (kBlock 0 (kSeq Try.prog false C n 123 none (cdp Try.f123 [1, 1, 1, 1]) (kFun Try.prog Try.f123))) := by kernel_rfl
  rw [h1]
  simp only [f123_l0_e, f123_l0_k]
  show _ = f123 (dOps (H := H) Try.prog) C n a0 a1 a2 s
  kernel_rfl
/-! tidepole/vint.plain -/
noncomputable def f124 (O : Ops H) (C : OracleJ H) (n : Nat) (a0 : Value) (s : St H) : Option (List (Value × St H)) :=
 some [(a0, s)]
theorem f124_r (C : OracleJ H) (n : Nat) (a0 : Value) (s : St H) : bodyD Try.prog false C n 124 Try.f124 [a0] s = f124 (dOps (H := H) Try.prog) C n a0 s := by kernel_rfl
/-! tidepole/label.text -/
noncomputable def f125 (O : Ops H) (C : OracleJ H) (n : Nat) (a0 : Value) (a1 : Value) (s : St H) : Option (List (Value × St H)) :=
 (C (.fn 137) [a0, a1] s).bind fun L1 => manyK L1 fun v2 s3 =>
 (O.extract v2 0).bind fun v4 =>
 (O.extract v2 1).bind fun v5 =>
 (O.extract v2 2).bind fun v6 =>
 (O.conv false s3 35 9 v4).bind fun p7 =>
 some [(.tuple #[p7.1, v5, v6], p7.2)]
theorem f125_r (C : OracleJ H) (n : Nat) (a0 : Value) (a1 : Value) (s : St H) : bodyD Try.prog false C n 125 Try.f125 [a0, a1] s = f125 (dOps (H := H) Try.prog) C n a0 a1 s := by kernel_rfl
/-! slices.IndexFunc[tidepole/api.Labels,tidepole/api.Label] -/
def f126_l0_m (i0 : Value) (i1 : Value) (i6 : Value) (i7 : Value) (x : Value × Value × Value) : List Value := [i0, i1, undefV, undefV, x.1, x.2.1, i6, i7, x.2.2, dc, dc, dc, dc, dc, dc, dc, dc, dc, dc]
noncomputable def f126_l0 (O : Ops H) (C : OracleJ H) (n : Nat) (i0 : Value) (i1 : Value) (i7 : Value) (nx : (Value × Value × Value) → St H → Option (List (Value × St H))) (kx : Nat → (Value × Value × Value) → St H → Option (List (Value × St H))) (kr : (Value × Value × Value) → St H → Option (List (Value × St H))) (x : Value × Value × Value) (s : St H) : Option (List (Value × St H)) :=
 (O.bop .lss 3 x.2.2 i7).bind fun v2 =>
 (O.boolO v2).bind fun b3 => cond b3 (
 (O.indexAddr 23 i0 x.2.2).bind fun v4 =>
 (O.load s 106 v4).bind fun v5 =>
 (O.tgt i1 [v5]).bind fun g6 => (C g6.1 g6.2 s).bind fun L7 => manyK L7 fun v8 s9 =>
 (O.boolO v8).bind fun b10 => cond b10 (
 kr (x.2.2, x.2.2, x.2.2) s9) (
 (O.bop .add 3 x.2.2 (Go.Value.int Go.IntKind.i64 1)).bind fun v11 =>
 nx (x.1, x.2.2, v11) s9)) (
 kx 0 (x.1, x.2.1, x.2.2) s)
theorem f126_l0_b (C : OracleJ H) (n : Nat) (i0 : Value) (i1 : Value) (i6 : Value) (i7 : Value) (x : Value × Value × Value) (s : St H) (nx : List Value → St H → Option (List (Value × St H))) (K : Ex → List Value → St H → Option (List (Value × St H))) :
 exec Try.prog false C n 126 none (cdp Try.f126 [1, 0, 1, 0, 0]) (f126_l0_m i0 i1 i6 i7 x) s (kIter (scratch (cdp Try.f126 [1, 0, 1, 0, 0])) nx K) = f126_l0 (dOps (H := H) Try.prog) C n i0 i1 i7 (fun x s => nx (f126_l0_m i0 i1 i6 i7 x) s) (fun i x s => K (.exit i) (f126_l0_m i0 i1 i6 i7 x) s) (fun x s => K .ret (f126_l0_m i0 i1 i6 i7 x) s) x s := by kernel_rfl
theorem f126_l0_e (C : OracleJ H) (n : Nat) (i0 : Value) (i1 : Value) (i6 : Value) (i7 : Value) (m : Nat) (x : Value × Value × Value) (s : St H) (K : Ex → List Value → St H → Option (List (Value × St H))) :
 iter (fun t s k => exec Try.prog false C n 126 none (cdp Try.f126 [1, 0, 1, 0, 0]) t s k) (scratch (cdp Try.f126 [1, 0, 1, 0, 0])) m (f126_l0_m i0 i1 i6 i7 x) s K = iterS (f126_l0 (dOps (H := H) Try.prog) C n i0 i1 i7) (fun i x s => K (.exit i) (f126_l0_m i0 i1 i6 i7 x) s) (fun x s => K .ret (f126_l0_m i0 i1 i6 i7 x) s) m x s :=
   iter_eq (f126_l0_m i0 i1 i6 i7) (f126_l0 (dOps (H := H) Try.prog) C n i0 i1 i7) (fun x s nx K => f126_l0_b C n i0 i1 i6 i7 x s nx K) K m x s
noncomputable def f126 (O : Ops H) (C : OracleJ H) (n : Nat) (a0 : Value) (a1 : Value) (s : St H) : Option (List (Value × St H)) :=
 (O.len s 23 a0).bind fun v1 =>
 iterS (f126_l0 O C n a0 a1 v1 )
 (fun i12 x13 s14 => (bif Nat.beq i12 0 then
 some [((Go.Value.int Go.IntKind.i64 (-1)), s14)] else none))
 (fun x15 s16 => some [(x15.1, s16)]) n ((Go.Value.int Go.IntKind.i64 0), undefV, (Go.Value.int Go.IntKind.i64 0)) s
theorem f126_l0_k (C : OracleJ H) (n : Nat) (i0 : Value) (i1 : Value) (i6 : Value) (i7 : Value) (i : Nat) (x : Value × Value × Value) (s : St H) : (kBlock 0 (kSeq Try.prog false C n 126 none (cdp Try.f126 [1, 1]) (kFun Try.prog Try.f126))) (.exit i) (f126_l0_m i0 i1 i6 i7 x) s =
 (bif Nat.beq i 0 then
 some [((Go.Value.int Go.IntKind.i64 (-1)), s)] else none) := by kernel_rfl
theorem f126_r (C : OracleJ H) (n : Nat) (a0 : Value) (a1 : Value) (s : St H) : bodyD Try.prog false C n 126 Try.f126 [a0, a1] s = f126 (dOps (H := H) Try.prog) C n a0 a1 s := by
  have h1 : bodyD Try.prog false C n 126 Try.f126 [a0, a1] s =
 ((dOps (H := H) Try.prog).len s 23 a0).bind fun v17 =>
 iter (fun t s k => exec Try.prog false C n 126 none (cdp Try.f126 [1, 0, 1, 0, 0]) t s k) (scratch (cdp Try.f126 [1, 0, 1, 0, 0])) n (f126_l0_m a0 a1 a0 v17 ((Go.Value.int Go.IntKind.i64 0), undefV, (Go.Value.int Go.IntKind.i64 0))) s (kBlock 0 (kSeq Try.prog false C n 126 none (cdp Try.f126 [1, 1]) (kFun Try.prog Try.f126))) := by kernel_rfl
  rw [h1]
  simp only [f126_l0_e, f126_l0_k]
  show _ = f126 (dOps (H := H) Try.prog) C n a0 a1 s
  kernel_rfl
/-! tidepole/label.at$1 -/
noncomputable def f130 (O : Ops H) (C : OracleJ H) (n : Nat) (a0 : Value) (a1 : Value) (s : St H) : Option (List (Value × St H)) :=
 (O.box s a0).bind fun p1 =>
 (O.fieldAddr 106 p1.1 0).bind fun v2 =>
 (O.load p1.2 9 v2).bind fun v3 =>
 (O.load p1.2 9 a1).bind fun v4 =>
 (O.bop .eql 9 v3 v4).bind fun v5 =>
 some [(v5, p1.2)]
theorem f130_r (C : OracleJ H) (n : Nat) (a0 : Value) (a1 : Value) (s : St H) : bodyD Try.prog false C n 130 Try.f130 [a0, a1] s = f130 (dOps (H := H) Try.prog) C n a0 a1 s := by kernel_rfl
/-! tidepole/vint.ReadBytes -/
noncomputable def f137 (O : Ops H) (C : OracleJ H) (n : Nat) (a0 : Value) (a1 : Value) (s : St H) : Option (List (Value × St H)) :=
 (C (.fn 74) [a0, a1] s).bind fun L1 => manyK L1 fun v2 s3 =>
 (O.extract v2 0).bind fun v4 =>
 (O.extract v2 1).bind fun v5 =>
 (O.extract v2 2).bind fun v6 =>
 (O.bop .neq 26 v6 (Go.Value.int Go.IntKind.i64 0)).bind fun v7 =>
 (O.boolO v7).bind fun b8 => cond b8 (
 some [(.tuple #[(fzV 2 #[]), (Go.Value.int Go.IntKind.i64 0), v6], s3)]) (
 (O.bop .gtr 70 v4 (Go.Value.int Go.IntKind.u64 65536)).bind fun v9 =>
 (O.boolO v9).bind fun b10 => cond b10 (
 some [(.tuple #[(fzV 2 #[]), (Go.Value.int Go.IntKind.i64 0), (Go.Value.int Go.IntKind.i64 3)], s3)]) (
 (O.len s3 35 a0).bind fun v11 =>
 (O.bop .sub 3 v11 v5).bind fun v12 =>
 (O.conv false s3 3 70 v12).bind fun p13 =>
 (O.bop .gtr 70 v4 p13.1).bind fun v14 =>
 (O.boolO v14).bind fun b15 => cond b15 (
 some [(.tuple #[(fzV 2 #[]), (Go.Value.int Go.IntKind.i64 0), (Go.Value.int Go.IntKind.i64 7)], p13.2)]) (
 (O.conv false p13.2 70 3 v4).bind fun p16 =>
 (O.bop .add 3 v5 p16.1).bind fun v17 =>
 (O.buildSlice false p16.2 35 0 []).bind fun p18 =>
 (O.slc p18.2 35 a0 (some v5) (some v17) none).bind fun v19 =>
 (O.append false p18.2 35 35 p18.1 v19).bind fun p20 =>
 some [(.tuple #[p20.1, v17, v6], p20.2)])))
theorem f137_r (C : OracleJ H) (n : Nat) (a0 : Value) (a1 : Value) (s : St H) : bodyD Try.prog false C n 137 Try.f137 [a0, a1] s = f137 (dOps (H := H) Try.prog) C n a0 a1 s := by kernel_rfl
/-! slices.insertionSortCmpFunc[tidepole/api.Label] -/
def f159_l1_m (i0 : Value) (i1 : Value) (i2 : Value) (i3 : Value) (i8 : Value) (i10 : Value) (i11 : Value) (i12 : Value) (i13 : Value) (i14 : Value) (i17 : Value) (x : Value) : List Value := [i0, i1, i2, i3, undefV, undefV, undefV, undefV, i8, x, i10, i11, i12, i13, i14, dc, dc, i17, dc, dc, dc, dc, dc, dc, dc, dc, dc, dc, dc, dc, dc, dc, dc, dc, dc, dc, dc, dc, dc, dc, dc, dc, dc, dc, dc, dc, dc, dc, dc, dc, dc, dc, dc]
noncomputable def f159_l1 (O : Ops H) (C : OracleJ H) (n : Nat) (i0 : Value) (i1 : Value) (i3 : Value) (nx : Value → St H → Option (List (Value × St H))) (kx : Nat → Value → St H → Option (List (Value × St H))) (kr : Value → St H → Option (List (Value × St H))) (x : Value) (s : St H) : Option (List (Value × St H)) :=
 jn (fun (j443_34 : Value) (js443 : St H) =>
 (O.boolO j443_34).bind fun b25 => cond b25 (
 (O.bop .sub 3 x (Go.Value.int Go.IntKind.i64 1)).bind fun v26 =>
 (O.bop .sub 3 x (Go.Value.int Go.IntKind.i64 1)).bind fun v27 =>
 (O.indexAddr 22 i0 v27).bind fun v28 =>
 (O.load js443 106 v28).bind fun v29 =>
 (O.indexAddr 22 i0 x).bind fun v30 =>
 (O.load js443 106 v30).bind fun v31 =>
 (O.indexAddr 22 i0 x).bind fun v32 =>
 (O.store js443 106 v32 v29).bind fun s33 =>
 (O.indexAddr 22 i0 v26).bind fun v34 =>
 (O.store s33 106 v34 v31).bind fun s35 =>
 (O.bop .sub 3 x (Go.Value.int Go.IntKind.i64 1)).bind fun v36 =>
 nx v36 s35) (
 kx 2 x js443)) fun k443 =>
 (O.bop .gtr 3 x i1).bind fun v4 =>
 gd v4 (
 (O.indexAddr 22 i0 x).bind fun v5 =>
 (O.load s 106 v5).bind fun v6 =>
 (O.bop .sub 3 x (Go.Value.int Go.IntKind.i64 1)).bind fun v7 =>
 (O.indexAddr 22 i0 v7).bind fun v8 =>
 (O.load s 106 v8).bind fun v9 =>
 (O.tgt i3 [v6, v9]).bind fun g10 => (oneO C g10.1 g10.2 s).bind fun p11 =>
 (O.bop .lss 3 p11.1 (Go.Value.int Go.IntKind.i64 0)).bind fun v12 =>
 k443 v12 p11.2) (
 k443 (.bool false) s) (
 none)
theorem f159_l1_b (C : OracleJ H) (n : Nat) (i0 : Value) (i1 : Value) (i2 : Value) (i3 : Value) (i8 : Value) (i10 : Value) (i11 : Value) (i12 : Value) (i13 : Value) (i14 : Value) (i17 : Value) (x : Value) (s : St H) (nx : List Value → St H → Option (List (Value × St H))) (K : Ex → List Value → St H → Option (List (Value × St H))) :
 exec Try.prog false C n 159 none (cdp Try.f159 [1, 0, 0, 1, 0, 0, 1, 0, 0]) (f159_l1_m i0 i1 i2 i3 i8 i10 i11 i12 i13 i14 i17 x) s (kIter (scratch (cdp Try.f159 [1, 0, 0, 1, 0, 0, 1, 0, 0])) nx K) = f159_l1 (dOps (H := H) Try.prog) C n i0 i1 i3 (fun x s => nx (f159_l1_m i0 i1 i2 i3 i8 i10 i11 i12 i13 i14 i17 x) s) (fun i x s => K (.exit i) (f159_l1_m i0 i1 i2 i3 i8 i10 i11 i12 i13 i14 i17 x) s) (fun x s => K .ret (f159_l1_m i0 i1 i2 i3 i8 i10 i11 i12 i13 i14 i17 x) s) x s := by kernel_rfl
theorem f159_l1_e (C : OracleJ H) (n : Nat) (i0 : Value) (i1 : Value) (i2 : Value) (i3 : Value) (i8 : Value) (i10 : Value) (i11 : Value) (i12 : Value) (i13 : Value) (i14 : Value) (i17 : Value) (m : Nat) (x : Value) (s : St H) (K : Ex → List Value → St H → Option (List (Value × St H))) :
 iter (fun t s k => exec Try.prog false C n 159 none (cdp Try.f159 [1, 0, 0, 1, 0, 0, 1, 0, 0]) t s k) (scratch (cdp Try.f159 [1, 0, 0, 1, 0, 0, 1, 0, 0])) m (f159_l1_m i0 i1 i2 i3 i8 i10 i11 i12 i13 i14 i17 x) s K = iterS (f159_l1 (dOps (H := H) Try.prog) C n i0 i1 i3) (fun i x s => K (.exit i) (f159_l1_m i0 i1 i2 i3 i8 i10 i11 i12 i13 i14 i17 x) s) (fun x s => K .ret (f159_l1_m i0 i1 i2 i3 i8 i10 i11 i12 i13 i14 i17 x) s) m x s :=
   iter_eq (f159_l1_m i0 i1 i2 i3 i8 i10 i11 i12 i13 i14 i17) (f159_l1 (dOps (H := H) Try.prog) C n i0 i1 i3) (fun x s nx K => f159_l1_b C n i0 i1 i2 i3 i8 i10 i11 i12 i13 i14 i17 x s nx K) K m x s
def f159_l0_m (i0 : Value) (i1 : Value) (i2 : Value) (i3 : Value) (i10 : Value) (i11 : Value) (x : Value × Value) : List Value := [i0, i1, i2, i3, undefV, undefV, undefV, undefV, x.1, x.2, i10, i11, dc, dc, dc, dc, dc, dc, dc, dc, dc, dc, dc, dc, dc, dc, dc, dc, dc, dc, dc, dc, dc, dc, dc, dc, dc, dc, dc, dc, dc, dc, dc, dc, dc, dc, dc, dc, dc, dc, dc, dc, dc]
noncomputable def f159_l0 (O : Ops H) (C : OracleJ H) (n : Nat) (i0 : Value) (i1 : Value) (i2 : Value) (i3 : Value) (nx : (Value × Value) → St H → Option (List (Value × St H))) (kx : Nat → (Value × Value) → St H → Option (List (Value × St H))) (kr : (Value × Value) → St H → Option (List (Value × St H))) (x : Value × Value) (s : St H) : Option (List (Value × St H)) :=
 (O.bop .lss 3 x.1 i2).bind fun v2 =>
 (O.boolO v2).bind fun b3 => cond b3 (
 iterS (f159_l1 O C n i0 i1 i3 )
 (fun i37 x38 s39 => (bif Nat.beq i37 2 then
 (O.bop .add 3 x.1 (Go.Value.int Go.IntKind.i64 1)).bind fun v44 =>
 nx (v44, x38) s39 else (bif Nat.beq i37 1 then
 (O.bop .add 3 x.1 (Go.Value.int Go.IntKind.i64 1)).bind fun v43 =>
 nx (v43, x38) s39 else kx i37 (x.1, x38) s39)))
 (fun x40 s41 => kr (x.1, x40) s41) n x.1 s) (
 kx 0 (x.1, x.2) s)
theorem f159_l1_k (C : OracleJ H) (n : Nat) (i0 : Value) (i1 : Value) (i2 : Value) (i3 : Value) (i8 : Value) (i10 : Value) (i11 : Value) (i12 : Value) (i13 : Value) (i14 : Value) (i17 : Value) (nx : List Value → St H → Option (List (Value × St H))) (K : Ex → List Value → St H → Option (List (Value × St H))) (i : Nat) (x : Value) (s : St H) : (kBlock 2 (kBlock 1 (kSeq Try.prog false C n 159 none (cdp Try.f159 [1, 0, 0, 1, 1]) (kIter (scratch (cdp Try.f159 [1, 0, 0])) nx K)))) (.exit i) (f159_l1_m i0 i1 i2 i3 i8 i10 i11 i12 i13 i14 i17 x) s =
 (bif Nat.beq i 2 then
 ((dOps (H := H) Try.prog).bop .add 3 i8 (Go.Value.int Go.IntKind.i64 1)).bind fun v49 =>
 nx (f159_l0_m i0 i1 i2 i3 i10 i11 (v49, x)) s else (bif Nat.beq i 1 then
 ((dOps (H := H) Try.prog).bop .add 3 i8 (Go.Value.int Go.IntKind.i64 1)).bind fun v50 =>
 nx (f159_l0_m i0 i1 i2 i3 i10 i11 (v50, x)) s else K (.exit i) (f159_l0_m i0 i1 i2 i3 i10 i11 (i8, x)) s)) := by kernel_rfl
theorem f159_l0_b (C : OracleJ H) (n : Nat) (i0 : Value) (i1 : Value) (i2 : Value) (i3 : Value) (i10 : Value) (i11 : Value) (x : Value × Value) (s : St H) (nx : List Value → St H → Option (List (Value × St H))) (K : Ex → List Value → St H → Option (List (Value × St H))) :
 exec Try.prog false C n 159 none (cdp Try.f159 [1, 0, 0]) (f159_l0_m i0 i1 i2 i3 i10 i11 x) s (kIter (scratch (cdp Try.f159 [1, 0, 0])) nx K) = f159_l0 (dOps (H := H) Try.prog) C n i0 i1 i2 i3 (fun x s => nx (f159_l0_m i0 i1 i2 i3 i10 i11 x) s) (fun i x s => K (.exit i) (f159_l0_m i0 i1 i2 i3 i10 i11 x) s) (fun x s => K .ret (f159_l0_m i0 i1 i2 i3 i10 i11 x) s) x s := by
  have h1 : exec Try.prog false C n 159 none (cdp Try.f159 [1, 0, 0]) (f159_l0_m i0 i1 i2 i3 i10 i11 x) s (kIter (scratch (cdp Try.f159 [1, 0, 0])) nx K) =
 ((dOps (H := H) Try.prog).bop .lss 3 x.1 i2).bind fun v45 =>
 ((dOps (H := H) Try.prog).boolO v45).bind fun b46 => cond b46 (
 iter (fun t s k => exec Try.prog false C n 159 none (cdp Try.f159 [1, 0, 0, 1, 0, 0, 1, 0, 0]) t s k) (scratch (cdp Try.f159 [1, 0, 0, 1, 0, 0, 1, 0, 0])) n (f159_l1_m i0 i1 i2 i3 x.1 i10 i11 x.1 i2 v45 x.1 x.1) s (kBlock 2 (kBlock 1 (kSeq Try.prog false C n 159 none (cdp Try.f159 [1, 0, 0, 1, 1]) (kIter (scratch (cdp Try.f159 [1, 0, 0])) nx K))))) (
 K (.exit 0) (f159_l0_m i0 i1 i2 i3 i10 i11 (x.1, x.2)) s) := by kernel_rfl
  rw [h1]
  simp only [f159_l1_e, f159_l1_k]
  show _ = f159_l0 (dOps (H := H) Try.prog) C n i0 i1 i2 i3 (fun x s => nx (f159_l0_m i0 i1 i2 i3 i10 i11 x) s) (fun i x s => K (.exit i) (f159_l0_m i0 i1 i2 i3 i10 i11 x) s) (fun x s => K .ret (f159_l0_m i0 i1 i2 i3 i10 i11 x) s) x s
  kernel_rfl
theorem f159_l0_e (C : OracleJ H) (n : Nat) (i0 : Value) (i1 : Value) (i2 : Value) (i3 : Value) (i10 : Value) (i11 : Value) (m : Nat) (x : Value × Value) (s : St H) (K : Ex → List Value → St H → Option (List (Value × St H))) :
 iter (fun t s k => exec Try.prog false C n 159 none (cdp Try.f159 [1, 0, 0]) t s k) (scratch (cdp Try.f159 [1, 0, 0])) m (f159_l0_m i0 i1 i2 i3 i10 i11 x) s K = iterS (f159_l0 (dOps (H := H) Try.prog) C n i0 i1 i2 i3) (fun i x s => K (.exit i) (f159_l0_m i0 i1 i2 i3 i10 i11 x) s) (fun x s => K .ret (f159_l0_m i0 i1 i2 i3 i10 i11 x) s) m x s :=
   iter_eq (f159_l0_m i0 i1 i2 i3 i10 i11) (f159_l0 (dOps (H := H) Try.prog) C n i0 i1 i2 i3) (fun x s nx K => f159_l0_b C n i0 i1 i2 i3 i10 i11 x s nx K) K m x s
noncomputable def f159 (O : Ops H) (C : OracleJ H) (n : Nat) (a0 : Value) (a1 : Value) (a2 : Value) (a3 : Value) (s : St H) : Option (List (Value × St H)) :=
 (O.bop .add 3 a1 (Go.Value.int Go.IntKind.i64 1)).bind fun v1 =>
 iterS (f159_l0 O C n a0 a1 a2 a3 )
 (fun i51 x52 s53 => (bif Nat.beq i51 0 then
 some [(.tuple #[], s53)] else none))
 (fun x54 s55 => some [(.tuple #[], s55)]) n (v1, undefV) s
theorem f159_l0_k (C : OracleJ H) (n : Nat) (i0 : Value) (i1 : Value) (i2 : Value) (i3 : Value) (i10 : Value) (i11 : Value) (i : Nat) (x : Value × Value) (s : St H) : (kBlock 0 (kFun Try.prog Try.f159)) (.exit i) (f159_l0_m i0 i1 i2 i3 i10 i11 x) s =
 (bif Nat.beq i 0 then
 some [(.tuple #[], s)] else none) := by kernel_rfl
theorem f159_r (C : OracleJ H) (n : Nat) (a0 : Value) (a1 : Value) (a2 : Value) (a3 : Value) (s : St H) : bodyD Try.prog false C n 159 Try.f159 [a0, a1, a2, a3] s = f159 (dOps (H := H) Try.prog) C n a0 a1 a2 a3 s := by
  have h1 : bodyD Try.prog false C n 159 Try.f159 [a0, a1, a2, a3] s =
 ((dOps (H := H) Try.prog).bop .add 3 a1 (Go.Value.int Go.IntKind.i64 1)).bind fun v56 =>
 iter (fun t s k => exec Try.prog false C n 159 none (cdp Try.f159 [1, 0, 0]) t s k) (scratch (cdp Try.f159 [1, 0, 0])) n (f159_l0_m a0 a1 a2 a3 a1 v56 (v56, undefV)) s (kBlock 0 (kFun Try.prog Try.f159)) := by kernel_rfl
  rw [h1]
  simp only [f159_l0_e, f159_l0_k]
  show _ = f159 (dOps (H := H) Try.prog) C n a0 a1 a2 a3 s
  kernel_rfl
/-! slices.symMergeCmpFunc[tidepole/api.Label] -/
def f160_l0_m (i0 : Value) (i1 : Value) (i2 : Value) (i3 : Value) (i4 : Value) (i25 : Value) (i26 : Value) (i27 : Value) (i28 : Value) (i29 : Value) (i30 : Value) (x : Value × Value × Value) : List Value := [i0, i1, i2, i3, i4, undefV, undefV, undefV, undefV, undefV, x.1, x.2.1, x.2.2, undefV, undefV, undefV, undefV, undefV, undefV, undefV, undefV, undefV, undefV, undefV, undefV, i25, i26, i27, i28, i29, i30, dc, dc, dc, dc, dc, dc, dc, dc, dc, dc, dc, dc, dc, dc, dc, dc, dc, dc, dc, dc, dc, dc, dc, undefV, undefV, undefV, undefV, undefV, undefV, undefV, undefV, undefV, undefV, undefV, undefV, undefV, undefV, undefV, undefV, undefV, undefV, undefV, undefV, undefV, undefV, undefV, undefV, undefV, undefV, undefV, undefV, undefV, undefV, undefV, undefV, undefV, undefV, undefV, undefV, undefV, undefV, undefV, undefV, undefV, undefV, undefV, undefV, undefV, undefV, undefV, undefV, undefV, undefV, undefV, undefV, undefV, undefV, undefV, undefV, undefV, undefV, undefV, undefV, undefV, undefV, undefV, undefV, undefV, undefV, undefV, undefV, undefV, undefV, undefV, undefV, undefV, undefV, undefV, undefV, undefV, undefV, undefV, undefV, undefV, undefV, undefV, undefV, undefV, undefV, undefV, undefV, undefV, undefV, undefV, undefV, undefV, undefV, undefV, undefV, undefV, undefV, undefV, undefV, undefV, undefV, undefV, undefV, undefV, undefV, undefV, undefV, undefV, undefV, undefV, undefV, undefV, undefV, undefV, undefV, undefV, undefV, undefV, undefV, undefV, undefV, undefV, undefV, undefV, undefV, undefV, undefV, undefV, undefV, undefV, undefV, undefV, undefV, undefV, undefV, undefV, undefV, undefV, undefV, undefV, undefV, undefV, undefV, undefV, undefV, undefV, undefV, undefV, undefV, undefV, undefV, undefV, undefV, undefV, undefV, undefV, undefV, undefV, undefV, undefV, undefV, undefV, undefV, undefV, undefV]
noncomputable def f160_l0 (O : Ops H) (C : OracleJ H) (n : Nat) (i0 : Value) (i1 : Value) (i4 : Value) (nx : (Value × Value × Value) → St H → Option (List (Value × St H))) (kx : Nat → (Value × Value × Value) → St H → Option (List (Value × St H))) (kr : (Value × Value × Value) → St H → Option (List (Value × St H))) (x : Value × Value × Value) (s : St H) : Option (List (Value × St H)) :=
 (O.bop .lss 3 x.1 x.2.1).bind fun v4 =>
 (O.boolO v4).bind fun b5 => cond b5 (
 (O.bop .add 3 x.1 x.2.1).bind fun v6 =>
 (O.conv false s 3 201 v6).bind fun p7 =>
 (O.bop .shr 201 p7.1 (Go.Value.int Go.IntKind.u64 1)).bind fun v8 =>
 (O.conv false p7.2 201 3 v8).bind fun p9 =>
 (O.indexAddr 22 i0 p9.1).bind fun v10 =>
 (O.load p9.2 106 v10).bind fun v11 =>
 (O.indexAddr 22 i0 i1).bind fun v12 =>
 (O.load p9.2 106 v12).bind fun v13 =>
 (O.tgt i4 [v11, v13]).bind fun g14 => (oneO C g14.1 g14.2 p9.2).bind fun p15 =>
 (O.bop .lss 3 p15.1 (Go.Value.int Go.IntKind.i64 0)).bind fun v16 =>
 jn (fun (j476_10 : Value) (j476_11 : Value) =>
 nx (j476_10, j476_11, p9.1) p15.2) fun k476 =>
 (O.boolO v16).bind fun b17 => cond b17 (
 (O.bop .add 3 p9.1 (Go.Value.int Go.IntKind.i64 1)).bind fun v18 =>
 k476 v18 x.2.1) (
 k476 x.1 p9.1)) (
 kx 0 (x.1, x.2.1, x.2.2) s)
theorem f160_l0_b (C : OracleJ H) (n : Nat) (i0 : Value) (i1 : Value) (i2 : Value) (i3 : Value) (i4 : Value) (i25 : Value) (i26 : Value) (i27 : Value) (i28 : Value) (i29 : Value) (i30 : Value) (x : Value × Value × Value) (s : St H) (nx : List Value → St H → Option (List (Value × St H))) (K : Ex → List Value → St H → Option (List (Value × St H))) :
 exec Try.prog false C n 160 none (cdp Try.f160 [0, 1, 0, 1, 1, 0, 0, 0]) (f160_l0_m i0 i1 i2 i3 i4 i25 i26 i27 i28 i29 i30 x) s (kIter (scratch (cdp Try.f160 [0, 1, 0, 1, 1, 0, 0, 0])) nx K) = f160_l0 (dOps (H := H) Try.prog) C n i0 i1 i4 (fun x s => nx (f160_l0_m i0 i1 i2 i3 i4 i25 i26 i27 i28 i29 i30 x) s) (fun i x s => K (.exit i) (f160_l0_m i0 i1 i2 i3 i4 i25 i26 i27 i28 i29 i30 x) s) (fun x s => K .ret (f160_l0_m i0 i1 i2 i3 i4 i25 i26 i27 i28 i29 i30 x) s) x s := by kernel_rfl
theorem f160_l0_e (C : OracleJ H) (n : Nat) (i0 : Value) (i1 : Value) (i2 : Value) (i3 : Value) (i4 : Value) (i25 : Value) (i26 : Value) (i27 : Value) (i28 : Value) (i29 : Value) (i30 : Value) (m : Nat) (x : Value × Value × Value) (s : St H) (K : Ex → List Value → St H → Option (List (Value × St H))) :
 iter (fun t s k => exec Try.prog false C n 160 none (cdp Try.f160 [0, 1, 0, 1, 1, 0, 0, 0]) t s k) (scratch (cdp Try.f160 [0, 1, 0, 1, 1, 0, 0, 0])) m (f160_l0_m i0 i1 i2 i3 i4 i25 i26 i27 i28 i29 i30 x) s K = iterS (f160_l0 (dOps (H := H) Try.prog) C n i0 i1 i4) (fun i x s => K (.exit i) (f160_l0_m i0 i1 i2 i3 i4 i25 i26 i27 i28 i29 i30 x) s) (fun x s => K .ret (f160_l0_m i0 i1 i2 i3 i4 i25 i26 i27 i28 i29 i30 x) s) m x s :=
   iter_eq (f160_l0_m i0 i1 i2 i3 i4 i25 i26 i27 i28 i29 i30) (f160_l0 (dOps (H := H) Try.prog) C n i0 i1 i4) (fun x s nx K => f160_l0_b C n i0 i1 i2 i3 i4 i25 i26 i27 i28 i29 i30 x s nx K) K m x s
def f160_l1_m (i0 : Value) (i1 : Value) (i2 : Value) (i3 : Value) (i4 : Value) (i10 : Value) (i11 : Value) (i12 : Value) (i25 : Value) (i26 : Value) (i27 : Value) (i28 : Value) (i29 : Value) (i30 : Value) (i54 : Value) (x : Value) : List Value := [i0, i1, i2, i3, i4, undefV, undefV, undefV, undefV, undefV, i10, i11, i12, x, undefV, undefV, undefV, undefV, undefV, undefV, undefV, undefV, undefV, undefV, undefV, i25, i26, i27, i28, i29, i30, dc, dc, dc, dc, dc, dc, dc, dc, dc, dc, dc, dc, dc, dc, dc, dc, dc, dc, dc, dc, dc, dc, dc, i54, dc, dc, dc, dc, dc, dc, dc, dc, dc, dc, dc, dc, dc, dc, dc, dc, dc, dc, dc, dc, dc, dc, undefV, undefV, undefV, undefV, undefV, undefV, undefV, undefV, undefV, undefV, undefV, undefV, undefV, undefV, undefV, undefV, undefV, undefV, undefV, undefV, undefV, undefV, undefV, undefV, undefV, undefV, undefV, undefV, undefV, undefV, undefV, undefV, undefV, undefV, undefV, undefV, undefV, undefV, undefV, undefV, undefV, undefV, undefV, undefV, undefV, undefV, undefV, undefV, undefV, undefV, undefV, undefV, undefV, undefV, undefV, undefV, undefV, undefV, undefV, undefV, undefV, undefV, undefV, undefV, undefV, undefV, undefV, undefV, undefV, undefV, undefV, undefV, undefV, undefV, undefV, undefV, undefV, undefV, undefV, undefV, undefV, undefV, undefV, undefV, undefV, undefV, undefV, undefV, undefV, undefV, undefV, undefV, undefV, undefV, undefV, undefV, undefV, undefV, undefV, undefV, undefV, undefV, undefV, undefV, undefV, undefV, undefV, undefV, undefV, undefV, undefV, undefV, undefV, undefV, undefV, undefV, undefV, undefV, undefV, undefV, undefV, undefV, undefV, undefV, undefV, undefV, undefV, undefV, undefV, undefV, undefV, undefV, undefV, undefV, undefV, undefV, undefV, undefV, undefV, undefV, undefV, undefV, undefV]
noncomputable def f160_l1 (O : Ops H) (C : OracleJ H) (n : Nat) (i0 : Value) (i10 : Value) (nx : Value → St H → Option (List (Value × St H))) (kx : Nat → Value → St H → Option (List (Value × St H))) (kr : Value → St H → Option (List (Value × St H))) (x : Value) (s : St H) : Option (List (Value × St H)) :=
 (O.bop .sub 3 i10 (Go.Value.int Go.IntKind.i64 1)).bind fun v24 =>
 (O.bop .lss 3 x v24).bind fun v25 =>
 (O.boolO v25).bind fun b26 => cond b26 (
 (O.bop .add 3 x (Go.Value.int Go.IntKind.i64 1)).bind fun v27 =>
 (O.bop .add 3 x (Go.Value.int Go.IntKind.i64 1)).bind fun v28 =>
 (O.indexAddr 22 i0 v28).bind fun v29 =>
 (O.load s 106 v29).bind fun v30 =>
 (O.indexAddr 22 i0 x).bind fun v31 =>
 (O.load s 106 v31).bind fun v32 =>
 (O.indexAddr 22 i0 x).bind fun v33 =>
 (O.store s 106 v33 v30).bind fun s34 =>
 (O.indexAddr 22 i0 v27).bind fun v35 =>
 (O.store s34 106 v35 v32).bind fun s36 =>
 (O.bop .add 3 x (Go.Value.int Go.IntKind.i64 1)).bind fun v37 =>
 nx v37 s36) (
 kx 2 x s)
theorem f160_l1_b (C : OracleJ H) (n : Nat) (i0 : Value) (i1 : Value) (i2 : Value) (i3 : Value) (i4 : Value) (i10 : Value) (i11 : Value) (i12 : Value) (i25 : Value) (i26 : Value) (i27 : Value) (i28 : Value) (i29 : Value) (i30 : Value) (i54 : Value) (x : Value) (s : St H) (nx : List Value → St H → Option (List (Value × St H))) (K : Ex → List Value → St H → Option (List (Value × St H))) :
 exec Try.prog false C n 160 none (cdp Try.f160 [0, 1, 0, 1, 1, 1, 0, 1, 0, 0]) (f160_l1_m i0 i1 i2 i3 i4 i10 i11 i12 i25 i26 i27 i28 i29 i30 i54 x) s (kIter (scratch (cdp Try.f160 [0, 1, 0, 1, 1, 1, 0, 1, 0, 0])) nx K) = f160_l1 (dOps (H := H) Try.prog) C n i0 i10 (fun x s => nx (f160_l1_m i0 i1 i2 i3 i4 i10 i11 i12 i25 i26 i27 i28 i29 i30 i54 x) s) (fun i x s => K (.exit i) (f160_l1_m i0 i1 i2 i3 i4 i10 i11 i12 i25 i26 i27 i28 i29 i30 i54 x) s) (fun x s => K .ret (f160_l1_m i0 i1 i2 i3 i4 i10 i11 i12 i25 i26 i27 i28 i29 i30 i54 x) s) x s := by kernel_rfl
theorem f160_l1_e (C : OracleJ H) (n : Nat) (i0 : Value) (i1 : Value) (i2 : Value) (i3 : Value) (i4 : Value) (i10 : Value) (i11 : Value) (i12 : Value) (i25 : Value) (i26 : Value) (i27 : Value) (i28 : Value) (i29 : Value) (i30 : Value) (i54 : Value) (m : Nat) (x : Value) (s : St H) (K : Ex → List Value → St H → Option (List (Value × St H))) :
 iter (fun t s k => exec Try.prog false C n 160 none (cdp Try.f160 [0, 1, 0, 1, 1, 1, 0, 1, 0, 0]) t s k) (scratch (cdp Try.f160 [0, 1, 0, 1, 1, 1, 0, 1, 0, 0])) m (f160_l1_m i0 i1 i2 i3 i4 i10 i11 i12 i25 i26 i27 i28 i29 i30 i54 x) s K = iterS (f160_l1 (dOps (H := H) Try.prog) C n i0 i10) (fun i x s => K (.exit i) (f160_l1_m i0 i1 i2 i3 i4 i10 i11 i12 i25 i26 i27 i28 i29 i30 i54 x) s) (fun x s => K .ret (f160_l1_m i0 i1 i2 i3 i4 i10 i11 i12 i25 i26 i27 i28 i29 i30 i54 x) s) m x s :=
   iter_eq (f160_l1_m i0 i1 i2 i3 i4 i10 i11 i12 i25 i26 i27 i28 i29 i30 i54) (f160_l1 (dOps (H := H) Try.prog) C n i0 i10) (fun x s nx K => f160_l1_b C n i0 i1 i2 i3 i4 i10 i11 i12 i25 i26 i27 i28 i29 i30 i54 x s nx K) K m x s
def f160_l2_m (i0 : Value) (i1 : Value) (i2 : Value) (i3 : Value) (i4 : Value) (i25 : Value) (i26 : Value) (i27 : Value) (i28 : Value) (i77 : Value) (i78 : Value) (i79 : Value) (i80 : Value) (i81 : Value) (i82 : Value) (x : Value × Value × Value) : List Value := [i0, i1, i2, i3, i4, undefV, undefV, undefV, undefV, undefV, undefV, undefV, undefV, undefV, x.1, x.2.1, x.2.2, undefV, undefV, undefV, undefV, undefV, undefV, undefV, undefV, i25, i26, i27, i28, undefV, undefV, undefV, undefV, undefV, undefV, undefV, undefV, undefV, undefV, undefV, undefV, undefV, undefV, undefV, undefV, undefV, undefV, undefV, undefV, undefV, undefV, undefV, undefV, undefV, undefV, undefV, undefV, undefV, undefV, undefV, undefV, undefV, undefV, undefV, undefV, undefV, undefV, undefV, undefV, undefV, undefV, undefV, undefV, undefV, undefV, undefV, undefV, i77, i78, i79, i80, i81, i82, dc, dc, dc, dc, dc, dc, dc, dc, dc, dc, dc, dc, dc, dc, dc, dc, dc, dc, dc, dc, dc, dc, dc, dc, undefV, undefV, undefV, undefV, undefV, undefV, undefV, undefV, undefV, undefV, undefV, undefV, undefV, undefV, undefV, undefV, undefV, undefV, undefV, undefV, undefV, undefV, undefV, undefV, undefV, undefV, undefV, undefV, undefV, undefV, undefV, undefV, undefV, undefV, undefV, undefV, undefV, undefV, undefV, undefV, undefV, undefV, undefV, undefV, undefV, undefV, undefV, undefV, undefV, undefV, undefV, undefV, undefV, undefV, undefV, undefV, undefV, undefV, undefV, undefV, undefV, undefV, undefV, undefV, undefV, undefV, undefV, undefV, undefV, undefV, undefV, undefV, undefV, undefV, undefV, undefV, undefV, undefV, undefV, undefV, undefV, undefV, undefV, undefV, undefV, undefV, undefV, undefV, undefV, undefV, undefV, undefV, undefV, undefV, undefV, undefV, undefV, undefV, undefV, undefV, undefV, undefV, undefV, undefV, undefV, undefV, undefV, undefV, undefV, undefV, undefV, undefV, undefV]
noncomputable def f160_l2 (O : Ops H) (C : OracleJ H) (n : Nat) (i0 : Value) (i2 : Value) (i4 : Value) (nx : (Value × Value × Value) → St H → Option (List (Value × St H))) (kx : Nat → (Value × Value × Value) → St H → Option (List (Value × St H))) (kr : (Value × Value × Value) → St H → Option (List (Value × St H))) (x : Value × Value × Value) (s : St H) : Option (List (Value × St H)) :=
 (O.bop .lss 3 x.1 x.2.1).bind fun v46 =>
 (O.boolO v46).bind fun b47 => cond b47 (
 (O.bop .add 3 x.1 x.2.1).bind fun v48 =>
 (O.conv false s 3 201 v48).bind fun p49 =>
 (O.bop .shr 201 p49.1 (Go.Value.int Go.IntKind.u64 1)).bind fun v50 =>
 (O.conv false p49.2 201 3 v50).bind fun p51 =>
 (O.indexAddr 22 i0 i2).bind fun v52 =>
 (O.load p51.2 106 v52).bind fun v53 =>
 (O.indexAddr 22 i0 p51.1).bind fun v54 =>
 (O.load p51.2 106 v54).bind fun v55 =>
 (O.tgt i4 [v53, v55]).bind fun g56 => (oneO C g56.1 g56.2 p51.2).bind fun p57 =>
 (O.bop .lss 3 p57.1 (Go.Value.int Go.IntKind.i64 0)).bind fun v58 =>
 (O.uop .not v58).bind fun v59 =>
 jn (fun (j496_14 : Value) (j496_15 : Value) =>
 nx (j496_14, j496_15, p51.1) p57.2) fun k496 =>
 (O.boolO v59).bind fun b60 => cond b60 (
 (O.bop .add 3 p51.1 (Go.Value.int Go.IntKind.i64 1)).bind fun v61 =>
 k496 v61 x.2.1) (
 k496 x.1 p51.1)) (
 kx 4 (x.1, x.2.1, x.2.2) s)
theorem f160_l2_b (C : OracleJ H) (n : Nat) (i0 : Value) (i1 : Value) (i2 : Value) (i3 : Value) (i4 : Value) (i25 : Value) (i26 : Value) (i27 : Value) (i28 : Value) (i77 : Value) (i78 : Value) (i79 : Value) (i80 : Value) (i81 : Value) (i82 : Value) (x : Value × Value × Value) (s : St H) (nx : List Value → St H → Option (List (Value × St H))) (K : Ex → List Value → St H → Option (List (Value × St H))) :
 exec Try.prog false C n 160 none (cdp Try.f160 [1, 0, 1, 0, 1, 1, 0, 0, 0]) (f160_l2_m i0 i1 i2 i3 i4 i25 i26 i27 i28 i77 i78 i79 i80 i81 i82 x) s (kIter (scratch (cdp Try.f160 [1, 0, 1, 0, 1, 1, 0, 0, 0])) nx K) = f160_l2 (dOps (H := H) Try.prog) C n i0 i2 i4 (fun x s => nx (f160_l2_m i0 i1 i2 i3 i4 i25 i26 i27 i28 i77 i78 i79 i80 i81 i82 x) s) (fun i x s => K (.exit i) (f160_l2_m i0 i1 i2 i3 i4 i25 i26 i27 i28 i77 i78 i79 i80 i81 i82 x) s) (fun x s => K .ret (f160_l2_m i0 i1 i2 i3 i4 i25 i26 i27 i28 i77 i78 i79 i80 i81 i82 x) s) x s := by kernel_rfl
theorem f160_l2_e (C : OracleJ H) (n : Nat) (i0 : Value) (i1 : Value) (i2 : Value) (i3 : Value) (i4 : Value) (i25 : Value) (i26 : Value) (i27 : Value) (i28 : Value) (i77 : Value) (i78 : Value) (i79 : Value) (i80 : Value) (i81 : Value) (i82 : Value) (m : Nat) (x : Value × Value × Value) (s : St H) (K : Ex → List Value → St H → Option (List (Value × St H))) :
 iter (fun t s k => exec Try.prog false C n 160 none (cdp Try.f160 [1, 0, 1, 0, 1, 1, 0, 0, 0]) t s k) (scratch (cdp Try.f160 [1, 0, 1, 0, 1, 1, 0, 0, 0])) m (f160_l2_m i0 i1 i2 i3 i4 i25 i26 i27 i28 i77 i78 i79 i80 i81 i82 x) s K = iterS (f160_l2 (dOps (H := H) Try.prog) C n i0 i2 i4) (fun i x s => K (.exit i) (f160_l2_m i0 i1 i2 i3 i4 i25 i26 i27 i28 i77 i78 i79 i80 i81 i82 x) s) (fun x s => K .ret (f160_l2_m i0 i1 i2 i3 i4 i25 i26 i27 i28 i77 i78 i79 i80 i81 i82 x) s) m x s :=
   iter_eq (f160_l2_m i0 i1 i2 i3 i4 i25 i26 i27 i28 i77 i78 i79 i80 i81 i82) (f160_l2 (dOps (H := H) Try.prog) C n i0 i2 i4) (fun x s nx K => f160_l2_b C n i0 i1 i2 i3 i4 i25 i26 i27 i28 i77 i78 i79 i80 i81 i82 x s nx K) K m x s
def f160_l3_m (i0 : Value) (i1 : Value) (i2 : Value) (i3 : Value) (i4 : Value) (i14 : Value) (i15 : Value) (i16 : Value) (i25 : Value) (i26 : Value) (i27 : Value) (i28 : Value) (i77 : Value) (i78 : Value) (i79 : Value) (i80 : Value) (i81 : Value) (i82 : Value) (i107 : Value) (x : Value) : List Value := [i0, i1, i2, i3, i4, undefV, undefV, undefV, undefV, undefV, undefV, undefV, undefV, undefV, i14, i15, i16, x, undefV, undefV, undefV, undefV, undefV, undefV, undefV, i25, i26, i27, i28, undefV, undefV, undefV, undefV, undefV, undefV, undefV, undefV, undefV, undefV, undefV, undefV, undefV, undefV, undefV, undefV, undefV, undefV, undefV, undefV, undefV, undefV, undefV, undefV, undefV, undefV, undefV, undefV, undefV, undefV, undefV, undefV, undefV, undefV, undefV, undefV, undefV, undefV, undefV, undefV, undefV, undefV, undefV, undefV, undefV, undefV, undefV, undefV, i77, i78, i79, i80, i81, i82, dc, dc, dc, dc, dc, dc, dc, dc, dc, dc, dc, dc, dc, dc, dc, dc, dc, dc, dc, dc, dc, dc, dc, dc, i107, dc, dc, dc, dc, dc, dc, dc, dc, dc, dc, dc, dc, dc, dc, dc, dc, dc, dc, dc, dc, dc, undefV, undefV, undefV, undefV, undefV, undefV, undefV, undefV, undefV, undefV, undefV, undefV, undefV, undefV, undefV, undefV, undefV, undefV, undefV, undefV, undefV, undefV, undefV, undefV, undefV, undefV, undefV, undefV, undefV, undefV, undefV, undefV, undefV, undefV, undefV, undefV, undefV, undefV, undefV, undefV, undefV, undefV, undefV, undefV, undefV, undefV, undefV, undefV, undefV, undefV, undefV, undefV, undefV, undefV, undefV, undefV, undefV, undefV, undefV, undefV, undefV, undefV, undefV, undefV, undefV, undefV, undefV, undefV, undefV, undefV, undefV, undefV, undefV, undefV, undefV, undefV, undefV, undefV, undefV, undefV, undefV, undefV, undefV, undefV, undefV, undefV, undefV, undefV, undefV, undefV, undefV]
noncomputable def f160_l3 (O : Ops H) (C : OracleJ H) (n : Nat) (i0 : Value) (i14 : Value) (nx : Value → St H → Option (List (Value × St H))) (kx : Nat → Value → St H → Option (List (Value × St H))) (kr : Value → St H → Option (List (Value × St H))) (x : Value) (s : St H) : Option (List (Value × St H)) :=
 (O.bop .gtr 3 x i14).bind fun v67 =>
 (O.boolO v67).bind fun b68 => cond b68 (
 (O.bop .sub 3 x (Go.Value.int Go.IntKind.i64 1)).bind fun v69 =>
 (O.bop .sub 3 x (Go.Value.int Go.IntKind.i64 1)).bind fun v70 =>
 (O.indexAddr 22 i0 v70).bind fun v71 =>
 (O.load s 106 v71).bind fun v72 =>
 (O.indexAddr 22 i0 x).bind fun v73 =>
 (O.load s 106 v73).bind fun v74 =>
 (O.indexAddr 22 i0 x).bind fun v75 =>
 (O.store s 106 v75 v72).bind fun s76 =>
 (O.indexAddr 22 i0 v69).bind fun v77 =>
 (O.store s76 106 v77 v74).bind fun s78 =>
 (O.bop .sub 3 x (Go.Value.int Go.IntKind.i64 1)).bind fun v79 =>
 nx v79 s78) (
 kx 6 x s)
theorem f160_l3_b (C : OracleJ H) (n : Nat) (i0 : Value) (i1 : Value) (i2 : Value) (i3 : Value) (i4 : Value) (i14 : Value) (i15 : Value) (i16 : Value) (i25 : Value) (i26 : Value) (i27 : Value) (i28 : Value) (i77 : Value) (i78 : Value) (i79 : Value) (i80 : Value) (i81 : Value) (i82 : Value) (i107 : Value) (x : Value) (s : St H) (nx : List Value → St H → Option (List (Value × St H))) (K : Ex → List Value → St H → Option (List (Value × St H))) :
 exec Try.prog false C n 160 none (cdp Try.f160 [1, 0, 1, 0, 1, 1, 1, 0, 1, 0, 0]) (f160_l3_m i0 i1 i2 i3 i4 i14 i15 i16 i25 i26 i27 i28 i77 i78 i79 i80 i81 i82 i107 x) s (kIter (scratch (cdp Try.f160 [1, 0, 1, 0, 1, 1, 1, 0, 1, 0, 0])) nx K) = f160_l3 (dOps (H := H) Try.prog) C n i0 i14 (fun x s => nx (f160_l3_m i0 i1 i2 i3 i4 i14 i15 i16 i25 i26 i27 i28 i77 i78 i79 i80 i81 i82 i107 x) s) (fun i x s => K (.exit i) (f160_l3_m i0 i1 i2 i3 i4 i14 i15 i16 i25 i26 i27 i28 i77 i78 i79 i80 i81 i82 i107 x) s) (fun x s => K .ret (f160_l3_m i0 i1 i2 i3 i4 i14 i15 i16 i25 i26 i27 i28 i77 i78 i79 i80 i81 i82 i107 x) s) x s := by kernel_rfl
theorem f160_l3_e (C : OracleJ H) (n : Nat) (i0 : Value) (i1 : Value) (i2 : Value) (i3 : Value) (i4 : Value) (i14 : Value) (i15 : Value) (i16 : Value) (i25 : Value) (i26 : Value) (i27 : Value) (i28 : Value) (i77 : Value) (i78 : Value) (i79 : Value) (i80 : Value) (i81 : Value) (i82 : Value) (i107 : Value) (m : Nat) (x : Value) (s : St H) (K : Ex → List Value → St H → Option (List (Value × St H))) :
 iter (fun t s k => exec Try.prog false C n 160 none (cdp Try.f160 [1, 0, 1, 0, 1, 1, 1, 0, 1, 0, 0]) t s k) (scratch (cdp Try.f160 [1, 0, 1, 0, 1, 1, 1, 0, 1, 0, 0])) m (f160_l3_m i0 i1 i2 i3 i4 i14 i15 i16 i25 i26 i27 i28 i77 i78 i79 i80 i81 i82 i107 x) s K = iterS (f160_l3 (dOps (H := H) Try.prog) C n i0 i14) (fun i x s => K (.exit i) (f160_l3_m i0 i1 i2 i3 i4 i14 i15 i16 i25 i26 i27 i28 i77 i78 i79 i80 i81 i82 i107 x) s) (fun x s => K .ret (f160_l3_m i0 i1 i2 i3 i4 i14 i15 i16 i25 i26 i27 i28 i77 i78 i79 i80 i81 i82 i107 x) s) m x s :=
   iter_eq (f160_l3_m i0 i1 i2 i3 i4 i14 i15 i16 i25 i26 i27 i28 i77 i78 i79 i80 i81 i82 i107) (f160_l3 (dOps (H := H) Try.prog) C n i0 i14) (fun x s nx K => f160_l3_b C n i0 i1 i2 i3 i4 i14 i15 i16 i25 i26 i27 i28 i77 i78 i79 i80 i81 i82 i107 x s nx K) K m x s
def f160_l4_m (i0 : Value) (i1 : Value) (i2 : Value) (i3 : Value) (i4 : Value) (i18 : Value) (i19 : Value) (i22 : Value) (i25 : Value) (i26 : Value) (i27 : Value) (i28 : Value) (i77 : Value) (i78 : Value) (i79 : Value) (i80 : Value) (i129 : Value) (i130 : Value) (i131 : Value) (i132 : Value) (i133 : Value) (i134 : Value) (i135 : Value) (i136 : Value) (i137 : Value) (i138 : Value) (i139 : Value) (i140 : Value) (i141 : Value) (i142 : Value) (i143 : Value) (i144 : Value) (i145 : Value) (i146 : Value) (i147 : Value) (i148 : Value) (x : Value × Value × Value) : List Value := [i0, i1, i2, i3, i4, undefV, undefV, undefV, undefV, undefV, undefV, undefV, undefV, undefV, undefV, undefV, undefV, undefV, i18, i19, x.1, x.2.1, i22, x.2.2, undefV, i25, i26, i27, i28, undefV, undefV, undefV, undefV, undefV, undefV, undefV, undefV, undefV, undefV, undefV, undefV, undefV, undefV, undefV, undefV, undefV, undefV, undefV, undefV, undefV, undefV, undefV, undefV, undefV, undefV, undefV, undefV, undefV, undefV, undefV, undefV, undefV, undefV, undefV, undefV, undefV, undefV, undefV, undefV, undefV, undefV, undefV, undefV, undefV, undefV, undefV, undefV, i77, i78, i79, i80, undefV, undefV, undefV, undefV, undefV, undefV, undefV, undefV, undefV, undefV, undefV, undefV, undefV, undefV, undefV, undefV, undefV, undefV, undefV, undefV, undefV, undefV, undefV, undefV, undefV, undefV, undefV, undefV, undefV, undefV, undefV, undefV, undefV, undefV, undefV, undefV, undefV, undefV, undefV, undefV, undefV, undefV, undefV, undefV, undefV, undefV, undefV, undefV, i129, i130, i131, i132, i133, i134, i135, i136, i137, i138, i139, i140, i141, i142, i143, i144, i145, i146, i147, i148, dc, dc, dc, dc, dc, dc, dc, dc, dc, dc, dc, dc, dc, dc, dc, dc, dc, dc, dc, dc, dc, dc, dc, dc, dc, dc, undefV, undefV, undefV, undefV, undefV, undefV, undefV, undefV, undefV, undefV, undefV, undefV, undefV, undefV, undefV, undefV, undefV, undefV, undefV, undefV, undefV, undefV, undefV, undefV, undefV, undefV, undefV, undefV, undefV, undefV, undefV, undefV, undefV, undefV, undefV, undefV, undefV, undefV, undefV, undefV, undefV, undefV, undefV, undefV, undefV]
noncomputable def f160_l4 (O : Ops H) (C : OracleJ H) (n : Nat) (i0 : Value) (i4 : Value) (i22 : Value) (nx : (Value × Value × Value) → St H → Option (List (Value × St H))) (kx : Nat → (Value × Value × Value) → St H → Option (List (Value × St H))) (kr : (Value × Value × Value) → St H → Option (List (Value × St H))) (x : Value × Value × Value) (s : St H) : Option (List (Value × St H)) :=
 (O.bop .lss 3 x.1 x.2.1).bind fun v328 =>
 (O.boolO v328).bind fun b329 => cond b329 (
 (O.bop .add 3 x.1 x.2.1).bind fun v330 =>
 (O.conv false s 3 201 v330).bind fun p331 =>
 (O.bop .shr 201 p331.1 (Go.Value.int Go.IntKind.u64 1)).bind fun v332 =>
 (O.conv false p331.2 201 3 v332).bind fun p333 =>
 (O.bop .sub 3 i22 p333.1).bind fun v334 =>
 (O.indexAddr 22 i0 v334).bind fun v335 =>
 (O.load p333.2 106 v335).bind fun v336 =>
 (O.indexAddr 22 i0 p333.1).bind fun v337 =>
 (O.load p333.2 106 v337).bind fun v338 =>
 (O.tgt i4 [v336, v338]).bind fun g339 => (oneO C g339.1 g339.2 p333.2).bind fun p340 =>
 (O.bop .lss 3 p340.1 (Go.Value.int Go.IntKind.i64 0)).bind fun v341 =>
 (O.uop .not v341).bind fun v342 =>
 jn (fun (j638_20 : Value) (j638_21 : Value) =>
 nx (j638_20, j638_21, p333.1) p340.2) fun k638 =>
 (O.boolO v342).bind fun b343 => cond b343 (
 (O.bop .add 3 p333.1 (Go.Value.int Go.IntKind.i64 1)).bind fun v344 =>
 k638 v344 x.2.1) (
 k638 x.1 p333.1)) (
 kx 8 (x.1, x.2.1, x.2.2) s)
theorem f160_l4_b (C : OracleJ H) (n : Nat) (i0 : Value) (i1 : Value) (i2 : Value) (i3 : Value) (i4 : Value) (i18 : Value) (i19 : Value) (i22 : Value) (i25 : Value) (i26 : Value) (i27 : Value) (i28 : Value) (i77 : Value) (i78 : Value) (i79 : Value) (i80 : Value) (i129 : Value) (i130 : Value) (i131 : Value) (i132 : Value) (i133 : Value) (i134 : Value) (i135 : Value) (i136 : Value) (i137 : Value) (i138 : Value) (i139 : Value) (i140 : Value) (i141 : Value) (i142 : Value) (i143 : Value) (i144 : Value) (i145 : Value) (i146 : Value) (i147 : Value) (i148 : Value) (x : Value × Value × Value) (s : St H) (nx : List Value → St H → Option (List (Value × St H))) (K : Ex → List Value → St H → Option (List (Value × St H))) :
 exec Try.prog false C n 160 none (cdp Try.f160 [1, 1, 1, 1, 1, 1, 1, 0, 0, 0]) (f160_l4_m i0 i1 i2 i3 i4 i18 i19 i22 i25 i26 i27 i28 i77 i78 i79 i80 i129 i130 i131 i132 i133 i134 i135 i136 i137 i138 i139 i140 i141 i142 i143 i144 i145 i146 i147 i148 x) s (kIter (scratch (cdp Try.f160 [1, 1, 1, 1, 1, 1, 1, 0, 0, 0])) nx K) = f160_l4 (dOps (H := H) Try.prog) C n i0 i4 i22 (fun x s => nx (f160_l4_m i0 i1 i2 i3 i4 i18 i19 i22 i25 i26 i27 i28 i77 i78 i79 i80 i129 i130 i131 i132 i133 i134 i135 i136 i137 i138 i139 i140 i141 i142 i143 i144 i145 i146 i147 i148 x) s) (fun i x s => K (.exit i) (f160_l4_m i0 i1 i2 i3 i4 i18 i19 i22 i25 i26 i27 i28 i77 i78 i79 i80 i129 i130 i131 i132 i133 i134 i135 i136 i137 i138 i139 i140 i141 i142 i143 i144 i145 i146 i147 i148 x) s) (fun x s => K .ret (f160_l4_m i0 i1 i2 i3 i4 i18 i19 i22 i25 i26 i27 i28 i77 i78 i79 i80 i129 i130 i131 i132 i133 i134 i135 i136 i137 i138 i139 i140 i141 i142 i143 i144 i145 i146 i147 i148 x) s) x s := by kernel_rfl
theorem f160_l4_e (C : OracleJ H) (n : Nat) (i0 : Value) (i1 : Value) (i2 : Value) (i3 : Value) (i4 : Value) (i18 : Value) (i19 : Value) (i22 : Value) (i25 : Value) (i26 : Value) (i27 : Value) (i28 : Value) (i77 : Value) (i78 : Value) (i79 : Value) (i80 : Value) (i129 : Value) (i130 : Value) (i131 : Value) (i132 : Value) (i133 : Value) (i134 : Value) (i135 : Value) (i136 : Value) (i137 : Value) (i138 : Value) (i139 : Value) (i140 : Value) (i141 : Value) (i142 : Value) (i143 : Value) (i144 : Value) (i145 : Value) (i146 : Value) (i147 : Value) (i148 : Value) (m : Nat) (x : Value × Value × Value) (s : St H) (K : Ex → List Value → St H → Option (List (Value × St H))) :
 iter (fun t s k => exec Try.prog false C n 160 none (cdp Try.f160 [1, 1, 1, 1, 1, 1, 1, 0, 0, 0]) t s k) (scratch (cdp Try.f160 [1, 1, 1, 1, 1, 1, 1, 0, 0, 0])) m (f160_l4_m i0 i1 i2 i3 i4 i18 i19 i22 i25 i26 i27 i28 i77 i78 i79 i80 i129 i130 i131 i132 i133 i134 i135 i136 i137 i138 i139 i140 i141 i142 i143 i144 i145 i146 i147 i148 x) s K = iterS (f160_l4 (dOps (H := H) Try.prog) C n i0 i4 i22) (fun i x s => K (.exit i) (f160_l4_m i0 i1 i2 i3 i4 i18 i19 i22 i25 i26 i27 i28 i77 i78 i79 i80 i129 i130 i131 i132 i133 i134 i135 i136 i137 i138 i139 i140 i141 i142 i143 i144 i145 i146 i147 i148 x) s) (fun x s => K .ret (f160_l4_m i0 i1 i2 i3 i4 i18 i19 i22 i25 i26 i27 i28 i77 i78 i79 i80 i129 i130 i131 i132 i133 i134 i135 i136 i137 i138 i139 i140 i141 i142 i143 i144 i145 i146 i147 i148 x) s) m x s :=
   iter_eq (f160_l4_m i0 i1 i2 i3 i4 i18 i19 i22 i25 i26 i27 i28 i77 i78 i79 i80 i129 i130 i131 i132 i133 i134 i135 i136 i137 i138 i139 i140 i141 i142 i143 i144 i145 i146 i147 i148) (f160_l4 (dOps (H := H) Try.prog) C n i0 i4 i22) (fun x s nx K => f160_l4_b C n i0 i1 i2 i3 i4 i18 i19 i22 i25 i26 i27 i28 i77 i78 i79 i80 i129 i130 i131 i132 i133 i134 i135 i136 i137 i138 i139 i140 i141 i142 i143 i144 i145 i146 i147 i148 x s nx K) K m x s
noncomputable def f160 (O : Ops H) (C : OracleJ H) (n : Nat) (a0 : Value) (a1 : Value) (a2 : Value) (a3 : Value) (a4 : Value) (s : St H) : Option (List (Value × St H)) :=
 (O.bop .sub 3 a2 a1).bind fun v1 =>
 (O.bop .eql 3 v1 (Go.Value.int Go.IntKind.i64 1)).bind fun v2 =>
 (O.boolO v2).bind fun b3 => cond b3 (
 iterS (f160_l0 O C n a0 a1 a4 )
 (fun i19 x20 s21 => (bif Nat.beq i19 0 then
 iterS (f160_l1 O C n a0 x20.1 )
 (fun i38 x39 s40 => (bif Nat.beq i38 2 then
 some [(.tuple #[], s40)] else none))
 (fun x41 s42 => some [(.tuple #[], s42)]) n a1 s21 else none))
 (fun x22 s23 => some [(.tuple #[], s23)]) n (a2, a3, undefV) s) (
 (O.bop .sub 3 a3 a2).bind fun v43 =>
 (O.bop .eql 3 v43 (Go.Value.int Go.IntKind.i64 1)).bind fun v44 =>
 (O.boolO v44).bind fun b45 => cond b45 (
 iterS (f160_l2 O C n a0 a2 a4 )
 (fun i62 x63 s64 => (bif Nat.beq i62 4 then
 iterS (f160_l3 O C n a0 x63.1 )
 (fun i80 x81 s82 => (bif Nat.beq i80 6 then
 some [(.tuple #[], s82)] else none))
 (fun x83 s84 => some [(.tuple #[], s84)]) n a2 s64 else none))
 (fun x65 s66 => some [(.tuple #[], s66)]) n (a1, a2, undefV) s) (
 (O.bop .add 3 a1 a3).bind fun v85 =>
 (O.conv false s 3 201 v85).bind fun p86 =>
 (O.bop .shr 201 p86.1 (Go.Value.int Go.IntKind.u64 1)).bind fun v87 =>
 (O.conv false p86.2 201 3 v87).bind fun p88 =>
 (O.bop .add 3 p88.1 a2).bind fun v89 =>
 (O.bop .gtr 3 a2 p88.1).bind fun v90 =>
 jn (fun (j510_20 : Value) (j510_21 : Value) =>
 (O.bop .sub 3 v89 (Go.Value.int Go.IntKind.i64 1)).bind fun v327 =>
 iterS (f160_l4 O C n a0 a4 v327 )
 (fun i345 x346 s347 => (bif Nat.beq i345 8 then
 (O.bop .sub 3 v89 x346.1).bind fun v350 =>
 jn (fun (j642_185 : Value) =>
 jn (fun (js695 : St H) =>
 jn (fun (j722_199 : Value) =>
 jn (fun (js735 : St H) =>
 jn (fun (j742_213 : Value) =>
 (O.boolO j742_213).bind fun b557 => cond b557 (
 (C (.fn 160) [a0, p88.1, v350, a3, a4] js735).bind fun L558 => manyK L558 fun v559 s560 =>
 some [(.tuple #[], s560)]) (
 some [(.tuple #[], js735)])) fun k742 =>
 (O.bop .lss 3 p88.1 v350).bind fun v551 =>
 gd v551 (
 (O.bop .lss 3 v350 a3).bind fun v552 =>
 k742 v552) (
 k742 (.bool false)) (
 none)) fun k735 =>
 (O.boolO j722_199).bind fun b537 => cond b537 (
 (C (.fn 160) [a0, a1, x346.1, p88.1, a4] js695).bind fun L538 => manyK L538 fun v539 s540 =>
 k735 s540) (
 k735 js695)) fun k722 =>
 (O.bop .lss 3 a1 x346.1).bind fun v511 =>
 gd v511 (
 (O.bop .lss 3 x346.1 p88.1).bind fun v512 =>
 k722 v512) (
 k722 (.bool false)) (
 none)) fun k695 =>
 (O.boolO j642_185).bind fun b457 => cond b457 (
 (C (.fn 200) [a0, x346.1, a2, v350, a4] s347).bind fun L458 => manyK L458 fun v459 s460 =>
 k695 s460) (
 k695 s347)) fun k642 =>
 (O.bop .lss 3 x346.1 a2).bind fun v351 =>
 gd v351 (
 (O.bop .lss 3 a2 v350).bind fun v352 =>
 k642 v352) (
 k642 (.bool false)) (
 none) else none))
 (fun x348 s349 => some [(.tuple #[], s349)]) n (j510_20, j510_21, undefV) p88.2) fun k510 =>
 (O.boolO v90).bind fun b91 => cond b91 (
 (O.bop .sub 3 v89 a3).bind fun v92 =>
 k510 v92 p88.1) (
 k510 a1 a2)))
theorem f160_l1_k (C : OracleJ H) (n : Nat) (i0 : Value) (i1 : Value) (i2 : Value) (i3 : Value) (i4 : Value) (i10 : Value) (i11 : Value) (i12 : Value) (i25 : Value) (i26 : Value) (i27 : Value) (i28 : Value) (i29 : Value) (i30 : Value) (i54 : Value) (i : Nat) (x : Value) (s : St H) : (kBlock 2 (kSeq Try.prog false C n 160 none (cdp Try.f160 [0, 1, 0, 1, 1, 1, 1]) (kSeq Try.prog false C n 160 none (cdp Try.f160 [1]) (kFun Try.prog Try.f160)))) (.exit i) (f160_l1_m i0 i1 i2 i3 i4 i10 i11 i12 i25 i26 i27 i28 i29 i30 i54 x) s =
 (bif Nat.beq i 2 then
 some [(.tuple #[], s)] else none) := by kernel_rfl
theorem f160_l0_k (C : OracleJ H) (n : Nat) (i0 : Value) (i1 : Value) (i2 : Value) (i3 : Value) (i4 : Value) (i25 : Value) (i26 : Value) (i27 : Value) (i28 : Value) (i29 : Value) (i30 : Value) (i : Nat) (x : Value × Value × Value) (s : St H) : (kBlock 0 (kSeq Try.prog false C n 160 none (cdp Try.f160 [0, 1, 0, 1, 1, 1]) (kSeq Try.prog false C n 160 none (cdp Try.f160 [1]) (kFun Try.prog Try.f160)))) (.exit i) (f160_l0_m i0 i1 i2 i3 i4 i25 i26 i27 i28 i29 i30 x) s =
 (bif Nat.beq i 0 then
 iterS (f160_l1 (dOps (H := H) Try.prog) C n i0 x.1 )
 (fun i564 x565 s566 => (bif Nat.beq i564 2 then
 some [(.tuple #[], s566)] else none))
 (fun x567 s568 => some [(.tuple #[], s568)]) n i1 s else none) := by
  have h1 : (kBlock 0 (kSeq Try.prog false C n 160 none (cdp Try.f160 [0, 1, 0, 1, 1, 1]) (kSeq Try.prog false C n 160 none (cdp Try.f160 [1]) (kFun Try.prog Try.f160)))) (.exit i) (f160_l0_m i0 i1 i2 i3 i4 i25 i26 i27 i28 i29 i30 x) s =
 (bif Nat.beq i 0 then
 iter (fun t s k => exec Try.prog false C n 160 none (cdp Try.f160 [0, 1, 0, 1, 1, 1, 0, 1, 0, 0]) t s k) (scratch (cdp Try.f160 [0, 1, 0, 1, 1, 1, 0, 1, 0, 0])) n (f160_l1_m i0 i1 i2 i3 i4 x.1 x.2.1 x.2.2 i25 i26 i27 i28 i29 i30 i1 i1) s (kBlock 2 (kSeq Try.prog false C n 160 none (cdp Try.f160 [0, 1, 0, 1, 1, 1, 1]) (kSeq Try.prog false C n 160 none (cdp Try.f160 [1]) (kFun Try.prog Try.f160)))) else none) := by kernel_rfl
  rw [h1]
  simp only [f160_l1_e, f160_l1_k]
  show _ = (bif Nat.beq i 0 then
 iterS (f160_l1 (dOps (H := H) Try.prog) C n i0 x.1 )
 (fun i564 x565 s566 => (bif Nat.beq i564 2 then
 some [(.tuple #[], s566)] else none))
 (fun x567 s568 => some [(.tuple #[], s568)]) n i1 s else none)
  kernel_rfl
theorem f160_l3_k (C : OracleJ H) (n : Nat) (i0 : Value) (i1 : Value) (i2 : Value) (i3 : Value) (i4 : Value) (i14 : Value) (i15 : Value) (i16 : Value) (i25 : Value) (i26 : Value) (i27 : Value) (i28 : Value) (i77 : Value) (i78 : Value) (i79 : Value) (i80 : Value) (i81 : Value) (i82 : Value) (i107 : Value) (i : Nat) (x : Value) (s : St H) : (kBlock 6 (kSeq Try.prog false C n 160 none (cdp Try.f160 [1, 0, 1, 0, 1, 1, 1, 1]) (kSeq Try.prog false C n 160 none (cdp Try.f160 [1, 1]) (kFun Try.prog Try.f160)))) (.exit i) (f160_l3_m i0 i1 i2 i3 i4 i14 i15 i16 i25 i26 i27 i28 i77 i78 i79 i80 i81 i82 i107 x) s =
 (bif Nat.beq i 6 then
 some [(.tuple #[], s)] else none) := by kernel_rfl
theorem f160_l2_k (C : OracleJ H) (n : Nat) (i0 : Value) (i1 : Value) (i2 : Value) (i3 : Value) (i4 : Value) (i25 : Value) (i26 : Value) (i27 : Value) (i28 : Value) (i77 : Value) (i78 : Value) (i79 : Value) (i80 : Value) (i81 : Value) (i82 : Value) (i : Nat) (x : Value × Value × Value) (s : St H) : (kBlock 4 (kSeq Try.prog false C n 160 none (cdp Try.f160 [1, 0, 1, 0, 1, 1, 1]) (kSeq Try.prog false C n 160 none (cdp Try.f160 [1, 1]) (kFun Try.prog Try.f160)))) (.exit i) (f160_l2_m i0 i1 i2 i3 i4 i25 i26 i27 i28 i77 i78 i79 i80 i81 i82 x) s =
 (bif Nat.beq i 4 then
 iterS (f160_l3 (dOps (H := H) Try.prog) C n i0 x.1 )
 (fun i572 x573 s574 => (bif Nat.beq i572 6 then
 some [(.tuple #[], s574)] else none))
 (fun x575 s576 => some [(.tuple #[], s576)]) n i2 s else none) := by
  have h1 : (kBlock 4 (kSeq Try.prog false C n 160 none (cdp Try.f160 [1, 0, 1, 0, 1, 1, 1]) (kSeq Try.prog false C n 160 none (cdp Try.f160 [1, 1]) (kFun Try.prog Try.f160)))) (.exit i) (f160_l2_m i0 i1 i2 i3 i4 i25 i26 i27 i28 i77 i78 i79 i80 i81 i82 x) s =
 (bif Nat.beq i 4 then
 iter (fun t s k => exec Try.prog false C n 160 none (cdp Try.f160 [1, 0, 1, 0, 1, 1, 1, 0, 1, 0, 0]) t s k) (scratch (cdp Try.f160 [1, 0, 1, 0, 1, 1, 1, 0, 1, 0, 0])) n (f160_l3_m i0 i1 i2 i3 i4 x.1 x.2.1 x.2.2 i25 i26 i27 i28 i77 i78 i79 i80 i81 i82 i2 i2) s (kBlock 6 (kSeq Try.prog false C n 160 none (cdp Try.f160 [1, 0, 1, 0, 1, 1, 1, 1]) (kSeq Try.prog false C n 160 none (cdp Try.f160 [1, 1]) (kFun Try.prog Try.f160)))) else none) := by kernel_rfl
  rw [h1]
  simp only [f160_l3_e, f160_l3_k]
  show _ = (bif Nat.beq i 4 then
 iterS (f160_l3 (dOps (H := H) Try.prog) C n i0 x.1 )
 (fun i572 x573 s574 => (bif Nat.beq i572 6 then
 some [(.tuple #[], s574)] else none))
 (fun x575 s576 => some [(.tuple #[], s576)]) n i2 s else none)
  kernel_rfl
theorem f160_l4_k (C : OracleJ H) (n : Nat) (i0 : Value) (i1 : Value) (i2 : Value) (i3 : Value) (i4 : Value) (i18 : Value) (i19 : Value) (i22 : Value) (i25 : Value) (i26 : Value) (i27 : Value) (i28 : Value) (i77 : Value) (i78 : Value) (i79 : Value) (i80 : Value) (i129 : Value) (i130 : Value) (i131 : Value) (i132 : Value) (i133 : Value) (i134 : Value) (i135 : Value) (i136 : Value) (i137 : Value) (i138 : Value) (i139 : Value) (i140 : Value) (i141 : Value) (i142 : Value) (i143 : Value) (i144 : Value) (i145 : Value) (i146 : Value) (i147 : Value) (i148 : Value) (i : Nat) (x : Value × Value × Value) (s : St H) : (kBlock 8 (kSeq Try.prog false C n 160 none (cdp Try.f160 [1, 1, 1, 1, 1, 1, 1, 1]) (kFun Try.prog Try.f160))) (.exit i) (f160_l4_m i0 i1 i2 i3 i4 i18 i19 i22 i25 i26 i27 i28 i77 i78 i79 i80 i129 i130 i131 i132 i133 i134 i135 i136 i137 i138 i139 i140 i141 i142 i143 i144 i145 i146 i147 i148 x) s =
 (bif Nat.beq i 8 then
 ((dOps (H := H) Try.prog).bop .sub 3 i19 x.1).bind fun v798 =>
 jn (fun (j885_185 : Value) =>
 jn (fun (js938 : St H) =>
 jn (fun (j965_199 : Value) =>
 jn (fun (js978 : St H) =>
 jn (fun (j985_213 : Value) =>
 ((dOps (H := H) Try.prog).boolO j985_213).bind fun b1005 => cond b1005 (
 (C (.fn 160) [i0, i18, v798, i3, i4] js978).bind fun L1006 => manyK L1006 fun v1007 s1008 =>
 some [(.tuple #[], s1008)]) (
 some [(.tuple #[], js978)])) fun k985 =>
 ((dOps (H := H) Try.prog).bop .lss 3 i18 v798).bind fun v999 =>
 gd v999 (
 ((dOps (H := H) Try.prog).bop .lss 3 v798 i3).bind fun v1000 =>
 k985 v1000) (
 k985 (.bool false)) (
 none)) fun k978 =>
 ((dOps (H := H) Try.prog).boolO j965_199).bind fun b985 => cond b985 (
 (C (.fn 160) [i0, i1, x.1, i18, i4] js938).bind fun L986 => manyK L986 fun v987 s988 =>
 k978 s988) (
 k978 js938)) fun k965 =>
 ((dOps (H := H) Try.prog).bop .lss 3 i1 x.1).bind fun v959 =>
 gd v959 (
 ((dOps (H := H) Try.prog).bop .lss 3 x.1 i18).bind fun v960 =>
 k965 v960) (
 k965 (.bool false)) (
 none)) fun k938 =>
 ((dOps (H := H) Try.prog).boolO j885_185).bind fun b905 => cond b905 (
 (C (.fn 200) [i0, x.1, i2, v798, i4] s).bind fun L906 => manyK L906 fun v907 s908 =>
 k938 s908) (
 k938 s)) fun k885 =>
 ((dOps (H := H) Try.prog).bop .lss 3 x.1 i2).bind fun v799 =>
 gd v799 (
 ((dOps (H := H) Try.prog).bop .lss 3 i2 v798).bind fun v800 =>
 k885 v800) (
 k885 (.bool false)) (
 none) else none) := by kernel_rfl
theorem f160_r (C : OracleJ H) (n : Nat) (a0 : Value) (a1 : Value) (a2 : Value) (a3 : Value) (a4 : Value) (s : St H) : bodyD Try.prog false C n 160 Try.f160 [a0, a1, a2, a3, a4] s = f160 (dOps (H := H) Try.prog) C n a0 a1 a2 a3 a4 s := by
  have h1 : bodyD Try.prog false C n 160 Try.f160 [a0, a1, a2, a3, a4] s =
 ((dOps (H := H) Try.prog).bop .sub 3 a2 a1).bind fun v561 =>
 ((dOps (H := H) Try.prog).bop .eql 3 v561 (Go.Value.int Go.IntKind.i64 1)).bind fun v562 =>
 ((dOps (H := H) Try.prog).boolO v562).bind fun b563 => cond b563 (
 iter (fun t s k => exec Try.prog false C n 160 none (cdp Try.f160 [0, 1, 0, 1, 1, 0, 0, 0]) t s k) (scratch (cdp Try.f160 [0, 1, 0, 1, 1, 0, 0, 0])) n (f160_l0_m a0 a1 a2 a3 a4 a2 a1 v561 v562 a2 a3 (a2, a3, undefV)) s (kBlock 0 (kSeq Try.prog false C n 160 none (cdp Try.f160 [0, 1, 0, 1, 1, 1]) (kSeq Try.prog false C n 160 none (cdp Try.f160 [1]) (kFun Try.prog Try.f160))))) (
 ((dOps (H := H) Try.prog).bop .sub 3 a3 a2).bind fun v569 =>
 ((dOps (H := H) Try.prog).bop .eql 3 v569 (Go.Value.int Go.IntKind.i64 1)).bind fun v570 =>
 ((dOps (H := H) Try.prog).boolO v570).bind fun b571 => cond b571 (
 iter (fun t s k => exec Try.prog false C n 160 none (cdp Try.f160 [1, 0, 1, 0, 1, 1, 0, 0, 0]) t s k) (scratch (cdp Try.f160 [1, 0, 1, 0, 1, 1, 0, 0, 0])) n (f160_l2_m a0 a1 a2 a3 a4 a2 a1 v561 v562 a3 a2 v569 v570 a1 a2 (a1, a2, undefV)) s (kBlock 4 (kSeq Try.prog false C n 160 none (cdp Try.f160 [1, 0, 1, 0, 1, 1, 1]) (kSeq Try.prog false C n 160 none (cdp Try.f160 [1, 1]) (kFun Try.prog Try.f160))))) (
 ((dOps (H := H) Try.prog).bop .add 3 a1 a3).bind fun v577 =>
 ((dOps (H := H) Try.prog).conv false s 3 201 v577).bind fun p578 =>
 ((dOps (H := H) Try.prog).bop .shr 201 p578.1 (Go.Value.int Go.IntKind.u64 1)).bind fun v579 =>
 ((dOps (H := H) Try.prog).conv false p578.2 201 3 v579).bind fun p580 =>
 ((dOps (H := H) Try.prog).bop .add 3 p580.1 a2).bind fun v581 =>
 ((dOps (H := H) Try.prog).bop .gtr 3 a2 p580.1).bind fun v582 =>
 jn (fun (j769_20 : Value) (j769_21 : Value) (j769_141 : Value) (j769_142 : Value) (j769_143 : Value) (j769_144 : Value) (j769_145 : Value) (j769_146 : Value) =>
 ((dOps (H := H) Try.prog).bop .sub 3 v581 (Go.Value.int Go.IntKind.i64 1)).bind fun v586 =>
 iter (fun t s k => exec Try.prog false C n 160 none (cdp Try.f160 [1, 1, 1, 1, 1, 1, 1, 0, 0, 0]) t s k) (scratch (cdp Try.f160 [1, 1, 1, 1, 1, 1, 1, 0, 0, 0])) n (f160_l4_m a0 a1 a2 a3 a4 p580.1 v581 v586 a2 a1 v561 v562 a3 a2 v569 v570 a1 a3 v577 p578.1 v579 p580.1 p580.1 a2 v581 a2 p580.1 v582 j769_141 j769_142 j769_143 j769_144 j769_145 j769_146 v581 v586 (j769_20, j769_21, undefV)) p580.2 (kBlock 8 (kSeq Try.prog false C n 160 none (cdp Try.f160 [1, 1, 1, 1, 1, 1, 1, 1]) (kFun Try.prog Try.f160)))) fun k769 =>
 ((dOps (H := H) Try.prog).boolO v582).bind fun b583 => cond b583 (
 ((dOps (H := H) Try.prog).bop .sub 3 v581 a3).bind fun v584 =>
 k769 v584 p580.1 v581 a3 v584 p580.1 undefV undefV) (
 k769 a1 a2 undefV undefV undefV undefV a1 a2))) := by kernel_rfl
  rw [h1]
  simp only [f160_l0_e, f160_l2_e, f160_l4_e, f160_l0_k, f160_l2_k, f160_l4_k]
  show _ = f160 (dOps (H := H) Try.prog) C n a0 a1 a2 a3 a4 s
  kernel_rfl
/-! slices.rotateCmpFunc[tidepole/api.Label] -/
def f200_l0_m (i0 : Value) (i1 : Value) (i2 : Value) (i3 : Value) (i4 : Value) (i12 : Value) (i13 : Value) (i14 : Value) (i15 : Value) (i16 : Value) (i17 : Value) (x : Value × Value) : List Value := [i0, i1, i2, i3, i4, undefV, undefV, undefV, undefV, undefV, x.1, x.2, i12, i13, i14, i15, i16, i17, dc, dc, dc, dc, dc, dc, dc, dc, dc, dc, dc, dc, dc, dc, dc, dc, dc, dc, dc, dc, dc, dc, dc, dc, dc, dc, dc, dc, dc, dc, dc, dc, undefV, undefV, undefV, undefV, undefV, undefV, undefV, undefV]
noncomputable def f200_l0 (O : Ops H) (C : OracleJ H) (n : Nat) (i0 : Value) (i2 : Value) (i4 : Value) (nx : (Value × Value) → St H → Option (List (Value × St H))) (kx : Nat → (Value × Value) → St H → Option (List (Value × St H))) (kr : (Value × Value) → St H → Option (List (Value × St H))) (x : Value × Value) (s : St H) : Option (List (Value × St H)) :=
 (O.bop .neq 3 x.1 x.2).bind fun v3 =>
 (O.boolO v3).bind fun b4 => cond b4 (
 (O.bop .gtr 3 x.1 x.2).bind fun v5 =>
 jn (fun (j997_10 : Value) (j997_11 : Value) (js997 : St H) =>
 nx (j997_10, j997_11) js997) fun k997 =>
 (O.boolO v5).bind fun b6 => cond b6 (
 (O.bop .sub 3 i2 x.1).bind fun v7 =>
 (C (.fn 212) [i0, v7, i2, x.2, i4] s).bind fun L8 => manyK L8 fun v9 s10 =>
 (O.bop .sub 3 x.1 x.2).bind fun v11 =>
 k997 v11 x.2 s10) (
 (O.bop .sub 3 i2 x.1).bind fun v12 =>
 (O.bop .add 3 i2 x.2).bind fun v13 =>
 (O.bop .sub 3 v13 x.1).bind fun v14 =>
 (C (.fn 212) [i0, v12, v14, x.1, i4] s).bind fun L15 => manyK L15 fun v16 s17 =>
 (O.bop .sub 3 x.2 x.1).bind fun v18 =>
 k997 x.1 v18 s17)) (
 kx 0 (x.1, x.2) s)
theorem f200_l0_b (C : OracleJ H) (n : Nat) (i0 : Value) (i1 : Value) (i2 : Value) (i3 : Value) (i4 : Value) (i12 : Value) (i13 : Value) (i14 : Value) (i15 : Value) (i16 : Value) (i17 : Value) (x : Value × Value) (s : St H) (nx : List Value → St H → Option (List (Value × St H))) (K : Ex → List Value → St H → Option (List (Value × St H))) :
 exec Try.prog false C n 200 none (cdp Try.f200 [1, 1, 0, 0, 0]) (f200_l0_m i0 i1 i2 i3 i4 i12 i13 i14 i15 i16 i17 x) s (kIter (scratch (cdp Try.f200 [1, 1, 0, 0, 0])) nx K) = f200_l0 (dOps (H := H) Try.prog) C n i0 i2 i4 (fun x s => nx (f200_l0_m i0 i1 i2 i3 i4 i12 i13 i14 i15 i16 i17 x) s) (fun i x s => K (.exit i) (f200_l0_m i0 i1 i2 i3 i4 i12 i13 i14 i15 i16 i17 x) s) (fun x s => K .ret (f200_l0_m i0 i1 i2 i3 i4 i12 i13 i14 i15 i16 i17 x) s) x s := by kernel_rfl
theorem f200_l0_e (C : OracleJ H) (n : Nat) (i0 : Value) (i1 : Value) (i2 : Value) (i3 : Value) (i4 : Value) (i12 : Value) (i13 : Value) (i14 : Value) (i15 : Value) (i16 : Value) (i17 : Value) (m : Nat) (x : Value × Value) (s : St H) (K : Ex → List Value → St H → Option (List (Value × St H))) :
 iter (fun t s k => exec Try.prog false C n 200 none (cdp Try.f200 [1, 1, 0, 0, 0]) t s k) (scratch (cdp Try.f200 [1, 1, 0, 0, 0])) m (f200_l0_m i0 i1 i2 i3 i4 i12 i13 i14 i15 i16 i17 x) s K = iterS (f200_l0 (dOps (H := H) Try.prog) C n i0 i2 i4) (fun i x s => K (.exit i) (f200_l0_m i0 i1 i2 i3 i4 i12 i13 i14 i15 i16 i17 x) s) (fun x s => K .ret (f200_l0_m i0 i1 i2 i3 i4 i12 i13 i14 i15 i16 i17 x) s) m x s :=
   iter_eq (f200_l0_m i0 i1 i2 i3 i4 i12 i13 i14 i15 i16 i17) (f200_l0 (dOps (H := H) Try.prog) C n i0 i2 i4) (fun x s nx K => f200_l0_b C n i0 i1 i2 i3 i4 i12 i13 i14 i15 i16 i17 x s nx K) K m x s
noncomputable def f200 (O : Ops H) (C : OracleJ H) (n : Nat) (a0 : Value) (a1 : Value) (a2 : Value) (a3 : Value) (a4 : Value) (s : St H) : Option (List (Value × St H)) :=
 (O.bop .sub 3 a2 a1).bind fun v1 =>
 (O.bop .sub 3 a3 a2).bind fun v2 =>
 iterS (f200_l0 O C n a0 a2 a4 )
 (fun i19 x20 s21 => (bif Nat.beq i19 0 then
 (O.bop .sub 3 a2 x20.1).bind fun v24 =>
 (C (.fn 212) [a0, v24, a2, x20.1, a4] s21).bind fun L25 => manyK L25 fun v26 s27 =>
 some [(.tuple #[], s27)] else none))
 (fun x22 s23 => some [(.tuple #[], s23)]) n (v1, v2) s
theorem f200_l0_k (C : OracleJ H) (n : Nat) (i0 : Value) (i1 : Value) (i2 : Value) (i3 : Value) (i4 : Value) (i12 : Value) (i13 : Value) (i14 : Value) (i15 : Value) (i16 : Value) (i17 : Value) (i : Nat) (x : Value × Value) (s : St H) : (kBlock 0 (kSeq Try.prog false C n 200 none (cdp Try.f200 [1, 1, 1]) (kFun Try.prog Try.f200))) (.exit i) (f200_l0_m i0 i1 i2 i3 i4 i12 i13 i14 i15 i16 i17 x) s =
 (bif Nat.beq i 0 then
 ((dOps (H := H) Try.prog).bop .sub 3 i2 x.1).bind fun v34 =>
 (C (.fn 212) [i0, v34, i2, x.1, i4] s).bind fun L35 => manyK L35 fun v36 s37 =>
 some [(.tuple #[], s37)] else none) := by kernel_rfl
theorem f200_r (C : OracleJ H) (n : Nat) (a0 : Value) (a1 : Value) (a2 : Value) (a3 : Value) (a4 : Value) (s : St H) : bodyD Try.prog false C n 200 Try.f200 [a0, a1, a2, a3, a4] s = f200 (dOps (H := H) Try.prog) C n a0 a1 a2 a3 a4 s := by
  have h1 : bodyD Try.prog false C n 200 Try.f200 [a0, a1, a2, a3, a4] s =
 ((dOps (H := H) Try.prog).bop .sub 3 a2 a1).bind fun v28 =>
 ((dOps (H := H) Try.prog).bop .sub 3 a3 a2).bind fun v29 =>
 iter (fun t s k => exec Try.prog false C n 200 none (cdp Try.f200 [1, 1, 0, 0, 0]) t s k) (scratch (cdp Try.f200 [1, 1, 0, 0, 0])) n (f200_l0_m a0 a1 a2 a3 a4 a2 a1 v28 a3 a2 v29 (v28, v29)) s (kBlock 0 (kSeq Try.prog false C n 200 none (cdp Try.f200 [1, 1, 1]) (kFun Try.prog Try.f200))) := by kernel_rfl
  rw [h1]
  simp only [f200_l0_e, f200_l0_k]
  show _ = f200 (dOps (H := H) Try.prog) C n a0 a1 a2 a3 a4 s
  kernel_rfl
/-! slices.swapRangeCmpFunc[tidepole/api.Label] -/
def f212_l0_m (i0 : Value) (i1 : Value) (i2 : Value) (i3 : Value) (i4 : Value) (x : Value) : List Value := [i0, i1, i2, i3, i4, undefV, undefV, undefV, undefV, undefV, x, dc, dc, dc, dc, dc, dc, dc, dc, dc, dc, dc, dc, dc, dc, dc, dc, dc, dc, dc, dc, dc, dc, dc, dc, dc, dc, dc]
noncomputable def f212_l0 (O : Ops H) (C : OracleJ H) (n : Nat) (i0 : Value) (i1 : Value) (i2 : Value) (i3 : Value) (nx : Value → St H → Option (List (Value × St H))) (kx : Nat → Value → St H → Option (List (Value × St H))) (kr : Value → St H → Option (List (Value × St H))) (x : Value) (s : St H) : Option (List (Value × St H)) :=
 (O.bop .lss 3 x i3).bind fun v1 =>
 (O.boolO v1).bind fun b2 => cond b2 (
 (O.bop .add 3 i1 x).bind fun v3 =>
 (O.bop .add 3 i2 x).bind fun v4 =>
 (O.bop .add 3 i2 x).bind fun v5 =>
 (O.indexAddr 22 i0 v5).bind fun v6 =>
 (O.load s 106 v6).bind fun v7 =>
 (O.bop .add 3 i1 x).bind fun v8 =>
 (O.indexAddr 22 i0 v8).bind fun v9 =>
 (O.load s 106 v9).bind fun v10 =>
 (O.indexAddr 22 i0 v3).bind fun v11 =>
 (O.store s 106 v11 v7).bind fun s12 =>
 (O.indexAddr 22 i0 v4).bind fun v13 =>
 (O.store s12 106 v13 v10).bind fun s14 =>
 (O.bop .add 3 x (Go.Value.int Go.IntKind.i64 1)).bind fun v15 =>
 nx v15 s14) (
 kx 0 x s)
theorem f212_l0_b (C : OracleJ H) (n : Nat) (i0 : Value) (i1 : Value) (i2 : Value) (i3 : Value) (i4 : Value) (x : Value) (s : St H) (nx : List Value → St H → Option (List (Value × St H))) (K : Ex → List Value → St H → Option (List (Value × St H))) :
 exec Try.prog false C n 212 none (cdp Try.f212 [1, 0, 0]) (f212_l0_m i0 i1 i2 i3 i4 x) s (kIter (scratch (cdp Try.f212 [1, 0, 0])) nx K) = f212_l0 (dOps (H := H) Try.prog) C n i0 i1 i2 i3 (fun x s => nx (f212_l0_m i0 i1 i2 i3 i4 x) s) (fun i x s => K (.exit i) (f212_l0_m i0 i1 i2 i3 i4 x) s) (fun x s => K .ret (f212_l0_m i0 i1 i2 i3 i4 x) s) x s := by kernel_rfl
theorem f212_l0_e (C : OracleJ H) (n : Nat) (i0 : Value) (i1 : Value) (i2 : Value) (i3 : Value) (i4 : Value) (m : Nat) (x : Value) (s : St H) (K : Ex → List Value → St H → Option (List (Value × St H))) :
 iter (fun t s k => exec Try.prog false C n 212 none (cdp Try.f212 [1, 0, 0]) t s k) (scratch (cdp Try.f212 [1, 0, 0])) m (f212_l0_m i0 i1 i2 i3 i4 x) s K = iterS (f212_l0 (dOps (H := H) Try.prog) C n i0 i1 i2 i3) (fun i x s => K (.exit i) (f212_l0_m i0 i1 i2 i3 i4 x) s) (fun x s => K .ret (f212_l0_m i0 i1 i2 i3 i4 x) s) m x s :=
   iter_eq (f212_l0_m i0 i1 i2 i3 i4) (f212_l0 (dOps (H := H) Try.prog) C n i0 i1 i2 i3) (fun x s nx K => f212_l0_b C n i0 i1 i2 i3 i4 x s nx K) K m x s
noncomputable def f212 (O : Ops H) (C : OracleJ H) (n : Nat) (a0 : Value) (a1 : Value) (a2 : Value) (a3 : Value) (a4 : Value) (s : St H) : Option (List (Value × St H)) :=
 iterS (f212_l0 O C n a0 a1 a2 a3 )
 (fun i16 x17 s18 => (bif Nat.beq i16 0 then
 some [(.tuple #[], s18)] else none))
 (fun x19 s20 => some [(.tuple #[], s20)]) n (Go.Value.int Go.IntKind.i64 0) s
theorem f212_l0_k (C : OracleJ H) (n : Nat) (i0 : Value) (i1 : Value) (i2 : Value) (i3 : Value) (i4 : Value) (i : Nat) (x : Value) (s : St H) : (kBlock 0 (kFun Try.prog Try.f212)) (.exit i) (f212_l0_m i0 i1 i2 i3 i4 x) s =
 (bif Nat.beq i 0 then
 some [(.tuple #[], s)] else none) := by kernel_rfl
theorem f212_r (C : OracleJ H) (n : Nat) (a0 : Value) (a1 : Value) (a2 : Value) (a3 : Value) (a4 : Value) (s : St H) : bodyD Try.prog false C n 212 Try.f212 [a0, a1, a2, a3, a4] s = f212 (dOps (H := H) Try.prog) C n a0 a1 a2 a3 a4 s := by
  have h1 : bodyD Try.prog false C n 212 Try.f212 [a0, a1, a2, a3, a4] s =
 iter (fun t s k => exec Try.prog false C n 212 none (cdp Try.f212 [1, 0, 0]) t s k) (scratch (cdp Try.f212 [1, 0, 0])) n (f212_l0_m a0 a1 a2 a3 a4 (Go.Value.int Go.IntKind.i64 0)) s (kBlock 0 (kFun Try.prog Try.f212)) := by kernel_rfl
  rw [h1]
  simp only [f212_l0_e, f212_l0_k]
  show _ = f212 (dOps (H := H) Try.prog) C n a0 a1 a2 a3 a4 s
  kernel_rfl
end Go.Proofs.Ytmhmbmogodofeaa.S
