/- The plain runs of functions (printed by shal.py). -/
import Derived.Test.YtmhmbmogodofeaaFw
import Derived.ProofKit
import Derived.Test.YtmhmbmogodofeaaRows
set_option autoImplicit false
set_option linter.unusedVariables false
set_option maxRecDepth 100000
namespace Go.Proofs.Ytmhmbmogodofeaa.S
open Go.FS Go.RowKit
variable {H : HeapI}
/-! tidepole/tidepolelaw21.TombSets -/
def f14_l0_m (i0 : Value) (i1 : Value) (i5 : Value) (i6 : Value) (i7 : Value) (i11 : Value) (i12 : Value) (i13 : Value) (i14 : Value) (i15 : Value) (i16 : Value) (i17 : Value) (i18 : Value) (i19 : Value) (x : Value × Value) : List Value := [i0, i1, undefV, undefV, (.bool false), i5, i6, i7, x.1, x.2, undefV, i11, i12, i13, i14, i15, i16, i17, i18, i19, dc, dc, dc, dc, dc, dc, dc, dc, dc, dc, dc, dc, dc, dc, dc, dc, dc, dc, dc, dc, dc, dc, dc, dc, dc, dc, dc, dc, dc, dc, dc, undefV, undefV, undefV, undefV, undefV, undefV, undefV, undefV, undefV, undefV, undefV, undefV, undefV, undefV, undefV, undefV, undefV, undefV, undefV, undefV, undefV, undefV, undefV, undefV, undefV, undefV, undefV, undefV, undefV, undefV, undefV, undefV, undefV, undefV, undefV, undefV, undefV, undefV]
noncomputable def f14_l0 (O : Ops H) (C : OracleJ H) (n : Nat) (i0 : Value) (i1 : Value) (i5 : Value) (i7 : Value) (nx : (Value × Value) → St H → Option (List (Value × St H))) (kx : Nat → (Value × Value) → St H → Option (List (Value × St H))) (kr : (Value × Value) → St H → Option (List (Value × St H))) (x : Value × Value) (s : St H) : Option (List (Value × St H)) :=
 (O.bop .lss 3 x.2 i7).bind fun v17 =>
 (O.boolO v17).bind fun b18 => cond b18 (
 jn (fun (j14_50 : Value) (js14 : St H) =>
 jn (fun (j17_8 : Value) =>
 (O.bop .add 3 x.2 (Go.Value.int Go.IntKind.i64 1)).bind fun v36 =>
 nx (j17_8, v36) js14) fun k17 =>
 (O.boolO j14_50).bind fun b35 => cond b35 (
 k17 (.bool true)) (
 k17 x.1)) fun k14 =>
 (O.indexAddr 80 i0 x.2).bind fun v19 =>
 (O.load s 69 v19).bind fun v20 =>
 (O.buildSlice false s 67 1 [(0, (Go.Value.int Go.IntKind.u64 5))]).bind fun p21 =>
 (C (.fn 47) [i5, v20, p21.1] p21.2).bind fun L22 => manyK L22 fun v23 s24 =>
 (O.bop .eql 26 v23 (Go.Value.int Go.IntKind.i64 0)).bind fun v25 =>
 gd v25 (
 (O.indexAddr 80 i0 x.2).bind fun v26 =>
 (O.fieldAddr 69 v26 0).bind fun v27 =>
 (O.load s24 3 v27).bind fun v28 =>
 (O.bop .geq 3 i1 v28).bind fun v29 =>
 gd v29 (
 (O.indexAddr 80 i0 x.2).bind fun v30 =>
 (O.fieldAddr 69 v30 1).bind fun v31 =>
 (O.load s24 3 v31).bind fun v32 =>
 (O.bop .leq 3 i1 v32).bind fun v33 =>
 k14 v33 s24) (
 k14 (.bool false) s24) (
 none)) (
 k14 (.bool false) s24) (
 none)) (
 kx 0 (x.1, x.2) s)
theorem f14_l0_b (C : OracleJ H) (n : Nat) (i0 : Value) (i1 : Value) (i5 : Value) (i6 : Value) (i7 : Value) (i11 : Value) (i12 : Value) (i13 : Value) (i14 : Value) (i15 : Value) (i16 : Value) (i17 : Value) (i18 : Value) (i19 : Value) (x : Value × Value) (s : St H) (nx : List Value → St H → Option (List (Value × St H))) (K : Ex → List Value → St H → Option (List (Value × St H))) :
 exec Try.prog false C n 14 none (cdp Try.f14 [1, 1, 1, 1, 1, 1, 0, 1, 0, 0]) (f14_l0_m i0 i1 i5 i6 i7 i11 i12 i13 i14 i15 i16 i17 i18 i19 x) s (kIter (scratch (cdp Try.f14 [1, 1, 1, 1, 1, 1, 0, 1, 0, 0])) nx K) = f14_l0 (dOps (H := H) Try.prog) C n i0 i1 i5 i7 (fun x s => nx (f14_l0_m i0 i1 i5 i6 i7 i11 i12 i13 i14 i15 i16 i17 i18 i19 x) s) (fun i x s => K (.exit i) (f14_l0_m i0 i1 i5 i6 i7 i11 i12 i13 i14 i15 i16 i17 i18 i19 x) s) (fun x s => K .ret (f14_l0_m i0 i1 i5 i6 i7 i11 i12 i13 i14 i15 i16 i17 i18 i19 x) s) x s := by kernel_rfl
theorem f14_l0_e (C : OracleJ H) (n : Nat) (i0 : Value) (i1 : Value) (i5 : Value) (i6 : Value) (i7 : Value) (i11 : Value) (i12 : Value) (i13 : Value) (i14 : Value) (i15 : Value) (i16 : Value) (i17 : Value) (i18 : Value) (i19 : Value) (m : Nat) (x : Value × Value) (s : St H) (K : Ex → List Value → St H → Option (List (Value × St H))) :
 iter (fun t s k => exec Try.prog false C n 14 none (cdp Try.f14 [1, 1, 1, 1, 1, 1, 0, 1, 0, 0]) t s k) (scratch (cdp Try.f14 [1, 1, 1, 1, 1, 1, 0, 1, 0, 0])) m (f14_l0_m i0 i1 i5 i6 i7 i11 i12 i13 i14 i15 i16 i17 i18 i19 x) s K = iterS (f14_l0 (dOps (H := H) Try.prog) C n i0 i1 i5 i7) (fun i x s => K (.exit i) (f14_l0_m i0 i1 i5 i6 i7 i11 i12 i13 i14 i15 i16 i17 i18 i19 x) s) (fun x s => K .ret (f14_l0_m i0 i1 i5 i6 i7 i11 i12 i13 i14 i15 i16 i17 i18 i19 x) s) m x s :=
   iter_eq (f14_l0_m i0 i1 i5 i6 i7 i11 i12 i13 i14 i15 i16 i17 i18 i19) (f14_l0 (dOps (H := H) Try.prog) C n i0 i1 i5 i7) (fun x s nx K => f14_l0_b C n i0 i1 i5 i6 i7 i11 i12 i13 i14 i15 i16 i17 i18 i19 x s nx K) K m x s
def f14_l1_m (i0 : Value) (i1 : Value) (i5 : Value) (i6 : Value) (i7 : Value) (i8 : Value) (i9 : Value) (i11 : Value) (i12 : Value) (i13 : Value) (i14 : Value) (i15 : Value) (i16 : Value) (i17 : Value) (i18 : Value) (i19 : Value) (i51 : Value) (i52 : Value) (x : Value) : List Value := [i0, i1, undefV, undefV, (.bool false), i5, i6, i7, i8, i9, x, i11, i12, i13, i14, i15, i16, i17, i18, i19, dc, dc, dc, dc, dc, dc, dc, dc, dc, dc, dc, dc, dc, dc, dc, dc, dc, dc, dc, dc, dc, dc, dc, dc, dc, dc, dc, dc, dc, dc, dc, i51, i52, dc, dc, dc, dc, dc, dc, dc, dc, dc, dc, dc, dc, dc, dc, dc, dc, dc, dc, undefV, undefV, undefV, undefV, undefV, undefV, undefV, undefV, undefV, undefV, undefV, undefV, undefV, undefV, undefV, undefV, undefV, undefV]
noncomputable def f14_l1 (O : Ops H) (C : OracleJ H) (n : Nat) (i0 : Value) (i6 : Value) (nx : Value → St H → Option (List (Value × St H))) (kx : Nat → Value → St H → Option (List (Value × St H))) (kr : Value → St H → Option (List (Value × St H))) (x : Value) (s : St H) : Option (List (Value × St H)) :=
 (O.bop .geq 3 x (Go.Value.int Go.IntKind.i64 0)).bind fun v43 =>
 (O.boolO v43).bind fun b44 => cond b44 (
 (O.indexAddr 80 i0 x).bind fun v45 =>
 (O.load s 69 v45).bind fun v46 =>
 (O.buildSlice false s 67 1 [(0, (Go.Value.int Go.IntKind.u64 5))]).bind fun p47 =>
 (C (.fn 47) [i6, v46, p47.1] p47.2).bind fun L48 => manyK L48 fun v49 s50 =>
 (O.indexAddr 80 i0 x).bind fun v51 =>
 (O.load s50 69 v51).bind fun v52 =>
 (O.buildSlice false s50 67 1 [(0, (Go.Value.int Go.IntKind.u64 5))]).bind fun p53 =>
 (C (.fn 47) [i6, v52, p53.1] p53.2).bind fun L54 => manyK L54 fun v55 s56 =>
 (O.bop .sub 3 x (Go.Value.int Go.IntKind.i64 1)).bind fun v57 =>
 nx v57 s56) (
 kx 2 x s)
theorem f14_l1_b (C : OracleJ H) (n : Nat) (i0 : Value) (i1 : Value) (i5 : Value) (i6 : Value) (i7 : Value) (i8 : Value) (i9 : Value) (i11 : Value) (i12 : Value) (i13 : Value) (i14 : Value) (i15 : Value) (i16 : Value) (i17 : Value) (i18 : Value) (i19 : Value) (i51 : Value) (i52 : Value) (x : Value) (s : St H) (nx : List Value → St H → Option (List (Value × St H))) (K : Ex → List Value → St H → Option (List (Value × St H))) :
 exec Try.prog false C n 14 none (cdp Try.f14 [1, 1, 1, 1, 1, 1, 1, 0, 1, 0, 0]) (f14_l1_m i0 i1 i5 i6 i7 i8 i9 i11 i12 i13 i14 i15 i16 i17 i18 i19 i51 i52 x) s (kIter (scratch (cdp Try.f14 [1, 1, 1, 1, 1, 1, 1, 0, 1, 0, 0])) nx K) = f14_l1 (dOps (H := H) Try.prog) C n i0 i6 (fun x s => nx (f14_l1_m i0 i1 i5 i6 i7 i8 i9 i11 i12 i13 i14 i15 i16 i17 i18 i19 i51 i52 x) s) (fun i x s => K (.exit i) (f14_l1_m i0 i1 i5 i6 i7 i8 i9 i11 i12 i13 i14 i15 i16 i17 i18 i19 i51 i52 x) s) (fun x s => K .ret (f14_l1_m i0 i1 i5 i6 i7 i8 i9 i11 i12 i13 i14 i15 i16 i17 i18 i19 i51 i52 x) s) x s := by kernel_rfl
theorem f14_l1_e (C : OracleJ H) (n : Nat) (i0 : Value) (i1 : Value) (i5 : Value) (i6 : Value) (i7 : Value) (i8 : Value) (i9 : Value) (i11 : Value) (i12 : Value) (i13 : Value) (i14 : Value) (i15 : Value) (i16 : Value) (i17 : Value) (i18 : Value) (i19 : Value) (i51 : Value) (i52 : Value) (m : Nat) (x : Value) (s : St H) (K : Ex → List Value → St H → Option (List (Value × St H))) :
 iter (fun t s k => exec Try.prog false C n 14 none (cdp Try.f14 [1, 1, 1, 1, 1, 1, 1, 0, 1, 0, 0]) t s k) (scratch (cdp Try.f14 [1, 1, 1, 1, 1, 1, 1, 0, 1, 0, 0])) m (f14_l1_m i0 i1 i5 i6 i7 i8 i9 i11 i12 i13 i14 i15 i16 i17 i18 i19 i51 i52 x) s K = iterS (f14_l1 (dOps (H := H) Try.prog) C n i0 i6) (fun i x s => K (.exit i) (f14_l1_m i0 i1 i5 i6 i7 i8 i9 i11 i12 i13 i14 i15 i16 i17 i18 i19 i51 i52 x) s) (fun x s => K .ret (f14_l1_m i0 i1 i5 i6 i7 i8 i9 i11 i12 i13 i14 i15 i16 i17 i18 i19 i51 i52 x) s) m x s :=
   iter_eq (f14_l1_m i0 i1 i5 i6 i7 i8 i9 i11 i12 i13 i14 i15 i16 i17 i18 i19 i51 i52) (f14_l1 (dOps (H := H) Try.prog) C n i0 i6) (fun x s nx K => f14_l1_b C n i0 i1 i5 i6 i7 i8 i9 i11 i12 i13 i14 i15 i16 i17 i18 i19 i51 i52 x s nx K) K m x s
noncomputable def f14 (O : Ops H) (C : OracleJ H) (n : Nat) (a0 : Value) (a1 : Value) (s : St H) : Option (List (Value × St H)) :=
 (C (.fn 45) [] s).bind fun L1 => manyK L1 fun v2 s3 =>
 (O.uop .not v2).bind fun v4 =>
 (O.boolO v4).bind fun b5 => cond b5 (
 some [((.bool false), s3)]) (
 (C (.fn 46) [] s3).bind fun L6 => manyK L6 fun v7 s8 =>
 (C (.fn 46) [] s8).bind fun L9 => manyK L9 fun v10 s11 =>
 (O.len s11 80 a0).bind fun v12 =>
 (O.minO v12 [(Go.Value.int Go.IntKind.i64 20)]).bind fun v13 =>
 (C (.fn 20) [a1, (Go.Value.int Go.IntKind.i64 35184372088833)] s11).bind fun L14 => manyK L14 fun v15 s16 =>
 iterS (f14_l0 O C n a0 v15 v7 v13 )
 (fun i37 x38 s39 => (bif Nat.beq i37 0 then
 (O.bop .sub 3 v13 (Go.Value.int Go.IntKind.i64 1)).bind fun v42 =>
 iterS (f14_l1 O C n a0 v10 )
 (fun i58 x59 s60 => (bif Nat.beq i58 2 then
 (C (.fn 48) [v7, (Go.Value.int Go.IntKind.u64 5), v15] s60).bind fun L63 => manyK L63 fun v64 s65 =>
 (O.bop .eql 4 v64 x38.1).bind fun v66 =>
 gd v66 (
 (C (.fn 50) [v7, (Go.Value.int Go.IntKind.u64 5)] s65).bind fun L67 => manyK L67 fun v68 s69 =>
 (C (.fn 50) [v10, (Go.Value.int Go.IntKind.u64 5)] s69).bind fun L70 => manyK L70 fun v71 s72 =>
 (C (.fn 49) [v68, v71] s72).bind fun L73 => manyK L73 fun v74 s75 =>
 gd v74 (
 (C (.fn 48) [v7, (Go.Value.int Go.IntKind.u64 6), v15] s75).bind fun L76 => manyK L76 fun v77 s78 =>
 (O.uop .not v77).bind fun v79 =>
 some [(v79, s78)]) (
 some [((.bool false), s75)]) (
 none)) (
 some [((.bool false), s65)]) (
 none) else none))
 (fun x61 s62 => some [((.bool false), s62)]) n v42 s39 else none))
 (fun x40 s41 => some [((.bool false), s41)]) n ((.bool false), (Go.Value.int Go.IntKind.i64 0)) s16)
theorem f14_l1_k (C : OracleJ H) (n : Nat) (i0 : Value) (i1 : Value) (i5 : Value) (i6 : Value) (i7 : Value) (i8 : Value) (i9 : Value) (i11 : Value) (i12 : Value) (i13 : Value) (i14 : Value) (i15 : Value) (i16 : Value) (i17 : Value) (i18 : Value) (i19 : Value) (i51 : Value) (i52 : Value) (i : Nat) (x : Value) (s : St H) : (kBlock 2 (kSeq Try.prog false C n 14 none (cdp Try.f14 [1, 1, 1, 1, 1, 1, 1, 1]) (kFun Try.prog Try.f14))) (.exit i) (f14_l1_m i0 i1 i5 i6 i7 i8 i9 i11 i12 i13 i14 i15 i16 i17 i18 i19 i51 i52 x) s =
 (bif Nat.beq i 2 then
 (C (.fn 48) [i5, (Go.Value.int Go.IntKind.u64 5), i1] s).bind fun L114 => manyK L114 fun v115 s116 =>
 ((dOps (H := H) Try.prog).bop .eql 4 v115 i8).bind fun v117 =>
 gd v117 (
 (C (.fn 50) [i5, (Go.Value.int Go.IntKind.u64 5)] s116).bind fun L118 => manyK L118 fun v119 s120 =>
 (C (.fn 50) [i6, (Go.Value.int Go.IntKind.u64 5)] s120).bind fun L121 => manyK L121 fun v122 s123 =>
 (C (.fn 49) [v119, v122] s123).bind fun L124 => manyK L124 fun v125 s126 =>
 gd v125 (
 (C (.fn 48) [i5, (Go.Value.int Go.IntKind.u64 6), i1] s126).bind fun L127 => manyK L127 fun v128 s129 =>
 ((dOps (H := H) Try.prog).uop .not v128).bind fun v130 =>
 some [(v130, s129)]) (
 some [((.bool false), s126)]) (
 none)) (
 some [((.bool false), s116)]) (
 none) else none) := by kernel_rfl
theorem f14_l0_k (C : OracleJ H) (n : Nat) (i0 : Value) (i1 : Value) (i5 : Value) (i6 : Value) (i7 : Value) (i11 : Value) (i12 : Value) (i13 : Value) (i14 : Value) (i15 : Value) (i16 : Value) (i17 : Value) (i18 : Value) (i19 : Value) (i : Nat) (x : Value × Value) (s : St H) : (kBlock 0 (kSeq Try.prog false C n 14 none (cdp Try.f14 [1, 1, 1, 1, 1, 1, 1]) (kFun Try.prog Try.f14))) (.exit i) (f14_l0_m i0 i1 i5 i6 i7 i11 i12 i13 i14 i15 i16 i17 i18 i19 x) s =
 (bif Nat.beq i 0 then
 ((dOps (H := H) Try.prog).bop .sub 3 i7 (Go.Value.int Go.IntKind.i64 1)).bind fun v131 =>
 iterS (f14_l1 (dOps (H := H) Try.prog) C n i0 i6 )
 (fun i132 x133 s134 => (bif Nat.beq i132 2 then
 (C (.fn 48) [i5, (Go.Value.int Go.IntKind.u64 5), i1] s134).bind fun L137 => manyK L137 fun v138 s139 =>
 ((dOps (H := H) Try.prog).bop .eql 4 v138 x.1).bind fun v140 =>
 gd v140 (
 (C (.fn 50) [i5, (Go.Value.int Go.IntKind.u64 5)] s139).bind fun L141 => manyK L141 fun v142 s143 =>
 (C (.fn 50) [i6, (Go.Value.int Go.IntKind.u64 5)] s143).bind fun L144 => manyK L144 fun v145 s146 =>
 (C (.fn 49) [v142, v145] s146).bind fun L147 => manyK L147 fun v148 s149 =>
 gd v148 (
 (C (.fn 48) [i5, (Go.Value.int Go.IntKind.u64 6), i1] s149).bind fun L150 => manyK L150 fun v151 s152 =>
 ((dOps (H := H) Try.prog).uop .not v151).bind fun v153 =>
 some [(v153, s152)]) (
 some [((.bool false), s149)]) (
 none)) (
 some [((.bool false), s139)]) (
 none) else none))
 (fun x135 s136 => some [((.bool false), s136)]) n v131 s else none) := by
  have h1 : (kBlock 0 (kSeq Try.prog false C n 14 none (cdp Try.f14 [1, 1, 1, 1, 1, 1, 1]) (kFun Try.prog Try.f14))) (.exit i) (f14_l0_m i0 i1 i5 i6 i7 i11 i12 i13 i14 i15 i16 i17 i18 i19 x) s =
 (bif Nat.beq i 0 then
 ((dOps (H := H) Try.prog).bop .sub 3 i7 (Go.Value.int Go.IntKind.i64 1)).bind fun v96 =>
 iter (fun t s k => exec Try.prog false C n 14 none (cdp Try.f14 [1, 1, 1, 1, 1, 1, 1, 0, 1, 0, 0]) t s k) (scratch (cdp Try.f14 [1, 1, 1, 1, 1, 1, 1, 0, 1, 0, 0])) n (f14_l1_m i0 i1 i5 i6 i7 x.1 x.2 i11 i12 i13 i14 i15 i16 i17 i18 i19 i7 v96 v96) s (kBlock 2 (kSeq Try.prog false C n 14 none (cdp Try.f14 [1, 1, 1, 1, 1, 1, 1, 1]) (kFun Try.prog Try.f14))) else none) := by kernel_rfl
  rw [h1]
  simp only [f14_l1_e, f14_l1_k]
  show _ = (bif Nat.beq i 0 then
 ((dOps (H := H) Try.prog).bop .sub 3 i7 (Go.Value.int Go.IntKind.i64 1)).bind fun v131 =>
 iterS (f14_l1 (dOps (H := H) Try.prog) C n i0 i6 )
 (fun i132 x133 s134 => (bif Nat.beq i132 2 then
 (C (.fn 48) [i5, (Go.Value.int Go.IntKind.u64 5), i1] s134).bind fun L137 => manyK L137 fun v138 s139 =>
 ((dOps (H := H) Try.prog).bop .eql 4 v138 x.1).bind fun v140 =>
 gd v140 (
 (C (.fn 50) [i5, (Go.Value.int Go.IntKind.u64 5)] s139).bind fun L141 => manyK L141 fun v142 s143 =>
 (C (.fn 50) [i6, (Go.Value.int Go.IntKind.u64 5)] s143).bind fun L144 => manyK L144 fun v145 s146 =>
 (C (.fn 49) [v142, v145] s146).bind fun L147 => manyK L147 fun v148 s149 =>
 gd v148 (
 (C (.fn 48) [i5, (Go.Value.int Go.IntKind.u64 6), i1] s149).bind fun L150 => manyK L150 fun v151 s152 =>
 ((dOps (H := H) Try.prog).uop .not v151).bind fun v153 =>
 some [(v153, s152)]) (
 some [((.bool false), s149)]) (
 none)) (
 some [((.bool false), s139)]) (
 none) else none))
 (fun x135 s136 => some [((.bool false), s136)]) n v131 s else none)
  kernel_rfl
theorem f14_r (C : OracleJ H) (n : Nat) (a0 : Value) (a1 : Value) (s : St H) : bodyD Try.prog false C n 14 Try.f14 [a0, a1] s = f14 (dOps (H := H) Try.prog) C n a0 a1 s := by
  have h1 : bodyD Try.prog false C n 14 Try.f14 [a0, a1] s =
 (C (.fn 45) [] s).bind fun L80 => manyK L80 fun v81 s82 =>
 ((dOps (H := H) Try.prog).uop .not v81).bind fun v83 =>
 ((dOps (H := H) Try.prog).boolO v83).bind fun b84 => cond b84 (
 some [((.bool false), s82)]) (
 (C (.fn 46) [] s82).bind fun L85 => manyK L85 fun v86 s87 =>
 (C (.fn 46) [] s87).bind fun L88 => manyK L88 fun v89 s90 =>
 ((dOps (H := H) Try.prog).len s90 80 a0).bind fun v91 =>
 ((dOps (H := H) Try.prog).minO v91 [(Go.Value.int Go.IntKind.i64 20)]).bind fun v92 =>
 (C (.fn 20) [a1, (Go.Value.int Go.IntKind.i64 35184372088833)] s90).bind fun L93 => manyK L93 fun v94 s95 =>
 iter (fun t s k => exec Try.prog false C n 14 none (cdp Try.f14 [1, 1, 1, 1, 1, 1, 0, 1, 0, 0]) t s k) (scratch (cdp Try.f14 [1, 1, 1, 1, 1, 1, 0, 1, 0, 0])) n (f14_l0_m a0 v94 v86 v89 v92 v81 v83 v86 v89 a0 v91 v92 a1 v94 ((.bool false), (Go.Value.int Go.IntKind.i64 0))) s95 (kBlock 0 (kSeq Try.prog false C n 14 none (cdp Try.f14 [1, 1, 1, 1, 1, 1, 1]) (kFun Try.prog Try.f14)))) := by kernel_rfl
  rw [h1]
  simp only [f14_l0_e, f14_l0_k]
  show _ = f14 (dOps (H := H) Try.prog) C n a0 a1 s
  kernel_rfl
/-! tidepole/tidepolebase.Among -/
noncomputable def f20 (O : Ops H) (C : OracleJ H) (n : Nat) (a0 : Value) (a1 : Value) (s : St H) : Option (List (Value × St H)) :=
 (O.bop .lss 3 a1 (Go.Value.int Go.IntKind.i64 1)).bind fun v1 =>
 (O.boolO v1).bind fun b2 => cond b2 (
 some [((Go.Value.int Go.IntKind.i64 0), s)]) (
 (O.conv false s 3 70 a0).bind fun p3 =>
 (O.conv false p3.2 3 70 a1).bind fun p4 =>
 (O.bop .rem 70 p3.1 p4.1).bind fun v5 =>
 (O.conv false p4.2 70 3 v5).bind fun p6 =>
 some [(p6.1, p6.2)])
theorem f20_r (C : OracleJ H) (n : Nat) (a0 : Value) (a1 : Value) (s : St H) : bodyD Try.prog false C n 20 Try.f20 [a0, a1] s = f20 (dOps (H := H) Try.prog) C n a0 a1 s := by kernel_rfl
/-! tidepole/tidepolelaw21.works -/
noncomputable def f45 (O : Ops H) (C : OracleJ H) (n : Nat) (s : St H) : Option (List (Value × St H)) :=
 (C (.fn 46) [] s).bind fun L1 => manyK L1 fun v2 s3 =>
 (O.bop .eql 81 v2 (Go.Value.pointer none)).bind fun v4 =>
 (O.boolO v4).bind fun b5 => cond b5 (
 some [((.bool false), s3)]) (
 (O.build 69 [(0, (Go.Value.int Go.IntKind.i64 5)), (1, (Go.Value.int Go.IntKind.i64 9))]).bind fun v6 =>
 (O.buildSlice false s3 67 1 [(0, (Go.Value.int Go.IntKind.u64 3))]).bind fun p7 =>
 (C (.fn 47) [v2, v6, p7.1] p7.2).bind fun L8 => manyK L8 fun v9 s10 =>
 (O.build 69 [(0, (Go.Value.int Go.IntKind.i64 12)), (1, (Go.Value.int Go.IntKind.i64 20))]).bind fun v11 =>
 (O.buildSlice false s10 67 1 [(0, (Go.Value.int Go.IntKind.u64 3))]).bind fun p12 =>
 (C (.fn 47) [v2, v11, p12.1] p12.2).bind fun L13 => manyK L13 fun v14 s15 =>
 (O.build 69 [(0, (Go.Value.int Go.IntKind.i64 10)), (1, (Go.Value.int Go.IntKind.i64 11))]).bind fun v16 =>
 (O.buildSlice false s15 67 1 [(0, (Go.Value.int Go.IntKind.u64 3))]).bind fun p17 =>
 (C (.fn 47) [v2, v16, p17.1] p17.2).bind fun L18 => manyK L18 fun v19 s20 =>
 (O.bop .eql 26 v19 (Go.Value.int Go.IntKind.i64 0)).bind fun v21 =>
 gd v21 (
 (C (.fn 50) [v2, (Go.Value.int Go.IntKind.u64 3)] s20).bind fun L22 => manyK L22 fun v23 s24 =>
 (O.build 69 [(0, (Go.Value.int Go.IntKind.i64 5)), (1, (Go.Value.int Go.IntKind.i64 20))]).bind fun v25 =>
 (O.buildSlice false s24 80 1 [(0, v25)]).bind fun p26 =>
 (C (.fn 49) [v23, p26.1] p26.2).bind fun L27 => manyK L27 fun v28 s29 =>
 gd v28 (
 (C (.fn 48) [v2, (Go.Value.int Go.IntKind.u64 3), (Go.Value.int Go.IntKind.i64 11)] s29).bind fun L30 => manyK L30 fun v31 s32 =>
 gd v31 (
 (C (.fn 48) [v2, (Go.Value.int Go.IntKind.u64 3), (Go.Value.int Go.IntKind.i64 21)] s32).bind fun L33 => manyK L33 fun v34 s35 =>
 (O.uop .not v34).bind fun v36 =>
 gd v36 (
 (C (.fn 48) [v2, (Go.Value.int Go.IntKind.u64 4), (Go.Value.int Go.IntKind.i64 11)] s35).bind fun L37 => manyK L37 fun v38 s39 =>
 (O.uop .not v38).bind fun v40 =>
 some [(v40, s39)]) (
 some [((.bool false), s35)]) (
 none)) (
 some [((.bool false), s32)]) (
 none)) (
 some [((.bool false), s29)]) (
 none)) (
 some [((.bool false), s20)]) (
 none))
theorem f45_r (C : OracleJ H) (n : Nat) (s : St H) : bodyD Try.prog false C n 45 Try.f45 [] s = f45 (dOps (H := H) Try.prog) C n s := by kernel_rfl
/-! tidepole/tomb.New -/
noncomputable def f46 (O : Ops H) (C : OracleJ H) (n : Nat) (s : St H) : Option (List (Value × St H)) :=
 (O.makeMap s 156 none).bind fun p1 =>
 (O.build 158 [(0, p1.1)]).bind fun v2 =>
 (O.box p1.2 v2).bind fun p3 =>
 some [(p3.1, p3.2)]
theorem f46_r (C : OracleJ H) (n : Nat) (s : St H) : bodyD Try.prog false C n 46 Try.f46 [] s = f46 (dOps (H := H) Try.prog) C n s := by kernel_rfl
/-! (*tidepole/tomb.Tombs).Add -/
def f47_l0_m (i0 : Value) (i1 : Value) (i2 : Value) (i4 : Value) (i9 : Value) (i10 : Value) (i11 : Value) (i12 : Value) (i13 : Value) (i14 : Value) (i15 : Value) (i16 : Value) (i17 : Value) (i18 : Value) (i19 : Value) (x : Value × Value) : List Value := [i0, i1, i2, undefV, i4, undefV, (Go.Value.int Go.IntKind.i64 0), undefV, x.1, i9, i10, i11, i12, i13, i14, i15, i16, i17, i18, i19, x.2, dc, dc, dc, dc, dc, dc, dc, dc, dc, dc, dc, dc, dc, dc, dc, dc, dc, dc, dc, dc, dc]
noncomputable def f47_l0 (O : Ops H) (C : OracleJ H) (n : Nat) (i0 : Value) (i4 : Value) (i18 : Value) (i19 : Value) (nx : (Value × Value) → St H → Option (List (Value × St H))) (kx : Nat → (Value × Value) → St H → Option (List (Value × St H))) (kr : (Value × Value) → St H → Option (List (Value × St H))) (x : Value × Value) (s : St H) : Option (List (Value × St H)) :=
 (O.bop .lss 3 x.2 i19).bind fun v14 =>
 (O.boolO v14).bind fun b15 => cond b15 (
 (O.indexAddr 67 i18 x.2).bind fun v16 =>
 (O.load s 70 v16).bind fun v17 =>
 (O.nilCheck i0).bind fun v18 =>
 (O.fieldAddr 158 v18 0).bind fun v19 =>
 (O.load s 156 v19).bind fun v20 =>
 (O.nilCheck i0).bind fun v21 =>
 (O.fieldAddr 158 v21 0).bind fun v22 =>
 (O.load s 156 v22).bind fun v23 =>
 (O.lookup s 156 v23 v17 false).bind fun v24 =>
 (O.fieldAddr 69 i4 0).bind fun v25 =>
 (O.load s 3 v25).bind fun v26 =>
 (O.fieldAddr 69 i4 1).bind fun v27 =>
 (O.load s 3 v27).bind fun v28 =>
 (O.build 163 [(0, v26), (1, v28)]).bind fun v29 =>
 (oneO C (.fn 103) [v24, v29, (.func (.func 104) #[] #[])] s).bind fun p30 =>
 (O.mapUpdate p30.2 156 v20 v17 p30.1).bind fun s31 =>
 bif (eqO H (O.load s 156 v19) v20 && (eqO H (O.load p30.2 156 v19) v20 && (true))) && (true) then
 (O.bop .add 3 x.2 (Go.Value.int Go.IntKind.i64 1)).bind fun v32 =>
 nx (v17, v32) s31
 else none) (
 kx 1 (x.1, x.2) s)
theorem f47_l0_b (C : OracleJ H) (n : Nat) (i0 : Value) (i1 : Value) (i2 : Value) (i4 : Value) (i9 : Value) (i10 : Value) (i11 : Value) (i12 : Value) (i13 : Value) (i14 : Value) (i15 : Value) (i16 : Value) (i17 : Value) (i18 : Value) (i19 : Value) (x : Value × Value) (s : St H) (nx : List Value → St H → Option (List (Value × St H))) (K : Ex → List Value → St H → Option (List (Value × St H))) :
 exec Try.prog false C n 47 none (cdp Try.f47 [1, 1, 0, 1, 0, 0]) (f47_l0_m i0 i1 i2 i4 i9 i10 i11 i12 i13 i14 i15 i16 i17 i18 i19 x) s (kIter (scratch (cdp Try.f47 [1, 1, 0, 1, 0, 0])) nx K) = f47_l0 (dOps (H := H) Try.prog) C n i0 i4 i18 i19 (fun x s => nx (f47_l0_m i0 i1 i2 i4 i9 i10 i11 i12 i13 i14 i15 i16 i17 i18 i19 x) s) (fun i x s => K (.exit i) (f47_l0_m i0 i1 i2 i4 i9 i10 i11 i12 i13 i14 i15 i16 i17 i18 i19 x) s) (fun x s => K .ret (f47_l0_m i0 i1 i2 i4 i9 i10 i11 i12 i13 i14 i15 i16 i17 i18 i19 x) s) x s := by kernel_rfl
theorem f47_l0_e (C : OracleJ H) (n : Nat) (i0 : Value) (i1 : Value) (i2 : Value) (i4 : Value) (i9 : Value) (i10 : Value) (i11 : Value) (i12 : Value) (i13 : Value) (i14 : Value) (i15 : Value) (i16 : Value) (i17 : Value) (i18 : Value) (i19 : Value) (m : Nat) (x : Value × Value) (s : St H) (K : Ex → List Value → St H → Option (List (Value × St H))) :
 iter (fun t s k => exec Try.prog false C n 47 none (cdp Try.f47 [1, 1, 0, 1, 0, 0]) t s k) (scratch (cdp Try.f47 [1, 1, 0, 1, 0, 0])) m (f47_l0_m i0 i1 i2 i4 i9 i10 i11 i12 i13 i14 i15 i16 i17 i18 i19 x) s K = iterS (f47_l0 (dOps (H := H) Try.prog) C n i0 i4 i18 i19) (fun i x s => K (.exit i) (f47_l0_m i0 i1 i2 i4 i9 i10 i11 i12 i13 i14 i15 i16 i17 i18 i19 x) s) (fun x s => K .ret (f47_l0_m i0 i1 i2 i4 i9 i10 i11 i12 i13 i14 i15 i16 i17 i18 i19 x) s) m x s :=
   iter_eq (f47_l0_m i0 i1 i2 i4 i9 i10 i11 i12 i13 i14 i15 i16 i17 i18 i19) (f47_l0 (dOps (H := H) Try.prog) C n i0 i4 i18 i19) (fun x s nx K => f47_l0_b C n i0 i1 i2 i4 i9 i10 i11 i12 i13 i14 i15 i16 i17 i18 i19 x s nx K) K m x s
noncomputable def f47 (O : Ops H) (C : OracleJ H) (n : Nat) (a0 : Value) (a1 : Value) (a2 : Value) (s : St H) : Option (List (Value × St H)) :=
 (O.box s a1).bind fun p1 =>
 (C (.fn 101) [a0] p1.2).bind fun L2 => manyK L2 fun v3 s4 =>
 (O.uop .not v3).bind fun v5 =>
 (O.boolO v5).bind fun b6 => cond b6 (
 some [((Go.Value.int Go.IntKind.i64 1), s4)]) (
 (O.load s4 69 p1.1).bind fun v7 =>
 (C (.fn 102) [v7, a2] s4).bind fun L8 => manyK L8 fun v9 s10 =>
 (O.uop .not v9).bind fun v11 =>
 (O.boolO v11).bind fun b12 => cond b12 (
 some [((Go.Value.int Go.IntKind.i64 2), s10)]) (
 (O.len s10 67 a2).bind fun v13 =>
 iterS (f47_l0 O C n a0 p1.1 a2 v13 )
 (fun i33 x34 s35 => (bif Nat.beq i33 1 then
 some [((Go.Value.int Go.IntKind.i64 0), s35)] else none))
 (fun x36 s37 => some [((Go.Value.int Go.IntKind.i64 0), s37)]) n (undefV, (Go.Value.int Go.IntKind.i64 0)) s10))
theorem f47_l0_k (C : OracleJ H) (n : Nat) (i0 : Value) (i1 : Value) (i2 : Value) (i4 : Value) (i9 : Value) (i10 : Value) (i11 : Value) (i12 : Value) (i13 : Value) (i14 : Value) (i15 : Value) (i16 : Value) (i17 : Value) (i18 : Value) (i19 : Value) (i : Nat) (x : Value × Value) (s : St H) : (kBlock 1 (kSeq Try.prog false C n 47 none (cdp Try.f47 [1, 1, 1]) (kFun Try.prog Try.f47))) (.exit i) (f47_l0_m i0 i1 i2 i4 i9 i10 i11 i12 i13 i14 i15 i16 i17 i18 i19 x) s =
 (bif Nat.beq i 1 then
 some [((Go.Value.int Go.IntKind.i64 0), s)] else none) := by kernel_rfl
theorem f47_r (C : OracleJ H) (n : Nat) (a0 : Value) (a1 : Value) (a2 : Value) (s : St H) : bodyD Try.prog false C n 47 Try.f47 [a0, a1, a2] s = f47 (dOps (H := H) Try.prog) C n a0 a1 a2 s := by
  have h1 : bodyD Try.prog false C n 47 Try.f47 [a0, a1, a2] s =
 ((dOps (H := H) Try.prog).box s a1).bind fun p38 =>
 (C (.fn 101) [a0] p38.2).bind fun L39 => manyK L39 fun v40 s41 =>
 ((dOps (H := H) Try.prog).uop .not v40).bind fun v42 =>
 ((dOps (H := H) Try.prog).boolO v42).bind fun b43 => cond b43 (
 some [((Go.Value.int Go.IntKind.i64 1), s41)]) (
 ((dOps (H := H) Try.prog).load s41 69 p38.1).bind fun v44 =>
 (C (.fn 102) [v44, a2] s41).bind fun L45 => manyK L45 fun v46 s47 =>
 ((dOps (H := H) Try.prog).uop .not v46).bind fun v48 =>
 ((dOps (H := H) Try.prog).boolO v48).bind fun b49 => cond b49 (
 some [((Go.Value.int Go.IntKind.i64 2), s47)]) (
 ((dOps (H := H) Try.prog).len s47 67 a2).bind fun v50 =>
 iter (fun t s k => exec Try.prog false C n 47 none (cdp Try.f47 [1, 1, 0, 1, 0, 0]) t s k) (scratch (cdp Try.f47 [1, 1, 0, 1, 0, 0])) n (f47_l0_m a0 a1 a2 p38.1 v42 a0 v40 v42 v48 v44 a2 v46 v48 a2 v50 (undefV, (Go.Value.int Go.IntKind.i64 0))) s47 (kBlock 1 (kSeq Try.prog false C n 47 none (cdp Try.f47 [1, 1, 1]) (kFun Try.prog Try.f47))))) := by kernel_rfl
  rw [h1]
  simp only [f47_l0_e, f47_l0_k]
  show _ = f47 (dOps (H := H) Try.prog) C n a0 a1 a2 s
  kernel_rfl
/-! (*tidepole/tomb.Tombs).Covers -/
noncomputable def f48 (O : Ops H) (C : OracleJ H) (n : Nat) (a0 : Value) (a1 : Value) (a2 : Value) (s : St H) : Option (List (Value × St H)) :=
 (O.box s a2).bind fun p1 =>
 (O.alloc p1.2 4).bind fun p2 =>
 (C (.fn 105) [a0, a1] p2.2).bind fun L3 => manyK L3 fun v4 s5 =>
 rngO Try.prog O C 48 v4 [a0, a1, a2, undefV, undefV, p1.1, p2.1, undefV, a0, a1, v4, undefV, undefV, undefV, undefV, undefV, undefV, undefV, undefV, undefV, undefV, undefV] [11] (cdp Try.f48 [1, 0, 1, 0, 0]) (cdp Try.f48 [1, 0, 1, 0, 1]) s5
 (fun s6 => (O.store s6 4 p2.1 (.bool false)).bind fun s13 =>
 (O.load s13 4 p2.1).bind fun v14 => some [(v14, s13)])
 (fun s7 => (O.load s7 4 p2.1).bind fun v10 => some [(v10, s7)])
 (fun i9 s8 => (bif Nat.beq i9 0 then
 (O.store s8 4 p2.1 (.bool false)).bind fun s15 =>
 (O.load s15 4 p2.1).bind fun v16 => some [(v16, s15)] else none))
theorem f48_r (C : OracleJ H) (n : Nat) (a0 : Value) (a1 : Value) (a2 : Value) (s : St H) : bodyD Try.prog false C n 48 Try.f48 [a0, a1, a2] s = f48 (dOps (H := H) Try.prog) C n a0 a1 a2 s := by kernel_rfl
noncomputable def f48_r0 (O : Ops H) (C : OracleJ H) (n : Nat) (l : Nat) (i5 : Value) (i6 : Value) (x0 : Value) (s : St H) : Option (List (Value × St H)) :=
 (O.alloc s 69).bind fun p17 =>
 (O.store p17.2 69 p17.1 x0).bind fun s18 =>
 (beginD s18 l).bind fun s19 =>
 jn (fun (j99_21 : Value) =>
 (O.boolO j99_21).bind fun b30 => cond b30 (
 (O.store s19 4 i6 (.bool true)).bind fun s31 =>
 (setLoopD s31 l 2 (some .ret)).map fun s => [((.bool false), s)]) (
 (setLoopD s19 l 0 none).map fun s => [((.bool true), s)])) fun k99 =>
 (O.load s19 3 i5).bind fun v20 =>
 (O.fieldAddr 69 p17.1 0).bind fun v21 =>
 (O.load s19 3 v21).bind fun v22 =>
 (O.bop .geq 3 v20 v22).bind fun v23 =>
 gd v23 (
 (O.load s19 3 i5).bind fun v24 =>
 (O.fieldAddr 69 p17.1 1).bind fun v25 =>
 (O.load s19 3 v25).bind fun v26 =>
 (O.bop .leq 3 v24 v26).bind fun v27 =>
 k99 v27) (
 k99 (.bool false)) (
 none)
theorem f48_r0_x (C : OracleJ H) (n : Nat) (l : Nat) (i0 : Value) (i1 : Value) (i2 : Value) (i3 : Value) (i4 : Value) (i5 : Value) (i6 : Value) (i7 : Value) (i8 : Value) (i9 : Value) (i10 : Value) (i11 : Value) (i12 : Value) (i13 : Value) (i14 : Value) (i15 : Value) (i16 : Value) (i17 : Value) (i18 : Value) (i19 : Value) (i20 : Value) (i21 : Value) (x0 : Value) (s : St H) : exec Try.prog false C n 48 (some l) (cdp Try.f48 [1, 0, 1, 0, 0]) [i0, i1, i2, i3, i4, i5, i6, i7, i8, i9, i10, x0, i12, i13, i14, i15, i16, i17, i18, i19, i20, i21] s (kAsg Try.prog false C n 48 l (cdp Try.f48 [1, 0, 1, 0, 1])) = f48_r0 (dOps (H := H) Try.prog) C n l i5 i6 x0 s := by kernel_rfl
theorem f48_r0_e {C : OracleJ H} {rw : FuncId → Bool} {n l : Nat} {pe : Option Code} {i0 i1 i2 i3 i4 i5 i6 i7 i8 i9 i10 i11 i12 i13 i14 i15 i16 i17 i18 i19 i20 i21 : Value} {s : St H} (hrw : rw 48 = false) (h : loopD s l = some (0, pe, 48, [i0, i1, i2, i3, i4, i5, i6, i7, i8, i9, i10, i11, i12, i13, i14, i15, i16, i17, i18, i19, i20, i21], [11], cdp Try.f48 [1, 0, 1, 0, 0], cdp Try.f48 [1, 0, 1, 0, 1])) (x0 : Value) : roundD Try.prog rw C n l [x0] s = f48_r0 (dOps (H := H) Try.prog) C n l i5 i6 x0 s := by (unfold roundD; rw [h, bindS, hrw]; exact f48_r0_x C n l i0 i1 i2 i3 i4 i5 i6 i7 i8 i9 i10 i11 i12 i13 i14 i15 i16 i17 i18 i19 i20 i21 x0 s)
/-! tidepole/tidepolelaw21.same -/
def f49_l0_m (i0 : Value) (i1 : Value) (i6 : Value) (i7 : Value) (i8 : Value) (i9 : Value) (i10 : Value) (x : Value × Value) : List Value := [i0, i1, undefV, undefV, x.1, x.2, i6, i7, i8, i9, i10, dc, dc, dc, dc, dc, dc, dc, dc, dc, dc, dc, dc, dc, dc, dc]
noncomputable def f49_l0 (O : Ops H) (C : OracleJ H) (n : Nat) (i0 : Value) (i1 : Value) (nx : (Value × Value) → St H → Option (List (Value × St H))) (kx : Nat → (Value × Value) → St H → Option (List (Value × St H))) (kr : (Value × Value) → St H → Option (List (Value × St H))) (x : Value × Value) (s : St H) : Option (List (Value × St H)) :=
 (O.len s 80 i0).bind fun v5 =>
 (O.bop .lss 3 x.2 v5).bind fun v6 =>
 (O.boolO v6).bind fun b7 => cond b7 (
 (O.indexAddr 80 i0 x.2).bind fun v8 =>
 (O.load s 69 v8).bind fun v9 =>
 (O.indexAddr 80 i1 x.2).bind fun v10 =>
 (O.load s 69 v10).bind fun v11 =>
 (O.bop .neq 69 v9 v11).bind fun v12 =>
 (O.boolO v12).bind fun b13 => cond b13 (
 kr ((.bool false), x.2) s) (
 (O.bop .add 3 x.2 (Go.Value.int Go.IntKind.i64 1)).bind fun v14 =>
 nx (x.1, v14) s)) (
 kx 0 (x.1, x.2) s)
theorem f49_l0_b (C : OracleJ H) (n : Nat) (i0 : Value) (i1 : Value) (i6 : Value) (i7 : Value) (i8 : Value) (i9 : Value) (i10 : Value) (x : Value × Value) (s : St H) (nx : List Value → St H → Option (List (Value × St H))) (K : Ex → List Value → St H → Option (List (Value × St H))) :
 exec Try.prog false C n 49 none (cdp Try.f49 [1, 1, 0, 1, 0, 0]) (f49_l0_m i0 i1 i6 i7 i8 i9 i10 x) s (kIter (scratch (cdp Try.f49 [1, 1, 0, 1, 0, 0])) nx K) = f49_l0 (dOps (H := H) Try.prog) C n i0 i1 (fun x s => nx (f49_l0_m i0 i1 i6 i7 i8 i9 i10 x) s) (fun i x s => K (.exit i) (f49_l0_m i0 i1 i6 i7 i8 i9 i10 x) s) (fun x s => K .ret (f49_l0_m i0 i1 i6 i7 i8 i9 i10 x) s) x s := by kernel_rfl
theorem f49_l0_e (C : OracleJ H) (n : Nat) (i0 : Value) (i1 : Value) (i6 : Value) (i7 : Value) (i8 : Value) (i9 : Value) (i10 : Value) (m : Nat) (x : Value × Value) (s : St H) (K : Ex → List Value → St H → Option (List (Value × St H))) :
 iter (fun t s k => exec Try.prog false C n 49 none (cdp Try.f49 [1, 1, 0, 1, 0, 0]) t s k) (scratch (cdp Try.f49 [1, 1, 0, 1, 0, 0])) m (f49_l0_m i0 i1 i6 i7 i8 i9 i10 x) s K = iterS (f49_l0 (dOps (H := H) Try.prog) C n i0 i1) (fun i x s => K (.exit i) (f49_l0_m i0 i1 i6 i7 i8 i9 i10 x) s) (fun x s => K .ret (f49_l0_m i0 i1 i6 i7 i8 i9 i10 x) s) m x s :=
   iter_eq (f49_l0_m i0 i1 i6 i7 i8 i9 i10) (f49_l0 (dOps (H := H) Try.prog) C n i0 i1) (fun x s nx K => f49_l0_b C n i0 i1 i6 i7 i8 i9 i10 x s nx K) K m x s
noncomputable def f49 (O : Ops H) (C : OracleJ H) (n : Nat) (a0 : Value) (a1 : Value) (s : St H) : Option (List (Value × St H)) :=
 (O.len s 80 a0).bind fun v1 =>
 (O.len s 80 a1).bind fun v2 =>
 (O.bop .neq 3 v1 v2).bind fun v3 =>
 (O.boolO v3).bind fun b4 => cond b4 (
 some [((.bool false), s)]) (
 iterS (f49_l0 O C n a0 a1 )
 (fun i15 x16 s17 => (bif Nat.beq i15 0 then
 some [((.bool true), s17)] else none))
 (fun x18 s19 => some [(x18.1, s19)]) n ((.bool false), (Go.Value.int Go.IntKind.i64 0)) s)
theorem f49_l0_k (C : OracleJ H) (n : Nat) (i0 : Value) (i1 : Value) (i6 : Value) (i7 : Value) (i8 : Value) (i9 : Value) (i10 : Value) (i : Nat) (x : Value × Value) (s : St H) : (kBlock 0 (kSeq Try.prog false C n 49 none (cdp Try.f49 [1, 1, 1]) (kFun Try.prog Try.f49))) (.exit i) (f49_l0_m i0 i1 i6 i7 i8 i9 i10 x) s =
 (bif Nat.beq i 0 then
 some [((.bool true), s)] else none) := by kernel_rfl
theorem f49_r (C : OracleJ H) (n : Nat) (a0 : Value) (a1 : Value) (s : St H) : bodyD Try.prog false C n 49 Try.f49 [a0, a1] s = f49 (dOps (H := H) Try.prog) C n a0 a1 s := by
  have h1 : bodyD Try.prog false C n 49 Try.f49 [a0, a1] s =
 ((dOps (H := H) Try.prog).len s 80 a0).bind fun v20 =>
 ((dOps (H := H) Try.prog).len s 80 a1).bind fun v21 =>
 ((dOps (H := H) Try.prog).bop .neq 3 v20 v21).bind fun v22 =>
 ((dOps (H := H) Try.prog).boolO v22).bind fun b23 => cond b23 (
 some [((.bool false), s)]) (
 iter (fun t s k => exec Try.prog false C n 49 none (cdp Try.f49 [1, 1, 0, 1, 0, 0]) t s k) (scratch (cdp Try.f49 [1, 1, 0, 1, 0, 0])) n (f49_l0_m a0 a1 a0 v20 a1 v21 v22 ((.bool false), (Go.Value.int Go.IntKind.i64 0))) s (kBlock 0 (kSeq Try.prog false C n 49 none (cdp Try.f49 [1, 1, 1]) (kFun Try.prog Try.f49)))) := by kernel_rfl
  rw [h1]
  simp only [f49_l0_e, f49_l0_k]
  show _ = f49 (dOps (H := H) Try.prog) C n a0 a1 s
  kernel_rfl
/-! (*tidepole/tomb.Tombs).Ranges -/
noncomputable def f50 (O : Ops H) (C : OracleJ H) (n : Nat) (a0 : Value) (a1 : Value) (s : St H) : Option (List (Value × St H)) :=
 (C (.fn 105) [a0, a1] s).bind fun L1 => manyK L1 fun v2 s3 =>
 (C (.fn 106) [v2] s3).bind fun L4 => manyK L4 fun v5 s6 =>
 some [(v5, s6)]
theorem f50_r (C : OracleJ H) (n : Nat) (a0 : Value) (a1 : Value) (s : St H) : bodyD Try.prog false C n 50 Try.f50 [a0, a1] s = f50 (dOps (H := H) Try.prog) C n a0 a1 s := by kernel_rfl
/-! (*tidepole/tomb.Tombs).is -/
noncomputable def f101 (O : Ops H) (C : OracleJ H) (n : Nat) (a0 : Value) (s : St H) : Option (List (Value × St H)) :=
 (O.bop .neq 81 a0 (Go.Value.pointer none)).bind fun v1 =>
 gd v1 (
 (O.nilCheck a0).bind fun v2 =>
 (O.fieldAddr 158 v2 0).bind fun v3 =>
 (O.load s 156 v3).bind fun v4 =>
 (O.bop .neq 156 v4 (Go.Value.map none)).bind fun v5 =>
 some [(v5, s)]) (
 some [((.bool false), s)]) (
 none)
theorem f101_r (C : OracleJ H) (n : Nat) (a0 : Value) (s : St H) : bodyD Try.prog false C n 101 Try.f101 [a0] s = f101 (dOps (H := H) Try.prog) C n a0 s := by kernel_rfl
/-! tidepole/tomb.right -/
def f102_l0_m (i0 : Value) (i1 : Value) (i2 : Value) (i8 : Value) (i9 : Value) (x : Value × Value × Value × Value) : List Value := [i0, i1, i2, undefV, x.1, x.2.1, undefV, x.2.2.1, i8, i9, x.2.2.2, dc, dc, dc, dc, dc, dc, dc, dc, undefV, undefV, undefV, undefV, undefV, undefV, undefV, undefV, undefV, undefV, undefV, undefV, undefV, undefV, undefV]
noncomputable def f102_l0 (O : Ops H) (C : OracleJ H) (n : Nat) (i8 : Value) (i9 : Value) (nx : (Value × Value × Value × Value) → St H → Option (List (Value × St H))) (kx : Nat → (Value × Value × Value × Value) → St H → Option (List (Value × St H))) (kr : (Value × Value × Value × Value) → St H → Option (List (Value × St H))) (x : Value × Value × Value × Value) (s : St H) : Option (List (Value × St H)) :=
 (O.bop .lss 3 x.2.2.2 i9).bind fun v3 =>
 (O.boolO v3).bind fun b4 => cond b4 (
 (O.indexAddr 67 i8 x.2.2.2).bind fun v5 =>
 (O.load s 70 v5).bind fun v6 =>
 (O.bop .leq 70 v6 x.2.1).bind fun v7 =>
 (O.boolO v7).bind fun b8 => cond b8 (
 kr ((.bool false), x.2.1, v6, x.2.2.2) s) (
 (O.bop .add 3 x.2.2.2 (Go.Value.int Go.IntKind.i64 1)).bind fun v9 =>
 nx (x.1, v6, v6, v9) s)) (
 kx 0 (x.1, x.2.1, x.2.2.1, x.2.2.2) s)
theorem f102_l0_b (C : OracleJ H) (n : Nat) (i0 : Value) (i1 : Value) (i2 : Value) (i8 : Value) (i9 : Value) (x : Value × Value × Value × Value) (s : St H) (nx : List Value → St H → Option (List (Value × St H))) (K : Ex → List Value → St H → Option (List (Value × St H))) :
 exec Try.prog false C n 102 none (cdp Try.f102 [1, 1, 0, 1, 0, 0]) (f102_l0_m i0 i1 i2 i8 i9 x) s (kIter (scratch (cdp Try.f102 [1, 1, 0, 1, 0, 0])) nx K) = f102_l0 (dOps (H := H) Try.prog) C n i8 i9 (fun x s => nx (f102_l0_m i0 i1 i2 i8 i9 x) s) (fun i x s => K (.exit i) (f102_l0_m i0 i1 i2 i8 i9 x) s) (fun x s => K .ret (f102_l0_m i0 i1 i2 i8 i9 x) s) x s := by kernel_rfl
theorem f102_l0_e (C : OracleJ H) (n : Nat) (i0 : Value) (i1 : Value) (i2 : Value) (i8 : Value) (i9 : Value) (m : Nat) (x : Value × Value × Value × Value) (s : St H) (K : Ex → List Value → St H → Option (List (Value × St H))) :
 iter (fun t s k => exec Try.prog false C n 102 none (cdp Try.f102 [1, 1, 0, 1, 0, 0]) t s k) (scratch (cdp Try.f102 [1, 1, 0, 1, 0, 0])) m (f102_l0_m i0 i1 i2 i8 i9 x) s K = iterS (f102_l0 (dOps (H := H) Try.prog) C n i8 i9) (fun i x s => K (.exit i) (f102_l0_m i0 i1 i2 i8 i9 x) s) (fun x s => K .ret (f102_l0_m i0 i1 i2 i8 i9 x) s) m x s :=
   iter_eq (f102_l0_m i0 i1 i2 i8 i9) (f102_l0 (dOps (H := H) Try.prog) C n i8 i9) (fun x s nx K => f102_l0_b C n i0 i1 i2 i8 i9 x s nx K) K m x s
noncomputable def f102 (O : Ops H) (C : OracleJ H) (n : Nat) (a0 : Value) (a1 : Value) (s : St H) : Option (List (Value × St H)) :=
 (O.box s a0).bind fun p1 =>
 (O.len p1.2 67 a1).bind fun v2 =>
 iterS (f102_l0 O C n a1 v2 )
 (fun i10 x11 s12 => (bif Nat.beq i10 0 then
 (O.fieldAddr 69 p1.1 0).bind fun v15 =>
 (O.load s12 3 v15).bind fun v16 =>
 (O.bop .geq 3 v16 (Go.Value.int Go.IntKind.i64 0)).bind fun v17 =>
 gd v17 (
 (O.fieldAddr 69 p1.1 0).bind fun v18 =>
 (O.load s12 3 v18).bind fun v19 =>
 (O.fieldAddr 69 p1.1 1).bind fun v20 =>
 (O.load s12 3 v20).bind fun v21 =>
 (O.bop .leq 3 v19 v21).bind fun v22 =>
 gd v22 (
 (O.fieldAddr 69 p1.1 1).bind fun v23 =>
 (O.load s12 3 v23).bind fun v24 =>
 (O.bop .leq 3 v24 (Go.Value.int Go.IntKind.i64 35184372088832)).bind fun v25 =>
 some [(v25, s12)]) (
 some [((.bool false), s12)]) (
 none)) (
 some [((.bool false), s12)]) (
 none) else none))
 (fun x13 s14 => some [(x13.1, s14)]) n ((.bool false), (Go.Value.int Go.IntKind.u64 0), undefV, (Go.Value.int Go.IntKind.i64 0)) p1.2
theorem f102_l0_k (C : OracleJ H) (n : Nat) (i0 : Value) (i1 : Value) (i2 : Value) (i8 : Value) (i9 : Value) (i : Nat) (x : Value × Value × Value × Value) (s : St H) : (kBlock 0 (kSeq Try.prog false C n 102 none (cdp Try.f102 [1, 1, 1]) (kFun Try.prog Try.f102))) (.exit i) (f102_l0_m i0 i1 i2 i8 i9 x) s =
 (bif Nat.beq i 0 then
 ((dOps (H := H) Try.prog).fieldAddr 69 i2 0).bind fun v39 =>
 ((dOps (H := H) Try.prog).load s 3 v39).bind fun v40 =>
 ((dOps (H := H) Try.prog).bop .geq 3 v40 (Go.Value.int Go.IntKind.i64 0)).bind fun v41 =>
 gd v41 (
 ((dOps (H := H) Try.prog).fieldAddr 69 i2 0).bind fun v42 =>
 ((dOps (H := H) Try.prog).load s 3 v42).bind fun v43 =>
 ((dOps (H := H) Try.prog).fieldAddr 69 i2 1).bind fun v44 =>
 ((dOps (H := H) Try.prog).load s 3 v44).bind fun v45 =>
 ((dOps (H := H) Try.prog).bop .leq 3 v43 v45).bind fun v46 =>
 gd v46 (
 ((dOps (H := H) Try.prog).fieldAddr 69 i2 1).bind fun v47 =>
 ((dOps (H := H) Try.prog).load s 3 v47).bind fun v48 =>
 ((dOps (H := H) Try.prog).bop .leq 3 v48 (Go.Value.int Go.IntKind.i64 35184372088832)).bind fun v49 =>
 some [(v49, s)]) (
 some [((.bool false), s)]) (
 none)) (
 some [((.bool false), s)]) (
 none) else none) := by kernel_rfl
theorem f102_r (C : OracleJ H) (n : Nat) (a0 : Value) (a1 : Value) (s : St H) : bodyD Try.prog false C n 102 Try.f102 [a0, a1] s = f102 (dOps (H := H) Try.prog) C n a0 a1 s := by
  have h1 : bodyD Try.prog false C n 102 Try.f102 [a0, a1] s =
 ((dOps (H := H) Try.prog).box s a0).bind fun p26 =>
 ((dOps (H := H) Try.prog).len p26.2 67 a1).bind fun v27 =>
 iter (fun t s k => exec Try.prog false C n 102 none (cdp Try.f102 [1, 1, 0, 1, 0, 0]) t s k) (scratch (cdp Try.f102 [1, 1, 0, 1, 0, 0])) n (f102_l0_m a0 a1 p26.1 a1 v27 ((.bool false), (Go.Value.int Go.IntKind.u64 0), undefV, (Go.Value.int Go.IntKind.i64 0))) p26.2 (kBlock 0 (kSeq Try.prog false C n 102 none (cdp Try.f102 [1, 1, 1]) (kFun Try.prog Try.f102))) := by kernel_rfl
  rw [h1]
  simp only [f102_l0_e, f102_l0_k]
  show _ = f102 (dOps (H := H) Try.prog) C n a0 a1 s
  kernel_rfl
/-! tidepole/tomb.join[int] -/
def f103_l0_m (i0 : Value) (i1 : Value) (i2 : Value) (i4 : Value) (i6 : Value) (i11 : Value) (i12 : Value) (x : Value × Value × Value × Value × Value) : List Value := [i0, i1, i2, undefV, i4, undefV, i6, x.1, x.2.1, undefV, dc, i11, i12, x.2.2.1, dc, dc, dc, dc, dc, dc, dc, dc, dc, dc, dc, dc, dc, dc, x.2.2.2.1, dc, dc, dc, dc, dc, dc, dc, dc, dc, dc, dc, x.2.2.2.2, dc, dc, dc, dc, dc, dc, dc, dc, dc, dc, dc, dc, dc, dc, dc, dc, dc, dc, undefV, undefV, undefV, undefV, undefV, undefV, undefV]
noncomputable def f103_l0 (O : Ops H) (C : OracleJ H) (n : Nat) (i2 : Value) (i4 : Value) (i11 : Value) (i12 : Value) (nx : (Value × Value × Value × Value × Value) → St H → Option (List (Value × St H))) (kx : Nat → (Value × Value × Value × Value × Value) → St H → Option (List (Value × St H))) (kr : (Value × Value × Value × Value × Value) → St H → Option (List (Value × St H))) (x : Value × Value × Value × Value × Value) (s : St H) : Option (List (Value × St H)) :=
 (O.bop .lss 3 x.2.2.1 i12).bind fun v3 =>
 (O.boolO v3).bind fun b4 => cond b4 (
 (O.indexAddr 160 i11 x.2.2.1).bind fun v5 =>
 (O.load s 163 v5).bind fun v6 =>
 (O.alloc s 163).bind fun p7 =>
 (O.store p7.2 163 p7.1 v6).bind fun s8 =>
 (O.fieldAddr 163 p7.1 1).bind fun v9 =>
 (O.load s8 3 v9).bind fun v10 =>
 (O.fieldAddr 163 i4 0).bind fun v11 =>
 (O.load s8 3 v11).bind fun v12 =>
 (O.tgt i2 [v10, v12]).bind fun g13 => (C g13.1 g13.2 s8).bind fun L14 => manyK L14 fun v15 s16 =>
 (O.uop .not v15).bind fun v17 =>
 jn (fun (j168_7 : Value) (j168_8 : Value) (j168_40 : Value) (js168 : St H) =>
 (O.bop .add 3 x.2.2.1 (Go.Value.int Go.IntKind.i64 1)).bind fun v55 =>
 nx (j168_7, j168_8, v55, v17, j168_40) js168) fun k168 =>
 (O.boolO v17).bind fun b18 => cond b18 (
 (O.load s16 163 p7.1).bind fun v19 =>
 (O.buildSlice false s16 160 1 [(0, v19)]).bind fun p20 =>
 (O.append false p20.2 160 160 x.1 p20.1).bind fun p21 =>
 k168 p21.1 x.2.1 x.2.2.2.2 p21.2) (
 (O.fieldAddr 163 i4 1).bind fun v22 =>
 (O.load s16 3 v22).bind fun v23 =>
 (O.fieldAddr 163 p7.1 0).bind fun v24 =>
 (O.load s16 3 v24).bind fun v25 =>
 (O.tgt i2 [v23, v25]).bind fun g26 => (C g26.1 g26.2 s16).bind fun L27 => manyK L27 fun v28 s29 =>
 (O.uop .not v28).bind fun v30 =>
 jn (fun (j171_7 : Value) (j171_8 : Value) (js171 : St H) =>
 k168 j171_7 j171_8 v30 js171) fun k171 =>
 (O.boolO v30).bind fun b31 => cond b31 (
 (O.uop .not x.2.1).bind fun v32 =>
 jn (fun (j173_7 : Value) (j173_8 : Value) (js173 : St H) =>
 (O.load js173 163 p7.1).bind fun v40 =>
 (O.buildSlice false js173 160 1 [(0, v40)]).bind fun p41 =>
 (O.append false p41.2 160 160 j173_7 p41.1).bind fun p42 =>
 k171 p42.1 j173_8 p42.2) fun k173 =>
 (O.boolO v32).bind fun b33 => cond b33 (
 (O.load s29 163 i4).bind fun v34 =>
 (O.buildSlice false s29 160 1 [(0, v34)]).bind fun p35 =>
 (O.append false p35.2 160 160 x.1 p35.1).bind fun p36 =>
 k173 p36.1 (.bool true) p36.2) (
 k173 x.1 x.2.1 s29)) (
 (O.fieldAddr 163 i4 0).bind fun v43 =>
 (O.load s29 3 v43).bind fun v44 =>
 (O.fieldAddr 163 p7.1 0).bind fun v45 =>
 (O.load s29 3 v45).bind fun v46 =>
 (O.minO v44 [v46]).bind fun v47 =>
 (O.fieldAddr 163 i4 1).bind fun v48 =>
 (O.load s29 3 v48).bind fun v49 =>
 (O.fieldAddr 163 p7.1 1).bind fun v50 =>
 (O.load s29 3 v50).bind fun v51 =>
 (O.maxO v49 [v51]).bind fun v52 =>
 (O.build 163 [(0, v47), (1, v52)]).bind fun v53 =>
 (O.store s29 163 i4 v53).bind fun s54 =>
 k171 x.1 x.2.1 s54))) (
 kx 0 (x.1, x.2.1, x.2.2.1, x.2.2.2.1, x.2.2.2.2) s)
theorem f103_l0_b (C : OracleJ H) (n : Nat) (i0 : Value) (i1 : Value) (i2 : Value) (i4 : Value) (i6 : Value) (i11 : Value) (i12 : Value) (x : Value × Value × Value × Value × Value) (s : St H) (nx : List Value → St H → Option (List (Value × St H))) (K : Ex → List Value → St H → Option (List (Value × St H))) :
 exec Try.prog false C n 103 none (cdp Try.f103 [1, 1, 1, 0, 1, 0, 0]) (f103_l0_m i0 i1 i2 i4 i6 i11 i12 x) s (kIter (scratch (cdp Try.f103 [1, 1, 1, 0, 1, 0, 0])) nx K) = f103_l0 (dOps (H := H) Try.prog) C n i2 i4 i11 i12 (fun x s => nx (f103_l0_m i0 i1 i2 i4 i6 i11 i12 x) s) (fun i x s => K (.exit i) (f103_l0_m i0 i1 i2 i4 i6 i11 i12 x) s) (fun x s => K .ret (f103_l0_m i0 i1 i2 i4 i6 i11 i12 x) s) x s := by kernel_rfl
theorem f103_l0_e (C : OracleJ H) (n : Nat) (i0 : Value) (i1 : Value) (i2 : Value) (i4 : Value) (i6 : Value) (i11 : Value) (i12 : Value) (m : Nat) (x : Value × Value × Value × Value × Value) (s : St H) (K : Ex → List Value → St H → Option (List (Value × St H))) :
 iter (fun t s k => exec Try.prog false C n 103 none (cdp Try.f103 [1, 1, 1, 0, 1, 0, 0]) t s k) (scratch (cdp Try.f103 [1, 1, 1, 0, 1, 0, 0])) m (f103_l0_m i0 i1 i2 i4 i6 i11 i12 x) s K = iterS (f103_l0 (dOps (H := H) Try.prog) C n i2 i4 i11 i12) (fun i x s => K (.exit i) (f103_l0_m i0 i1 i2 i4 i6 i11 i12 x) s) (fun x s => K .ret (f103_l0_m i0 i1 i2 i4 i6 i11 i12 x) s) m x s :=
   iter_eq (f103_l0_m i0 i1 i2 i4 i6 i11 i12) (f103_l0 (dOps (H := H) Try.prog) C n i2 i4 i11 i12) (fun x s nx K => f103_l0_b C n i0 i1 i2 i4 i6 i11 i12 x s nx K) K m x s
noncomputable def f103 (O : Ops H) (C : OracleJ H) (n : Nat) (a0 : Value) (a1 : Value) (a2 : Value) (s : St H) : Option (List (Value × St H)) :=
 (O.box s a1).bind fun p1 =>
 (O.len p1.2 160 a0).bind fun v2 =>
 iterS (f103_l0 O C n a2 p1.1 a0 v2 )
 (fun i56 x57 s58 => (bif Nat.beq i56 0 then
 (O.uop .not x57.2.1).bind fun v61 =>
 (O.boolO v61).bind fun b62 => cond b62 (
 (O.load s58 163 p1.1).bind fun v63 =>
 (O.buildSlice false s58 160 1 [(0, v63)]).bind fun p64 =>
 (O.append false p64.2 160 160 x57.1 p64.1).bind fun p65 =>
 some [(p65.1, p65.2)]) (
 some [(x57.1, s58)]) else none))
 (fun x59 s60 => some [((fzV 2 #[]), s60)]) n ((fzV 2 #[]), (.bool false), (Go.Value.int Go.IntKind.i64 0), undefV, undefV) p1.2
theorem f103_l0_k (C : OracleJ H) (n : Nat) (i0 : Value) (i1 : Value) (i2 : Value) (i4 : Value) (i6 : Value) (i11 : Value) (i12 : Value) (i : Nat) (x : Value × Value × Value × Value × Value) (s : St H) : (kBlock 0 (kSeq Try.prog false C n 103 none (cdp Try.f103 [1, 1, 1, 1]) (kFun Try.prog Try.f103))) (.exit i) (f103_l0_m i0 i1 i2 i4 i6 i11 i12 x) s =
 (bif Nat.beq i 0 then
 ((dOps (H := H) Try.prog).uop .not x.2.1).bind fun v73 =>
 ((dOps (H := H) Try.prog).boolO v73).bind fun b74 => cond b74 (
 ((dOps (H := H) Try.prog).load s 163 i4).bind fun v75 =>
 ((dOps (H := H) Try.prog).buildSlice false s 160 1 [(0, v75)]).bind fun p76 =>
 ((dOps (H := H) Try.prog).append false p76.2 160 160 x.1 p76.1).bind fun p77 =>
 some [(p77.1, p77.2)]) (
 some [(x.1, s)]) else none) := by kernel_rfl
theorem f103_r (C : OracleJ H) (n : Nat) (a0 : Value) (a1 : Value) (a2 : Value) (s : St H) : bodyD Try.prog false C n 103 Try.f103 [a0, a1, a2] s = f103 (dOps (H := H) Try.prog) C n a0 a1 a2 s := by
  have h1 : bodyD Try.prog false C n 103 Try.f103 [a0, a1, a2] s =
 ((dOps (H := H) Try.prog).box s a1).bind fun p66 =>
 ((dOps (H := H) Try.prog).len p66.2 160 a0).bind fun v67 =>
 iter (fun t s k => exec Try.prog false C n 103 none (cdp Try.f103 [1, 1, 1, 0, 1, 0, 0]) t s k) (scratch (cdp Try.f103 [1, 1, 1, 0, 1, 0, 0])) n (f103_l0_m a0 a1 a2 p66.1 (fzV 2 #[]) a0 v67 ((fzV 2 #[]), (.bool false), (Go.Value.int Go.IntKind.i64 0), undefV, undefV)) p66.2 (kBlock 0 (kSeq Try.prog false C n 103 none (cdp Try.f103 [1, 1, 1, 1]) (kFun Try.prog Try.f103))) := by kernel_rfl
  rw [h1]
  simp only [f103_l0_e, f103_l0_k]
  show _ = f103 (dOps (H := H) Try.prog) C n a0 a1 a2 s
  kernel_rfl
/-! tidepole/tomb.touches -/
noncomputable def f104 (O : Ops H) (C : OracleJ H) (n : Nat) (a0 : Value) (a1 : Value) (s : St H) : Option (List (Value × St H)) :=
 (O.bop .add 3 a0 (Go.Value.int Go.IntKind.i64 1)).bind fun v1 =>
 (O.bop .leq 3 a1 v1).bind fun v2 =>
 some [(v2, s)]
theorem f104_r (C : OracleJ H) (n : Nat) (a0 : Value) (a1 : Value) (s : St H) : bodyD Try.prog false C n 104 Try.f104 [a0, a1] s = f104 (dOps (H := H) Try.prog) C n a0 a1 s := by kernel_rfl
/-! (*tidepole/tomb.Tombs).ranges -/
noncomputable def f105 (O : Ops H) (C : OracleJ H) (n : Nat) (a0 : Value) (a1 : Value) (s : St H) : Option (List (Value × St H)) :=
 (O.box s a0).bind fun p1 =>
 (O.box p1.2 a1).bind fun p2 =>
 some [((.func (.func 153) #[] #[p1.1, p2.1]), p2.2)]
theorem f105_r (C : OracleJ H) (n : Nat) (a0 : Value) (a1 : Value) (s : St H) : bodyD Try.prog false C n 105 Try.f105 [a0, a1] s = f105 (dOps (H := H) Try.prog) C n a0 a1 s := by kernel_rfl
/-! slices.Collect[tidepole/api.Range] -/
noncomputable def f106 (O : Ops H) (C : OracleJ H) (n : Nat) (a0 : Value) (s : St H) : Option (List (Value × St H)) :=
 (C (.fn 154) [(fzV 2 #[]), a0] s).bind fun L1 => manyK L1 fun v2 s3 =>
 some [(v2, s3)]
theorem f106_r (C : OracleJ H) (n : Nat) (a0 : Value) (s : St H) : bodyD Try.prog false C n 106 Try.f106 [a0] s = f106 (dOps (H := H) Try.prog) C n a0 s := by kernel_rfl
/-! (*tidepole/tomb.Tombs).ranges$1 -/
def f153_l0_m (i0 : Value) (i1 : Value) (i2 : Value) (i6 : Value) (i7 : Value) (i8 : Value) (i9 : Value) (i10 : Value) (i11 : Value) (i12 : Value) (i13 : Value) (i14 : Value) (i15 : Value) (x : Value) : List Value := [i0, i1, i2, undefV, undefV, dc, i6, i7, i8, i9, i10, i11, i12, i13, i14, i15, x, dc, dc, dc, dc, dc, dc, dc, dc, dc, dc, dc, dc]
noncomputable def f153_l0 (O : Ops H) (C : OracleJ H) (n : Nat) (i0 : Value) (i14 : Value) (i15 : Value) (nx : Value → St H → Option (List (Value × St H))) (kx : Nat → Value → St H → Option (List (Value × St H))) (kr : Value → St H → Option (List (Value × St H))) (x : Value) (s : St H) : Option (List (Value × St H)) :=
 (O.bop .lss 3 x i15).bind fun v14 =>
 (O.boolO v14).bind fun b15 => cond b15 (
 (O.indexAddr 160 i14 x).bind fun v16 =>
 (O.load s 163 v16).bind fun v17 =>
 (O.alloc s 163).bind fun p18 =>
 (O.store p18.2 163 p18.1 v17).bind fun s19 =>
 (O.fieldAddr 163 p18.1 0).bind fun v20 =>
 (O.load s19 3 v20).bind fun v21 =>
 (O.fieldAddr 163 p18.1 1).bind fun v22 =>
 (O.load s19 3 v22).bind fun v23 =>
 (O.build 69 [(0, v21), (1, v23)]).bind fun v24 =>
 (O.tgt i0 [v24]).bind fun g25 => (C g25.1 g25.2 s19).bind fun L26 => manyK L26 fun v27 s28 =>
 (O.uop .not v27).bind fun v29 =>
 (O.boolO v29).bind fun b30 => cond b30 (
 kr x s28) (
 (O.bop .add 3 x (Go.Value.int Go.IntKind.i64 1)).bind fun v31 =>
 nx v31 s28)) (
 kx 0 x s)
theorem f153_l0_b (C : OracleJ H) (n : Nat) (i0 : Value) (i1 : Value) (i2 : Value) (i6 : Value) (i7 : Value) (i8 : Value) (i9 : Value) (i10 : Value) (i11 : Value) (i12 : Value) (i13 : Value) (i14 : Value) (i15 : Value) (x : Value) (s : St H) (nx : List Value → St H → Option (List (Value × St H))) (K : Ex → List Value → St H → Option (List (Value × St H))) :
 exec Try.prog false C n 153 none (cdp Try.f153 [1, 1, 0, 0]) (f153_l0_m i0 i1 i2 i6 i7 i8 i9 i10 i11 i12 i13 i14 i15 x) s (kIter (scratch (cdp Try.f153 [1, 1, 0, 0])) nx K) = f153_l0 (dOps (H := H) Try.prog) C n i0 i14 i15 (fun x s => nx (f153_l0_m i0 i1 i2 i6 i7 i8 i9 i10 i11 i12 i13 i14 i15 x) s) (fun i x s => K (.exit i) (f153_l0_m i0 i1 i2 i6 i7 i8 i9 i10 i11 i12 i13 i14 i15 x) s) (fun x s => K .ret (f153_l0_m i0 i1 i2 i6 i7 i8 i9 i10 i11 i12 i13 i14 i15 x) s) x s := by kernel_rfl
theorem f153_l0_e (C : OracleJ H) (n : Nat) (i0 : Value) (i1 : Value) (i2 : Value) (i6 : Value) (i7 : Value) (i8 : Value) (i9 : Value) (i10 : Value) (i11 : Value) (i12 : Value) (i13 : Value) (i14 : Value) (i15 : Value) (m : Nat) (x : Value) (s : St H) (K : Ex → List Value → St H → Option (List (Value × St H))) :
 iter (fun t s k => exec Try.prog false C n 153 none (cdp Try.f153 [1, 1, 0, 0]) t s k) (scratch (cdp Try.f153 [1, 1, 0, 0])) m (f153_l0_m i0 i1 i2 i6 i7 i8 i9 i10 i11 i12 i13 i14 i15 x) s K = iterS (f153_l0 (dOps (H := H) Try.prog) C n i0 i14 i15) (fun i x s => K (.exit i) (f153_l0_m i0 i1 i2 i6 i7 i8 i9 i10 i11 i12 i13 i14 i15 x) s) (fun x s => K .ret (f153_l0_m i0 i1 i2 i6 i7 i8 i9 i10 i11 i12 i13 i14 i15 x) s) m x s :=
   iter_eq (f153_l0_m i0 i1 i2 i6 i7 i8 i9 i10 i11 i12 i13 i14 i15) (f153_l0 (dOps (H := H) Try.prog) C n i0 i14 i15) (fun x s nx K => f153_l0_b C n i0 i1 i2 i6 i7 i8 i9 i10 i11 i12 i13 i14 i15 x s nx K) K m x s
noncomputable def f153 (O : Ops H) (C : OracleJ H) (n : Nat) (a0 : Value) (a1 : Value) (a2 : Value) (s : St H) : Option (List (Value × St H)) :=
 (O.load s 81 a1).bind fun v1 =>
 (C (.fn 101) [v1] s).bind fun L2 => manyK L2 fun v3 s4 =>
 (O.uop .not v3).bind fun v5 =>
 (O.boolO v5).bind fun b6 => cond b6 (
 some [(.tuple #[], s4)]) (
 (O.load s4 81 a1).bind fun v7 =>
 (O.nilCheck v7).bind fun v8 =>
 (O.fieldAddr 158 v8 0).bind fun v9 =>
 (O.load s4 156 v9).bind fun v10 =>
 (O.load s4 70 a2).bind fun v11 =>
 (O.lookup s4 156 v10 v11 false).bind fun v12 =>
 (O.len s4 160 v12).bind fun v13 =>
 iterS (f153_l0 O C n a0 v12 v13 )
 (fun i32 x33 s34 => (bif Nat.beq i32 0 then
 some [(.tuple #[], s34)] else none))
 (fun x35 s36 => some [(.tuple #[], s36)]) n (Go.Value.int Go.IntKind.i64 0) s4)
theorem f153_l0_k (C : OracleJ H) (n : Nat) (i0 : Value) (i1 : Value) (i2 : Value) (i6 : Value) (i7 : Value) (i8 : Value) (i9 : Value) (i10 : Value) (i11 : Value) (i12 : Value) (i13 : Value) (i14 : Value) (i15 : Value) (i : Nat) (x : Value) (s : St H) : (kBlock 0 (kFun Try.prog Try.f153)) (.exit i) (f153_l0_m i0 i1 i2 i6 i7 i8 i9 i10 i11 i12 i13 i14 i15 x) s =
 (bif Nat.beq i 0 then
 some [(.tuple #[], s)] else none) := by kernel_rfl
theorem f153_r (C : OracleJ H) (n : Nat) (a0 : Value) (a1 : Value) (a2 : Value) (s : St H) : bodyD Try.prog false C n 153 Try.f153 [a0, a1, a2] s = f153 (dOps (H := H) Try.prog) C n a0 a1 a2 s := by
  have h1 : bodyD Try.prog false C n 153 Try.f153 [a0, a1, a2] s =
 ((dOps (H := H) Try.prog).load s 81 a1).bind fun v37 =>
 (C (.fn 101) [v37] s).bind fun L38 => manyK L38 fun v39 s40 =>
 ((dOps (H := H) Try.prog).uop .not v39).bind fun v41 =>
 ((dOps (H := H) Try.prog).boolO v41).bind fun b42 => cond b42 (
 some [(.tuple #[], s40)]) (
 ((dOps (H := H) Try.prog).load s40 81 a1).bind fun v43 =>
 ((dOps (H := H) Try.prog).nilCheck v43).bind fun v44 =>
 ((dOps (H := H) Try.prog).fieldAddr 158 v44 0).bind fun v45 =>
 ((dOps (H := H) Try.prog).load s40 156 v45).bind fun v46 =>
 ((dOps (H := H) Try.prog).load s40 70 a2).bind fun v47 =>
 ((dOps (H := H) Try.prog).lookup s40 156 v46 v47 false).bind fun v48 =>
 ((dOps (H := H) Try.prog).len s40 160 v48).bind fun v49 =>
 iter (fun t s k => exec Try.prog false C n 153 none (cdp Try.f153 [1, 1, 0, 0]) t s k) (scratch (cdp Try.f153 [1, 1, 0, 0])) n (f153_l0_m a0 a1 a2 v37 v39 v41 v43 v44 v45 v46 v47 v48 v49 (Go.Value.int Go.IntKind.i64 0)) s40 (kBlock 0 (kFun Try.prog Try.f153))) := by kernel_rfl
  rw [h1]
  simp only [f153_l0_e, f153_l0_k]
  show _ = f153 (dOps (H := H) Try.prog) C n a0 a1 a2 s
  kernel_rfl
/-! slices.AppendSeq[[]tidepole/api.Range,tidepole/api.Range] -/
noncomputable def f154 (O : Ops H) (C : OracleJ H) (n : Nat) (a0 : Value) (a1 : Value) (s : St H) : Option (List (Value × St H)) :=
 (O.box s a0).bind fun p1 =>
 rngO Try.prog O C 154 a1 [a0, a1, p1.1, undefV, (fzV 2 #[]), undefV, a1, undefV, undefV, undefV, undefV, undefV, undefV] [7] (cdp Try.f154 [1, 0, 1, 0, 0]) (cdp Try.f154 [1, 0, 1, 0, 1]) p1.2
 (fun s2 => (O.load s2 80 p1.1).bind fun v7 =>
 some [(v7, s2)])
 (fun s3 => some [((fzV 2 #[]), s3)])
 (fun i5 s4 => (bif Nat.beq i5 0 then
 (O.load s4 80 p1.1).bind fun v8 =>
 some [(v8, s4)] else none))
theorem f154_r (C : OracleJ H) (n : Nat) (a0 : Value) (a1 : Value) (s : St H) : bodyD Try.prog false C n 154 Try.f154 [a0, a1] s = f154 (dOps (H := H) Try.prog) C n a0 a1 s := by kernel_rfl
noncomputable def f154_r0 (O : Ops H) (C : OracleJ H) (n : Nat) (l : Nat) (i2 : Value) (x0 : Value) (s : St H) : Option (List (Value × St H)) :=
 (O.alloc s 69).bind fun p9 =>
 (O.store p9.2 69 p9.1 x0).bind fun s10 =>
 (beginD s10 l).bind fun s11 =>
 (O.load s11 80 i2).bind fun v12 =>
 (O.load s11 69 p9.1).bind fun v13 =>
 (O.buildSlice false s11 80 1 [(0, v13)]).bind fun p14 =>
 (O.append false p14.2 80 80 v12 p14.1).bind fun p15 =>
 (O.store p15.2 80 i2 p15.1).bind fun s16 =>
 (setLoopD s16 l 0 none).map fun s => [((.bool true), s)]
theorem f154_r0_x (C : OracleJ H) (n : Nat) (l : Nat) (i0 : Value) (i1 : Value) (i2 : Value) (i3 : Value) (i4 : Value) (i5 : Value) (i6 : Value) (i7 : Value) (i8 : Value) (i9 : Value) (i10 : Value) (i11 : Value) (i12 : Value) (x0 : Value) (s : St H) : exec Try.prog false C n 154 (some l) (cdp Try.f154 [1, 0, 1, 0, 0]) [i0, i1, i2, i3, i4, i5, i6, x0, i8, i9, i10, i11, i12] s (kAsg Try.prog false C n 154 l (cdp Try.f154 [1, 0, 1, 0, 1])) = f154_r0 (dOps (H := H) Try.prog) C n l i2 x0 s := by kernel_rfl
theorem f154_r0_e {C : OracleJ H} {rw : FuncId → Bool} {n l : Nat} {pe : Option Code} {i0 i1 i2 i3 i4 i5 i6 i7 i8 i9 i10 i11 i12 : Value} {s : St H} (hrw : rw 154 = false) (h : loopD s l = some (0, pe, 154, [i0, i1, i2, i3, i4, i5, i6, i7, i8, i9, i10, i11, i12], [7], cdp Try.f154 [1, 0, 1, 0, 0], cdp Try.f154 [1, 0, 1, 0, 1])) (x0 : Value) : roundD Try.prog rw C n l [x0] s = f154_r0 (dOps (H := H) Try.prog) C n l i2 x0 s := by (unfold roundD; rw [h, bindS, hrw]; exact f154_r0_x C n l i0 i1 i2 i3 i4 i5 i6 i7 i8 i9 i10 i11 i12 x0 s)
end Go.Proofs.Ytmhmbmogodofeaa.S
