import Derived.Test.YtmhmbmogodofeaaDoorFy
import Derived.ProofKit
import Derived.Test.YtmhmbmogodofeaaDoorRows
/- The plain runs of functions (printed by shal.py). -/
set_option autoImplicit false
set_option linter.unusedVariables false
set_option maxRecDepth 100000
namespace Go.Proofs.YtmhmbmogodofeaaDoor.S
open Go.FS Go.RowKit
variable {H : HeapI}
/-! tidepole/tidepolelaw08.ChunkPuts -/
def f5_l0_m (i0 i3 i4 i5 i6 i7 i16 i17 i18 i19 i20 i21 i22 i23 i24 i25 i26 i27 i28 i29 i30 i31 i32 i34 i35 i36 i37 i38 i39 i40 i41 : Value) (x : Value × Value × Value × Value × Value) : List Value := [i0, undefV, x.1, i3, i4, i5, i6, i7, x.2.1, x.2.2.1, x.2.2.2.1, x.2.2.2.2, undefV, undefV, undefV, undefV, i16, i17, i18, i19, i20, i21, i22, i23, i24, i25, i26, i27, i28, i29, i30, i31, i32, (.bool false), i34, i35, i36, i37, i38, i39, i40, i41, dc, dc, dc, dc, dc, dc, dc, dc, dc, dc, dc, dc, dc, dc, dc, dc, dc, dc, dc, dc, dc, dc, dc, dc, dc, dc, dc, dc, dc, dc, dc, dc, dc, dc, dc, dc, dc, dc, dc, dc, dc, dc, dc, dc, dc, dc, dc, dc, dc, dc, dc, dc, dc, dc, dc, dc, dc, dc, undefV, undefV, undefV, undefV, undefV, undefV, undefV, undefV, undefV, undefV, undefV, undefV, undefV, undefV, undefV, undefV, undefV, undefV, undefV, undefV, undefV]
noncomputable def f5_l0 (O : Ops H) (C : OracleJ H) (n : Nat) (i0 i7 : Value) (nx : (Value × Value × Value × Value × Value) → St H → Option (List (Value × St H))) (kx : Nat → (Value × Value × Value × Value × Value) → St H → Option (List (Value × St H))) (kr : (Value × Value × Value × Value × Value) → St H → Option (List (Value × St H))) (x : Value × Value × Value × Value × Value) (s : St H) : Option (List (Value × St H)) :=
 (O.len s 24 i0).bind fun v31 =>
 (O.bop .lss 3 x.2.2.1 v31).bind fun v32 =>
 (O.boolO v32).bind fun b33 => cond b33 (
 (O.len s 24 x.2.1).bind fun v34 =>
 (O.bop .geq 3 v34 (Value.int IntKind.i64 120)).bind fun v35 =>
 jn (fun (j22_10 : Value) (j22_11 : Value) =>
 (O.indexAddr 24 i0 x.2.2.1).bind fun v77 =>
 (O.load s 40 v77).bind fun v78 =>
 (C (.fn 18) [i7, v78] s).bind fun L79 => manyK L79 fun v80 s81 =>
 (O.bop .neq 25 v80 j22_10).bind fun v82 =>
 (O.boolO v82).bind fun b83 => cond b83 (
 kr ((.bool false), x.2.1, x.2.2.1, j22_10, j22_11) s81) (
 (O.bop .eql 25 j22_10 (Value.int IntKind.i64 0)).bind fun v84 =>
 jn (fun (j45_8 : Value) (js45 : St H) =>
 (C (.fn 19) [i7] js45).bind fun L96 => manyK L96 fun v97 s98 =>
 (O.len s98 24 j45_8).bind fun v99 =>
 (O.bop .neq 3 v97 v99).bind fun v100 =>
 (O.boolO v100).bind fun b101 => cond b101 (
 kr ((.bool false), j45_8, x.2.2.1, j22_10, j22_11) s98) (
 (O.bop .add 3 x.2.2.1 (Value.int IntKind.i64 1)).bind fun v102 =>
 nx (x.1, j45_8, v102, j22_10, j22_11) s98)) fun k45 =>
 (O.boolO v84).bind fun b85 => cond b85 (
 (O.indexAddr 24 i0 x.2.2.1).bind fun v86 =>
 (O.load s81 40 v86).bind fun v87 =>
 (O.buildSlice false s81 24 1 [(0, v87)]).bind fun p88 =>
 (O.append false p88.2 24 24 x.2.1 p88.1).bind fun p89 =>
 k45 p89.1 p89.2) (
 k45 x.2.1 s81))) fun k22 =>
 (O.boolO v35).bind fun b36 => cond b36 (
 k22 (Value.int IntKind.i64 4) x.2.2.2.2) (
 (O.indexAddr 24 i0 x.2.2.1).bind fun v37 =>
 (O.fieldAddr 40 v37 0).bind fun v38 =>
 (O.load s 3 v38).bind fun v39 =>
 jn (fun (j25_77 : Value) =>
 jn (fun (j27_10 : Value) =>
 k22 j27_10 v39) fun k27 =>
 (O.boolO j25_77).bind fun b51 => cond b51 (
 k27 (Value.int IntKind.i64 60)) (
 k27 (Value.int IntKind.i64 0))) fun k25 =>
 (O.bop .lss 3 v39 (Value.int IntKind.i64 0)).bind fun v40 =>
 gd v40 (
 k25 (.bool true)) (
 (O.bop .gtr 3 v39 (Value.int IntKind.i64 35184372088832)).bind fun v41 =>
 gd v41 (
 k25 (.bool true)) (
 (O.len s 24 x.2.1).bind fun v42 =>
 (O.bop .gtr 3 v42 (Value.int IntKind.i64 0)).bind fun v43 =>
 gd v43 (
 (O.len s 24 x.2.1).bind fun v44 =>
 (O.bop .sub 3 v44 (Value.int IntKind.i64 1)).bind fun v45 =>
 (O.indexAddr 24 x.2.1 v45).bind fun v46 =>
 (O.fieldAddr 40 v46 0).bind fun v47 =>
 (O.load s 3 v47).bind fun v48 =>
 (O.bop .leq 3 v39 v48).bind fun v49 =>
 k25 v49) (
 k25 (.bool false)) (
 none)) (
 none)) (
 none))) (
 kx 0 (x.1, x.2.1, x.2.2.1, x.2.2.2.1, x.2.2.2.2) s)
theorem f5_l0_b (C : OracleJ H) (n : Nat) (i0 i3 i4 i5 i6 i7 i16 i17 i18 i19 i20 i21 i22 i23 i24 i25 i26 i27 i28 i29 i30 i31 i32 i34 i35 i36 i37 i38 i39 i40 i41 : Value) (x : Value × Value × Value × Value × Value) (s : St H) (nx : List Value → St H → Option (List (Value × St H))) (K : Ex → List Value → St H → Option (List (Value × St H))) :
 exec Tryd.prog false C n 5 none (cdp Tryd.f5 [1, 1, 1, 1, 1, 1, 1, 1, 0, 1, 0, 0]) (f5_l0_m i0 i3 i4 i5 i6 i7 i16 i17 i18 i19 i20 i21 i22 i23 i24 i25 i26 i27 i28 i29 i30 i31 i32 i34 i35 i36 i37 i38 i39 i40 i41 x) s (kIter (scratch (cdp Tryd.f5 [1, 1, 1, 1, 1, 1, 1, 1, 0, 1, 0, 0])) nx K) = f5_l0 (dOps (H := H) Tryd.prog) C n i0 i7 (fun x s => nx (f5_l0_m i0 i3 i4 i5 i6 i7 i16 i17 i18 i19 i20 i21 i22 i23 i24 i25 i26 i27 i28 i29 i30 i31 i32 i34 i35 i36 i37 i38 i39 i40 i41 x) s) (fun i x s => K (.exit i) (f5_l0_m i0 i3 i4 i5 i6 i7 i16 i17 i18 i19 i20 i21 i22 i23 i24 i25 i26 i27 i28 i29 i30 i31 i32 i34 i35 i36 i37 i38 i39 i40 i41 x) s) (fun x s => K .ret (f5_l0_m i0 i3 i4 i5 i6 i7 i16 i17 i18 i19 i20 i21 i22 i23 i24 i25 i26 i27 i28 i29 i30 i31 i32 i34 i35 i36 i37 i38 i39 i40 i41 x) s) x s := by kernel_rfl
theorem f5_l0_e (C : OracleJ H) (n : Nat) (i0 i3 i4 i5 i6 i7 i16 i17 i18 i19 i20 i21 i22 i23 i24 i25 i26 i27 i28 i29 i30 i31 i32 i34 i35 i36 i37 i38 i39 i40 i41 : Value) (m : Nat) (x : Value × Value × Value × Value × Value) (s : St H) (K : Ex → List Value → St H → Option (List (Value × St H))) :
 iter (fun t s k => exec Tryd.prog false C n 5 none (cdp Tryd.f5 [1, 1, 1, 1, 1, 1, 1, 1, 0, 1, 0, 0]) t s k) (scratch (cdp Tryd.f5 [1, 1, 1, 1, 1, 1, 1, 1, 0, 1, 0, 0])) m (f5_l0_m i0 i3 i4 i5 i6 i7 i16 i17 i18 i19 i20 i21 i22 i23 i24 i25 i26 i27 i28 i29 i30 i31 i32 i34 i35 i36 i37 i38 i39 i40 i41 x) s K = iterS (f5_l0 (dOps (H := H) Tryd.prog) C n i0 i7) (fun i x s => K (.exit i) (f5_l0_m i0 i3 i4 i5 i6 i7 i16 i17 i18 i19 i20 i21 i22 i23 i24 i25 i26 i27 i28 i29 i30 i31 i32 i34 i35 i36 i37 i38 i39 i40 i41 x) s) (fun x s => K .ret (f5_l0_m i0 i3 i4 i5 i6 i7 i16 i17 i18 i19 i20 i21 i22 i23 i24 i25 i26 i27 i28 i29 i30 i31 i32 i34 i35 i36 i37 i38 i39 i40 i41 x) s) m x s :=
   iter_eq (f5_l0_m i0 i3 i4 i5 i6 i7 i16 i17 i18 i19 i20 i21 i22 i23 i24 i25 i26 i27 i28 i29 i30 i31 i32 i34 i35 i36 i37 i38 i39 i40 i41) (f5_l0 (dOps (H := H) Tryd.prog) C n i0 i7) (fun x s nx K => f5_l0_b C n i0 i3 i4 i5 i6 i7 i16 i17 i18 i19 i20 i21 i22 i23 i24 i25 i26 i27 i28 i29 i30 i31 i32 i34 i35 i36 i37 i38 i39 i40 i41 x s nx K) K m x s
noncomputable def f5 (O : Ops H) (C : OracleJ H) (n : Nat) (a0 : Value) (s : St H) : Option (List (Value × St H)) :=
 (C (.fn 15) [a0] s).bind fun L1 => manyK L1 fun v2 s3 =>
 (C (.fn 15) [v2] s3).bind fun L4 => manyK L4 fun v5 s6 =>
 (C (.fn 14) [v5] s6).bind fun L7 => manyK L7 fun v8 s9 =>
 (O.extract v8 0).bind fun v10 =>
 (O.extract v8 1).bind fun v11 =>
 (C (.fn 16) [v2] s9).bind fun L12 => manyK L12 fun v13 s14 =>
 (O.extract v13 0).bind fun v15 =>
 (O.extract v13 1).bind fun v16 =>
 (C (.fn 12) [v10, v15] s14).bind fun L17 => manyK L17 fun v18 s19 =>
 (O.uop .not v18).bind fun v20 =>
 gd v20 (
 some [((.bool false), s19)]) (
 (O.bop .neq 25 v11 v16).bind fun v21 =>
 (O.boolO v21).bind fun b24 => cond b24 (
 some [((.bool false), s19)]) (
 (C (.fn 17) [] s19).bind fun L25 => manyK L25 fun v26 s27 =>
 (O.bop .eql 36 v26 (Go.Value.pointer none)).bind fun v28 =>
 (O.boolO v28).bind fun b29 => cond b29 (
 some [((.bool false), s27)]) (
 (O.buildSlice false s27 24 0 []).bind fun p30 =>
 iterS (f5_l0 O C n v2 v26 )
 (fun i103 x104 s105 => (bif Nat.beq i103 0 then
 (C (.fn 20) [v26] s105).bind fun L108 => manyK L108 fun v109 s110 =>
 (O.extract v109 0).bind fun v111 =>
 (O.extract v109 1).bind fun v112 =>
 (C (.fn 16) [x104.2.1] s110).bind fun L113 => manyK L113 fun v114 s115 =>
 (O.extract v114 0).bind fun v116 =>
 (O.extract v114 1).bind fun v117 =>
 (C (.fn 12) [v111, v116] s115).bind fun L118 => manyK L118 fun v119 s120 =>
 gd v119 (
 (O.bop .eql 25 v112 v117).bind fun v121 =>
 gd v121 (
 (C (.fn 13) [] s120).bind fun L122 => manyK L122 fun v123 s124 =>
 some [(v123, s124)]) (
 some [((.bool false), s120)]) (
 none)) (
 some [((.bool false), s120)]) (
 none) else none))
 (fun x106 s107 => some [(x106.1, s107)]) n ((.bool false), p30.1, (Value.int IntKind.i64 0), undefV, undefV) p30.2))) (
 none)
theorem f5_l0_k (C : OracleJ H) (n : Nat) (i0 i3 i4 i5 i6 i7 i16 i17 i18 i19 i20 i21 i22 i23 i24 i25 i26 i27 i28 i29 i30 i31 i32 i34 i35 i36 i37 i38 i39 i40 i41 : Value) (i : Nat) (x : Value × Value × Value × Value × Value) (s : St H) : (kBlock 0 (kSeq Tryd.prog false C n 5 none (cdp Tryd.f5 [1, 1, 1, 1, 1, 1, 1, 1, 1]) (kFun Tryd.prog Tryd.f5))) (.exit i) (f5_l0_m i0 i3 i4 i5 i6 i7 i16 i17 i18 i19 i20 i21 i22 i23 i24 i25 i26 i27 i28 i29 i30 i31 i32 i34 i35 i36 i37 i38 i39 i40 i41 x) s =
 (bif Nat.beq i 0 then
 (C (.fn 20) [i7] s).bind fun L172 => manyK L172 fun v173 s174 =>
 ((dOps (H := H) Tryd.prog).extract v173 0).bind fun v175 =>
 ((dOps (H := H) Tryd.prog).extract v173 1).bind fun v176 =>
 (C (.fn 16) [x.2.1] s174).bind fun L177 => manyK L177 fun v178 s179 =>
 ((dOps (H := H) Tryd.prog).extract v178 0).bind fun v180 =>
 ((dOps (H := H) Tryd.prog).extract v178 1).bind fun v181 =>
 (C (.fn 12) [v175, v180] s179).bind fun L182 => manyK L182 fun v183 s184 =>
 gd v183 (
 ((dOps (H := H) Tryd.prog).bop .eql 25 v176 v181).bind fun v185 =>
 gd v185 (
 (C (.fn 13) [] s184).bind fun L186 => manyK L186 fun v187 s188 =>
 some [(v187, s188)]) (
 some [((.bool false), s184)]) (
 none)) (
 some [((.bool false), s184)]) (
 none) else none) := by kernel_rfl
theorem f5_r (C : OracleJ H) (n : Nat) (a0 : Value) (s : St H) : bodyD Tryd.prog false C n 5 Tryd.f5 [a0] s = f5 (dOps (H := H) Tryd.prog) C n a0 s := by
  have h1 : bodyD Tryd.prog false C n 5 Tryd.f5 [a0] s =
 (C (.fn 15) [a0] s).bind fun L125 => manyK L125 fun v126 s127 =>
 (C (.fn 15) [v126] s127).bind fun L128 => manyK L128 fun v129 s130 =>
 (C (.fn 14) [v129] s130).bind fun L131 => manyK L131 fun v132 s133 =>
 ((dOps (H := H) Tryd.prog).extract v132 0).bind fun v134 =>
 ((dOps (H := H) Tryd.prog).extract v132 1).bind fun v135 =>
 (C (.fn 16) [v126] s133).bind fun L136 => manyK L136 fun v137 s138 =>
 ((dOps (H := H) Tryd.prog).extract v137 0).bind fun v139 =>
 ((dOps (H := H) Tryd.prog).extract v137 1).bind fun v140 =>
 (C (.fn 12) [v134, v139] s138).bind fun L141 => manyK L141 fun v142 s143 =>
 ((dOps (H := H) Tryd.prog).uop .not v142).bind fun v144 =>
 gd v144 (
 some [((.bool false), s143)]) (
 ((dOps (H := H) Tryd.prog).bop .neq 25 v135 v140).bind fun v145 =>
 ((dOps (H := H) Tryd.prog).boolO v145).bind fun b148 => cond b148 (
 some [((.bool false), s143)]) (
 (C (.fn 17) [] s143).bind fun L149 => manyK L149 fun v150 s151 =>
 ((dOps (H := H) Tryd.prog).bop .eql 36 v150 (Go.Value.pointer none)).bind fun v152 =>
 ((dOps (H := H) Tryd.prog).boolO v152).bind fun b153 => cond b153 (
 some [((.bool false), s151)]) (
 ((dOps (H := H) Tryd.prog).buildSlice false s151 24 0 []).bind fun p154 =>
 iter (fun t s k => exec Tryd.prog false C n 5 none (cdp Tryd.f5 [1, 1, 1, 1, 1, 1, 1, 1, 0, 1, 0, 0]) t s k) (scratch (cdp Tryd.f5 [1, 1, 1, 1, 1, 1, 1, 1, 0, 1, 0, 0])) n (f5_l0_m v126 v134 v135 v139 v140 v150 a0 v126 v132 v126 v129 v132 v134 v135 v137 v126 v137 v139 v140 v134 v139 v142 v144 v135 v140 v145 v145 v150 v150 v152 p154.1 ((.bool false), p154.1, (Value.int IntKind.i64 0), undefV, undefV)) p154.2 (kBlock 0 (kSeq Tryd.prog false C n 5 none (cdp Tryd.f5 [1, 1, 1, 1, 1, 1, 1, 1, 1]) (kFun Tryd.prog Tryd.f5)))))) (
 none) := by kernel_rfl
  rw [h1]
  simp only [f5_l0_e, f5_l0_k]
  show _ = f5 (dOps (H := H) Tryd.prog) C n a0 s
  kernel_rfl
/-! tidepole/tidepolelaw08.few -/
noncomputable def f15 (O : Ops H) (C : OracleJ H) (n : Nat) (a0 : Value) (s : St H) : Option (List (Value × St H)) :=
 (O.buildSlice false s 24 0 []).bind fun p1 =>
 (O.len p1.2 24 a0).bind fun v2 =>
 (O.minO v2 [(Value.int IntKind.i64 300)]).bind fun v3 =>
 (O.slc p1.2 24 a0 none (some v3) none).bind fun v4 =>
 (O.append false p1.2 24 24 p1.1 v4).bind fun p5 =>
 some [(p5.1, p5.2)]
theorem f15_r (C : OracleJ H) (n : Nat) (a0 : Value) (s : St H) : bodyD Tryd.prog false C n 15 Tryd.f15 [a0] s = f15 (dOps (H := H) Tryd.prog) C n a0 s := by kernel_rfl
/-! tidepole/tidepoleref08.Put -/
def f16_l0_m (i0 i4 i5 i6 i12 i13 i14 i15 i16 i17 i18 i19 i20 i21 : Value) (x : Value × Value × Value × Value) : List Value := [i0, undefV, x.1, x.2.1, i4, i5, i6, x.2.2.1, dc, x.2.2.2, undefV, undefV, i12, i13, i14, i15, i16, i17, i18, i19, i20, i21, dc, dc, dc, dc, dc, dc, dc, dc, dc, dc, dc, dc, dc, dc, dc, dc, dc, dc, dc, dc, dc, dc, dc, dc, dc, dc, dc, dc, dc, dc, dc, undefV, undefV, undefV, undefV, undefV, undefV, undefV, undefV, undefV, undefV, undefV, undefV, undefV, undefV]
noncomputable def f16_l0 (O : Ops H) (C : OracleJ H) (n : Nat) (i0 i4 i5 i6 : Value) (nx : (Value × Value × Value × Value) → St H → Option (List (Value × St H))) (kx : Nat → (Value × Value × Value × Value) → St H → Option (List (Value × St H))) (kr : (Value × Value × Value × Value) → St H → Option (List (Value × St H))) (x : Value × Value × Value × Value) (s : St H) : Option (List (Value × St H)) :=
 (O.len s 24 i0).bind fun v17 =>
 (O.bop .lss 3 x.2.2.1 v17).bind fun v18 =>
 (O.boolO v18).bind fun b19 => cond b19 (
 (O.load s 79 i5).bind fun v20 =>
 (O.indexAddr 24 i0 x.2.2.1).bind fun v21 =>
 (O.fieldAddr 40 v21 0).bind fun v22 =>
 (O.load s 3 v22).bind fun v23 =>
 (oneO C (.fn 38) [i4, v20, v23] s).bind fun p24 =>
 (O.extract p24.1 0).bind fun v25 =>
 (O.extract p24.1 1).bind fun v26 =>
 (O.alloc p24.2 79).bind fun p27 =>
 (O.store p27.2 79 p27.1 v25).bind fun s28 =>
 bif (eqO H (O.load s 3 v22) v23 && (eqO H (O.load p24.2 3 v22) v23 && (true))) && ((eqO H (O.load s 79 i5) v20 && (eqO H (O.load p24.2 79 i5) v20 && (true))) && (true)) then
 (O.bop .neq 25 v26 (Value.int IntKind.i64 0)).bind fun v29 =>
 (O.boolO v29).bind fun b30 => cond b30 (
 kr ((fzV 2 #[]), (Value.int IntKind.i64 60), x.2.2.1, v26) s28) (
 (O.load s28 79 p27.1).bind fun v31 =>
 (O.store s28 79 i5 v31).bind fun s32 =>
 (O.load s32 81 i6).bind fun v33 =>
 (O.indexAddr 24 i0 x.2.2.1).bind fun v34 =>
 (O.fieldAddr 40 v34 1).bind fun v35 =>
 (O.load s32 38 v35).bind fun v36 =>
 (oneO C (.fn 39) [i4, v33, v36] s32).bind fun p37 =>
 (O.extract p37.1 0).bind fun v38 =>
 (O.extract p37.1 1).bind fun v39 =>
 (O.store p37.2 81 i6 v38).bind fun s40 =>
 (O.bop .add 3 x.2.2.1 (Value.int IntKind.i64 1)).bind fun v41 =>
 nx (x.1, x.2.1, v41, v26) s40)
 else none) (
 kx 0 (x.1, x.2.1, x.2.2.1, x.2.2.2) s)
theorem f16_l0_b (C : OracleJ H) (n : Nat) (i0 i4 i5 i6 i12 i13 i14 i15 i16 i17 i18 i19 i20 i21 : Value) (x : Value × Value × Value × Value) (s : St H) (nx : List Value → St H → Option (List (Value × St H))) (K : Ex → List Value → St H → Option (List (Value × St H))) :
 exec Tryd.prog false C n 16 none (cdp Tryd.f16 [1, 1, 1, 1, 1, 0, 1, 0, 0]) (f16_l0_m i0 i4 i5 i6 i12 i13 i14 i15 i16 i17 i18 i19 i20 i21 x) s (kIter (scratch (cdp Tryd.f16 [1, 1, 1, 1, 1, 0, 1, 0, 0])) nx K) = f16_l0 (dOps (H := H) Tryd.prog) C n i0 i4 i5 i6 (fun x s => nx (f16_l0_m i0 i4 i5 i6 i12 i13 i14 i15 i16 i17 i18 i19 i20 i21 x) s) (fun i x s => K (.exit i) (f16_l0_m i0 i4 i5 i6 i12 i13 i14 i15 i16 i17 i18 i19 i20 i21 x) s) (fun x s => K .ret (f16_l0_m i0 i4 i5 i6 i12 i13 i14 i15 i16 i17 i18 i19 i20 i21 x) s) x s := by kernel_rfl
theorem f16_l0_e (C : OracleJ H) (n : Nat) (i0 i4 i5 i6 i12 i13 i14 i15 i16 i17 i18 i19 i20 i21 : Value) (m : Nat) (x : Value × Value × Value × Value) (s : St H) (K : Ex → List Value → St H → Option (List (Value × St H))) :
 iter (fun t s k => exec Tryd.prog false C n 16 none (cdp Tryd.f16 [1, 1, 1, 1, 1, 0, 1, 0, 0]) t s k) (scratch (cdp Tryd.f16 [1, 1, 1, 1, 1, 0, 1, 0, 0])) m (f16_l0_m i0 i4 i5 i6 i12 i13 i14 i15 i16 i17 i18 i19 i20 i21 x) s K = iterS (f16_l0 (dOps (H := H) Tryd.prog) C n i0 i4 i5 i6) (fun i x s => K (.exit i) (f16_l0_m i0 i4 i5 i6 i12 i13 i14 i15 i16 i17 i18 i19 i20 i21 x) s) (fun x s => K .ret (f16_l0_m i0 i4 i5 i6 i12 i13 i14 i15 i16 i17 i18 i19 i20 i21 x) s) m x s :=
   iter_eq (f16_l0_m i0 i4 i5 i6 i12 i13 i14 i15 i16 i17 i18 i19 i20 i21) (f16_l0 (dOps (H := H) Tryd.prog) C n i0 i4 i5 i6) (fun x s nx K => f16_l0_b C n i0 i4 i5 i6 i12 i13 i14 i15 i16 i17 i18 i19 i20 i21 x s nx K) K m x s
noncomputable def f16 (O : Ops H) (C : OracleJ H) (n : Nat) (a0 : Value) (s : St H) : Option (List (Value × St H)) :=
 (O.len s 24 a0).bind fun v1 =>
 (O.bop .eql 3 v1 (Value.int IntKind.i64 0)).bind fun v2 =>
 (O.boolO v2).bind fun b3 => cond b3 (
 some [(.tuple #[(fzV 2 #[]), (Value.int IntKind.i64 2)], s)]) (
 (O.len s 24 a0).bind fun v4 =>
 (O.bop .gtr 3 v4 (Value.int IntKind.i64 120)).bind fun v5 =>
 (O.boolO v5).bind fun b6 => cond b6 (
 some [(.tuple #[(fzV 2 #[]), (Value.int IntKind.i64 4)], s)]) (
 (O.build 92 []).bind fun v7 =>
 (O.box s v7).bind fun p8 =>
 (O.build 79 []).bind fun v9 =>
 (C (.fn 34) [] p8.2).bind fun L10 => manyK L10 fun v11 s12 =>
 (O.alloc s12 79).bind fun p13 =>
 (O.alloc p13.2 81).bind fun p14 =>
 (O.store p14.2 79 p13.1 v9).bind fun s15 =>
 (O.store s15 81 p14.1 v11).bind fun s16 =>
 iterS (f16_l0 O C n a0 p8.1 p13.1 p14.1 )
 (fun i42 x43 s44 => (bif Nat.beq i42 0 then
 (C (.fn 40) [p8.1] s44).bind fun L47 => manyK L47 fun v48 s49 =>
 (O.len s49 24 a0).bind fun v50 =>
 (O.conv false s49 3 38 v50).bind fun p51 =>
 (C (.fn 41) [(fzV 2 #[]), p51.1] p51.2).bind fun L52 => manyK L52 fun v53 s54 =>
 (C (.fn 42) [v53, v48] s54).bind fun L55 => manyK L55 fun v56 s57 =>
 (O.extract v56 0).bind fun v58 =>
 (O.extract v56 1).bind fun v59 =>
 (C (.fn 43) [v58] s57).bind fun L60 => manyK L60 fun v61 s62 =>
 some [(.tuple #[v61, (Value.int IntKind.i64 0)], s62)] else none))
 (fun x45 s46 => some [(.tuple #[x45.1, x45.2.1], s46)]) n ((fzV 2 #[]), (Value.int IntKind.i64 0), (Value.int IntKind.i64 0), undefV) s16))
theorem f16_l0_k (C : OracleJ H) (n : Nat) (i0 i4 i5 i6 i12 i13 i14 i15 i16 i17 i18 i19 i20 i21 : Value) (i : Nat) (x : Value × Value × Value × Value) (s : St H) : (kBlock 0 (kSeq Tryd.prog false C n 16 none (cdp Tryd.f16 [1, 1, 1, 1, 1, 1]) (kFun Tryd.prog Tryd.f16))) (.exit i) (f16_l0_m i0 i4 i5 i6 i12 i13 i14 i15 i16 i17 i18 i19 i20 i21 x) s =
 (bif Nat.beq i 0 then
 (C (.fn 40) [i4] s).bind fun L95 => manyK L95 fun v96 s97 =>
 ((dOps (H := H) Tryd.prog).len s97 24 i0).bind fun v98 =>
 ((dOps (H := H) Tryd.prog).conv false s97 3 38 v98).bind fun p99 =>
 (C (.fn 41) [(fzV 2 #[]), p99.1] p99.2).bind fun L100 => manyK L100 fun v101 s102 =>
 (C (.fn 42) [v101, v96] s102).bind fun L103 => manyK L103 fun v104 s105 =>
 ((dOps (H := H) Tryd.prog).extract v104 0).bind fun v106 =>
 ((dOps (H := H) Tryd.prog).extract v104 1).bind fun v107 =>
 (C (.fn 43) [v106] s105).bind fun L108 => manyK L108 fun v109 s110 =>
 some [(.tuple #[v109, (Value.int IntKind.i64 0)], s110)] else none) := by kernel_rfl
theorem f16_r (C : OracleJ H) (n : Nat) (a0 : Value) (s : St H) : bodyD Tryd.prog false C n 16 Tryd.f16 [a0] s = f16 (dOps (H := H) Tryd.prog) C n a0 s := by
  have h1 : bodyD Tryd.prog false C n 16 Tryd.f16 [a0] s =
 ((dOps (H := H) Tryd.prog).len s 24 a0).bind fun v63 =>
 ((dOps (H := H) Tryd.prog).bop .eql 3 v63 (Value.int IntKind.i64 0)).bind fun v64 =>
 ((dOps (H := H) Tryd.prog).boolO v64).bind fun b65 => cond b65 (
 some [(.tuple #[(fzV 2 #[]), (Value.int IntKind.i64 2)], s)]) (
 ((dOps (H := H) Tryd.prog).len s 24 a0).bind fun v66 =>
 ((dOps (H := H) Tryd.prog).bop .gtr 3 v66 (Value.int IntKind.i64 120)).bind fun v67 =>
 ((dOps (H := H) Tryd.prog).boolO v67).bind fun b68 => cond b68 (
 some [(.tuple #[(fzV 2 #[]), (Value.int IntKind.i64 4)], s)]) (
 ((dOps (H := H) Tryd.prog).build 92 []).bind fun v69 =>
 ((dOps (H := H) Tryd.prog).box s v69).bind fun p70 =>
 ((dOps (H := H) Tryd.prog).build 79 []).bind fun v71 =>
 (C (.fn 34) [] p70.2).bind fun L72 => manyK L72 fun v73 s74 =>
 ((dOps (H := H) Tryd.prog).alloc s74 79).bind fun p75 =>
 ((dOps (H := H) Tryd.prog).alloc p75.2 81).bind fun p76 =>
 ((dOps (H := H) Tryd.prog).store p76.2 79 p75.1 v71).bind fun s77 =>
 ((dOps (H := H) Tryd.prog).store s77 81 p76.1 v73).bind fun s78 =>
 iter (fun t s k => exec Tryd.prog false C n 16 none (cdp Tryd.f16 [1, 1, 1, 1, 1, 0, 1, 0, 0]) t s k) (scratch (cdp Tryd.f16 [1, 1, 1, 1, 1, 0, 1, 0, 0])) n (f16_l0_m a0 p70.1 p75.1 p76.1 a0 v63 v64 a0 v66 v67 v69 p70.1 v71 v73 ((fzV 2 #[]), (Value.int IntKind.i64 0), (Value.int IntKind.i64 0), undefV)) s78 (kBlock 0 (kSeq Tryd.prog false C n 16 none (cdp Tryd.f16 [1, 1, 1, 1, 1, 1]) (kFun Tryd.prog Tryd.f16))))) := by kernel_rfl
  rw [h1]
  simp only [f16_l0_e, f16_l0_k]
  show _ = f16 (dOps (H := H) Tryd.prog) C n a0 s
  kernel_rfl
/-! (*tidepole/chunk.Builder).Len -/
noncomputable def f19 (O : Ops H) (C : OracleJ H) (n : Nat) (a0 : Value) (s : St H) : Option (List (Value × St H)) :=
 (C (.fn 46) [a0] s).bind fun L1 => manyK L1 fun v2 s3 =>
 (O.uop .not v2).bind fun v4 =>
 (O.boolO v4).bind fun b5 => cond b5 (
 some [((Value.int IntKind.i64 0), s3)]) (
 (O.nilCheck a0).bind fun v6 =>
 (O.fieldAddr 108 v6 0).bind fun v7 =>
 (O.fieldAddr 104 v7 0).bind fun v8 =>
 (O.fieldAddr 102 v8 0).bind fun v9 =>
 (O.load s3 3 v9).bind fun v10 =>
 some [(v10, s3)])
theorem f19_r (C : OracleJ H) (n : Nat) (a0 : Value) (s : St H) : bodyD Tryd.prog false C n 19 Tryd.f19 [a0] s = f19 (dOps (H := H) Tryd.prog) C n a0 s := by kernel_rfl
/-! tidepole/tidepoleref06.Put -/
def f38_l0_m (i0 i1 i2 i4 i6 i9 i10 i11 i12 i13 i18 i19 i20 i21 i22 i23 i24 i25 i26 i27 i28 i29 i30 i31 i32 i33 i34 i35 i36 i37 i38 i39 i41 i42 i43 i54 i55 i56 i57 i58 i59 i60 i61 i62 i63 i64 i65 i66 i67 i68 i69 i70 i71 i72 i73 i74 i75 : Value) (x : Value × Value × Value) : List Value := [i0, i1, i2, undefV, i4, undefV, i6, x.1, undefV, i9, i10, i11, i12, i13, x.2.1, x.2.2, undefV, undefV, i18, i19, i20, i21, i22, i23, i24, i25, i26, i27, i28, i29, i30, i31, i32, i33, i34, i35, i36, i37, i38, i39, undefV, i41, i42, i43, undefV, undefV, undefV, undefV, undefV, undefV, undefV, undefV, undefV, undefV, i54, i55, i56, i57, i58, i59, i60, i61, i62, i63, i64, i65, i66, i67, i68, i69, i70, i71, i72, i73, i74, i75, dc, dc, dc, dc, dc, dc, dc, dc, dc, dc, dc, undefV, undefV, undefV, undefV, undefV, undefV, undefV, undefV, undefV, undefV, undefV, undefV, undefV, undefV, undefV, undefV, undefV, undefV, undefV, undefV, undefV, undefV]
noncomputable def f38_l0 (O : Ops H) (C : OracleJ H) (n : Nat) (i0 i6 i12 i64 : Value) (nx : (Value × Value × Value) → St H → Option (List (Value × St H))) (kx : Nat → (Value × Value × Value) → St H → Option (List (Value × St H))) (kr : (Value × Value × Value) → St H → Option (List (Value × St H))) (x : Value × Value × Value) (s : St H) : Option (List (Value × St H)) :=
 (O.bop .lss 3 x.2.1 i12).bind fun v117 =>
 (O.boolO v117).bind fun b118 => cond b118 (
 (C (.fn 71) [i0, (Value.int IntKind.u64 1), (Value.int IntKind.i64 1)] s).bind fun L119 => manyK L119 fun v120 s121 =>
 (O.bop .neq 25 v120 (Value.int IntKind.i64 0)).bind fun v122 =>
 (O.boolO v122).bind fun b123 => cond b123 (
 (O.build 79 []).bind fun v124 =>
 (O.store s121 79 i6 v124).bind fun s125 =>
 kr (v120, x.2.1, v120) s125) (
 (O.bop .add 3 x.2.1 (Value.int IntKind.i64 1)).bind fun v126 =>
 nx (x.1, v126, v120) s121)) (
 kx 0 (x.1, x.2.1, x.2.2) s)
theorem f38_l0_b (C : OracleJ H) (n : Nat) (i0 i1 i2 i4 i6 i9 i10 i11 i12 i13 i18 i19 i20 i21 i22 i23 i24 i25 i26 i27 i28 i29 i30 i31 i32 i33 i34 i35 i36 i37 i38 i39 i41 i42 i43 i54 i55 i56 i57 i58 i59 i60 i61 i62 i63 i64 i65 i66 i67 i68 i69 i70 i71 i72 i73 i74 i75 : Value) (x : Value × Value × Value) (s : St H) (nx : List Value → St H → Option (List (Value × St H))) (K : Ex → List Value → St H → Option (List (Value × St H))) :
 exec Tryd.prog false C n 38 none (cdp Tryd.f38 [1, 1, 1, 1, 1, 1, 1, 1, 0, 1, 0, 0]) (f38_l0_m i0 i1 i2 i4 i6 i9 i10 i11 i12 i13 i18 i19 i20 i21 i22 i23 i24 i25 i26 i27 i28 i29 i30 i31 i32 i33 i34 i35 i36 i37 i38 i39 i41 i42 i43 i54 i55 i56 i57 i58 i59 i60 i61 i62 i63 i64 i65 i66 i67 i68 i69 i70 i71 i72 i73 i74 i75 x) s (kIter (scratch (cdp Tryd.f38 [1, 1, 1, 1, 1, 1, 1, 1, 0, 1, 0, 0])) nx K) = f38_l0 (dOps (H := H) Tryd.prog) C n i0 i6 i12 i64 (fun x s => nx (f38_l0_m i0 i1 i2 i4 i6 i9 i10 i11 i12 i13 i18 i19 i20 i21 i22 i23 i24 i25 i26 i27 i28 i29 i30 i31 i32 i33 i34 i35 i36 i37 i38 i39 i41 i42 i43 i54 i55 i56 i57 i58 i59 i60 i61 i62 i63 i64 i65 i66 i67 i68 i69 i70 i71 i72 i73 i74 i75 x) s) (fun i x s => K (.exit i) (f38_l0_m i0 i1 i2 i4 i6 i9 i10 i11 i12 i13 i18 i19 i20 i21 i22 i23 i24 i25 i26 i27 i28 i29 i30 i31 i32 i33 i34 i35 i36 i37 i38 i39 i41 i42 i43 i54 i55 i56 i57 i58 i59 i60 i61 i62 i63 i64 i65 i66 i67 i68 i69 i70 i71 i72 i73 i74 i75 x) s) (fun x s => K .ret (f38_l0_m i0 i1 i2 i4 i6 i9 i10 i11 i12 i13 i18 i19 i20 i21 i22 i23 i24 i25 i26 i27 i28 i29 i30 i31 i32 i33 i34 i35 i36 i37 i38 i39 i41 i42 i43 i54 i55 i56 i57 i58 i59 i60 i61 i62 i63 i64 i65 i66 i67 i68 i69 i70 i71 i72 i73 i74 i75 x) s) x s := by kernel_rfl
theorem f38_l0_e (C : OracleJ H) (n : Nat) (i0 i1 i2 i4 i6 i9 i10 i11 i12 i13 i18 i19 i20 i21 i22 i23 i24 i25 i26 i27 i28 i29 i30 i31 i32 i33 i34 i35 i36 i37 i38 i39 i41 i42 i43 i54 i55 i56 i57 i58 i59 i60 i61 i62 i63 i64 i65 i66 i67 i68 i69 i70 i71 i72 i73 i74 i75 : Value) (m : Nat) (x : Value × Value × Value) (s : St H) (K : Ex → List Value → St H → Option (List (Value × St H))) :
 iter (fun t s k => exec Tryd.prog false C n 38 none (cdp Tryd.f38 [1, 1, 1, 1, 1, 1, 1, 1, 0, 1, 0, 0]) t s k) (scratch (cdp Tryd.f38 [1, 1, 1, 1, 1, 1, 1, 1, 0, 1, 0, 0])) m (f38_l0_m i0 i1 i2 i4 i6 i9 i10 i11 i12 i13 i18 i19 i20 i21 i22 i23 i24 i25 i26 i27 i28 i29 i30 i31 i32 i33 i34 i35 i36 i37 i38 i39 i41 i42 i43 i54 i55 i56 i57 i58 i59 i60 i61 i62 i63 i64 i65 i66 i67 i68 i69 i70 i71 i72 i73 i74 i75 x) s K = iterS (f38_l0 (dOps (H := H) Tryd.prog) C n i0 i6 i12 i64) (fun i x s => K (.exit i) (f38_l0_m i0 i1 i2 i4 i6 i9 i10 i11 i12 i13 i18 i19 i20 i21 i22 i23 i24 i25 i26 i27 i28 i29 i30 i31 i32 i33 i34 i35 i36 i37 i38 i39 i41 i42 i43 i54 i55 i56 i57 i58 i59 i60 i61 i62 i63 i64 i65 i66 i67 i68 i69 i70 i71 i72 i73 i74 i75 x) s) (fun x s => K .ret (f38_l0_m i0 i1 i2 i4 i6 i9 i10 i11 i12 i13 i18 i19 i20 i21 i22 i23 i24 i25 i26 i27 i28 i29 i30 i31 i32 i33 i34 i35 i36 i37 i38 i39 i41 i42 i43 i54 i55 i56 i57 i58 i59 i60 i61 i62 i63 i64 i65 i66 i67 i68 i69 i70 i71 i72 i73 i74 i75 x) s) m x s :=
   iter_eq (f38_l0_m i0 i1 i2 i4 i6 i9 i10 i11 i12 i13 i18 i19 i20 i21 i22 i23 i24 i25 i26 i27 i28 i29 i30 i31 i32 i33 i34 i35 i36 i37 i38 i39 i41 i42 i43 i54 i55 i56 i57 i58 i59 i60 i61 i62 i63 i64 i65 i66 i67 i68 i69 i70 i71 i72 i73 i74 i75) (f38_l0 (dOps (H := H) Tryd.prog) C n i0 i6 i12 i64) (fun x s nx K => f38_l0_b C n i0 i1 i2 i4 i6 i9 i10 i11 i12 i13 i18 i19 i20 i21 i22 i23 i24 i25 i26 i27 i28 i29 i30 i31 i32 i33 i34 i35 i36 i37 i38 i39 i41 i42 i43 i54 i55 i56 i57 i58 i59 i60 i61 i62 i63 i64 i65 i66 i67 i68 i69 i70 i71 i72 i73 i74 i75 x s nx K) K m x s
noncomputable def f38 (O : Ops H) (C : OracleJ H) (n : Nat) (a0 : Value) (a1 : Value) (a2 : Value) (s : St H) : Option (List (Value × St H)) :=
 (O.box s a1).bind fun p1 =>
 (O.alloc p1.2 79).bind fun p2 =>
 jn (fun (j131_39 : Value) (js131 : St H) =>
 (O.boolO j131_39).bind fun b20 => cond b20 (
 (O.build 79 []).bind fun v21 =>
 (O.store js131 79 p2.1 v21).bind fun s22 =>
 (O.load s22 79 p2.1).bind fun v23 => some [(.tuple #[v23, (Value.int IntKind.i64 60)], s22)]) (
 (O.fieldAddr 79 p1.1 0).bind fun v24 =>
 (O.load js131 3 v24).bind fun v25 =>
 (O.bop .eql 3 v25 (Value.int IntKind.i64 0)).bind fun v26 =>
 (O.boolO v26).bind fun b27 => cond b27 (
 (O.conv false js131 3 38 a2).bind fun p28 =>
 (C (.fn 71) [a0, p28.1, (Value.int IntKind.i64 46)] p28.2).bind fun L29 => manyK L29 fun v30 s31 =>
 (O.bop .neq 25 v30 (Value.int IntKind.i64 0)).bind fun v32 =>
 (O.boolO v32).bind fun b33 => cond b33 (
 (O.build 79 []).bind fun v34 =>
 (O.store s31 79 p2.1 v34).bind fun s35 =>
 (O.load s35 79 p2.1).bind fun v36 => some [(.tuple #[v36, v30], s35)]) (
 (O.build 79 [(0, (Value.int IntKind.i64 1)), (1, a2), (2, (Value.int IntKind.i64 0))]).bind fun v37 =>
 (O.store s31 79 p2.1 v37).bind fun s38 =>
 (O.load s38 79 p2.1).bind fun v39 => some [(.tuple #[v39, (Value.int IntKind.i64 0)], s38)])) (
 (O.fieldAddr 79 p1.1 1).bind fun v40 =>
 (O.load js131 3 v40).bind fun v41 =>
 (O.bop .sub 3 a2 v41).bind fun v42 =>
 (O.fieldAddr 79 p1.1 2).bind fun v43 =>
 (O.load js131 3 v43).bind fun v44 =>
 (O.bop .sub 3 v42 v44).bind fun v45 =>
 (O.bop .mul 3 (Value.int IntKind.i64 2) v45).bind fun v46 =>
 (O.conv false js131 3 38 v46).bind fun p47 =>
 (O.bop .lss 3 v45 (Value.int IntKind.i64 0)).bind fun v48 =>
 jn (fun (j146_11 : Value) (js146 : St H) =>
 (C (.fn 68) [j146_11] js146).bind fun L112 => manyK L112 fun v113 s114 =>
 (O.extract v113 0).bind fun v115 =>
 (O.extract v113 1).bind fun v116 =>
 iterS (f38_l0 O C n a0 p2.1 v115 p47.1 )
 (fun i127 x128 s129 => (bif Nat.beq i127 0 then
 (O.bop .lss 3 v115 (Value.int IntKind.i64 4)).bind fun v133 =>
 jn (fun (js187 : St H) =>
 (C (.fn 71) [a0, j146_11, v116] js187).bind fun L157 => manyK L157 fun v158 s159 =>
 (O.bop .neq 25 v158 (Value.int IntKind.i64 0)).bind fun v160 =>
 (O.boolO v160).bind fun b161 => cond b161 (
 (O.build 79 []).bind fun v162 =>
 (O.store s159 79 p2.1 v162).bind fun s163 =>
 (O.load s163 79 p2.1).bind fun v164 => some [(.tuple #[v164, v158], s163)]) (
 (O.fieldAddr 79 p1.1 0).bind fun v165 =>
 (O.load s159 3 v165).bind fun v166 =>
 (O.bop .add 3 v166 (Value.int IntKind.i64 1)).bind fun v167 =>
 (O.build 79 [(0, v167), (1, a2), (2, v42)]).bind fun v168 =>
 (O.store s159 79 p2.1 v168).bind fun s169 =>
 (O.load s169 79 p2.1).bind fun v170 => some [(.tuple #[v170, (Value.int IntKind.i64 0)], s169)])) fun k187 =>
 (O.boolO v133).bind fun b134 => cond b134 (
 (C (.fn 71) [a0, (Value.int IntKind.u64 0), (Value.int IntKind.i64 1)] s129).bind fun L135 => manyK L135 fun v136 s137 =>
 (O.bop .neq 25 v136 (Value.int IntKind.i64 0)).bind fun v138 =>
 (O.boolO v138).bind fun b139 => cond b139 (
 (O.build 79 []).bind fun v140 =>
 (O.store s137 79 p2.1 v140).bind fun s141 =>
 (O.load s141 79 p2.1).bind fun v142 => some [(.tuple #[v142, v136], s141)]) (
 k187 s137)) (
 k187 s129) else none))
 (fun x130 s131 => (O.load s131 79 p2.1).bind fun v132 => some [(.tuple #[v132, x130.1], s131)]) n ((Value.int IntKind.i64 0), (Value.int IntKind.i64 0), undefV) s114) fun k146 =>
 (O.boolO v48).bind fun b49 => cond b49 (
 (O.bop .mul 3 (Value.int IntKind.i64 (-2)) v45).bind fun v50 =>
 (O.bop .sub 3 v50 (Value.int IntKind.i64 1)).bind fun v51 =>
 (O.conv false p47.2 3 38 v51).bind fun p52 =>
 k146 p52.1 p52.2) (
 k146 p47.1 p47.2)))) fun k131 =>
 (O.load p2.2 79 p1.1).bind fun v3 =>
 (C (.fn 67) [v3] p2.2).bind fun L4 => manyK L4 fun v5 s6 =>
 (O.uop .not v5).bind fun v7 =>
 gd v7 (
 k131 (.bool true) s6) (
 (O.bop .lss 3 a2 (Value.int IntKind.i64 0)).bind fun v8 =>
 gd v8 (
 k131 (.bool true) s6) (
 (O.bop .gtr 3 a2 (Value.int IntKind.i64 35184372088832)).bind fun v9 =>
 gd v9 (
 k131 (.bool true) s6) (
 (O.fieldAddr 79 p1.1 0).bind fun v10 =>
 (O.load s6 3 v10).bind fun v11 =>
 (O.bop .gtr 3 v11 (Value.int IntKind.i64 0)).bind fun v12 =>
 gd v12 (
 (O.fieldAddr 79 p1.1 1).bind fun v13 =>
 (O.load s6 3 v13).bind fun v14 =>
 (O.bop .leq 3 a2 v14).bind fun v15 =>
 k131 v15 s6) (
 k131 (.bool false) s6) (
 none)) (
 none)) (
 none)) (
 none)
theorem f38_r (C : OracleJ H) (n : Nat) (a0 : Value) (a1 : Value) (a2 : Value) (s : St H) : bodyD Tryd.prog false C n 38 Tryd.f38 [a0, a1, a2] s = f38 (dOps (H := H) Tryd.prog) C n a0 a1 a2 s := by
  have h1 : bodyD Tryd.prog false C n 38 Tryd.f38 [a0, a1, a2] s =
 ((dOps (H := H) Tryd.prog).box s a1).bind fun p171 =>
 ((dOps (H := H) Tryd.prog).alloc p171.2 79).bind fun p172 =>
 jn (fun (j203_18 : Value) (j203_19 : Value) (j203_20 : Value) (j203_21 : Value) (j203_22 : Value) (j203_23 : Value) (j203_24 : Value) (j203_25 : Value) (j203_26 : Value) (j203_27 : Value) (j203_28 : Value) (j203_29 : Value) (j203_30 : Value) (j203_31 : Value) (j203_32 : Value) (j203_33 : Value) (j203_34 : Value) (j203_35 : Value) (j203_36 : Value) (j203_37 : Value) (j203_38 : Value) (j203_39 : Value) (js203 : St H) =>
 ((dOps (H := H) Tryd.prog).boolO j203_39).bind fun b190 => cond b190 (
 ((dOps (H := H) Tryd.prog).build 79 []).bind fun v191 =>
 ((dOps (H := H) Tryd.prog).store js203 79 p172.1 v191).bind fun s192 =>
 ((dOps (H := H) Tryd.prog).load s192 79 p172.1).bind fun v193 => some [(.tuple #[v193, (Value.int IntKind.i64 60)], s192)]) (
 ((dOps (H := H) Tryd.prog).fieldAddr 79 p171.1 0).bind fun v194 =>
 ((dOps (H := H) Tryd.prog).load js203 3 v194).bind fun v195 =>
 ((dOps (H := H) Tryd.prog).bop .eql 3 v195 (Value.int IntKind.i64 0)).bind fun v196 =>
 ((dOps (H := H) Tryd.prog).boolO v196).bind fun b197 => cond b197 (
 ((dOps (H := H) Tryd.prog).conv false js203 3 38 a2).bind fun p198 =>
 (C (.fn 71) [a0, p198.1, (Value.int IntKind.i64 46)] p198.2).bind fun L199 => manyK L199 fun v200 s201 =>
 ((dOps (H := H) Tryd.prog).bop .neq 25 v200 (Value.int IntKind.i64 0)).bind fun v202 =>
 ((dOps (H := H) Tryd.prog).boolO v202).bind fun b203 => cond b203 (
 ((dOps (H := H) Tryd.prog).build 79 []).bind fun v204 =>
 ((dOps (H := H) Tryd.prog).store s201 79 p172.1 v204).bind fun s205 =>
 ((dOps (H := H) Tryd.prog).load s205 79 p172.1).bind fun v206 => some [(.tuple #[v206, v200], s205)]) (
 ((dOps (H := H) Tryd.prog).build 79 [(0, (Value.int IntKind.i64 1)), (1, a2), (2, (Value.int IntKind.i64 0))]).bind fun v207 =>
 ((dOps (H := H) Tryd.prog).store s201 79 p172.1 v207).bind fun s208 =>
 ((dOps (H := H) Tryd.prog).load s208 79 p172.1).bind fun v209 => some [(.tuple #[v209, (Value.int IntKind.i64 0)], s208)])) (
 ((dOps (H := H) Tryd.prog).fieldAddr 79 p171.1 1).bind fun v210 =>
 ((dOps (H := H) Tryd.prog).load js203 3 v210).bind fun v211 =>
 ((dOps (H := H) Tryd.prog).bop .sub 3 a2 v211).bind fun v212 =>
 ((dOps (H := H) Tryd.prog).fieldAddr 79 p171.1 2).bind fun v213 =>
 ((dOps (H := H) Tryd.prog).load js203 3 v213).bind fun v214 =>
 ((dOps (H := H) Tryd.prog).bop .sub 3 v212 v214).bind fun v215 =>
 ((dOps (H := H) Tryd.prog).bop .mul 3 (Value.int IntKind.i64 2) v215).bind fun v216 =>
 ((dOps (H := H) Tryd.prog).conv false js203 3 38 v216).bind fun p217 =>
 ((dOps (H := H) Tryd.prog).bop .lss 3 v215 (Value.int IntKind.i64 0)).bind fun v218 =>
 jn (fun (j218_11 : Value) (j218_67 : Value) (j218_68 : Value) (j218_69 : Value) (j218_70 : Value) (js218 : St H) =>
 (C (.fn 68) [j218_11] js218).bind fun L304 => manyK L304 fun v305 s306 =>
 ((dOps (H := H) Tryd.prog).extract v305 0).bind fun v307 =>
 ((dOps (H := H) Tryd.prog).extract v305 1).bind fun v308 =>
 iter (fun t s k => exec Tryd.prog false C n 38 none (cdp Tryd.f38 [1, 1, 1, 1, 1, 1, 1, 1, 0, 1, 0, 0]) t s k) (scratch (cdp Tryd.f38 [1, 1, 1, 1, 1, 1, 1, 1, 0, 1, 0, 0])) n (f38_l0_m a0 a1 a2 p171.1 p172.1 v212 v215 j218_11 v307 v308 j203_18 j203_19 j203_20 j203_21 j203_22 j203_23 j203_24 j203_25 j203_26 j203_27 j203_28 j203_29 j203_30 j203_31 j203_32 j203_33 j203_34 j203_35 j203_36 j203_37 j203_38 j203_39 v194 v195 v196 a2 v210 v211 v212 v212 v213 v214 v215 v215 v216 p217.1 v215 v218 j218_67 j218_68 j218_69 j218_70 v305 j218_11 v305 v307 v308 ((Value.int IntKind.i64 0), (Value.int IntKind.i64 0), undefV)) s306 (kBlock 0 (kSeq Tryd.prog false C n 38 none (cdp Tryd.f38 [1, 1, 1, 1, 1, 1, 1, 1, 1]) (kFun Tryd.prog Tryd.f38)))) fun k218 =>
 ((dOps (H := H) Tryd.prog).boolO v218).bind fun b219 => cond b219 (
 ((dOps (H := H) Tryd.prog).bop .mul 3 (Value.int IntKind.i64 (-2)) v215).bind fun v220 =>
 ((dOps (H := H) Tryd.prog).bop .sub 3 v220 (Value.int IntKind.i64 1)).bind fun v221 =>
 ((dOps (H := H) Tryd.prog).conv false p217.2 3 38 v221).bind fun p222 =>
 k218 p222.1 v215 v220 v221 p222.1 p222.2) (
 k218 p217.1 undefV undefV undefV undefV p217.2)))) fun k203 =>
 ((dOps (H := H) Tryd.prog).load p172.2 79 p171.1).bind fun v173 =>
 (C (.fn 67) [v173] p172.2).bind fun L174 => manyK L174 fun v175 s176 =>
 ((dOps (H := H) Tryd.prog).uop .not v175).bind fun v177 =>
 gd v177 (
 k203 v173 v175 v177 (.bool true) undefV undefV (.bool true) (.bool true) undefV undefV (.bool true) (.bool true) undefV undefV undefV undefV undefV undefV undefV undefV undefV (.bool true) s176) (
 ((dOps (H := H) Tryd.prog).bop .lss 3 a2 (Value.int IntKind.i64 0)).bind fun v178 =>
 gd v178 (
 k203 v173 v175 v177 (.bool false) a2 v178 v178 (.bool true) undefV undefV (.bool true) (.bool true) undefV undefV undefV undefV undefV undefV undefV undefV undefV (.bool true) s176) (
 ((dOps (H := H) Tryd.prog).bop .gtr 3 a2 (Value.int IntKind.i64 35184372088832)).bind fun v179 =>
 gd v179 (
 k203 v173 v175 v177 (.bool false) a2 v178 v178 (.bool false) a2 v179 v179 (.bool true) undefV undefV undefV undefV undefV undefV undefV undefV undefV (.bool true) s176) (
 ((dOps (H := H) Tryd.prog).fieldAddr 79 p171.1 0).bind fun v180 =>
 ((dOps (H := H) Tryd.prog).load s176 3 v180).bind fun v181 =>
 ((dOps (H := H) Tryd.prog).bop .gtr 3 v181 (Value.int IntKind.i64 0)).bind fun v182 =>
 gd v182 (
 ((dOps (H := H) Tryd.prog).fieldAddr 79 p171.1 1).bind fun v183 =>
 ((dOps (H := H) Tryd.prog).load s176 3 v183).bind fun v184 =>
 ((dOps (H := H) Tryd.prog).bop .leq 3 a2 v184).bind fun v185 =>
 k203 v173 v175 v177 (.bool false) a2 v178 v178 (.bool false) a2 v179 v179 (.bool false) v180 v181 v182 (.bool true) a2 v183 v184 v185 v185 v185 s176) (
 k203 v173 v175 v177 (.bool false) a2 v178 v178 (.bool false) a2 v179 v179 (.bool false) v180 v181 v182 (.bool false) undefV undefV undefV undefV (.bool false) (.bool false) s176) (
 none)) (
 none)) (
 none)) (
 none) := by kernel_rfl
  rw [h1]
  simp only [f38_l0_e]
  show _ = f38 (dOps (H := H) Tryd.prog) C n a0 a1 a2 s
  kernel_rfl
/-! tidepole/tidepoleref07.Put -/
def f39_l0_m (i0 i1 i2 i4 i6 i8 i12 i13 i14 i17 i18 i19 i21 i22 i23 i24 i25 i26 i27 i28 i29 i30 i31 i32 i41 i42 i43 i44 i45 i46 i54 i55 i56 i57 i58 i59 i60 i61 i62 i63 i64 i65 i66 i67 i68 i69 i70 i71 i72 i73 i74 i75 i76 i77 i78 i79 i80 i81 i82 i83 i84 i85 i86 i87 i88 i89 i90 i91 i92 i93 : Value) (x : Value × Value) : List Value := [i0, i1, i2, undefV, i4, undefV, i6, (Value.int IntKind.i64 0), i8, undefV, x.1, undefV, i12, i13, i14, x.2, undefV, i17, i18, i19, undefV, i21, i22, i23, i24, i25, i26, i27, i28, i29, i30, i31, i32, undefV, undefV, undefV, undefV, undefV, undefV, undefV, undefV, i41, i42, i43, i44, i45, i46, undefV, undefV, undefV, undefV, undefV, undefV, undefV, i54, i55, i56, i57, i58, i59, i60, i61, i62, i63, i64, i65, i66, i67, i68, i69, i70, i71, i72, i73, i74, i75, i76, i77, i78, i79, i80, i81, i82, i83, i84, i85, i86, i87, i88, i89, i90, i91, i92, i93, undefV, undefV, dc, dc, dc, dc, dc, dc, dc, dc, undefV, undefV, undefV, undefV, undefV, undefV, undefV, undefV, undefV, undefV, undefV, undefV, undefV, undefV]
noncomputable def f39_l0 (O : Ops H) (C : OracleJ H) (n : Nat) (i8 i64 : Value) (nx : (Value × Value) → St H → Option (List (Value × St H))) (kx : Nat → (Value × Value) → St H → Option (List (Value × St H))) (kr : (Value × Value) → St H → Option (List (Value × St H))) (x : Value × Value) (s : St H) : Option (List (Value × St H)) :=
 (O.fieldAddr 81 i8 3).bind fun v210 =>
 (O.load s 3 v210).bind fun v211 =>
 (O.bop .lss 3 x.2 v211).bind fun v212 =>
 (O.boolO v212).bind fun b213 => cond b213 (
 (O.bop .quo 38 x.1 (Value.int IntKind.u64 2)).bind fun v214 =>
 (O.bop .add 3 x.2 (Value.int IntKind.i64 1)).bind fun v215 =>
 nx (v214, v215) s) (
 kx 0 (x.1, x.2) s)
theorem f39_l0_b (C : OracleJ H) (n : Nat) (i0 i1 i2 i4 i6 i8 i12 i13 i14 i17 i18 i19 i21 i22 i23 i24 i25 i26 i27 i28 i29 i30 i31 i32 i41 i42 i43 i44 i45 i46 i54 i55 i56 i57 i58 i59 i60 i61 i62 i63 i64 i65 i66 i67 i68 i69 i70 i71 i72 i73 i74 i75 i76 i77 i78 i79 i80 i81 i82 i83 i84 i85 i86 i87 i88 i89 i90 i91 i92 i93 : Value) (x : Value × Value) (s : St H) (nx : List Value → St H → Option (List (Value × St H))) (K : Ex → List Value → St H → Option (List (Value × St H))) :
 exec Tryd.prog false C n 39 none (cdp Tryd.f39 [1, 1, 1, 1, 1, 1, 1, 1, 1, 1, 0, 1, 0, 0]) (f39_l0_m i0 i1 i2 i4 i6 i8 i12 i13 i14 i17 i18 i19 i21 i22 i23 i24 i25 i26 i27 i28 i29 i30 i31 i32 i41 i42 i43 i44 i45 i46 i54 i55 i56 i57 i58 i59 i60 i61 i62 i63 i64 i65 i66 i67 i68 i69 i70 i71 i72 i73 i74 i75 i76 i77 i78 i79 i80 i81 i82 i83 i84 i85 i86 i87 i88 i89 i90 i91 i92 i93 x) s (kIter (scratch (cdp Tryd.f39 [1, 1, 1, 1, 1, 1, 1, 1, 1, 1, 0, 1, 0, 0])) nx K) = f39_l0 (dOps (H := H) Tryd.prog) C n i8 i64 (fun x s => nx (f39_l0_m i0 i1 i2 i4 i6 i8 i12 i13 i14 i17 i18 i19 i21 i22 i23 i24 i25 i26 i27 i28 i29 i30 i31 i32 i41 i42 i43 i44 i45 i46 i54 i55 i56 i57 i58 i59 i60 i61 i62 i63 i64 i65 i66 i67 i68 i69 i70 i71 i72 i73 i74 i75 i76 i77 i78 i79 i80 i81 i82 i83 i84 i85 i86 i87 i88 i89 i90 i91 i92 i93 x) s) (fun i x s => K (.exit i) (f39_l0_m i0 i1 i2 i4 i6 i8 i12 i13 i14 i17 i18 i19 i21 i22 i23 i24 i25 i26 i27 i28 i29 i30 i31 i32 i41 i42 i43 i44 i45 i46 i54 i55 i56 i57 i58 i59 i60 i61 i62 i63 i64 i65 i66 i67 i68 i69 i70 i71 i72 i73 i74 i75 i76 i77 i78 i79 i80 i81 i82 i83 i84 i85 i86 i87 i88 i89 i90 i91 i92 i93 x) s) (fun x s => K .ret (f39_l0_m i0 i1 i2 i4 i6 i8 i12 i13 i14 i17 i18 i19 i21 i22 i23 i24 i25 i26 i27 i28 i29 i30 i31 i32 i41 i42 i43 i44 i45 i46 i54 i55 i56 i57 i58 i59 i60 i61 i62 i63 i64 i65 i66 i67 i68 i69 i70 i71 i72 i73 i74 i75 i76 i77 i78 i79 i80 i81 i82 i83 i84 i85 i86 i87 i88 i89 i90 i91 i92 i93 x) s) x s := by kernel_rfl
theorem f39_l0_e (C : OracleJ H) (n : Nat) (i0 i1 i2 i4 i6 i8 i12 i13 i14 i17 i18 i19 i21 i22 i23 i24 i25 i26 i27 i28 i29 i30 i31 i32 i41 i42 i43 i44 i45 i46 i54 i55 i56 i57 i58 i59 i60 i61 i62 i63 i64 i65 i66 i67 i68 i69 i70 i71 i72 i73 i74 i75 i76 i77 i78 i79 i80 i81 i82 i83 i84 i85 i86 i87 i88 i89 i90 i91 i92 i93 : Value) (m : Nat) (x : Value × Value) (s : St H) (K : Ex → List Value → St H → Option (List (Value × St H))) :
 iter (fun t s k => exec Tryd.prog false C n 39 none (cdp Tryd.f39 [1, 1, 1, 1, 1, 1, 1, 1, 1, 1, 0, 1, 0, 0]) t s k) (scratch (cdp Tryd.f39 [1, 1, 1, 1, 1, 1, 1, 1, 1, 1, 0, 1, 0, 0])) m (f39_l0_m i0 i1 i2 i4 i6 i8 i12 i13 i14 i17 i18 i19 i21 i22 i23 i24 i25 i26 i27 i28 i29 i30 i31 i32 i41 i42 i43 i44 i45 i46 i54 i55 i56 i57 i58 i59 i60 i61 i62 i63 i64 i65 i66 i67 i68 i69 i70 i71 i72 i73 i74 i75 i76 i77 i78 i79 i80 i81 i82 i83 i84 i85 i86 i87 i88 i89 i90 i91 i92 i93 x) s K = iterS (f39_l0 (dOps (H := H) Tryd.prog) C n i8 i64) (fun i x s => K (.exit i) (f39_l0_m i0 i1 i2 i4 i6 i8 i12 i13 i14 i17 i18 i19 i21 i22 i23 i24 i25 i26 i27 i28 i29 i30 i31 i32 i41 i42 i43 i44 i45 i46 i54 i55 i56 i57 i58 i59 i60 i61 i62 i63 i64 i65 i66 i67 i68 i69 i70 i71 i72 i73 i74 i75 i76 i77 i78 i79 i80 i81 i82 i83 i84 i85 i86 i87 i88 i89 i90 i91 i92 i93 x) s) (fun x s => K .ret (f39_l0_m i0 i1 i2 i4 i6 i8 i12 i13 i14 i17 i18 i19 i21 i22 i23 i24 i25 i26 i27 i28 i29 i30 i31 i32 i41 i42 i43 i44 i45 i46 i54 i55 i56 i57 i58 i59 i60 i61 i62 i63 i64 i65 i66 i67 i68 i69 i70 i71 i72 i73 i74 i75 i76 i77 i78 i79 i80 i81 i82 i83 i84 i85 i86 i87 i88 i89 i90 i91 i92 i93 x) s) m x s :=
   iter_eq (f39_l0_m i0 i1 i2 i4 i6 i8 i12 i13 i14 i17 i18 i19 i21 i22 i23 i24 i25 i26 i27 i28 i29 i30 i31 i32 i41 i42 i43 i44 i45 i46 i54 i55 i56 i57 i58 i59 i60 i61 i62 i63 i64 i65 i66 i67 i68 i69 i70 i71 i72 i73 i74 i75 i76 i77 i78 i79 i80 i81 i82 i83 i84 i85 i86 i87 i88 i89 i90 i91 i92 i93) (f39_l0 (dOps (H := H) Tryd.prog) C n i8 i64) (fun x s nx K => f39_l0_b C n i0 i1 i2 i4 i6 i8 i12 i13 i14 i17 i18 i19 i21 i22 i23 i24 i25 i26 i27 i28 i29 i30 i31 i32 i41 i42 i43 i44 i45 i46 i54 i55 i56 i57 i58 i59 i60 i61 i62 i63 i64 i65 i66 i67 i68 i69 i70 i71 i72 i73 i74 i75 i76 i77 i78 i79 i80 i81 i82 i83 i84 i85 i86 i87 i88 i89 i90 i91 i92 i93 x s nx K) K m x s
noncomputable def f39 (O : Ops H) (C : OracleJ H) (n : Nat) (a0 : Value) (a1 : Value) (a2 : Value) (s : St H) : Option (List (Value × St H)) :=
 (O.box s a1).bind fun p1 =>
 (O.alloc p1.2 81).bind fun p2 =>
 (O.load p2.2 81 p1.1).bind fun v3 =>
 (C (.fn 69) [v3] p2.2).bind fun L4 => manyK L4 fun v5 s6 =>
 (O.uop .not v5).bind fun v7 =>
 (O.boolO v7).bind fun b8 => cond b8 (
 (O.build 81 []).bind fun v9 =>
 (O.store s6 81 p2.1 v9).bind fun s10 =>
 (O.load s10 81 p2.1).bind fun v11 => some [(.tuple #[v11, (Value.int IntKind.i64 2)], s10)]) (
 (O.fieldAddr 81 p1.1 0).bind fun v12 =>
 (O.load s6 3 v12).bind fun v13 =>
 (O.bop .add 3 v13 (Value.int IntKind.i64 1)).bind fun v14 =>
 (O.fieldAddr 81 p1.1 2).bind fun v15 =>
 (O.load s6 3 v15).bind fun v16 =>
 (O.fieldAddr 81 p1.1 3).bind fun v17 =>
 (O.load s6 3 v17).bind fun v18 =>
 (O.build 81 [(0, v14), (1, a2), (2, v16), (3, v18)]).bind fun v19 =>
 (O.alloc s6 81).bind fun p20 =>
 (O.store p20.2 81 p20.1 v19).bind fun s21 =>
 (O.fieldAddr 81 p1.1 0).bind fun v22 =>
 (O.load s21 3 v22).bind fun v23 =>
 (O.bop .eql 3 v23 (Value.int IntKind.i64 0)).bind fun v24 =>
 (O.boolO v24).bind fun b25 => cond b25 (
 (C (.fn 71) [a0, a2, (Value.int IntKind.i64 64)] s21).bind fun L26 => manyK L26 fun v27 s28 =>
 (O.bop .neq 25 v27 (Value.int IntKind.i64 0)).bind fun v29 =>
 (O.boolO v29).bind fun b30 => cond b30 (
 (O.build 81 []).bind fun v31 =>
 (O.store s28 81 p2.1 v31).bind fun s32 =>
 (O.load s32 81 p2.1).bind fun v33 => some [(.tuple #[v33, v27], s32)]) (
 (O.load s28 81 p20.1).bind fun v34 =>
 (O.store s28 81 p2.1 v34).bind fun s35 =>
 (O.load s35 81 p2.1).bind fun v36 => some [(.tuple #[v36, (Value.int IntKind.i64 0)], s35)])) (
 (O.fieldAddr 81 p1.1 1).bind fun v37 =>
 (O.load s21 38 v37).bind fun v38 =>
 (O.bop .xor 38 a2 v38).bind fun v39 =>
 (O.bop .eql 38 v39 (Value.int IntKind.u64 0)).bind fun v40 =>
 (O.boolO v40).bind fun b41 => cond b41 (
 (C (.fn 71) [a0, (Value.int IntKind.u64 0), (Value.int IntKind.i64 1)] s21).bind fun L42 => manyK L42 fun v43 s44 =>
 (O.bop .neq 25 v43 (Value.int IntKind.i64 0)).bind fun v45 =>
 (O.boolO v45).bind fun b46 => cond b46 (
 (O.build 81 []).bind fun v47 =>
 (O.store s44 81 p2.1 v47).bind fun s48 =>
 (O.load s48 81 p2.1).bind fun v49 => some [(.tuple #[v49, v43], s48)]) (
 (O.load s44 81 p20.1).bind fun v50 =>
 (O.store s44 81 p2.1 v50).bind fun s51 =>
 (O.load s51 81 p2.1).bind fun v52 => some [(.tuple #[v52, (Value.int IntKind.i64 0)], s51)])) (
 (C (.fn 70) [v39] s21).bind fun L53 => manyK L53 fun v54 s55 =>
 (O.extract v54 0).bind fun v56 =>
 (O.extract v54 1).bind fun v57 =>
 jn (fun (j280_64 : Value) (j280_73 : Value) =>
 jn (fun (j315_14 : Value) (js315 : St H) =>
 (O.bop .neq 25 j315_14 (Value.int IntKind.i64 0)).bind fun v205 =>
 (O.boolO v205).bind fun b206 => cond b206 (
 (O.build 81 []).bind fun v207 =>
 (O.store js315 81 p2.1 v207).bind fun s208 =>
 (O.load s208 81 p2.1).bind fun v209 => some [(.tuple #[v209, j315_14], s208)]) (
 iterS (f39_l0 O C n p20.1 j280_64 )
 (fun i216 x217 s218 => (bif Nat.beq i216 0 then
 (O.fieldAddr 81 p20.1 2).bind fun v222 =>
 (O.load s218 3 v222).bind fun v223 =>
 (O.bop .sub 3 (Value.int IntKind.i64 64) v223).bind fun v224 =>
 (O.fieldAddr 81 p20.1 3).bind fun v225 =>
 (O.load s218 3 v225).bind fun v226 =>
 (O.bop .sub 3 v224 v226).bind fun v227 =>
 (C (.fn 71) [a0, x217.1, v227] s218).bind fun L228 => manyK L228 fun v229 s230 =>
 (O.bop .neq 25 v229 (Value.int IntKind.i64 0)).bind fun v231 =>
 (O.boolO v231).bind fun b232 => cond b232 (
 (O.build 81 []).bind fun v233 =>
 (O.store s230 81 p2.1 v233).bind fun s234 =>
 (O.load s234 81 p2.1).bind fun v235 => some [(.tuple #[v235, v229], s234)]) (
 (O.load s230 81 p20.1).bind fun v236 =>
 (O.store s230 81 p2.1 v236).bind fun s237 =>
 (O.load s237 81 p2.1).bind fun v238 => some [(.tuple #[v238, (Value.int IntKind.i64 0)], s237)]) else none))
 (fun x219 s220 => (O.load s220 81 p2.1).bind fun v221 => some [(.tuple #[v221, (Value.int IntKind.i64 0)], s220)]) n (v39, (Value.int IntKind.i64 0)) js315)) fun k315 =>
 (O.boolO j280_73).bind fun b153 => cond b153 (
 (C (.fn 71) [a0, (Value.int IntKind.u64 2), (Value.int IntKind.i64 2)] s55).bind fun L154 => manyK L154 fun v155 s156 =>
 k315 v155 s156) (
 (O.bop .mul 3 (Value.int IntKind.i64 64) v56).bind fun v157 =>
 (O.bop .add 3 (Value.int IntKind.i64 12288) v157).bind fun v158 =>
 (O.bop .add 3 v158 (Value.int IntKind.i64 64)).bind fun v159 =>
 (O.bop .sub 3 v159 v56).bind fun v160 =>
 (O.bop .sub 3 v160 v57).bind fun v161 =>
 (O.bop .sub 3 v161 (Value.int IntKind.i64 1)).bind fun v162 =>
 (O.conv false s55 3 38 v162).bind fun p163 =>
 (C (.fn 71) [a0, p163.1, (Value.int IntKind.i64 14)] p163.2).bind fun L164 => manyK L164 fun v165 s166 =>
 (O.fieldAddr 81 p20.1 2).bind fun v167 =>
 (O.store s166 3 v167 v56).bind fun s168 =>
 (O.fieldAddr 81 p20.1 3).bind fun v169 =>
 (O.store s168 3 v169 v57).bind fun s170 =>
 k315 v165 s170)) fun k280 =>
 (O.fieldAddr 81 p1.1 2).bind fun v58 =>
 (O.load s55 3 v58).bind fun v59 =>
 (O.bop .lss 3 v59 (Value.int IntKind.i64 64)).bind fun v60 =>
 gd v60 (
 (O.fieldAddr 81 p1.1 2).bind fun v61 =>
 (O.load s55 3 v61).bind fun v62 =>
 (O.bop .geq 3 v56 v62).bind fun v63 =>
 gd v63 (
 (O.fieldAddr 81 p1.1 3).bind fun v64 =>
 (O.load s55 3 v64).bind fun v65 =>
 (O.bop .geq 3 v57 v65).bind fun v66 =>
 k280 v61 v66) (
 k280 v61 (.bool false)) (
 none)) (
 k280 undefV (.bool false)) (
 none))))
theorem f39_l0_k (C : OracleJ H) (n : Nat) (i0 i1 i2 i4 i6 i8 i12 i13 i14 i17 i18 i19 i21 i22 i23 i24 i25 i26 i27 i28 i29 i30 i31 i32 i41 i42 i43 i44 i45 i46 i54 i55 i56 i57 i58 i59 i60 i61 i62 i63 i64 i65 i66 i67 i68 i69 i70 i71 i72 i73 i74 i75 i76 i77 i78 i79 i80 i81 i82 i83 i84 i85 i86 i87 i88 i89 i90 i91 i92 i93 : Value) (i : Nat) (x : Value × Value) (s : St H) : (kBlock 0 (kSeq Tryd.prog false C n 39 none (cdp Tryd.f39 [1, 1, 1, 1, 1, 1, 1, 1, 1, 1, 1]) (kFun Tryd.prog Tryd.f39))) (.exit i) (f39_l0_m i0 i1 i2 i4 i6 i8 i12 i13 i14 i17 i18 i19 i21 i22 i23 i24 i25 i26 i27 i28 i29 i30 i31 i32 i41 i42 i43 i44 i45 i46 i54 i55 i56 i57 i58 i59 i60 i61 i62 i63 i64 i65 i66 i67 i68 i69 i70 i71 i72 i73 i74 i75 i76 i77 i78 i79 i80 i81 i82 i83 i84 i85 i86 i87 i88 i89 i90 i91 i92 i93 x) s =
 (bif Nat.beq i 0 then
 ((dOps (H := H) Tryd.prog).fieldAddr 81 i8 2).bind fun v378 =>
 ((dOps (H := H) Tryd.prog).load s 3 v378).bind fun v379 =>
 ((dOps (H := H) Tryd.prog).bop .sub 3 (Value.int IntKind.i64 64) v379).bind fun v380 =>
 ((dOps (H := H) Tryd.prog).fieldAddr 81 i8 3).bind fun v381 =>
 ((dOps (H := H) Tryd.prog).load s 3 v381).bind fun v382 =>
 ((dOps (H := H) Tryd.prog).bop .sub 3 v380 v382).bind fun v383 =>
 (C (.fn 71) [i0, x.1, v383] s).bind fun L384 => manyK L384 fun v385 s386 =>
 ((dOps (H := H) Tryd.prog).bop .neq 25 v385 (Value.int IntKind.i64 0)).bind fun v387 =>
 ((dOps (H := H) Tryd.prog).boolO v387).bind fun b388 => cond b388 (
 ((dOps (H := H) Tryd.prog).build 81 []).bind fun v389 =>
 ((dOps (H := H) Tryd.prog).store s386 81 i6 v389).bind fun s390 =>
 ((dOps (H := H) Tryd.prog).load s390 81 i6).bind fun v391 => some [(.tuple #[v391, v385], s390)]) (
 ((dOps (H := H) Tryd.prog).load s386 81 i8).bind fun v392 =>
 ((dOps (H := H) Tryd.prog).store s386 81 i6 v392).bind fun s393 =>
 ((dOps (H := H) Tryd.prog).load s393 81 i6).bind fun v394 => some [(.tuple #[v394, (Value.int IntKind.i64 0)], s393)]) else none) := by kernel_rfl
theorem f39_r (C : OracleJ H) (n : Nat) (a0 : Value) (a1 : Value) (a2 : Value) (s : St H) : bodyD Tryd.prog false C n 39 Tryd.f39 [a0, a1, a2] s = f39 (dOps (H := H) Tryd.prog) C n a0 a1 a2 s := by
  have h1 : bodyD Tryd.prog false C n 39 Tryd.f39 [a0, a1, a2] s =
 ((dOps (H := H) Tryd.prog).box s a1).bind fun p239 =>
 ((dOps (H := H) Tryd.prog).alloc p239.2 81).bind fun p240 =>
 ((dOps (H := H) Tryd.prog).load p240.2 81 p239.1).bind fun v241 =>
 (C (.fn 69) [v241] p240.2).bind fun L242 => manyK L242 fun v243 s244 =>
 ((dOps (H := H) Tryd.prog).uop .not v243).bind fun v245 =>
 ((dOps (H := H) Tryd.prog).boolO v245).bind fun b246 => cond b246 (
 ((dOps (H := H) Tryd.prog).build 81 []).bind fun v247 =>
 ((dOps (H := H) Tryd.prog).store s244 81 p240.1 v247).bind fun s248 =>
 ((dOps (H := H) Tryd.prog).load s248 81 p240.1).bind fun v249 => some [(.tuple #[v249, (Value.int IntKind.i64 2)], s248)]) (
 ((dOps (H := H) Tryd.prog).fieldAddr 81 p239.1 0).bind fun v250 =>
 ((dOps (H := H) Tryd.prog).load s244 3 v250).bind fun v251 =>
 ((dOps (H := H) Tryd.prog).bop .add 3 v251 (Value.int IntKind.i64 1)).bind fun v252 =>
 ((dOps (H := H) Tryd.prog).fieldAddr 81 p239.1 2).bind fun v253 =>
 ((dOps (H := H) Tryd.prog).load s244 3 v253).bind fun v254 =>
 ((dOps (H := H) Tryd.prog).fieldAddr 81 p239.1 3).bind fun v255 =>
 ((dOps (H := H) Tryd.prog).load s244 3 v255).bind fun v256 =>
 ((dOps (H := H) Tryd.prog).build 81 [(0, v252), (1, a2), (2, v254), (3, v256)]).bind fun v257 =>
 ((dOps (H := H) Tryd.prog).alloc s244 81).bind fun p258 =>
 ((dOps (H := H) Tryd.prog).store p258.2 81 p258.1 v257).bind fun s259 =>
 ((dOps (H := H) Tryd.prog).fieldAddr 81 p239.1 0).bind fun v260 =>
 ((dOps (H := H) Tryd.prog).load s259 3 v260).bind fun v261 =>
 ((dOps (H := H) Tryd.prog).bop .eql 3 v261 (Value.int IntKind.i64 0)).bind fun v262 =>
 ((dOps (H := H) Tryd.prog).boolO v262).bind fun b263 => cond b263 (
 (C (.fn 71) [a0, a2, (Value.int IntKind.i64 64)] s259).bind fun L264 => manyK L264 fun v265 s266 =>
 ((dOps (H := H) Tryd.prog).bop .neq 25 v265 (Value.int IntKind.i64 0)).bind fun v267 =>
 ((dOps (H := H) Tryd.prog).boolO v267).bind fun b268 => cond b268 (
 ((dOps (H := H) Tryd.prog).build 81 []).bind fun v269 =>
 ((dOps (H := H) Tryd.prog).store s266 81 p240.1 v269).bind fun s270 =>
 ((dOps (H := H) Tryd.prog).load s270 81 p240.1).bind fun v271 => some [(.tuple #[v271, v265], s270)]) (
 ((dOps (H := H) Tryd.prog).load s266 81 p258.1).bind fun v272 =>
 ((dOps (H := H) Tryd.prog).store s266 81 p240.1 v272).bind fun s273 =>
 ((dOps (H := H) Tryd.prog).load s273 81 p240.1).bind fun v274 => some [(.tuple #[v274, (Value.int IntKind.i64 0)], s273)])) (
 ((dOps (H := H) Tryd.prog).fieldAddr 81 p239.1 1).bind fun v275 =>
 ((dOps (H := H) Tryd.prog).load s259 38 v275).bind fun v276 =>
 ((dOps (H := H) Tryd.prog).bop .xor 38 a2 v276).bind fun v277 =>
 ((dOps (H := H) Tryd.prog).bop .eql 38 v277 (Value.int IntKind.u64 0)).bind fun v278 =>
 ((dOps (H := H) Tryd.prog).boolO v278).bind fun b279 => cond b279 (
 (C (.fn 71) [a0, (Value.int IntKind.u64 0), (Value.int IntKind.i64 1)] s259).bind fun L280 => manyK L280 fun v281 s282 =>
 ((dOps (H := H) Tryd.prog).bop .neq 25 v281 (Value.int IntKind.i64 0)).bind fun v283 =>
 ((dOps (H := H) Tryd.prog).boolO v283).bind fun b284 => cond b284 (
 ((dOps (H := H) Tryd.prog).build 81 []).bind fun v285 =>
 ((dOps (H := H) Tryd.prog).store s282 81 p240.1 v285).bind fun s286 =>
 ((dOps (H := H) Tryd.prog).load s286 81 p240.1).bind fun v287 => some [(.tuple #[v287, v281], s286)]) (
 ((dOps (H := H) Tryd.prog).load s282 81 p258.1).bind fun v288 =>
 ((dOps (H := H) Tryd.prog).store s282 81 p240.1 v288).bind fun s289 =>
 ((dOps (H := H) Tryd.prog).load s289 81 p240.1).bind fun v290 => some [(.tuple #[v290, (Value.int IntKind.i64 0)], s289)])) (
 (C (.fn 70) [v277] s259).bind fun L291 => manyK L291 fun v292 s293 =>
 ((dOps (H := H) Tryd.prog).extract v292 0).bind fun v294 =>
 ((dOps (H := H) Tryd.prog).extract v292 1).bind fun v295 =>
 jn (fun (j371_59 : Value) (j371_60 : Value) (j371_61 : Value) (j371_62 : Value) (j371_63 : Value) (j371_64 : Value) (j371_65 : Value) (j371_66 : Value) (j371_67 : Value) (j371_68 : Value) (j371_69 : Value) (j371_70 : Value) (j371_71 : Value) (j371_72 : Value) (j371_73 : Value) =>
 jn (fun (j386_14 : Value) (j386_74 : Value) (j386_75 : Value) (j386_76 : Value) (j386_77 : Value) (j386_78 : Value) (j386_79 : Value) (j386_80 : Value) (j386_81 : Value) (j386_82 : Value) (j386_83 : Value) (j386_84 : Value) (j386_85 : Value) (j386_86 : Value) (j386_87 : Value) (j386_88 : Value) (j386_89 : Value) (j386_90 : Value) (j386_91 : Value) (js386 : St H) =>
 ((dOps (H := H) Tryd.prog).bop .neq 25 j386_14 (Value.int IntKind.i64 0)).bind fun v356 =>
 ((dOps (H := H) Tryd.prog).boolO v356).bind fun b357 => cond b357 (
 ((dOps (H := H) Tryd.prog).build 81 []).bind fun v358 =>
 ((dOps (H := H) Tryd.prog).store js386 81 p240.1 v358).bind fun s359 =>
 ((dOps (H := H) Tryd.prog).load s359 81 p240.1).bind fun v360 => some [(.tuple #[v360, j386_14], s359)]) (
 iter (fun t s k => exec Tryd.prog false C n 39 none (cdp Tryd.f39 [1, 1, 1, 1, 1, 1, 1, 1, 1, 1, 0, 1, 0, 0]) t s k) (scratch (cdp Tryd.f39 [1, 1, 1, 1, 1, 1, 1, 1, 1, 1, 0, 1, 0, 0])) n (f39_l0_m a0 a1 a2 p239.1 p240.1 p258.1 v294 v295 j386_14 v241 v243 v245 v250 v251 v252 a2 v253 v254 v255 v256 v257 v260 v261 v262 a2 v275 v276 v277 v277 v278 v292 v277 v292 v294 v295 j371_59 j371_60 j371_61 j371_62 j371_63 j371_64 j371_65 j371_66 j371_67 j371_68 j371_69 j371_70 j371_71 j371_72 j371_73 j386_74 j386_75 j386_76 j386_77 j386_78 j386_79 j386_80 j386_81 j386_82 j386_83 j386_84 j386_85 j386_86 j386_87 j386_88 j386_89 j386_90 j386_91 j386_14 v356 (v277, (Value.int IntKind.i64 0))) js386 (kBlock 0 (kSeq Tryd.prog false C n 39 none (cdp Tryd.f39 [1, 1, 1, 1, 1, 1, 1, 1, 1, 1, 1]) (kFun Tryd.prog Tryd.f39))))) fun k386 =>
 ((dOps (H := H) Tryd.prog).boolO j371_73).bind fun b333 => cond b333 (
 (C (.fn 71) [a0, (Value.int IntKind.u64 2), (Value.int IntKind.i64 2)] s293).bind fun L334 => manyK L334 fun v335 s336 =>
 k386 v335 a0 v335 undefV undefV undefV undefV undefV undefV undefV undefV undefV undefV undefV undefV undefV undefV undefV undefV s336) (
 ((dOps (H := H) Tryd.prog).bop .mul 3 (Value.int IntKind.i64 64) v294).bind fun v337 =>
 ((dOps (H := H) Tryd.prog).bop .add 3 (Value.int IntKind.i64 12288) v337).bind fun v338 =>
 ((dOps (H := H) Tryd.prog).bop .add 3 v338 (Value.int IntKind.i64 64)).bind fun v339 =>
 ((dOps (H := H) Tryd.prog).bop .sub 3 v339 v294).bind fun v340 =>
 ((dOps (H := H) Tryd.prog).bop .sub 3 v340 v295).bind fun v341 =>
 ((dOps (H := H) Tryd.prog).bop .sub 3 v341 (Value.int IntKind.i64 1)).bind fun v342 =>
 ((dOps (H := H) Tryd.prog).conv false s293 3 38 v342).bind fun p343 =>
 (C (.fn 71) [a0, p343.1, (Value.int IntKind.i64 14)] p343.2).bind fun L344 => manyK L344 fun v345 s346 =>
 ((dOps (H := H) Tryd.prog).fieldAddr 81 p258.1 2).bind fun v347 =>
 ((dOps (H := H) Tryd.prog).store s346 3 v347 v294).bind fun s348 =>
 ((dOps (H := H) Tryd.prog).fieldAddr 81 p258.1 3).bind fun v349 =>
 ((dOps (H := H) Tryd.prog).store s348 3 v349 v295).bind fun s350 =>
 k386 v345 undefV undefV a0 v294 v337 v338 v339 v294 v340 v295 v341 v342 p343.1 v345 v294 v295 v347 v349 s350)) fun k371 =>
 ((dOps (H := H) Tryd.prog).fieldAddr 81 p239.1 2).bind fun v296 =>
 ((dOps (H := H) Tryd.prog).load s293 3 v296).bind fun v297 =>
 ((dOps (H := H) Tryd.prog).bop .lss 3 v297 (Value.int IntKind.i64 64)).bind fun v298 =>
 gd v298 (
 ((dOps (H := H) Tryd.prog).fieldAddr 81 p239.1 2).bind fun v299 =>
 ((dOps (H := H) Tryd.prog).load s293 3 v299).bind fun v300 =>
 ((dOps (H := H) Tryd.prog).bop .geq 3 v294 v300).bind fun v301 =>
 gd v301 (
 ((dOps (H := H) Tryd.prog).fieldAddr 81 p239.1 3).bind fun v302 =>
 ((dOps (H := H) Tryd.prog).load s293 3 v302).bind fun v303 =>
 ((dOps (H := H) Tryd.prog).bop .geq 3 v295 v303).bind fun v304 =>
 k371 v296 v297 v298 (.bool true) v294 v299 v300 v301 v301 (.bool true) v295 v302 v303 v304 v304) (
 k371 v296 v297 v298 (.bool true) v294 v299 v300 v301 v301 (.bool false) undefV undefV undefV undefV (.bool false)) (
 none)) (
 k371 v296 v297 v298 (.bool false) undefV undefV undefV undefV (.bool false) (.bool false) undefV undefV undefV undefV (.bool false)) (
 none)))) := by kernel_rfl
  rw [h1]
  simp only [f39_l0_e, f39_l0_k]
  show _ = f39 (dOps (H := H) Tryd.prog) C n a0 a1 a2 s
  kernel_rfl
/-! (*tidepole/tidepoleref05.Writer).Bytes -/
def f40_l1_m (i0 i2 i3 i4 i7 i8 i9 i10 i11 i12 i13 i14 i15 i16 i17 i18 i19 i20 i21 i24 i25 i26 i27 i28 i29 i30 : Value) (x : Value × Value) : List Value := [i0, undefV, i2, i3, i4, x.1, x.2, i7, i8, i9, i10, i11, i12, i13, i14, i15, i16, i17, i18, i19, i20, i21, dc, dc, i24, i25, i26, i27, i28, i29, i30, dc, dc, dc, dc, dc, dc, dc, dc, dc, dc, dc, dc, dc, dc, dc, dc, undefV]
noncomputable def f40_l1 (O : Ops H) (C : OracleJ H) (n : Nat) (i4 : Value) (nx : (Value × Value) → St H → Option (List (Value × St H))) (kx : Nat → (Value × Value) → St H → Option (List (Value × St H))) (kr : (Value × Value) → St H → Option (List (Value × St H))) (x : Value × Value) (s : St H) : Option (List (Value × St H)) :=
 (O.bop .rem 3 i4 (Value.int IntKind.i64 8)).bind fun v20 =>
 (O.bop .lss 3 x.2 v20).bind fun v21 =>
 (O.boolO v21).bind fun b22 => cond b22 (
 (O.bop .quo 5 x.1 (Value.int IntKind.u8 2)).bind fun v23 =>
 (O.bop .add 3 x.2 (Value.int IntKind.i64 1)).bind fun v24 =>
 nx (v23, v24) s) (
 kx 2 (x.1, x.2) s)
theorem f40_l1_b (C : OracleJ H) (n : Nat) (i0 i2 i3 i4 i7 i8 i9 i10 i11 i12 i13 i14 i15 i16 i17 i18 i19 i20 i21 i24 i25 i26 i27 i28 i29 i30 : Value) (x : Value × Value) (s : St H) (nx : List Value → St H → Option (List (Value × St H))) (K : Ex → List Value → St H → Option (List (Value × St H))) :
 exec Tryd.prog true C n 40 none (cdp Tryd.f40 [1, 1, 0, 1, 0, 0, 1, 0, 0, 1, 0, 1, 0, 1, 0, 0]) (f40_l1_m i0 i2 i3 i4 i7 i8 i9 i10 i11 i12 i13 i14 i15 i16 i17 i18 i19 i20 i21 i24 i25 i26 i27 i28 i29 i30 x) s (kIter (scratch (cdp Tryd.f40 [1, 1, 0, 1, 0, 0, 1, 0, 0, 1, 0, 1, 0, 1, 0, 0])) nx K) = f40_l1 (dOps (H := H) Tryd.prog) C n i4 (fun x s => nx (f40_l1_m i0 i2 i3 i4 i7 i8 i9 i10 i11 i12 i13 i14 i15 i16 i17 i18 i19 i20 i21 i24 i25 i26 i27 i28 i29 i30 x) s) (fun i x s => K (.exit i) (f40_l1_m i0 i2 i3 i4 i7 i8 i9 i10 i11 i12 i13 i14 i15 i16 i17 i18 i19 i20 i21 i24 i25 i26 i27 i28 i29 i30 x) s) (fun x s => K .ret (f40_l1_m i0 i2 i3 i4 i7 i8 i9 i10 i11 i12 i13 i14 i15 i16 i17 i18 i19 i20 i21 i24 i25 i26 i27 i28 i29 i30 x) s) x s := by kernel_rfl
theorem f40_l1_e (C : OracleJ H) (n : Nat) (i0 i2 i3 i4 i7 i8 i9 i10 i11 i12 i13 i14 i15 i16 i17 i18 i19 i20 i21 i24 i25 i26 i27 i28 i29 i30 : Value) (m : Nat) (x : Value × Value) (s : St H) (K : Ex → List Value → St H → Option (List (Value × St H))) :
 iter (fun t s k => exec Tryd.prog true C n 40 none (cdp Tryd.f40 [1, 1, 0, 1, 0, 0, 1, 0, 0, 1, 0, 1, 0, 1, 0, 0]) t s k) (scratch (cdp Tryd.f40 [1, 1, 0, 1, 0, 0, 1, 0, 0, 1, 0, 1, 0, 1, 0, 0])) m (f40_l1_m i0 i2 i3 i4 i7 i8 i9 i10 i11 i12 i13 i14 i15 i16 i17 i18 i19 i20 i21 i24 i25 i26 i27 i28 i29 i30 x) s K = iterS (f40_l1 (dOps (H := H) Tryd.prog) C n i4) (fun i x s => K (.exit i) (f40_l1_m i0 i2 i3 i4 i7 i8 i9 i10 i11 i12 i13 i14 i15 i16 i17 i18 i19 i20 i21 i24 i25 i26 i27 i28 i29 i30 x) s) (fun x s => K .ret (f40_l1_m i0 i2 i3 i4 i7 i8 i9 i10 i11 i12 i13 i14 i15 i16 i17 i18 i19 i20 i21 i24 i25 i26 i27 i28 i29 i30 x) s) m x s :=
   iter_eq (f40_l1_m i0 i2 i3 i4 i7 i8 i9 i10 i11 i12 i13 i14 i15 i16 i17 i18 i19 i20 i21 i24 i25 i26 i27 i28 i29 i30) (f40_l1 (dOps (H := H) Tryd.prog) C n i4) (fun x s nx K => f40_l1_b C n i0 i2 i3 i4 i7 i8 i9 i10 i11 i12 i13 i14 i15 i16 i17 i18 i19 i20 i21 i24 i25 i26 i27 i28 i29 i30 x s nx K) K m x s
def f40_l0_m (i0 i2 i3 i7 i8 i9 i10 i11 i12 i13 i14 : Value) (x : Value × Value × Value) : List Value := [i0, undefV, i2, i3, x.1, x.2.1, x.2.2, i7, i8, i9, i10, i11, i12, i13, i14, dc, dc, dc, dc, dc, dc, dc, dc, dc, dc, dc, dc, dc, dc, dc, dc, dc, dc, dc, dc, dc, dc, dc, dc, dc, dc, dc, dc, dc, dc, dc, dc, undefV]
noncomputable def f40_l0 (O : Ops H) (C : OracleJ H) (n : Nat) (i0 i3 : Value) (nx : (Value × Value × Value) → St H → Option (List (Value × St H))) (kx : Nat → (Value × Value × Value) → St H → Option (List (Value × St H))) (kr : (Value × Value × Value) → St H → Option (List (Value × St H))) (x : Value × Value × Value) (s : St H) : Option (List (Value × St H)) :=
 (O.nilCheck i0).bind fun v8 =>
 (O.fieldAddr 92 v8 0).bind fun v9 =>
 (O.load s 90 v9).bind fun v10 =>
 (O.len s 90 v10).bind fun v11 =>
 (O.bop .lss 3 x.1 v11).bind fun v12 =>
 (O.boolO v12).bind fun b13 => cond b13 (
 (O.nilCheck i0).bind fun v14 =>
 (O.fieldAddr 92 v14 0).bind fun v15 =>
 (O.load s 90 v15).bind fun v16 =>
 (O.indexAddr 90 v16 x.1).bind fun v17 =>
 (O.load s 4 v17).bind fun v18 =>
 jn (fun (j418_5 : Value) (j418_6 : Value) (js418 : St H) =>
 (O.bop .add 3 x.1 (Value.int IntKind.i64 1)).bind fun v38 =>
 nx (v38, j418_5, j418_6) js418) fun k418 =>
 (O.boolO v18).bind fun b19 => cond b19 (
 iterS (f40_l1 O C n x.1 )
 (fun i25 x26 s27 => (bif Nat.beq i25 2 then
 (O.bop .quo 3 x.1 (Value.int IntKind.i64 8)).bind fun v30 =>
 (O.indexAddr 22 i3 v30).bind fun v31 =>
 (O.load s27 5 v31).bind fun v32 =>
 (O.bop .add 5 v32 x26.1).bind fun v33 =>
 (O.indexAddr 22 i3 v30).bind fun v34 =>
 (O.store s27 5 v34 v33).bind fun s35 =>
 k418 x26.1 x26.2 s35 else (bif Nat.beq i25 1 then
 (O.bop .add 3 x.1 (Value.int IntKind.i64 1)).bind fun v37 =>
 nx (v37, x26.1, x26.2) s27 else kx i25 (x.1, x26.1, x26.2) s27)))
 (fun x28 s29 => kr (x.1, x28.1, x28.2) s29) n ((Value.int IntKind.u8 128), (Value.int IntKind.i64 0)) s) (
 k418 x.2.1 x.2.2 s)) (
 kx 0 (x.1, x.2.1, x.2.2) s)
theorem f40_l1_k (C : OracleJ H) (n : Nat) (i0 i2 i3 i4 i7 i8 i9 i10 i11 i12 i13 i14 i15 i16 i17 i18 i19 i20 i21 i24 i25 i26 i27 i28 i29 i30 : Value) (nx : List Value → St H → Option (List (Value × St H))) (K : Ex → List Value → St H → Option (List (Value × St H))) (i : Nat) (x : Value × Value) (s : St H) : (kBlock 2 (kSeq Tryd.prog true C n 40 none (cdp Tryd.f40 [1, 1, 0, 1, 0, 0, 1, 0, 0, 1, 0, 1, 1]) (kBlock 1 (kSeq Tryd.prog true C n 40 none (cdp Tryd.f40 [1, 1, 0, 1, 0, 0, 1, 1]) (kIter (scratch (cdp Tryd.f40 [1, 1, 0, 1, 0, 0])) nx K))))) (.exit i) (f40_l1_m i0 i2 i3 i4 i7 i8 i9 i10 i11 i12 i13 i14 i15 i16 i17 i18 i19 i20 i21 i24 i25 i26 i27 i28 i29 i30 x) s =
 (bif Nat.beq i 2 then
 ((dOps (H := H) Tryd.prog).bop .quo 3 i4 (Value.int IntKind.i64 8)).bind fun v59 =>
 ((dOps (H := H) Tryd.prog).indexAddr 22 i3 v59).bind fun v60 =>
 ((dOps (H := H) Tryd.prog).load s 5 v60).bind fun v61 =>
 ((dOps (H := H) Tryd.prog).bop .add 5 v61 x.1).bind fun v62 =>
 ((dOps (H := H) Tryd.prog).indexAddr 22 i3 v59).bind fun v63 =>
 ((dOps (H := H) Tryd.prog).store s 5 v63 v62).bind fun s64 =>
 ((dOps (H := H) Tryd.prog).bop .add 3 i4 (Value.int IntKind.i64 1)).bind fun v65 =>
 nx (f40_l0_m i0 i2 i3 i7 i8 i9 i10 i11 i12 i13 i14 (v65, x.1, x.2)) s64 else (bif Nat.beq i 1 then
 ((dOps (H := H) Tryd.prog).bop .add 3 i4 (Value.int IntKind.i64 1)).bind fun v66 =>
 nx (f40_l0_m i0 i2 i3 i7 i8 i9 i10 i11 i12 i13 i14 (v66, x.1, x.2)) s else K (.exit i) (f40_l0_m i0 i2 i3 i7 i8 i9 i10 i11 i12 i13 i14 (i4, x.1, x.2)) s)) := by kernel_rfl
theorem f40_l0_b (C : OracleJ H) (n : Nat) (i0 i2 i3 i7 i8 i9 i10 i11 i12 i13 i14 : Value) (x : Value × Value × Value) (s : St H) (nx : List Value → St H → Option (List (Value × St H))) (K : Ex → List Value → St H → Option (List (Value × St H))) :
 exec Tryd.prog true C n 40 none (cdp Tryd.f40 [1, 1, 0, 1, 0, 0]) (f40_l0_m i0 i2 i3 i7 i8 i9 i10 i11 i12 i13 i14 x) s (kIter (scratch (cdp Tryd.f40 [1, 1, 0, 1, 0, 0])) nx K) = f40_l0 (dOps (H := H) Tryd.prog) C n i0 i3 (fun x s => nx (f40_l0_m i0 i2 i3 i7 i8 i9 i10 i11 i12 i13 i14 x) s) (fun i x s => K (.exit i) (f40_l0_m i0 i2 i3 i7 i8 i9 i10 i11 i12 i13 i14 x) s) (fun x s => K .ret (f40_l0_m i0 i2 i3 i7 i8 i9 i10 i11 i12 i13 i14 x) s) x s := by
  have h1 : exec Tryd.prog true C n 40 none (cdp Tryd.f40 [1, 1, 0, 1, 0, 0]) (f40_l0_m i0 i2 i3 i7 i8 i9 i10 i11 i12 i13 i14 x) s (kIter (scratch (cdp Tryd.f40 [1, 1, 0, 1, 0, 0])) nx K) =
 ((dOps (H := H) Tryd.prog).nilCheck i0).bind fun v39 =>
 ((dOps (H := H) Tryd.prog).fieldAddr 92 v39 0).bind fun v40 =>
 ((dOps (H := H) Tryd.prog).load s 90 v40).bind fun v41 =>
 ((dOps (H := H) Tryd.prog).len s 90 v41).bind fun v42 =>
 ((dOps (H := H) Tryd.prog).bop .lss 3 x.1 v42).bind fun v43 =>
 ((dOps (H := H) Tryd.prog).boolO v43).bind fun b44 => cond b44 (
 ((dOps (H := H) Tryd.prog).nilCheck i0).bind fun v45 =>
 ((dOps (H := H) Tryd.prog).fieldAddr 92 v45 0).bind fun v46 =>
 ((dOps (H := H) Tryd.prog).load s 90 v46).bind fun v47 =>
 ((dOps (H := H) Tryd.prog).indexAddr 90 v47 x.1).bind fun v48 =>
 ((dOps (H := H) Tryd.prog).load s 4 v48).bind fun v49 =>
 ((dOps (H := H) Tryd.prog).boolO v49).bind fun b50 => cond b50 (
 iter (fun t s k => exec Tryd.prog true C n 40 none (cdp Tryd.f40 [1, 1, 0, 1, 0, 0, 1, 0, 0, 1, 0, 1, 0, 1, 0, 0]) t s k) (scratch (cdp Tryd.f40 [1, 1, 0, 1, 0, 0, 1, 0, 0, 1, 0, 1, 0, 1, 0, 0])) n (f40_l1_m i0 i2 i3 x.1 i7 i8 i9 i10 i11 i12 i13 i14 x.1 i0 v39 v40 v41 v42 v43 i0 v45 v46 v47 x.1 v48 v49 ((Value.int IntKind.u8 128), (Value.int IntKind.i64 0))) s (kBlock 2 (kSeq Tryd.prog true C n 40 none (cdp Tryd.f40 [1, 1, 0, 1, 0, 0, 1, 0, 0, 1, 0, 1, 1]) (kBlock 1 (kSeq Tryd.prog true C n 40 none (cdp Tryd.f40 [1, 1, 0, 1, 0, 0, 1, 1]) (kIter (scratch (cdp Tryd.f40 [1, 1, 0, 1, 0, 0])) nx K)))))) (
 ((dOps (H := H) Tryd.prog).bop .add 3 x.1 (Value.int IntKind.i64 1)).bind fun v67 =>
 nx (f40_l0_m i0 i2 i3 i7 i8 i9 i10 i11 i12 i13 i14 (v67, x.2.1, x.2.2)) s)) (
 K (.exit 0) (f40_l0_m i0 i2 i3 i7 i8 i9 i10 i11 i12 i13 i14 (x.1, x.2.1, x.2.2)) s) := by kernel_rfl
  rw [h1]
  simp only [f40_l1_e, f40_l1_k]
  show _ = f40_l0 (dOps (H := H) Tryd.prog) C n i0 i3 (fun x s => nx (f40_l0_m i0 i2 i3 i7 i8 i9 i10 i11 i12 i13 i14 x) s) (fun i x s => K (.exit i) (f40_l0_m i0 i2 i3 i7 i8 i9 i10 i11 i12 i13 i14 x) s) (fun x s => K .ret (f40_l0_m i0 i2 i3 i7 i8 i9 i10 i11 i12 i13 i14 x) s) x s
  kernel_rfl
theorem f40_l0_e (C : OracleJ H) (n : Nat) (i0 i2 i3 i7 i8 i9 i10 i11 i12 i13 i14 : Value) (m : Nat) (x : Value × Value × Value) (s : St H) (K : Ex → List Value → St H → Option (List (Value × St H))) :
 iter (fun t s k => exec Tryd.prog true C n 40 none (cdp Tryd.f40 [1, 1, 0, 1, 0, 0]) t s k) (scratch (cdp Tryd.f40 [1, 1, 0, 1, 0, 0])) m (f40_l0_m i0 i2 i3 i7 i8 i9 i10 i11 i12 i13 i14 x) s K = iterS (f40_l0 (dOps (H := H) Tryd.prog) C n i0 i3) (fun i x s => K (.exit i) (f40_l0_m i0 i2 i3 i7 i8 i9 i10 i11 i12 i13 i14 x) s) (fun x s => K .ret (f40_l0_m i0 i2 i3 i7 i8 i9 i10 i11 i12 i13 i14 x) s) m x s :=
   iter_eq (f40_l0_m i0 i2 i3 i7 i8 i9 i10 i11 i12 i13 i14) (f40_l0 (dOps (H := H) Tryd.prog) C n i0 i3) (fun x s nx K => f40_l0_b C n i0 i2 i3 i7 i8 i9 i10 i11 i12 i13 i14 x s nx K) K m x s
noncomputable def f40 (O : Ops H) (C : OracleJ H) (n : Nat) (a0 : Value) (s : St H) : Option (List (Value × St H)) :=
 (O.nilCheck a0).bind fun v1 =>
 (O.fieldAddr 92 v1 0).bind fun v2 =>
 (O.load s 90 v2).bind fun v3 =>
 (O.len s 90 v3).bind fun v4 =>
 (O.bop .add 3 v4 (Value.int IntKind.i64 7)).bind fun v5 =>
 (O.bop .quo 3 v5 (Value.int IntKind.i64 8)).bind fun v6 =>
 (O.makeSlice true s 22 v6 v6).bind fun p7 =>
 iterS (f40_l0 O C n a0 p7.1 )
 (fun i68 x69 s70 => (bif Nat.beq i68 0 then
 some [(p7.1, s70)] else none))
 (fun x71 s72 => some [((fzV 2 #[]), s72)]) n ((Value.int IntKind.i64 0), undefV, undefV) p7.2
theorem f40_l0_k (C : OracleJ H) (n : Nat) (i0 i2 i3 i7 i8 i9 i10 i11 i12 i13 i14 : Value) (i : Nat) (x : Value × Value × Value) (s : St H) : (kBlock 0 (kSeq Tryd.prog true C n 40 none (cdp Tryd.f40 [1, 1, 1]) (kFun Tryd.prog Tryd.f40))) (.exit i) (f40_l0_m i0 i2 i3 i7 i8 i9 i10 i11 i12 i13 i14 x) s =
 (bif Nat.beq i 0 then
 some [(i3, s)] else none) := by kernel_rfl
theorem f40_r (C : OracleJ H) (n : Nat) (a0 : Value) (s : St H) : bodyD Tryd.prog true C n 40 Tryd.f40 [a0] s = f40 (dOps (H := H) Tryd.prog) C n a0 s := by
  have h1 : bodyD Tryd.prog true C n 40 Tryd.f40 [a0] s =
 ((dOps (H := H) Tryd.prog).nilCheck a0).bind fun v73 =>
 ((dOps (H := H) Tryd.prog).fieldAddr 92 v73 0).bind fun v74 =>
 ((dOps (H := H) Tryd.prog).load s 90 v74).bind fun v75 =>
 ((dOps (H := H) Tryd.prog).len s 90 v75).bind fun v76 =>
 ((dOps (H := H) Tryd.prog).bop .add 3 v76 (Value.int IntKind.i64 7)).bind fun v77 =>
 ((dOps (H := H) Tryd.prog).bop .quo 3 v77 (Value.int IntKind.i64 8)).bind fun v78 =>
 ((dOps (H := H) Tryd.prog).makeSlice true s 22 v78 v78).bind fun p79 =>
 iter (fun t s k => exec Tryd.prog true C n 40 none (cdp Tryd.f40 [1, 1, 0, 1, 0, 0]) t s k) (scratch (cdp Tryd.f40 [1, 1, 0, 1, 0, 0])) n (f40_l0_m a0 (fzV 2 #[]) p79.1 a0 v73 v74 v75 v76 v77 v78 p79.1 ((Value.int IntKind.i64 0), undefV, undefV)) p79.2 (kBlock 0 (kSeq Tryd.prog true C n 40 none (cdp Tryd.f40 [1, 1, 1]) (kFun Tryd.prog Tryd.f40))) := by kernel_rfl
  rw [h1]
  simp only [f40_l0_e, f40_l0_k]
  show _ = f40 (dOps (H := H) Tryd.prog) C n a0 s
  kernel_rfl
/-! tidepole/tidepoleref01.Put -/
def f41_l0_m (i0 i4 i6 i7 i8 : Value) (x : Value × Value) : List Value := [i0, x.1, undefV, undefV, i4, x.2, i6, i7, i8, dc, dc, dc, dc, dc, dc, dc, dc, dc, dc, dc, undefV, undefV, undefV, undefV, undefV]
noncomputable def f41_l0 (O : Ops H) (C : OracleJ H) (n : Nat) (nx : (Value × Value) → St H → Option (List (Value × St H))) (kx : Nat → (Value × Value) → St H → Option (List (Value × St H))) (kr : (Value × Value) → St H → Option (List (Value × St H))) (x : Value × Value) (s : St H) : Option (List (Value × St H)) :=
 (O.bop .geq 38 x.1 (Value.int IntKind.u64 128)).bind fun v3 =>
 (O.boolO v3).bind fun b4 => cond b4 (
 (O.bop .rem 38 x.1 (Value.int IntKind.u64 128)).bind fun v5 =>
 (O.bop .add 38 (Value.int IntKind.u64 128) v5).bind fun v6 =>
 (O.conv false s 38 5 v6).bind fun p7 =>
 (O.buildSlice false p7.2 22 1 [(0, p7.1)]).bind fun p8 =>
 (O.append false p8.2 22 22 x.2 p8.1).bind fun p9 =>
 (O.bop .quo 38 x.1 (Value.int IntKind.u64 128)).bind fun v10 =>
 nx (v10, p9.1) p9.2) (
 kx 0 (x.1, x.2) s)
theorem f41_l0_b (C : OracleJ H) (n : Nat) (i0 i4 i6 i7 i8 : Value) (x : Value × Value) (s : St H) (nx : List Value → St H → Option (List (Value × St H))) (K : Ex → List Value → St H → Option (List (Value × St H))) :
 exec Tryd.prog false C n 41 none (cdp Tryd.f41 [1, 1, 0, 0, 0]) (f41_l0_m i0 i4 i6 i7 i8 x) s (kIter (scratch (cdp Tryd.f41 [1, 1, 0, 0, 0])) nx K) = f41_l0 (dOps (H := H) Tryd.prog) C n (fun x s => nx (f41_l0_m i0 i4 i6 i7 i8 x) s) (fun i x s => K (.exit i) (f41_l0_m i0 i4 i6 i7 i8 x) s) (fun x s => K .ret (f41_l0_m i0 i4 i6 i7 i8 x) s) x s := by kernel_rfl
theorem f41_l0_e (C : OracleJ H) (n : Nat) (i0 i4 i6 i7 i8 : Value) (m : Nat) (x : Value × Value) (s : St H) (K : Ex → List Value → St H → Option (List (Value × St H))) :
 iter (fun t s k => exec Tryd.prog false C n 41 none (cdp Tryd.f41 [1, 1, 0, 0, 0]) t s k) (scratch (cdp Tryd.f41 [1, 1, 0, 0, 0])) m (f41_l0_m i0 i4 i6 i7 i8 x) s K = iterS (f41_l0 (dOps (H := H) Tryd.prog) C n) (fun i x s => K (.exit i) (f41_l0_m i0 i4 i6 i7 i8 x) s) (fun x s => K .ret (f41_l0_m i0 i4 i6 i7 i8 x) s) m x s :=
   iter_eq (f41_l0_m i0 i4 i6 i7 i8) (f41_l0 (dOps (H := H) Tryd.prog) C n) (fun x s nx K => f41_l0_b C n i0 i4 i6 i7 i8 x s nx K) K m x s
noncomputable def f41 (O : Ops H) (C : OracleJ H) (n : Nat) (a0 : Value) (a1 : Value) (s : St H) : Option (List (Value × St H)) :=
 (O.buildSlice false s 22 0 []).bind fun p1 =>
 (O.append false p1.2 22 22 p1.1 a0).bind fun p2 =>
 iterS (f41_l0 O C n )
 (fun i11 x12 s13 => (bif Nat.beq i11 0 then
 (O.conv false s13 38 5 x12.1).bind fun p16 =>
 (O.buildSlice false p16.2 22 1 [(0, p16.1)]).bind fun p17 =>
 (O.append false p17.2 22 22 x12.2 p17.1).bind fun p18 =>
 some [(p18.1, p18.2)] else none))
 (fun x14 s15 => some [((fzV 2 #[]), s15)]) n (a1, p2.1) p2.2
theorem f41_l0_k (C : OracleJ H) (n : Nat) (i0 i4 i6 i7 i8 : Value) (i : Nat) (x : Value × Value) (s : St H) : (kBlock 0 (kSeq Tryd.prog false C n 41 none (cdp Tryd.f41 [1, 1, 1]) (kFun Tryd.prog Tryd.f41))) (.exit i) (f41_l0_m i0 i4 i6 i7 i8 x) s =
 (bif Nat.beq i 0 then
 ((dOps (H := H) Tryd.prog).conv false s 38 5 x.1).bind fun p24 =>
 ((dOps (H := H) Tryd.prog).buildSlice false p24.2 22 1 [(0, p24.1)]).bind fun p25 =>
 ((dOps (H := H) Tryd.prog).append false p25.2 22 22 x.2 p25.1).bind fun p26 =>
 some [(p26.1, p26.2)] else none) := by kernel_rfl
theorem f41_r (C : OracleJ H) (n : Nat) (a0 : Value) (a1 : Value) (s : St H) : bodyD Tryd.prog false C n 41 Tryd.f41 [a0, a1] s = f41 (dOps (H := H) Tryd.prog) C n a0 a1 s := by
  have h1 : bodyD Tryd.prog false C n 41 Tryd.f41 [a0, a1] s =
 ((dOps (H := H) Tryd.prog).buildSlice false s 22 0 []).bind fun p19 =>
 ((dOps (H := H) Tryd.prog).append false p19.2 22 22 p19.1 a0).bind fun p20 =>
 iter (fun t s k => exec Tryd.prog false C n 41 none (cdp Tryd.f41 [1, 1, 0, 0, 0]) t s k) (scratch (cdp Tryd.f41 [1, 1, 0, 0, 0])) n (f41_l0_m a0 (fzV 2 #[]) p19.1 a0 p20.1 (a1, p20.1)) p20.2 (kBlock 0 (kSeq Tryd.prog false C n 41 none (cdp Tryd.f41 [1, 1, 1]) (kFun Tryd.prog Tryd.f41))) := by kernel_rfl
  rw [h1]
  simp only [f41_l0_e, f41_l0_k]
  show _ = f41 (dOps (H := H) Tryd.prog) C n a0 a1 s
  kernel_rfl
/-! tidepole/tidepoleref01.PutBytes -/
noncomputable def f42 (O : Ops H) (C : OracleJ H) (n : Nat) (a0 : Value) (a1 : Value) (s : St H) : Option (List (Value × St H)) :=
 (O.len s 22 a1).bind fun v1 =>
 (O.bop .gtr 3 v1 (Value.int IntKind.i64 65536)).bind fun v2 =>
 (O.boolO v2).bind fun b3 => cond b3 (
 some [(.tuple #[(fzV 2 #[]), (Value.int IntKind.i64 3)], s)]) (
 (O.len s 22 a1).bind fun v4 =>
 (O.conv false s 3 38 v4).bind fun p5 =>
 (C (.fn 41) [a0, p5.1] p5.2).bind fun L6 => manyK L6 fun v7 s8 =>
 (O.append false s8 22 22 v7 a1).bind fun p9 =>
 some [(.tuple #[p9.1, (Value.int IntKind.i64 0)], p9.2)])
theorem f42_r (C : OracleJ H) (n : Nat) (a0 : Value) (a1 : Value) (s : St H) : bodyD Tryd.prog false C n 42 Tryd.f42 [a0, a1] s = f42 (dOps (H := H) Tryd.prog) C n a0 a1 s := by kernel_rfl
/-! tidepole/tidepoleref02.Sealed -/
noncomputable def f43 (O : Ops H) (C : OracleJ H) (n : Nat) (a0 : Value) (s : St H) : Option (List (Value × St H)) :=
 (C (.fn 66) [a0] s).bind fun L1 => manyK L1 fun v2 s3 =>
 (C (.fn 72) [a0, v2] s3).bind fun L4 => manyK L4 fun v5 s6 =>
 some [(v5, s6)]
theorem f43_r (C : OracleJ H) (n : Nat) (a0 : Value) (s : St H) : bodyD Tryd.prog false C n 43 Tryd.f43 [a0] s = f43 (dOps (H := H) Tryd.prog) C n a0 s := by kernel_rfl
/-! (*tidepole/tidepoleref05.Writer).Put -/
def f71_l0_m (i0 i2 i7 i9 i10 i12 i13 i14 i15 i16 i17 i18 i19 i20 i21 i22 i23 i24 i25 i26 : Value) (x : Value × Value) : List Value := [i0, x.1, i2, undefV, undefV, undefV, (Value.int IntKind.i64 0), i7, x.2, i9, i10, (.bool false), i12, i13, i14, i15, i16, i17, i18, i19, i20, i21, i22, i23, i24, i25, i26, dc, dc, dc, dc, dc, dc, dc, dc, dc, dc, dc, dc, undefV, undefV, undefV, undefV, undefV, undefV, undefV, undefV, undefV]
noncomputable def f71_l0 (O : Ops H) (C : OracleJ H) (n : Nat) (i7 : Value) (nx : (Value × Value) → St H → Option (List (Value × St H))) (kx : Nat → (Value × Value) → St H → Option (List (Value × St H))) (kr : (Value × Value) → St H → Option (List (Value × St H))) (x : Value × Value) (s : St H) : Option (List (Value × St H)) :=
 (O.bop .geq 3 x.2 (Value.int IntKind.i64 0)).bind fun v15 =>
 (O.boolO v15).bind fun b16 => cond b16 (
 (O.bop .rem 38 x.1 (Value.int IntKind.u64 2)).bind fun v17 =>
 (O.bop .eql 38 v17 (Value.int IntKind.u64 1)).bind fun v18 =>
 (O.indexAddr 90 i7 x.2).bind fun v19 =>
 (O.store s 4 v19 v18).bind fun s20 =>
 (O.bop .quo 38 x.1 (Value.int IntKind.u64 2)).bind fun v21 =>
 (O.bop .sub 3 x.2 (Value.int IntKind.i64 1)).bind fun v22 =>
 nx (v21, v22) s20) (
 kx 0 (x.1, x.2) s)
theorem f71_l0_b (C : OracleJ H) (n : Nat) (i0 i2 i7 i9 i10 i12 i13 i14 i15 i16 i17 i18 i19 i20 i21 i22 i23 i24 i25 i26 : Value) (x : Value × Value) (s : St H) (nx : List Value → St H → Option (List (Value × St H))) (K : Ex → List Value → St H → Option (List (Value × St H))) :
 exec Tryd.prog true C n 71 none (cdp Tryd.f71 [1, 1, 1, 1, 0, 1, 0, 0]) (f71_l0_m i0 i2 i7 i9 i10 i12 i13 i14 i15 i16 i17 i18 i19 i20 i21 i22 i23 i24 i25 i26 x) s (kIter (scratch (cdp Tryd.f71 [1, 1, 1, 1, 0, 1, 0, 0])) nx K) = f71_l0 (dOps (H := H) Tryd.prog) C n i7 (fun x s => nx (f71_l0_m i0 i2 i7 i9 i10 i12 i13 i14 i15 i16 i17 i18 i19 i20 i21 i22 i23 i24 i25 i26 x) s) (fun i x s => K (.exit i) (f71_l0_m i0 i2 i7 i9 i10 i12 i13 i14 i15 i16 i17 i18 i19 i20 i21 i22 i23 i24 i25 i26 x) s) (fun x s => K .ret (f71_l0_m i0 i2 i7 i9 i10 i12 i13 i14 i15 i16 i17 i18 i19 i20 i21 i22 i23 i24 i25 i26 x) s) x s := by kernel_rfl
theorem f71_l0_e (C : OracleJ H) (n : Nat) (i0 i2 i7 i9 i10 i12 i13 i14 i15 i16 i17 i18 i19 i20 i21 i22 i23 i24 i25 i26 : Value) (m : Nat) (x : Value × Value) (s : St H) (K : Ex → List Value → St H → Option (List (Value × St H))) :
 iter (fun t s k => exec Tryd.prog true C n 71 none (cdp Tryd.f71 [1, 1, 1, 1, 0, 1, 0, 0]) t s k) (scratch (cdp Tryd.f71 [1, 1, 1, 1, 0, 1, 0, 0])) m (f71_l0_m i0 i2 i7 i9 i10 i12 i13 i14 i15 i16 i17 i18 i19 i20 i21 i22 i23 i24 i25 i26 x) s K = iterS (f71_l0 (dOps (H := H) Tryd.prog) C n i7) (fun i x s => K (.exit i) (f71_l0_m i0 i2 i7 i9 i10 i12 i13 i14 i15 i16 i17 i18 i19 i20 i21 i22 i23 i24 i25 i26 x) s) (fun x s => K .ret (f71_l0_m i0 i2 i7 i9 i10 i12 i13 i14 i15 i16 i17 i18 i19 i20 i21 i22 i23 i24 i25 i26 x) s) m x s :=
   iter_eq (f71_l0_m i0 i2 i7 i9 i10 i12 i13 i14 i15 i16 i17 i18 i19 i20 i21 i22 i23 i24 i25 i26) (f71_l0 (dOps (H := H) Tryd.prog) C n i7) (fun x s nx K => f71_l0_b C n i0 i2 i7 i9 i10 i12 i13 i14 i15 i16 i17 i18 i19 i20 i21 i22 i23 i24 i25 i26 x s nx K) K m x s
noncomputable def f71 (O : Ops H) (C : OracleJ H) (n : Nat) (a0 : Value) (a1 : Value) (a2 : Value) (s : St H) : Option (List (Value × St H)) :=
 (O.bop .lss 3 a2 (Value.int IntKind.i64 0)).bind fun v1 =>
 gd v1 (
 some [((Value.int IntKind.i64 2), s)]) (
 (O.bop .gtr 3 a2 (Value.int IntKind.i64 64)).bind fun v2 =>
 (O.boolO v2).bind fun b5 => cond b5 (
 some [((Value.int IntKind.i64 2), s)]) (
 (O.nilCheck a0).bind fun v6 =>
 (O.fieldAddr 92 v6 0).bind fun v7 =>
 (O.load s 90 v7).bind fun v8 =>
 (O.len s 90 v8).bind fun v9 =>
 (O.bop .add 3 v9 a2).bind fun v10 =>
 (O.bop .gtr 3 v10 (Value.int IntKind.i64 524288)).bind fun v11 =>
 (O.boolO v11).bind fun b12 => cond b12 (
 some [((Value.int IntKind.i64 3), s)]) (
 (O.makeSlice true s 90 a2 a2).bind fun p13 =>
 (O.bop .sub 3 a2 (Value.int IntKind.i64 1)).bind fun v14 =>
 iterS (f71_l0 O C n p13.1 )
 (fun i23 x24 s25 => (bif Nat.beq i23 0 then
 (O.nilCheck a0).bind fun v28 =>
 (O.fieldAddr 92 v28 0).bind fun v29 =>
 (O.load s25 90 v29).bind fun v30 =>
 (O.append true s25 90 90 v30 p13.1).bind fun p31 =>
 (O.nilCheck a0).bind fun v32 =>
 (O.fieldAddr 92 v32 0).bind fun v33 =>
 (O.store p31.2 90 v33 p31.1).bind fun s34 =>
 some [((Value.int IntKind.i64 0), s34)] else none))
 (fun x26 s27 => some [((Value.int IntKind.i64 0), s27)]) n (a1, v14) p13.2))) (
 none)
theorem f71_l0_k (C : OracleJ H) (n : Nat) (i0 i2 i7 i9 i10 i12 i13 i14 i15 i16 i17 i18 i19 i20 i21 i22 i23 i24 i25 i26 : Value) (i : Nat) (x : Value × Value) (s : St H) : (kBlock 0 (kSeq Tryd.prog true C n 71 none (cdp Tryd.f71 [1, 1, 1, 1, 1]) (kFun Tryd.prog Tryd.f71))) (.exit i) (f71_l0_m i0 i2 i7 i9 i10 i12 i13 i14 i15 i16 i17 i18 i19 i20 i21 i22 i23 i24 i25 i26 x) s =
 (bif Nat.beq i 0 then
 ((dOps (H := H) Tryd.prog).nilCheck i0).bind fun v56 =>
 ((dOps (H := H) Tryd.prog).fieldAddr 92 v56 0).bind fun v57 =>
 ((dOps (H := H) Tryd.prog).load s 90 v57).bind fun v58 =>
 ((dOps (H := H) Tryd.prog).append true s 90 90 v58 i7).bind fun p59 =>
 ((dOps (H := H) Tryd.prog).nilCheck i0).bind fun v60 =>
 ((dOps (H := H) Tryd.prog).fieldAddr 92 v60 0).bind fun v61 =>
 ((dOps (H := H) Tryd.prog).store p59.2 90 v61 p59.1).bind fun s62 =>
 some [((Value.int IntKind.i64 0), s62)] else none) := by kernel_rfl
theorem f71_r (C : OracleJ H) (n : Nat) (a0 : Value) (a1 : Value) (a2 : Value) (s : St H) : bodyD Tryd.prog true C n 71 Tryd.f71 [a0, a1, a2] s = f71 (dOps (H := H) Tryd.prog) C n a0 a1 a2 s := by
  have h1 : bodyD Tryd.prog true C n 71 Tryd.f71 [a0, a1, a2] s =
 ((dOps (H := H) Tryd.prog).bop .lss 3 a2 (Value.int IntKind.i64 0)).bind fun v35 =>
 gd v35 (
 some [((Value.int IntKind.i64 2), s)]) (
 ((dOps (H := H) Tryd.prog).bop .gtr 3 a2 (Value.int IntKind.i64 64)).bind fun v36 =>
 ((dOps (H := H) Tryd.prog).boolO v36).bind fun b39 => cond b39 (
 some [((Value.int IntKind.i64 2), s)]) (
 ((dOps (H := H) Tryd.prog).nilCheck a0).bind fun v40 =>
 ((dOps (H := H) Tryd.prog).fieldAddr 92 v40 0).bind fun v41 =>
 ((dOps (H := H) Tryd.prog).load s 90 v41).bind fun v42 =>
 ((dOps (H := H) Tryd.prog).len s 90 v42).bind fun v43 =>
 ((dOps (H := H) Tryd.prog).bop .add 3 v43 a2).bind fun v44 =>
 ((dOps (H := H) Tryd.prog).bop .gtr 3 v44 (Value.int IntKind.i64 524288)).bind fun v45 =>
 ((dOps (H := H) Tryd.prog).boolO v45).bind fun b46 => cond b46 (
 some [((Value.int IntKind.i64 3), s)]) (
 ((dOps (H := H) Tryd.prog).makeSlice true s 90 a2 a2).bind fun p47 =>
 ((dOps (H := H) Tryd.prog).bop .sub 3 a2 (Value.int IntKind.i64 1)).bind fun v48 =>
 iter (fun t s k => exec Tryd.prog true C n 71 none (cdp Tryd.f71 [1, 1, 1, 1, 0, 1, 0, 0]) t s k) (scratch (cdp Tryd.f71 [1, 1, 1, 1, 0, 1, 0, 0])) n (f71_l0_m a0 a2 p47.1 a2 v35 a2 v36 v36 a0 v40 v41 v42 v43 a2 v44 v45 a2 p47.1 a2 v48 (a1, v48)) p47.2 (kBlock 0 (kSeq Tryd.prog true C n 71 none (cdp Tryd.f71 [1, 1, 1, 1, 1]) (kFun Tryd.prog Tryd.f71)))))) (
 none) := by kernel_rfl
  rw [h1]
  simp only [f71_l0_e, f71_l0_k]
  show _ = f71 (dOps (H := H) Tryd.prog) C n a0 a1 a2 s
  kernel_rfl
/-! tidepole/tidepoleref02.Put -/
noncomputable def f72 (O : Ops H) (C : OracleJ H) (n : Nat) (a0 : Value) (a1 : Value) (s : St H) : Option (List (Value × St H)) :=
 (O.buildSlice false s 22 0 []).bind fun p1 =>
 (O.append false p1.2 22 22 p1.1 a0).bind fun p2 =>
 (O.bop .rem 127 a1 (Value.int IntKind.u32 256)).bind fun v3 =>
 (O.conv false p2.2 127 5 v3).bind fun p4 =>
 (O.bop .quo 127 a1 (Value.int IntKind.u32 256)).bind fun v5 =>
 (O.bop .rem 127 v5 (Value.int IntKind.u32 256)).bind fun v6 =>
 (O.conv false p4.2 127 5 v6).bind fun p7 =>
 (O.bop .quo 127 a1 (Value.int IntKind.u32 65536)).bind fun v8 =>
 (O.bop .rem 127 v8 (Value.int IntKind.u32 256)).bind fun v9 =>
 (O.conv false p7.2 127 5 v9).bind fun p10 =>
 (O.bop .quo 127 a1 (Value.int IntKind.u32 16777216)).bind fun v11 =>
 (O.conv false p10.2 127 5 v11).bind fun p12 =>
 (O.buildSlice false p12.2 22 4 [(0, p4.1), (1, p7.1), (2, p10.1), (3, p12.1)]).bind fun p13 =>
 (O.append false p13.2 22 22 p2.1 p13.1).bind fun p14 =>
 some [(p14.1, p14.2)]
theorem f72_r (C : OracleJ H) (n : Nat) (a0 : Value) (a1 : Value) (s : St H) : bodyD Tryd.prog false C n 72 Tryd.f72 [a0, a1] s = f72 (dOps (H := H) Tryd.prog) C n a0 a1 s := by kernel_rfl
end Go.Proofs.YtmhmbmogodofeaaDoor.S
