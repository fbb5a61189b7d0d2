import Derived.Test.YtmhmbmogodofeaaDoorFy
import Derived.ProofKit
import Derived.Test.YtmhmbmogodofeaaDoorRows
/- The plain runs of functions (printed by shal.py). -/
set_option autoImplicit false
set_option linter.unusedVariables false
set_option maxRecDepth 100000
namespace Go.Proofs.YtmhmbmogodofeaaDoor.S
open Go.FS Go.RowKit
variable {H : HeapI}
/-! tidepole/tidepolelaw08.ChunkReads -/
noncomputable def f3 (O : Ops H) (C : OracleJ H) (n : Nat) (a0 : Value) (a1 : Value) (s : St H) : Option (List (Value × St H)) :=
 (O.len s 22 a0).bind fun v1 =>
 (O.minO v1 [(Value.int IntKind.i64 600)]).bind fun v2 =>
 (O.slc s 22 a0 none (some v2) none).bind fun v3 =>
 (C (.fn 8) [v3] s).bind fun L4 => manyK L4 fun v5 s6 =>
 (C (.fn 9) [v5, a1] s6).bind fun L7 => manyK L7 fun v8 s9 =>
 (O.extract v8 0).bind fun v10 =>
 (O.extract v8 1).bind fun v11 =>
 (O.extract v8 2).bind fun v12 =>
 (C (.fn 10) [v3, a1] s9).bind fun L13 => manyK L13 fun v14 s15 =>
 (O.extract v14 0).bind fun v16 =>
 (O.extract v14 1).bind fun v17 =>
 (O.extract v14 2).bind fun v18 =>
 (C (.fn 11) [v10, v16] s15).bind fun L19 => manyK L19 fun v20 s21 =>
 gd v20 (
 (O.bop .eql 3 v11 v17).bind fun v22 =>
 gd v22 (
 (O.bop .eql 25 v12 v18).bind fun v23 =>
 gd v23 (
 (C (.fn 12) [v5, v3] s21).bind fun L24 => manyK L24 fun v25 s26 =>
 gd v25 (
 (C (.fn 13) [] s26).bind fun L27 => manyK L27 fun v28 s29 =>
 some [(v28, s29)]) (
 some [((.bool false), s26)]) (
 none)) (
 some [((.bool false), s21)]) (
 none)) (
 some [((.bool false), s21)]) (
 none)) (
 some [((.bool false), s21)]) (
 none)
theorem f3_r (C : OracleJ H) (n : Nat) (a0 : Value) (a1 : Value) (s : St H) : bodyD Tryd.prog false C n 3 Tryd.f3 [a0, a1] s = f3 (dOps (H := H) Tryd.prog) C n a0 a1 s := by kernel_rfl
/-! tidepole/tidepoleref08.Read -/
def f10_l0_m (i0 i1 i7 i8 i9 i10 i11 i12 i13 i14 i15 i16 i17 i18 i30 i31 i32 i33 i34 i35 i36 i37 i38 i40 i41 i42 i43 i44 i45 i46 i47 i48 i50 i51 i53 i54 i55 i56 i57 i58 i59 i60 i61 i62 i63 i65 i66 i67 i68 i69 i70 i71 i72 i73 i74 i75 i76 i77 i78 i79 i80 i81 i82 i83 i84 i85 i86 i87 i88 i89 i90 i91 i92 i93 i94 : Value) (x : Value × Value × Value × Value × Value × Value × Value × Value × Value) : List Value := [i0, i1, undefV, undefV, x.1, x.2.1, x.2.2.1, i7, i8, i9, i10, i11, i12, i13, i14, i15, i16, i17, i18, x.2.2.2.1, x.2.2.2.2.1, dc, x.2.2.2.2.2.1, x.2.2.2.2.2.2.1, dc, x.2.2.2.2.2.2.2.1, x.2.2.2.2.2.2.2.2, undefV, undefV, undefV, i30, i31, i32, i33, i34, i35, i36, i37, i38, undefV, i40, i41, i42, i43, i44, i45, i46, i47, i48, undefV, i50, i51, (.bool false), i53, i54, i55, i56, i57, i58, i59, i60, i61, i62, i63, (.bool false), i65, i66, i67, i68, i69, i70, i71, i72, i73, i74, i75, i76, i77, i78, i79, i80, i81, i82, i83, i84, i85, i86, i87, i88, i89, i90, i91, i92, i93, i94, dc, dc, dc, dc, dc, dc, dc, dc, dc, dc, dc, dc, dc, dc, dc, dc, dc, dc, dc, dc, dc, dc, dc, dc, dc, dc, dc, dc, dc, dc, dc, dc, undefV, undefV, undefV, undefV, undefV, undefV, undefV, undefV, undefV, undefV, undefV, undefV, undefV, undefV, undefV, undefV, undefV, undefV, undefV, undefV, undefV, undefV, undefV, undefV]
noncomputable def f10_l0 (O : Ops H) (C : OracleJ H) (n : Nat) (i7 i16 i17 i18 : Value) (nx : (Value × Value × Value × Value × Value × Value × Value × Value × Value) → St H → Option (List (Value × St H))) (kx : Nat → (Value × Value × Value × Value × Value × Value × Value × Value × Value) → St H → Option (List (Value × St H))) (kr : (Value × Value × Value × Value × Value × Value × Value × Value × Value) → St H → Option (List (Value × St H))) (x : Value × Value × Value × Value × Value × Value × Value × Value × Value) (s : St H) : Option (List (Value × St H)) :=
 (O.conv false s 38 3 i7).bind fun p55 =>
 (O.bop .lss 3 x.2.2.2.2.1 p55.1).bind fun v56 =>
 (O.boolO v56).bind fun b57 => cond b57 (
 (O.load p55.2 79 i17).bind fun v58 =>
 (C (.fn 35) [i16, v58] p55.2).bind fun L59 => manyK L59 fun v60 s61 =>
 (O.extract v60 0).bind fun v62 =>
 (O.extract v60 1).bind fun v63 =>
 (O.extract v60 2).bind fun v64 =>
 (O.alloc s61 79).bind fun p65 =>
 (O.store p65.2 79 p65.1 v62).bind fun s66 =>
 (O.bop .neq 25 v64 (Value.int IntKind.i64 0)).bind fun v67 =>
 (O.boolO v67).bind fun b68 => cond b68 (
 kr ((fzV 2 #[]), (Value.int IntKind.i64 0), (Value.int IntKind.i64 80), x.2.2.2.1, x.2.2.2.2.1, v63, v64, x.2.2.2.2.2.2.2.1, x.2.2.2.2.2.2.2.2) s66) (
 (O.load s66 81 i18).bind fun v69 =>
 (C (.fn 36) [i16, v69] s66).bind fun L70 => manyK L70 fun v71 s72 =>
 (O.extract v71 0).bind fun v73 =>
 (O.extract v71 1).bind fun v74 =>
 (O.extract v71 2).bind fun v75 =>
 (O.alloc s72 81).bind fun p76 =>
 (O.store p76.2 81 p76.1 v73).bind fun s77 =>
 (O.bop .neq 25 v75 (Value.int IntKind.i64 0)).bind fun v78 =>
 (O.boolO v78).bind fun b79 => cond b79 (
 kr ((fzV 2 #[]), (Value.int IntKind.i64 0), (Value.int IntKind.i64 80), x.2.2.2.1, x.2.2.2.2.1, v63, v64, v74, v75) s77) (
 (O.load s77 79 p65.1).bind fun v80 =>
 (O.load s77 81 p76.1).bind fun v81 =>
 (O.store s77 79 i17 v80).bind fun s82 =>
 (O.store s82 81 i18 v81).bind fun s83 =>
 bif (eqO H (O.load s77 81 p76.1) v81 && (eqO H (O.load s82 81 p76.1) v81 && (true))) && (true) then
 (O.build 40 [(0, v63), (1, v74)]).bind fun v84 =>
 (O.buildSlice false s83 24 1 [(0, v84)]).bind fun p85 =>
 (O.append false p85.2 24 24 x.2.2.2.1 p85.1).bind fun p86 =>
 (O.bop .add 3 x.2.2.2.2.1 (Value.int IntKind.i64 1)).bind fun v87 =>
 nx (x.1, x.2.1, x.2.2.1, p86.1, v87, v63, v64, v74, v75) p86.2
 else none))) (
 kx 0 (x.1, x.2.1, x.2.2.1, x.2.2.2.1, x.2.2.2.2.1, x.2.2.2.2.2.1, x.2.2.2.2.2.2.1, x.2.2.2.2.2.2.2.1, x.2.2.2.2.2.2.2.2) p55.2)
theorem f10_l0_b (C : OracleJ H) (n : Nat) (i0 i1 i7 i8 i9 i10 i11 i12 i13 i14 i15 i16 i17 i18 i30 i31 i32 i33 i34 i35 i36 i37 i38 i40 i41 i42 i43 i44 i45 i46 i47 i48 i50 i51 i53 i54 i55 i56 i57 i58 i59 i60 i61 i62 i63 i65 i66 i67 i68 i69 i70 i71 i72 i73 i74 i75 i76 i77 i78 i79 i80 i81 i82 i83 i84 i85 i86 i87 i88 i89 i90 i91 i92 i93 i94 : Value) (x : Value × Value × Value × Value × Value × Value × Value × Value × Value) (s : St H) (nx : List Value → St H → Option (List (Value × St H))) (K : Ex → List Value → St H → Option (List (Value × St H))) :
 exec Tryd.prog false C n 10 none (cdp Tryd.f10 [1, 1, 1, 1, 1, 1, 1, 1, 1, 1, 1, 1, 1, 0, 1, 0, 0]) (f10_l0_m i0 i1 i7 i8 i9 i10 i11 i12 i13 i14 i15 i16 i17 i18 i30 i31 i32 i33 i34 i35 i36 i37 i38 i40 i41 i42 i43 i44 i45 i46 i47 i48 i50 i51 i53 i54 i55 i56 i57 i58 i59 i60 i61 i62 i63 i65 i66 i67 i68 i69 i70 i71 i72 i73 i74 i75 i76 i77 i78 i79 i80 i81 i82 i83 i84 i85 i86 i87 i88 i89 i90 i91 i92 i93 i94 x) s (kIter (scratch (cdp Tryd.f10 [1, 1, 1, 1, 1, 1, 1, 1, 1, 1, 1, 1, 1, 0, 1, 0, 0])) nx K) = f10_l0 (dOps (H := H) Tryd.prog) C n i7 i16 i17 i18 (fun x s => nx (f10_l0_m i0 i1 i7 i8 i9 i10 i11 i12 i13 i14 i15 i16 i17 i18 i30 i31 i32 i33 i34 i35 i36 i37 i38 i40 i41 i42 i43 i44 i45 i46 i47 i48 i50 i51 i53 i54 i55 i56 i57 i58 i59 i60 i61 i62 i63 i65 i66 i67 i68 i69 i70 i71 i72 i73 i74 i75 i76 i77 i78 i79 i80 i81 i82 i83 i84 i85 i86 i87 i88 i89 i90 i91 i92 i93 i94 x) s) (fun i x s => K (.exit i) (f10_l0_m i0 i1 i7 i8 i9 i10 i11 i12 i13 i14 i15 i16 i17 i18 i30 i31 i32 i33 i34 i35 i36 i37 i38 i40 i41 i42 i43 i44 i45 i46 i47 i48 i50 i51 i53 i54 i55 i56 i57 i58 i59 i60 i61 i62 i63 i65 i66 i67 i68 i69 i70 i71 i72 i73 i74 i75 i76 i77 i78 i79 i80 i81 i82 i83 i84 i85 i86 i87 i88 i89 i90 i91 i92 i93 i94 x) s) (fun x s => K .ret (f10_l0_m i0 i1 i7 i8 i9 i10 i11 i12 i13 i14 i15 i16 i17 i18 i30 i31 i32 i33 i34 i35 i36 i37 i38 i40 i41 i42 i43 i44 i45 i46 i47 i48 i50 i51 i53 i54 i55 i56 i57 i58 i59 i60 i61 i62 i63 i65 i66 i67 i68 i69 i70 i71 i72 i73 i74 i75 i76 i77 i78 i79 i80 i81 i82 i83 i84 i85 i86 i87 i88 i89 i90 i91 i92 i93 i94 x) s) x s := by kernel_rfl
theorem f10_l0_e (C : OracleJ H) (n : Nat) (i0 i1 i7 i8 i9 i10 i11 i12 i13 i14 i15 i16 i17 i18 i30 i31 i32 i33 i34 i35 i36 i37 i38 i40 i41 i42 i43 i44 i45 i46 i47 i48 i50 i51 i53 i54 i55 i56 i57 i58 i59 i60 i61 i62 i63 i65 i66 i67 i68 i69 i70 i71 i72 i73 i74 i75 i76 i77 i78 i79 i80 i81 i82 i83 i84 i85 i86 i87 i88 i89 i90 i91 i92 i93 i94 : Value) (m : Nat) (x : Value × Value × Value × Value × Value × Value × Value × Value × Value) (s : St H) (K : Ex → List Value → St H → Option (List (Value × St H))) :
 iter (fun t s k => exec Tryd.prog false C n 10 none (cdp Tryd.f10 [1, 1, 1, 1, 1, 1, 1, 1, 1, 1, 1, 1, 1, 0, 1, 0, 0]) t s k) (scratch (cdp Tryd.f10 [1, 1, 1, 1, 1, 1, 1, 1, 1, 1, 1, 1, 1, 0, 1, 0, 0])) m (f10_l0_m i0 i1 i7 i8 i9 i10 i11 i12 i13 i14 i15 i16 i17 i18 i30 i31 i32 i33 i34 i35 i36 i37 i38 i40 i41 i42 i43 i44 i45 i46 i47 i48 i50 i51 i53 i54 i55 i56 i57 i58 i59 i60 i61 i62 i63 i65 i66 i67 i68 i69 i70 i71 i72 i73 i74 i75 i76 i77 i78 i79 i80 i81 i82 i83 i84 i85 i86 i87 i88 i89 i90 i91 i92 i93 i94 x) s K = iterS (f10_l0 (dOps (H := H) Tryd.prog) C n i7 i16 i17 i18) (fun i x s => K (.exit i) (f10_l0_m i0 i1 i7 i8 i9 i10 i11 i12 i13 i14 i15 i16 i17 i18 i30 i31 i32 i33 i34 i35 i36 i37 i38 i40 i41 i42 i43 i44 i45 i46 i47 i48 i50 i51 i53 i54 i55 i56 i57 i58 i59 i60 i61 i62 i63 i65 i66 i67 i68 i69 i70 i71 i72 i73 i74 i75 i76 i77 i78 i79 i80 i81 i82 i83 i84 i85 i86 i87 i88 i89 i90 i91 i92 i93 i94 x) s) (fun x s => K .ret (f10_l0_m i0 i1 i7 i8 i9 i10 i11 i12 i13 i14 i15 i16 i17 i18 i30 i31 i32 i33 i34 i35 i36 i37 i38 i40 i41 i42 i43 i44 i45 i46 i47 i48 i50 i51 i53 i54 i55 i56 i57 i58 i59 i60 i61 i62 i63 i65 i66 i67 i68 i69 i70 i71 i72 i73 i74 i75 i76 i77 i78 i79 i80 i81 i82 i83 i84 i85 i86 i87 i88 i89 i90 i91 i92 i93 i94 x) s) m x s :=
   iter_eq (f10_l0_m i0 i1 i7 i8 i9 i10 i11 i12 i13 i14 i15 i16 i17 i18 i30 i31 i32 i33 i34 i35 i36 i37 i38 i40 i41 i42 i43 i44 i45 i46 i47 i48 i50 i51 i53 i54 i55 i56 i57 i58 i59 i60 i61 i62 i63 i65 i66 i67 i68 i69 i70 i71 i72 i73 i74 i75 i76 i77 i78 i79 i80 i81 i82 i83 i84 i85 i86 i87 i88 i89 i90 i91 i92 i93 i94) (f10_l0 (dOps (H := H) Tryd.prog) C n i7 i16 i17 i18) (fun x s nx K => f10_l0_b C n i0 i1 i7 i8 i9 i10 i11 i12 i13 i14 i15 i16 i17 i18 i30 i31 i32 i33 i34 i35 i36 i37 i38 i40 i41 i42 i43 i44 i45 i46 i47 i48 i50 i51 i53 i54 i55 i56 i57 i58 i59 i60 i61 i62 i63 i65 i66 i67 i68 i69 i70 i71 i72 i73 i74 i75 i76 i77 i78 i79 i80 i81 i82 i83 i84 i85 i86 i87 i88 i89 i90 i91 i92 i93 i94 x s nx K) K m x s
noncomputable def f10 (O : Ops H) (C : OracleJ H) (n : Nat) (a0 : Value) (a1 : Value) (s : St H) : Option (List (Value × St H)) :=
 (C (.fn 32) [a0, a1] s).bind fun L1 => manyK L1 fun v2 s3 =>
 (O.extract v2 0).bind fun v4 =>
 (O.extract v2 1).bind fun v5 =>
 (O.extract v2 2).bind fun v6 =>
 (O.bop .neq 25 v6 (Value.int IntKind.i64 0)).bind fun v7 =>
 (O.boolO v7).bind fun b8 => cond b8 (
 some [(.tuple #[(fzV 2 #[]), (Value.int IntKind.i64 0), v6], s3)]) (
 (C (.fn 32) [a0, v5] s3).bind fun L9 => manyK L9 fun v10 s11 =>
 (O.extract v10 0).bind fun v12 =>
 (O.extract v10 1).bind fun v13 =>
 (O.extract v10 2).bind fun v14 =>
 (O.bop .neq 25 v14 (Value.int IntKind.i64 0)).bind fun v15 =>
 (O.boolO v15).bind fun b16 => cond b16 (
 some [(.tuple #[(fzV 2 #[]), (Value.int IntKind.i64 0), v14], s11)]) (
 (O.bop .lss 38 v4 (Value.int IntKind.u64 1)).bind fun v17 =>
 gd v17 (
 some [(.tuple #[(fzV 2 #[]), (Value.int IntKind.i64 0), (Value.int IntKind.i64 80)], s11)]) (
 (O.bop .gtr 38 v4 (Value.int IntKind.u64 120)).bind fun v18 =>
 (O.boolO v18).bind fun b21 => cond b21 (
 some [(.tuple #[(fzV 2 #[]), (Value.int IntKind.i64 0), (Value.int IntKind.i64 80)], s11)]) (
 (O.len s11 22 a0).bind fun v22 =>
 (O.bop .sub 3 v22 v13).bind fun v23 =>
 (O.conv false s11 3 38 v23).bind fun p24 =>
 (O.bop .gtr 38 v12 p24.1).bind fun v25 =>
 gd v25 (
 some [(.tuple #[(fzV 2 #[]), (Value.int IntKind.i64 0), (Value.int IntKind.i64 7)], p24.2)]) (
 (O.conv false p24.2 38 3 v12).bind fun p26 =>
 (O.bop .sub 3 v23 p26.1).bind fun v27 =>
 (O.bop .lss 3 v27 (Value.int IntKind.i64 4)).bind fun v28 =>
 (O.boolO v28).bind fun b31 => cond b31 (
 some [(.tuple #[(fzV 2 #[]), (Value.int IntKind.i64 0), (Value.int IntKind.i64 7)], p26.2)]) (
 (O.conv false p26.2 38 3 v12).bind fun p32 =>
 (O.bop .add 3 v13 p32.1).bind fun v33 =>
 (O.bop .add 3 v33 (Value.int IntKind.i64 4)).bind fun v34 =>
 (O.slc p32.2 22 a0 (some a1) (some v34) none).bind fun v35 =>
 (C (.fn 33) [v35] p32.2).bind fun L36 => manyK L36 fun v37 s38 =>
 (O.extract v37 0).bind fun v39 =>
 (O.extract v37 1).bind fun v40 =>
 (O.uop .not v40).bind fun v41 =>
 (O.boolO v41).bind fun b42 => cond b42 (
 some [(.tuple #[(fzV 2 #[]), (Value.int IntKind.i64 0), (Value.int IntKind.i64 80)], s38)]) (
 (O.slc s38 22 a0 (some v13) (some v33) none).bind fun v43 =>
 (O.build 77 [(0, v43)]).bind fun v44 =>
 (O.box s38 v44).bind fun p45 =>
 (O.build 79 []).bind fun v46 =>
 (C (.fn 34) [] p45.2).bind fun L47 => manyK L47 fun v48 s49 =>
 (O.alloc s49 79).bind fun p50 =>
 (O.alloc p50.2 81).bind fun p51 =>
 (O.store p51.2 79 p50.1 v46).bind fun s52 =>
 (O.store s52 81 p51.1 v48).bind fun s53 =>
 (O.buildSlice false s53 24 0 []).bind fun p54 =>
 iterS (f10_l0 O C n v4 p45.1 p50.1 p51.1 )
 (fun i88 x89 s90 => (bif Nat.beq i88 0 then
 (O.nilCheck p45.1).bind fun v93 =>
 (O.fieldAddr 77 v93 0).bind fun v94 =>
 (O.load s90 22 v94).bind fun v95 =>
 (O.len s90 22 v95).bind fun v96 =>
 (O.bop .mul 3 (Value.int IntKind.i64 8) v96).bind fun v97 =>
 (O.nilCheck p45.1).bind fun v98 =>
 (O.fieldAddr 77 v98 1).bind fun v99 =>
 (O.load s90 3 v99).bind fun v100 =>
 (O.bop .sub 3 v97 v100).bind fun v101 =>
 (O.bop .geq 3 v101 (Value.int IntKind.i64 8)).bind fun v102 =>
 (O.boolO v102).bind fun b103 => cond b103 (
 some [(.tuple #[(fzV 2 #[]), (Value.int IntKind.i64 0), (Value.int IntKind.i64 80)], s90)]) (
 (C (.fn 37) [p45.1, v101] s90).bind fun L104 => manyK L104 fun v105 s106 =>
 (O.extract v105 0).bind fun v107 =>
 (O.extract v105 1).bind fun v108 =>
 (O.bop .neq 38 v107 (Value.int IntKind.u64 0)).bind fun v109 =>
 (O.boolO v109).bind fun b110 => cond b110 (
 some [(.tuple #[(fzV 2 #[]), (Value.int IntKind.i64 0), (Value.int IntKind.i64 80)], s106)]) (
 (O.bop .add 3 v33 (Value.int IntKind.i64 4)).bind fun v111 =>
 some [(.tuple #[x89.2.2.2.1, v111, (Value.int IntKind.i64 0)], s106)])) else none))
 (fun x91 s92 => some [(.tuple #[x91.1, x91.2.1, x91.2.2.1], s92)]) n ((fzV 2 #[]), (Value.int IntKind.i64 0), (Value.int IntKind.i64 0), p54.1, (Value.int IntKind.i64 0), undefV, undefV, undefV, undefV) p54.2))) (
 none))) (
 none)))
theorem f10_l0_k (C : OracleJ H) (n : Nat) (i0 i1 i7 i8 i9 i10 i11 i12 i13 i14 i15 i16 i17 i18 i30 i31 i32 i33 i34 i35 i36 i37 i38 i40 i41 i42 i43 i44 i45 i46 i47 i48 i50 i51 i53 i54 i55 i56 i57 i58 i59 i60 i61 i62 i63 i65 i66 i67 i68 i69 i70 i71 i72 i73 i74 i75 i76 i77 i78 i79 i80 i81 i82 i83 i84 i85 i86 i87 i88 i89 i90 i91 i92 i93 i94 : Value) (i : Nat) (x : Value × Value × Value × Value × Value × Value × Value × Value × Value) (s : St H) : (kBlock 0 (kSeq Tryd.prog false C n 10 none (cdp Tryd.f10 [1, 1, 1, 1, 1, 1, 1, 1, 1, 1, 1, 1, 1, 1]) (kFun Tryd.prog Tryd.f10))) (.exit i) (f10_l0_m i0 i1 i7 i8 i9 i10 i11 i12 i13 i14 i15 i16 i17 i18 i30 i31 i32 i33 i34 i35 i36 i37 i38 i40 i41 i42 i43 i44 i45 i46 i47 i48 i50 i51 i53 i54 i55 i56 i57 i58 i59 i60 i61 i62 i63 i65 i66 i67 i68 i69 i70 i71 i72 i73 i74 i75 i76 i77 i78 i79 i80 i81 i82 i83 i84 i85 i86 i87 i88 i89 i90 i91 i92 i93 i94 x) s =
 (bif Nat.beq i 0 then
 ((dOps (H := H) Tryd.prog).nilCheck i16).bind fun v185 =>
 ((dOps (H := H) Tryd.prog).fieldAddr 77 v185 0).bind fun v186 =>
 ((dOps (H := H) Tryd.prog).load s 22 v186).bind fun v187 =>
 ((dOps (H := H) Tryd.prog).len s 22 v187).bind fun v188 =>
 ((dOps (H := H) Tryd.prog).bop .mul 3 (Value.int IntKind.i64 8) v188).bind fun v189 =>
 ((dOps (H := H) Tryd.prog).nilCheck i16).bind fun v190 =>
 ((dOps (H := H) Tryd.prog).fieldAddr 77 v190 1).bind fun v191 =>
 ((dOps (H := H) Tryd.prog).load s 3 v191).bind fun v192 =>
 ((dOps (H := H) Tryd.prog).bop .sub 3 v189 v192).bind fun v193 =>
 ((dOps (H := H) Tryd.prog).bop .geq 3 v193 (Value.int IntKind.i64 8)).bind fun v194 =>
 ((dOps (H := H) Tryd.prog).boolO v194).bind fun b195 => cond b195 (
 some [(.tuple #[(fzV 2 #[]), (Value.int IntKind.i64 0), (Value.int IntKind.i64 80)], s)]) (
 (C (.fn 37) [i16, v193] s).bind fun L196 => manyK L196 fun v197 s198 =>
 ((dOps (H := H) Tryd.prog).extract v197 0).bind fun v199 =>
 ((dOps (H := H) Tryd.prog).extract v197 1).bind fun v200 =>
 ((dOps (H := H) Tryd.prog).bop .neq 38 v199 (Value.int IntKind.u64 0)).bind fun v201 =>
 ((dOps (H := H) Tryd.prog).boolO v201).bind fun b202 => cond b202 (
 some [(.tuple #[(fzV 2 #[]), (Value.int IntKind.i64 0), (Value.int IntKind.i64 80)], s198)]) (
 ((dOps (H := H) Tryd.prog).bop .add 3 i13 (Value.int IntKind.i64 4)).bind fun v203 =>
 some [(.tuple #[x.2.2.2.1, v203, (Value.int IntKind.i64 0)], s198)])) else none) := by kernel_rfl
theorem f10_r (C : OracleJ H) (n : Nat) (a0 : Value) (a1 : Value) (s : St H) : bodyD Tryd.prog false C n 10 Tryd.f10 [a0, a1] s = f10 (dOps (H := H) Tryd.prog) C n a0 a1 s := by
  have h1 : bodyD Tryd.prog false C n 10 Tryd.f10 [a0, a1] s =
 (C (.fn 32) [a0, a1] s).bind fun L112 => manyK L112 fun v113 s114 =>
 ((dOps (H := H) Tryd.prog).extract v113 0).bind fun v115 =>
 ((dOps (H := H) Tryd.prog).extract v113 1).bind fun v116 =>
 ((dOps (H := H) Tryd.prog).extract v113 2).bind fun v117 =>
 ((dOps (H := H) Tryd.prog).bop .neq 25 v117 (Value.int IntKind.i64 0)).bind fun v118 =>
 ((dOps (H := H) Tryd.prog).boolO v118).bind fun b119 => cond b119 (
 some [(.tuple #[(fzV 2 #[]), (Value.int IntKind.i64 0), v117], s114)]) (
 (C (.fn 32) [a0, v116] s114).bind fun L120 => manyK L120 fun v121 s122 =>
 ((dOps (H := H) Tryd.prog).extract v121 0).bind fun v123 =>
 ((dOps (H := H) Tryd.prog).extract v121 1).bind fun v124 =>
 ((dOps (H := H) Tryd.prog).extract v121 2).bind fun v125 =>
 ((dOps (H := H) Tryd.prog).bop .neq 25 v125 (Value.int IntKind.i64 0)).bind fun v126 =>
 ((dOps (H := H) Tryd.prog).boolO v126).bind fun b127 => cond b127 (
 some [(.tuple #[(fzV 2 #[]), (Value.int IntKind.i64 0), v125], s122)]) (
 ((dOps (H := H) Tryd.prog).bop .lss 38 v115 (Value.int IntKind.u64 1)).bind fun v128 =>
 gd v128 (
 some [(.tuple #[(fzV 2 #[]), (Value.int IntKind.i64 0), (Value.int IntKind.i64 80)], s122)]) (
 ((dOps (H := H) Tryd.prog).bop .gtr 38 v115 (Value.int IntKind.u64 120)).bind fun v129 =>
 ((dOps (H := H) Tryd.prog).boolO v129).bind fun b132 => cond b132 (
 some [(.tuple #[(fzV 2 #[]), (Value.int IntKind.i64 0), (Value.int IntKind.i64 80)], s122)]) (
 ((dOps (H := H) Tryd.prog).len s122 22 a0).bind fun v133 =>
 ((dOps (H := H) Tryd.prog).bop .sub 3 v133 v124).bind fun v134 =>
 ((dOps (H := H) Tryd.prog).conv false s122 3 38 v134).bind fun p135 =>
 ((dOps (H := H) Tryd.prog).bop .gtr 38 v123 p135.1).bind fun v136 =>
 gd v136 (
 some [(.tuple #[(fzV 2 #[]), (Value.int IntKind.i64 0), (Value.int IntKind.i64 7)], p135.2)]) (
 ((dOps (H := H) Tryd.prog).conv false p135.2 38 3 v123).bind fun p137 =>
 ((dOps (H := H) Tryd.prog).bop .sub 3 v134 p137.1).bind fun v138 =>
 ((dOps (H := H) Tryd.prog).bop .lss 3 v138 (Value.int IntKind.i64 4)).bind fun v139 =>
 ((dOps (H := H) Tryd.prog).boolO v139).bind fun b142 => cond b142 (
 some [(.tuple #[(fzV 2 #[]), (Value.int IntKind.i64 0), (Value.int IntKind.i64 7)], p137.2)]) (
 ((dOps (H := H) Tryd.prog).conv false p137.2 38 3 v123).bind fun p143 =>
 ((dOps (H := H) Tryd.prog).bop .add 3 v124 p143.1).bind fun v144 =>
 ((dOps (H := H) Tryd.prog).bop .add 3 v144 (Value.int IntKind.i64 4)).bind fun v145 =>
 ((dOps (H := H) Tryd.prog).slc p143.2 22 a0 (some a1) (some v145) none).bind fun v146 =>
 (C (.fn 33) [v146] p143.2).bind fun L147 => manyK L147 fun v148 s149 =>
 ((dOps (H := H) Tryd.prog).extract v148 0).bind fun v150 =>
 ((dOps (H := H) Tryd.prog).extract v148 1).bind fun v151 =>
 ((dOps (H := H) Tryd.prog).uop .not v151).bind fun v152 =>
 ((dOps (H := H) Tryd.prog).boolO v152).bind fun b153 => cond b153 (
 some [(.tuple #[(fzV 2 #[]), (Value.int IntKind.i64 0), (Value.int IntKind.i64 80)], s149)]) (
 ((dOps (H := H) Tryd.prog).slc s149 22 a0 (some v124) (some v144) none).bind fun v154 =>
 ((dOps (H := H) Tryd.prog).build 77 [(0, v154)]).bind fun v155 =>
 ((dOps (H := H) Tryd.prog).box s149 v155).bind fun p156 =>
 ((dOps (H := H) Tryd.prog).build 79 []).bind fun v157 =>
 (C (.fn 34) [] p156.2).bind fun L158 => manyK L158 fun v159 s160 =>
 ((dOps (H := H) Tryd.prog).alloc s160 79).bind fun p161 =>
 ((dOps (H := H) Tryd.prog).alloc p161.2 81).bind fun p162 =>
 ((dOps (H := H) Tryd.prog).store p162.2 79 p161.1 v157).bind fun s163 =>
 ((dOps (H := H) Tryd.prog).store s163 81 p162.1 v159).bind fun s164 =>
 ((dOps (H := H) Tryd.prog).buildSlice false s164 24 0 []).bind fun p165 =>
 iter (fun t s k => exec Tryd.prog false C n 10 none (cdp Tryd.f10 [1, 1, 1, 1, 1, 1, 1, 1, 1, 1, 1, 1, 1, 0, 1, 0, 0]) t s k) (scratch (cdp Tryd.f10 [1, 1, 1, 1, 1, 1, 1, 1, 1, 1, 1, 1, 1, 0, 1, 0, 0])) n (f10_l0_m a0 a1 v115 v116 v125 v123 v124 v134 v144 v150 v151 p156.1 p161.1 p162.1 v113 a0 a1 v113 v115 v116 v117 v117 v118 v121 a0 v116 v121 v123 v124 v125 v125 v126 v115 v128 v115 v129 v129 a0 v133 v124 v134 v123 v134 p135.1 v136 v134 v123 p137.1 v138 v139 v139 v124 v123 p143.1 v144 v148 a0 a1 v144 v145 v146 v148 v150 v151 v151 v152 a0 v124 v144 v154 v155 p156.1 v157 v159 p165.1 ((fzV 2 #[]), (Value.int IntKind.i64 0), (Value.int IntKind.i64 0), p165.1, (Value.int IntKind.i64 0), undefV, undefV, undefV, undefV)) p165.2 (kBlock 0 (kSeq Tryd.prog false C n 10 none (cdp Tryd.f10 [1, 1, 1, 1, 1, 1, 1, 1, 1, 1, 1, 1, 1, 1]) (kFun Tryd.prog Tryd.f10)))))) (
 none))) (
 none))) := by kernel_rfl
  rw [h1]
  simp only [f10_l0_e, f10_l0_k]
  show _ = f10 (dOps (H := H) Tryd.prog) C n a0 a1 s
  kernel_rfl
/-! tidepole/tidepoleref01.Read -/
def f32_l0_m (i0 i1 i11 i12 i14 i15 i16 i17 i18 : Value) (x : Value × Value × Value × Value × Value × Value × Value) : List Value := [i0, i1, undefV, undefV, x.1, x.2.1, x.2.2.1, x.2.2.2.1, x.2.2.2.2.1, x.2.2.2.2.2.1, x.2.2.2.2.2.2, i11, i12, (.bool false), i14, i15, i16, i17, i18, dc, dc, dc, dc, dc, dc, dc, dc, dc, dc, dc, dc, dc, dc, dc, dc, dc, dc, dc, dc, dc, dc, dc, dc, dc, dc, dc, dc, dc, dc, dc, dc, dc, dc, dc, dc, dc, dc, dc, dc, dc, dc, dc, dc, dc, dc]
noncomputable def f32_l0 (O : Ops H) (C : OracleJ H) (n : Nat) (i0 i1 : Value) (nx : (Value × Value × Value × Value × Value × Value × Value) → St H → Option (List (Value × St H))) (kx : Nat → (Value × Value × Value × Value × Value × Value × Value) → St H → Option (List (Value × St H))) (kr : (Value × Value × Value × Value × Value × Value × Value) → St H → Option (List (Value × St H))) (x : Value × Value × Value × Value × Value × Value × Value) (s : St H) : Option (List (Value × St H)) :=
 (O.bop .lss 3 x.2.2.2.2.2.1 (Value.int IntKind.i64 10)).bind fun v7 =>
 (O.boolO v7).bind fun b8 => cond b8 (
 (O.len s 22 i0).bind fun v9 =>
 (O.bop .sub 3 v9 i1).bind fun v10 =>
 (O.bop .geq 3 x.2.2.2.2.2.1 v10).bind fun v11 =>
 (O.boolO v11).bind fun b12 => cond b12 (
 kr ((Value.int IntKind.u64 0), (Value.int IntKind.i64 0), (Value.int IntKind.i64 7), x.2.2.2.1, x.2.2.2.2.1, x.2.2.2.2.2.1, x.2.2.2.2.2.2) s) (
 (O.bop .add 3 i1 x.2.2.2.2.2.1).bind fun v13 =>
 (O.indexAddr 22 i0 v13).bind fun v14 =>
 (O.load s 5 v14).bind fun v15 =>
 (O.conv false s 5 38 v15).bind fun p16 =>
 jn (fun (j124_49 : Value) =>
 (O.boolO j124_49).bind fun b24 => cond b24 (
 kr ((Value.int IntKind.u64 0), (Value.int IntKind.i64 0), (Value.int IntKind.i64 10), x.2.2.2.1, x.2.2.2.2.1, x.2.2.2.2.2.1, p16.1) p16.2) (
 (O.bop .rem 38 p16.1 (Value.int IntKind.u64 128)).bind fun v25 =>
 (O.bop .mul 38 v25 x.2.2.2.2.1).bind fun v26 =>
 (O.bop .add 38 x.2.2.2.1 v26).bind fun v27 =>
 (O.bop .mul 38 x.2.2.2.2.1 (Value.int IntKind.u64 128)).bind fun v28 =>
 (O.bop .lss 38 p16.1 (Value.int IntKind.u64 128)).bind fun v29 =>
 (O.boolO v29).bind fun b30 => cond b30 (
 (O.bop .add 3 i1 x.2.2.2.2.2.1).bind fun v31 =>
 (O.bop .add 3 v31 (Value.int IntKind.i64 1)).bind fun v32 =>
 kr (v27, v32, (Value.int IntKind.i64 0), v27, v28, x.2.2.2.2.2.1, p16.1) p16.2) (
 (O.bop .add 3 x.2.2.2.2.2.1 (Value.int IntKind.i64 1)).bind fun v33 =>
 nx (x.1, x.2.1, x.2.2.1, v27, v28, v33, p16.1) p16.2))) fun k124 =>
 (O.bop .eql 3 x.2.2.2.2.2.1 (Value.int IntKind.i64 9)).bind fun v17 =>
 gd v17 (
 (O.bop .gtr 38 p16.1 (Value.int IntKind.u64 1)).bind fun v18 =>
 gd v18 (
 k124 (.bool true)) (
 (O.bop .gtr 3 x.2.2.2.2.2.1 (Value.int IntKind.i64 0)).bind fun v19 =>
 gd v19 (
 (O.bop .eql 38 p16.1 (Value.int IntKind.u64 0)).bind fun v20 =>
 k124 v20) (
 k124 (.bool false)) (
 none)) (
 none)) (
 (O.bop .gtr 3 x.2.2.2.2.2.1 (Value.int IntKind.i64 0)).bind fun v21 =>
 gd v21 (
 (O.bop .eql 38 p16.1 (Value.int IntKind.u64 0)).bind fun v22 =>
 k124 v22) (
 k124 (.bool false)) (
 none)) (
 none))) (
 kx 0 (x.1, x.2.1, x.2.2.1, x.2.2.2.1, x.2.2.2.2.1, x.2.2.2.2.2.1, x.2.2.2.2.2.2) s)
theorem f32_l0_b (C : OracleJ H) (n : Nat) (i0 i1 i11 i12 i14 i15 i16 i17 i18 : Value) (x : Value × Value × Value × Value × Value × Value × Value) (s : St H) (nx : List Value → St H → Option (List (Value × St H))) (K : Ex → List Value → St H → Option (List (Value × St H))) :
 exec Tryd.prog false C n 32 none (cdp Tryd.f32 [1, 1, 1, 0, 1, 0, 0]) (f32_l0_m i0 i1 i11 i12 i14 i15 i16 i17 i18 x) s (kIter (scratch (cdp Tryd.f32 [1, 1, 1, 0, 1, 0, 0])) nx K) = f32_l0 (dOps (H := H) Tryd.prog) C n i0 i1 (fun x s => nx (f32_l0_m i0 i1 i11 i12 i14 i15 i16 i17 i18 x) s) (fun i x s => K (.exit i) (f32_l0_m i0 i1 i11 i12 i14 i15 i16 i17 i18 x) s) (fun x s => K .ret (f32_l0_m i0 i1 i11 i12 i14 i15 i16 i17 i18 x) s) x s := by kernel_rfl
theorem f32_l0_e (C : OracleJ H) (n : Nat) (i0 i1 i11 i12 i14 i15 i16 i17 i18 : Value) (m : Nat) (x : Value × Value × Value × Value × Value × Value × Value) (s : St H) (K : Ex → List Value → St H → Option (List (Value × St H))) :
 iter (fun t s k => exec Tryd.prog false C n 32 none (cdp Tryd.f32 [1, 1, 1, 0, 1, 0, 0]) t s k) (scratch (cdp Tryd.f32 [1, 1, 1, 0, 1, 0, 0])) m (f32_l0_m i0 i1 i11 i12 i14 i15 i16 i17 i18 x) s K = iterS (f32_l0 (dOps (H := H) Tryd.prog) C n i0 i1) (fun i x s => K (.exit i) (f32_l0_m i0 i1 i11 i12 i14 i15 i16 i17 i18 x) s) (fun x s => K .ret (f32_l0_m i0 i1 i11 i12 i14 i15 i16 i17 i18 x) s) m x s :=
   iter_eq (f32_l0_m i0 i1 i11 i12 i14 i15 i16 i17 i18) (f32_l0 (dOps (H := H) Tryd.prog) C n i0 i1) (fun x s nx K => f32_l0_b C n i0 i1 i11 i12 i14 i15 i16 i17 i18 x s nx K) K m x s
noncomputable def f32 (O : Ops H) (C : OracleJ H) (n : Nat) (a0 : Value) (a1 : Value) (s : St H) : Option (List (Value × St H)) :=
 (O.bop .lss 3 a1 (Value.int IntKind.i64 0)).bind fun v1 =>
 gd v1 (
 some [(.tuple #[(Value.int IntKind.u64 0), (Value.int IntKind.i64 0), (Value.int IntKind.i64 2)], s)]) (
 (O.len s 22 a0).bind fun v2 =>
 (O.bop .gtr 3 a1 v2).bind fun v3 =>
 (O.boolO v3).bind fun b6 => cond b6 (
 some [(.tuple #[(Value.int IntKind.u64 0), (Value.int IntKind.i64 0), (Value.int IntKind.i64 2)], s)]) (
 iterS (f32_l0 O C n a0 a1 )
 (fun i34 x35 s36 => (bif Nat.beq i34 0 then
 some [(.tuple #[(Value.int IntKind.u64 0), (Value.int IntKind.i64 0), (Value.int IntKind.i64 10)], s36)] else none))
 (fun x37 s38 => some [(.tuple #[x37.1, x37.2.1, x37.2.2.1], s38)]) n ((Value.int IntKind.u64 0), (Value.int IntKind.i64 0), (Value.int IntKind.i64 0), (Value.int IntKind.u64 0), (Value.int IntKind.u64 1), (Value.int IntKind.i64 0), undefV) s)) (
 none)
theorem f32_l0_k (C : OracleJ H) (n : Nat) (i0 i1 i11 i12 i14 i15 i16 i17 i18 : Value) (i : Nat) (x : Value × Value × Value × Value × Value × Value × Value) (s : St H) : (kBlock 0 (kSeq Tryd.prog false C n 32 none (cdp Tryd.f32 [1, 1, 1, 1]) (kFun Tryd.prog Tryd.f32))) (.exit i) (f32_l0_m i0 i1 i11 i12 i14 i15 i16 i17 i18 x) s =
 (bif Nat.beq i 0 then
 some [(.tuple #[(Value.int IntKind.u64 0), (Value.int IntKind.i64 0), (Value.int IntKind.i64 10)], s)] else none) := by kernel_rfl
theorem f32_r (C : OracleJ H) (n : Nat) (a0 : Value) (a1 : Value) (s : St H) : bodyD Tryd.prog false C n 32 Tryd.f32 [a0, a1] s = f32 (dOps (H := H) Tryd.prog) C n a0 a1 s := by
  have h1 : bodyD Tryd.prog false C n 32 Tryd.f32 [a0, a1] s =
 ((dOps (H := H) Tryd.prog).bop .lss 3 a1 (Value.int IntKind.i64 0)).bind fun v39 =>
 gd v39 (
 some [(.tuple #[(Value.int IntKind.u64 0), (Value.int IntKind.i64 0), (Value.int IntKind.i64 2)], s)]) (
 ((dOps (H := H) Tryd.prog).len s 22 a0).bind fun v40 =>
 ((dOps (H := H) Tryd.prog).bop .gtr 3 a1 v40).bind fun v41 =>
 ((dOps (H := H) Tryd.prog).boolO v41).bind fun b44 => cond b44 (
 some [(.tuple #[(Value.int IntKind.u64 0), (Value.int IntKind.i64 0), (Value.int IntKind.i64 2)], s)]) (
 iter (fun t s k => exec Tryd.prog false C n 32 none (cdp Tryd.f32 [1, 1, 1, 0, 1, 0, 0]) t s k) (scratch (cdp Tryd.f32 [1, 1, 1, 0, 1, 0, 0])) n (f32_l0_m a0 a1 a1 v39 a1 a0 v40 v41 v41 ((Value.int IntKind.u64 0), (Value.int IntKind.i64 0), (Value.int IntKind.i64 0), (Value.int IntKind.u64 0), (Value.int IntKind.u64 1), (Value.int IntKind.i64 0), undefV)) s (kBlock 0 (kSeq Tryd.prog false C n 32 none (cdp Tryd.f32 [1, 1, 1, 1]) (kFun Tryd.prog Tryd.f32))))) (
 none) := by kernel_rfl
  rw [h1]
  simp only [f32_l0_e, f32_l0_k]
  show _ = f32 (dOps (H := H) Tryd.prog) C n a0 a1 s
  kernel_rfl
/-! tidepole/tidepoleref02.Open -/
noncomputable def f33 (O : Ops H) (C : OracleJ H) (n : Nat) (a0 : Value) (s : St H) : Option (List (Value × St H)) :=
 (O.len s 22 a0).bind fun v1 =>
 (O.bop .lss 3 v1 (Value.int IntKind.i64 4)).bind fun v2 =>
 (O.boolO v2).bind fun b3 => cond b3 (
 some [(.tuple #[(fzV 2 #[]), (.bool false)], s)]) (
 (O.len s 22 a0).bind fun v4 =>
 (O.bop .sub 3 v4 (Value.int IntKind.i64 4)).bind fun v5 =>
 (O.slc s 22 a0 (some v5) none none).bind fun v6 =>
 (C (.fn 65) [v6] s).bind fun L7 => manyK L7 fun v8 s9 =>
 (O.extract v8 0).bind fun v10 =>
 (O.extract v8 1).bind fun v11 =>
 (O.slc s9 22 a0 none (some v5) none).bind fun v12 =>
 (C (.fn 66) [v12] s9).bind fun L13 => manyK L13 fun v14 s15 =>
 (O.bop .neq 127 v10 v14).bind fun v16 =>
 (O.boolO v16).bind fun b17 => cond b17 (
 some [(.tuple #[(fzV 2 #[]), (.bool false)], s15)]) (
 (O.buildSlice false s15 22 0 []).bind fun p18 =>
 (O.slc p18.2 22 a0 none (some v5) none).bind fun v19 =>
 (O.append false p18.2 22 22 p18.1 v19).bind fun p20 =>
 some [(.tuple #[p20.1, (.bool true)], p20.2)]))
theorem f33_r (C : OracleJ H) (n : Nat) (a0 : Value) (s : St H) : bodyD Tryd.prog false C n 33 Tryd.f33 [a0] s = f33 (dOps (H := H) Tryd.prog) C n a0 s := by kernel_rfl
/-! tidepole/tidepoleref07.Begin -/
noncomputable def f34 (O : Ops H) (C : OracleJ H) (n : Nat) (s : St H) : Option (List (Value × St H)) :=
 (O.alloc s 81).bind fun p1 =>
 (O.build 81 [(2, (Value.int IntKind.i64 64))]).bind fun v2 =>
 (O.store p1.2 81 p1.1 v2).bind fun s3 =>
 (O.load s3 81 p1.1).bind fun v4 => some [(v4, s3)]
theorem f34_r (C : OracleJ H) (n : Nat) (s : St H) : bodyD Tryd.prog false C n 34 Tryd.f34 [] s = f34 (dOps (H := H) Tryd.prog) C n s := by kernel_rfl
/-! tidepole/tidepoleref06.Get -/
def f35_l0_m (i0 i1 i3 i4 i19 i20 i21 i23 i24 i25 : Value) (x : Value × Value × Value × Value × Value) : List Value := [i0, i1, undefV, i3, i4, x.1, x.2.1, undefV, undefV, x.2.2.1, x.2.2.2.1, x.2.2.2.2, undefV, undefV, undefV, undefV, undefV, undefV, undefV, i19, i20, i21, undefV, i23, i24, i25, undefV, undefV, undefV, undefV, undefV, undefV, undefV, undefV, undefV, undefV, undefV, undefV, undefV, undefV, undefV, undefV, undefV, dc, dc, dc, dc, dc, dc, dc, dc, dc, dc, dc, dc, dc, dc, dc, undefV, undefV, undefV, undefV, undefV, undefV, undefV, undefV, undefV, undefV, undefV, undefV, undefV, undefV, undefV, undefV, undefV, undefV, undefV, undefV, undefV, undefV, undefV, undefV, undefV, undefV, undefV, undefV, undefV, undefV, undefV, undefV, undefV, undefV, undefV, undefV, undefV, undefV, undefV, undefV, undefV, undefV, undefV, undefV, undefV, undefV, undefV, undefV, undefV, undefV, undefV, undefV, undefV, undefV, undefV, undefV, undefV, undefV, undefV, undefV, undefV]
noncomputable def f35_l0 (O : Ops H) (C : OracleJ H) (n : Nat) (i0 i4 : Value) (nx : (Value × Value × Value × Value × Value) → St H → Option (List (Value × St H))) (kx : Nat → (Value × Value × Value × Value × Value) → St H → Option (List (Value × St H))) (kr : (Value × Value × Value × Value × Value) → St H → Option (List (Value × St H))) (x : Value × Value × Value × Value × Value) (s : St H) : Option (List (Value × St H)) :=
 (O.bop .lss 3 x.2.2.1 (Value.int IntKind.i64 4)).bind fun v36 =>
 (O.boolO v36).bind fun b37 => cond b37 (
 (C (.fn 37) [i0, (Value.int IntKind.i64 1)] s).bind fun L38 => manyK L38 fun v39 s40 =>
 (O.extract v39 0).bind fun v41 =>
 (O.extract v39 1).bind fun v42 =>
 (O.bop .neq 25 v42 (Value.int IntKind.i64 0)).bind fun v43 =>
 (O.boolO v43).bind fun b44 => cond b44 (
 (O.build 79 []).bind fun v45 =>
 (O.store s40 79 i4 v45).bind fun s46 =>
 kr ((Value.int IntKind.i64 0), v42, x.2.2.1, v41, v42) s46) (
 (O.bop .eql 38 v41 (Value.int IntKind.u64 0)).bind fun v47 =>
 (O.boolO v47).bind fun b48 => cond b48 (
 kx 0 (x.1, x.2.1, x.2.2.1, v41, v42) s40) (
 (O.bop .add 3 x.2.2.1 (Value.int IntKind.i64 1)).bind fun v49 =>
 nx (x.1, x.2.1, v49, v41, v42) s40))) (
 kx 0 (x.1, x.2.1, x.2.2.1, x.2.2.2.1, x.2.2.2.2) s)
theorem f35_l0_b (C : OracleJ H) (n : Nat) (i0 i1 i3 i4 i19 i20 i21 i23 i24 i25 : Value) (x : Value × Value × Value × Value × Value) (s : St H) (nx : List Value → St H → Option (List (Value × St H))) (K : Ex → List Value → St H → Option (List (Value × St H))) :
 exec Tryd.prog false C n 35 none (cdp Tryd.f35 [1, 1, 1, 1, 0, 0, 0]) (f35_l0_m i0 i1 i3 i4 i19 i20 i21 i23 i24 i25 x) s (kIter (scratch (cdp Tryd.f35 [1, 1, 1, 1, 0, 0, 0])) nx K) = f35_l0 (dOps (H := H) Tryd.prog) C n i0 i4 (fun x s => nx (f35_l0_m i0 i1 i3 i4 i19 i20 i21 i23 i24 i25 x) s) (fun i x s => K (.exit i) (f35_l0_m i0 i1 i3 i4 i19 i20 i21 i23 i24 i25 x) s) (fun x s => K .ret (f35_l0_m i0 i1 i3 i4 i19 i20 i21 i23 i24 i25 x) s) x s := by kernel_rfl
theorem f35_l0_e (C : OracleJ H) (n : Nat) (i0 i1 i3 i4 i19 i20 i21 i23 i24 i25 : Value) (m : Nat) (x : Value × Value × Value × Value × Value) (s : St H) (K : Ex → List Value → St H → Option (List (Value × St H))) :
 iter (fun t s k => exec Tryd.prog false C n 35 none (cdp Tryd.f35 [1, 1, 1, 1, 0, 0, 0]) t s k) (scratch (cdp Tryd.f35 [1, 1, 1, 1, 0, 0, 0])) m (f35_l0_m i0 i1 i3 i4 i19 i20 i21 i23 i24 i25 x) s K = iterS (f35_l0 (dOps (H := H) Tryd.prog) C n i0 i4) (fun i x s => K (.exit i) (f35_l0_m i0 i1 i3 i4 i19 i20 i21 i23 i24 i25 x) s) (fun x s => K .ret (f35_l0_m i0 i1 i3 i4 i19 i20 i21 i23 i24 i25 x) s) m x s :=
   iter_eq (f35_l0_m i0 i1 i3 i4 i19 i20 i21 i23 i24 i25) (f35_l0 (dOps (H := H) Tryd.prog) C n i0 i4) (fun x s nx K => f35_l0_b C n i0 i1 i3 i4 i19 i20 i21 i23 i24 i25 x s nx K) K m x s
noncomputable def f35 (O : Ops H) (C : OracleJ H) (n : Nat) (a0 : Value) (a1 : Value) (s : St H) : Option (List (Value × St H)) :=
 (O.box s a1).bind fun p1 =>
 (O.alloc p1.2 79).bind fun p2 =>
 (O.load p2.2 79 p1.1).bind fun v3 =>
 (C (.fn 67) [v3] p2.2).bind fun L4 => manyK L4 fun v5 s6 =>
 (O.uop .not v5).bind fun v7 =>
 (O.boolO v7).bind fun b8 => cond b8 (
 (O.build 79 []).bind fun v9 =>
 (O.store s6 79 p2.1 v9).bind fun s10 =>
 (O.load s10 79 p2.1).bind fun v11 => some [(.tuple #[v11, (Value.int IntKind.i64 0), (Value.int IntKind.i64 60)], s10)]) (
 (O.fieldAddr 79 p1.1 0).bind fun v12 =>
 (O.load s6 3 v12).bind fun v13 =>
 (O.bop .eql 3 v13 (Value.int IntKind.i64 0)).bind fun v14 =>
 (O.boolO v14).bind fun b15 => cond b15 (
 (C (.fn 37) [a0, (Value.int IntKind.i64 46)] s6).bind fun L16 => manyK L16 fun v17 s18 =>
 (O.extract v17 0).bind fun v19 =>
 (O.extract v17 1).bind fun v20 =>
 (O.bop .neq 25 v20 (Value.int IntKind.i64 0)).bind fun v21 =>
 (O.boolO v21).bind fun b22 => cond b22 (
 (O.build 79 []).bind fun v23 =>
 (O.store s18 79 p2.1 v23).bind fun s24 =>
 (O.load s24 79 p2.1).bind fun v25 => some [(.tuple #[v25, (Value.int IntKind.i64 0), v20], s24)]) (
 (O.bop .gtr 38 v19 (Value.int IntKind.u64 35184372088832)).bind fun v26 =>
 (O.boolO v26).bind fun b27 => cond b27 (
 (O.build 79 []).bind fun v28 =>
 (O.store s18 79 p2.1 v28).bind fun s29 =>
 (O.load s29 79 p2.1).bind fun v30 => some [(.tuple #[v30, (Value.int IntKind.i64 0), (Value.int IntKind.i64 60)], s29)]) (
 (O.conv false s18 38 3 v19).bind fun p31 =>
 (O.build 79 [(0, (Value.int IntKind.i64 1)), (1, p31.1), (2, (Value.int IntKind.i64 0))]).bind fun v32 =>
 (O.conv false p31.2 38 3 v19).bind fun p33 =>
 (O.store p33.2 79 p2.1 v32).bind fun s34 =>
 (O.load s34 79 p2.1).bind fun v35 => some [(.tuple #[v35, p33.1, (Value.int IntKind.i64 0)], s34)]))) (
 iterS (f35_l0 O C n a0 p2.1 )
 (fun i50 x51 s52 => (bif Nat.beq i50 0 then
 (O.buildSlice false s52 45 5 [(0, (Value.int IntKind.i64 0)), (1, (Value.int IntKind.i64 7)), (2, (Value.int IntKind.i64 12)), (3, (Value.int IntKind.i64 20)), (4, (Value.int IntKind.i64 48))]).bind fun p56 =>
 (O.indexAddr 45 p56.1 x51.2.2.1).bind fun v57 =>
 (O.load p56.2 3 v57).bind fun v58 =>
 (C (.fn 37) [a0, v58] p56.2).bind fun L59 => manyK L59 fun v60 s61 =>
 (O.extract v60 0).bind fun v62 =>
 (O.extract v60 1).bind fun v63 =>
 (O.bop .neq 25 v63 (Value.int IntKind.i64 0)).bind fun v64 =>
 (O.boolO v64).bind fun b65 => cond b65 (
 (O.build 79 []).bind fun v66 =>
 (O.store s61 79 p2.1 v66).bind fun s67 =>
 (O.load s67 79 p2.1).bind fun v68 => some [(.tuple #[v68, (Value.int IntKind.i64 0), v63], s67)]) (
 (C (.fn 68) [v62] s61).bind fun L69 => manyK L69 fun v70 s71 =>
 (O.extract v70 0).bind fun v72 =>
 (O.extract v70 1).bind fun v73 =>
 (O.bop .neq 3 v72 x51.2.2.1).bind fun v74 =>
 (O.boolO v74).bind fun b75 => cond b75 (
 (O.build 79 []).bind fun v76 =>
 (O.store s71 79 p2.1 v76).bind fun s77 =>
 (O.load s77 79 p2.1).bind fun v78 => some [(.tuple #[v78, (Value.int IntKind.i64 0), (Value.int IntKind.i64 60)], s77)]) (
 (O.bop .quo 38 v62 (Value.int IntKind.u64 2)).bind fun v79 =>
 (O.conv false s71 38 3 v79).bind fun p80 =>
 (O.bop .rem 38 v62 (Value.int IntKind.u64 2)).bind fun v81 =>
 (O.bop .eql 38 v81 (Value.int IntKind.u64 1)).bind fun v82 =>
 jn (fun (j195_17 : Value) (js195 : St H) =>
 (O.fieldAddr 79 p1.1 2).bind fun v116 =>
 (O.load js195 3 v116).bind fun v117 =>
 (O.bop .add 3 v117 j195_17).bind fun v118 =>
 jn (fun (j204_104 : Value) =>
 (O.boolO j204_104).bind fun b128 => cond b128 (
 (O.build 79 []).bind fun v129 =>
 (O.store js195 79 p2.1 v129).bind fun s130 =>
 (O.load s130 79 p2.1).bind fun v131 => some [(.tuple #[v131, (Value.int IntKind.i64 0), (Value.int IntKind.i64 60)], s130)]) (
 (O.fieldAddr 79 p1.1 0).bind fun v132 =>
 (O.load js195 3 v132).bind fun v133 =>
 (O.bop .add 3 v133 (Value.int IntKind.i64 1)).bind fun v134 =>
 (O.fieldAddr 79 p1.1 1).bind fun v135 =>
 (O.load js195 3 v135).bind fun v136 =>
 (O.bop .add 3 v136 v118).bind fun v137 =>
 (O.build 79 [(0, v134), (1, v137), (2, v118)]).bind fun v138 =>
 (O.fieldAddr 79 p1.1 1).bind fun v139 =>
 (O.load js195 3 v139).bind fun v140 =>
 (O.bop .add 3 v140 v118).bind fun v141 =>
 (O.store js195 79 p2.1 v138).bind fun s142 =>
 bif (eqO H (O.load js195 3 v139) v140 && (eqO H (O.load s142 3 v139) v140 && (true))) && (true) then
 (O.load s142 79 p2.1).bind fun v143 => some [(.tuple #[v143, v141, (Value.int IntKind.i64 0)], s142)]
 else none)) fun k204 =>
 (O.bop .lss 3 v118 (Value.int IntKind.i64 1)).bind fun v119 =>
 gd v119 (
 k204 (.bool true)) (
 (O.fieldAddr 79 p1.1 1).bind fun v120 =>
 (O.load js195 3 v120).bind fun v121 =>
 (O.bop .sub 3 (Value.int IntKind.i64 35184372088832) v121).bind fun v122 =>
 (O.bop .gtr 3 v118 v122).bind fun v123 =>
 k204 v123) (
 none)) fun k195 =>
 (O.boolO v82).bind fun b83 => cond b83 (
 (O.bop .quo 38 v62 (Value.int IntKind.u64 2)).bind fun v84 =>
 (O.conv false p80.2 38 3 v84).bind fun p85 =>
 (O.uop .neg p85.1).bind fun v86 =>
 (O.bop .sub 3 v86 (Value.int IntKind.i64 1)).bind fun v87 =>
 k195 v87 p85.2) (
 k195 p80.1 p80.2))) else none))
 (fun x53 s54 => (O.load s54 79 p2.1).bind fun v55 => some [(.tuple #[v55, x53.1, x53.2.1], s54)]) n ((Value.int IntKind.i64 0), (Value.int IntKind.i64 0), (Value.int IntKind.i64 0), undefV, undefV) s6))
theorem f35_l0_k (C : OracleJ H) (n : Nat) (i0 i1 i3 i4 i19 i20 i21 i23 i24 i25 : Value) (i : Nat) (x : Value × Value × Value × Value × Value) (s : St H) : (kBlock 0 (kSeq Tryd.prog false C n 35 none (cdp Tryd.f35 [1, 1, 1, 1, 1]) (kFun Tryd.prog Tryd.f35))) (.exit i) (f35_l0_m i0 i1 i3 i4 i19 i20 i21 i23 i24 i25 x) s =
 (bif Nat.beq i 0 then
 ((dOps (H := H) Tryd.prog).buildSlice false s 45 5 [(0, (Value.int IntKind.i64 0)), (1, (Value.int IntKind.i64 7)), (2, (Value.int IntKind.i64 12)), (3, (Value.int IntKind.i64 20)), (4, (Value.int IntKind.i64 48))]).bind fun p267 =>
 ((dOps (H := H) Tryd.prog).indexAddr 45 p267.1 x.2.2.1).bind fun v268 =>
 ((dOps (H := H) Tryd.prog).load p267.2 3 v268).bind fun v269 =>
 (C (.fn 37) [i0, v269] p267.2).bind fun L270 => manyK L270 fun v271 s272 =>
 ((dOps (H := H) Tryd.prog).extract v271 0).bind fun v273 =>
 ((dOps (H := H) Tryd.prog).extract v271 1).bind fun v274 =>
 ((dOps (H := H) Tryd.prog).bop .neq 25 v274 (Value.int IntKind.i64 0)).bind fun v275 =>
 ((dOps (H := H) Tryd.prog).boolO v275).bind fun b276 => cond b276 (
 ((dOps (H := H) Tryd.prog).build 79 []).bind fun v277 =>
 ((dOps (H := H) Tryd.prog).store s272 79 i4 v277).bind fun s278 =>
 ((dOps (H := H) Tryd.prog).load s278 79 i4).bind fun v279 => some [(.tuple #[v279, (Value.int IntKind.i64 0), v274], s278)]) (
 (C (.fn 68) [v273] s272).bind fun L280 => manyK L280 fun v281 s282 =>
 ((dOps (H := H) Tryd.prog).extract v281 0).bind fun v283 =>
 ((dOps (H := H) Tryd.prog).extract v281 1).bind fun v284 =>
 ((dOps (H := H) Tryd.prog).bop .neq 3 v283 x.2.2.1).bind fun v285 =>
 ((dOps (H := H) Tryd.prog).boolO v285).bind fun b286 => cond b286 (
 ((dOps (H := H) Tryd.prog).build 79 []).bind fun v287 =>
 ((dOps (H := H) Tryd.prog).store s282 79 i4 v287).bind fun s288 =>
 ((dOps (H := H) Tryd.prog).load s288 79 i4).bind fun v289 => some [(.tuple #[v289, (Value.int IntKind.i64 0), (Value.int IntKind.i64 60)], s288)]) (
 ((dOps (H := H) Tryd.prog).bop .quo 38 v273 (Value.int IntKind.u64 2)).bind fun v290 =>
 ((dOps (H := H) Tryd.prog).conv false s282 38 3 v290).bind fun p291 =>
 ((dOps (H := H) Tryd.prog).bop .rem 38 v273 (Value.int IntKind.u64 2)).bind fun v292 =>
 ((dOps (H := H) Tryd.prog).bop .eql 38 v292 (Value.int IntKind.u64 1)).bind fun v293 =>
 jn (fun (j261_17 : Value) (js261 : St H) =>
 ((dOps (H := H) Tryd.prog).fieldAddr 79 i3 2).bind fun v327 =>
 ((dOps (H := H) Tryd.prog).load js261 3 v327).bind fun v328 =>
 ((dOps (H := H) Tryd.prog).bop .add 3 v328 j261_17).bind fun v329 =>
 jn (fun (j270_104 : Value) =>
 ((dOps (H := H) Tryd.prog).boolO j270_104).bind fun b339 => cond b339 (
 ((dOps (H := H) Tryd.prog).build 79 []).bind fun v340 =>
 ((dOps (H := H) Tryd.prog).store js261 79 i4 v340).bind fun s341 =>
 ((dOps (H := H) Tryd.prog).load s341 79 i4).bind fun v342 => some [(.tuple #[v342, (Value.int IntKind.i64 0), (Value.int IntKind.i64 60)], s341)]) (
 ((dOps (H := H) Tryd.prog).fieldAddr 79 i3 0).bind fun v343 =>
 ((dOps (H := H) Tryd.prog).load js261 3 v343).bind fun v344 =>
 ((dOps (H := H) Tryd.prog).bop .add 3 v344 (Value.int IntKind.i64 1)).bind fun v345 =>
 ((dOps (H := H) Tryd.prog).fieldAddr 79 i3 1).bind fun v346 =>
 ((dOps (H := H) Tryd.prog).load js261 3 v346).bind fun v347 =>
 ((dOps (H := H) Tryd.prog).bop .add 3 v347 v329).bind fun v348 =>
 ((dOps (H := H) Tryd.prog).build 79 [(0, v345), (1, v348), (2, v329)]).bind fun v349 =>
 ((dOps (H := H) Tryd.prog).fieldAddr 79 i3 1).bind fun v350 =>
 ((dOps (H := H) Tryd.prog).load js261 3 v350).bind fun v351 =>
 ((dOps (H := H) Tryd.prog).bop .add 3 v351 v329).bind fun v352 =>
 ((dOps (H := H) Tryd.prog).store js261 79 i4 v349).bind fun s353 =>
 bif (eqO H ((dOps (H := H) Tryd.prog).load js261 3 v350) v351 && (eqO H ((dOps (H := H) Tryd.prog).load s353 3 v350) v351 && (true))) && (true) then
 ((dOps (H := H) Tryd.prog).load s353 79 i4).bind fun v354 => some [(.tuple #[v354, v352, (Value.int IntKind.i64 0)], s353)]
 else none)) fun k270 =>
 ((dOps (H := H) Tryd.prog).bop .lss 3 v329 (Value.int IntKind.i64 1)).bind fun v330 =>
 gd v330 (
 k270 (.bool true)) (
 ((dOps (H := H) Tryd.prog).fieldAddr 79 i3 1).bind fun v331 =>
 ((dOps (H := H) Tryd.prog).load js261 3 v331).bind fun v332 =>
 ((dOps (H := H) Tryd.prog).bop .sub 3 (Value.int IntKind.i64 35184372088832) v332).bind fun v333 =>
 ((dOps (H := H) Tryd.prog).bop .gtr 3 v329 v333).bind fun v334 =>
 k270 v334) (
 none)) fun k261 =>
 ((dOps (H := H) Tryd.prog).boolO v293).bind fun b294 => cond b294 (
 ((dOps (H := H) Tryd.prog).bop .quo 38 v273 (Value.int IntKind.u64 2)).bind fun v295 =>
 ((dOps (H := H) Tryd.prog).conv false p291.2 38 3 v295).bind fun p296 =>
 ((dOps (H := H) Tryd.prog).uop .neg p296.1).bind fun v297 =>
 ((dOps (H := H) Tryd.prog).bop .sub 3 v297 (Value.int IntKind.i64 1)).bind fun v298 =>
 k261 v298 p296.2) (
 k261 p291.1 p291.2))) else none) := by kernel_rfl
theorem f35_r (C : OracleJ H) (n : Nat) (a0 : Value) (a1 : Value) (s : St H) : bodyD Tryd.prog false C n 35 Tryd.f35 [a0, a1] s = f35 (dOps (H := H) Tryd.prog) C n a0 a1 s := by
  have h1 : bodyD Tryd.prog false C n 35 Tryd.f35 [a0, a1] s =
 ((dOps (H := H) Tryd.prog).box s a1).bind fun p144 =>
 ((dOps (H := H) Tryd.prog).alloc p144.2 79).bind fun p145 =>
 ((dOps (H := H) Tryd.prog).load p145.2 79 p144.1).bind fun v146 =>
 (C (.fn 67) [v146] p145.2).bind fun L147 => manyK L147 fun v148 s149 =>
 ((dOps (H := H) Tryd.prog).uop .not v148).bind fun v150 =>
 ((dOps (H := H) Tryd.prog).boolO v150).bind fun b151 => cond b151 (
 ((dOps (H := H) Tryd.prog).build 79 []).bind fun v152 =>
 ((dOps (H := H) Tryd.prog).store s149 79 p145.1 v152).bind fun s153 =>
 ((dOps (H := H) Tryd.prog).load s153 79 p145.1).bind fun v154 => some [(.tuple #[v154, (Value.int IntKind.i64 0), (Value.int IntKind.i64 60)], s153)]) (
 ((dOps (H := H) Tryd.prog).fieldAddr 79 p144.1 0).bind fun v155 =>
 ((dOps (H := H) Tryd.prog).load s149 3 v155).bind fun v156 =>
 ((dOps (H := H) Tryd.prog).bop .eql 3 v156 (Value.int IntKind.i64 0)).bind fun v157 =>
 ((dOps (H := H) Tryd.prog).boolO v157).bind fun b158 => cond b158 (
 (C (.fn 37) [a0, (Value.int IntKind.i64 46)] s149).bind fun L159 => manyK L159 fun v160 s161 =>
 ((dOps (H := H) Tryd.prog).extract v160 0).bind fun v162 =>
 ((dOps (H := H) Tryd.prog).extract v160 1).bind fun v163 =>
 ((dOps (H := H) Tryd.prog).bop .neq 25 v163 (Value.int IntKind.i64 0)).bind fun v164 =>
 ((dOps (H := H) Tryd.prog).boolO v164).bind fun b165 => cond b165 (
 ((dOps (H := H) Tryd.prog).build 79 []).bind fun v166 =>
 ((dOps (H := H) Tryd.prog).store s161 79 p145.1 v166).bind fun s167 =>
 ((dOps (H := H) Tryd.prog).load s167 79 p145.1).bind fun v168 => some [(.tuple #[v168, (Value.int IntKind.i64 0), v163], s167)]) (
 ((dOps (H := H) Tryd.prog).bop .gtr 38 v162 (Value.int IntKind.u64 35184372088832)).bind fun v169 =>
 ((dOps (H := H) Tryd.prog).boolO v169).bind fun b170 => cond b170 (
 ((dOps (H := H) Tryd.prog).build 79 []).bind fun v171 =>
 ((dOps (H := H) Tryd.prog).store s161 79 p145.1 v171).bind fun s172 =>
 ((dOps (H := H) Tryd.prog).load s172 79 p145.1).bind fun v173 => some [(.tuple #[v173, (Value.int IntKind.i64 0), (Value.int IntKind.i64 60)], s172)]) (
 ((dOps (H := H) Tryd.prog).conv false s161 38 3 v162).bind fun p174 =>
 ((dOps (H := H) Tryd.prog).build 79 [(0, (Value.int IntKind.i64 1)), (1, p174.1), (2, (Value.int IntKind.i64 0))]).bind fun v175 =>
 ((dOps (H := H) Tryd.prog).conv false p174.2 38 3 v162).bind fun p176 =>
 ((dOps (H := H) Tryd.prog).store p176.2 79 p145.1 v175).bind fun s177 =>
 ((dOps (H := H) Tryd.prog).load s177 79 p145.1).bind fun v178 => some [(.tuple #[v178, p176.1, (Value.int IntKind.i64 0)], s177)]))) (
 iter (fun t s k => exec Tryd.prog false C n 35 none (cdp Tryd.f35 [1, 1, 1, 1, 0, 0, 0]) t s k) (scratch (cdp Tryd.f35 [1, 1, 1, 1, 0, 0, 0])) n (f35_l0_m a0 a1 p144.1 p145.1 v146 v148 v150 v155 v156 v157 ((Value.int IntKind.i64 0), (Value.int IntKind.i64 0), (Value.int IntKind.i64 0), undefV, undefV)) s149 (kBlock 0 (kSeq Tryd.prog false C n 35 none (cdp Tryd.f35 [1, 1, 1, 1, 1]) (kFun Tryd.prog Tryd.f35))))) := by kernel_rfl
  rw [h1]
  simp only [f35_l0_e, f35_l0_k]
  show _ = f35 (dOps (H := H) Tryd.prog) C n a0 a1 s
  kernel_rfl
/-! tidepole/tidepoleref07.Get -/
def f36_l0_m (i0 i1 i3 i4 i9 i10 i11 i12 i13 i14 i15 i16 i21 i22 i23 i25 i26 i27 i44 i45 i46 i47 i48 i49 i50 i51 i52 i53 i54 i55 i56 i57 i58 i59 i60 i61 i62 i63 i64 i72 i73 i74 i75 i76 i77 i78 i81 i82 i83 i84 i85 i86 i87 i88 i89 i92 i93 i94 i95 i96 i97 i98 i99 i100 i101 i102 i103 i104 i106 i107 i108 i109 i110 i111 i112 i113 i114 i116 i117 i118 i119 i120 i121 i122 i123 i124 i125 i126 i127 i128 i129 : Value) (x : Value × Value) : List Value := [i0, i1, undefV, i3, i4, (Value.int IntKind.u64 0), (Value.int IntKind.i64 0), undefV, undefV, i9, i10, i11, i12, i13, i14, i15, i16, x.1, x.2, undefV, undefV, i21, i22, i23, undefV, i25, i26, i27, undefV, undefV, undefV, undefV, undefV, undefV, undefV, undefV, undefV, undefV, undefV, undefV, undefV, undefV, undefV, undefV, i44, i45, i46, i47, i48, i49, i50, i51, i52, i53, i54, i55, i56, i57, i58, i59, i60, i61, i62, i63, i64, undefV, undefV, undefV, undefV, undefV, undefV, undefV, i72, i73, i74, i75, i76, i77, i78, undefV, undefV, i81, i82, i83, i84, i85, i86, i87, i88, i89, undefV, undefV, i92, i93, i94, i95, i96, i97, i98, i99, i100, i101, i102, i103, i104, undefV, i106, i107, i108, i109, i110, i111, i112, i113, i114, undefV, i116, i117, i118, i119, i120, i121, i122, i123, i124, i125, i126, i127, i128, i129, undefV, undefV, dc, dc, dc, dc, dc, dc, dc, dc, undefV, undefV, undefV, undefV, undefV, undefV, undefV, undefV, undefV, undefV, undefV, undefV, undefV, undefV, undefV, undefV, undefV, undefV, undefV, undefV, undefV, undefV, undefV, undefV, undefV, undefV, undefV, undefV, undefV, undefV, undefV, undefV, undefV, undefV, undefV, undefV, undefV, undefV, undefV, undefV, undefV, undefV, undefV, undefV, undefV, undefV, undefV, undefV]
noncomputable def f36_l0 (O : Ops H) (C : OracleJ H) (n : Nat) (i9 i64 : Value) (nx : (Value × Value) → St H → Option (List (Value × St H))) (kx : Nat → (Value × Value) → St H → Option (List (Value × St H))) (kr : (Value × Value) → St H → Option (List (Value × St H))) (x : Value × Value) (s : St H) : Option (List (Value × St H)) :=
 (O.fieldAddr 81 i9 3).bind fun v212 =>
 (O.load s 3 v212).bind fun v213 =>
 (O.bop .lss 3 x.2 v213).bind fun v214 =>
 (O.boolO v214).bind fun b215 => cond b215 (
 (O.bop .mul 38 (Value.int IntKind.u64 2) x.1).bind fun v216 =>
 (O.bop .add 3 x.2 (Value.int IntKind.i64 1)).bind fun v217 =>
 nx (v216, v217) s) (
 kx 0 (x.1, x.2) s)
theorem f36_l0_b (C : OracleJ H) (n : Nat) (i0 i1 i3 i4 i9 i10 i11 i12 i13 i14 i15 i16 i21 i22 i23 i25 i26 i27 i44 i45 i46 i47 i48 i49 i50 i51 i52 i53 i54 i55 i56 i57 i58 i59 i60 i61 i62 i63 i64 i72 i73 i74 i75 i76 i77 i78 i81 i82 i83 i84 i85 i86 i87 i88 i89 i92 i93 i94 i95 i96 i97 i98 i99 i100 i101 i102 i103 i104 i106 i107 i108 i109 i110 i111 i112 i113 i114 i116 i117 i118 i119 i120 i121 i122 i123 i124 i125 i126 i127 i128 i129 : Value) (x : Value × Value) (s : St H) (nx : List Value → St H → Option (List (Value × St H))) (K : Ex → List Value → St H → Option (List (Value × St H))) :
 exec Tryd.prog false C n 36 none (cdp Tryd.f36 [1, 1, 1, 1, 1, 1, 1, 1, 1, 1, 1, 1, 0, 1, 0, 0]) (f36_l0_m i0 i1 i3 i4 i9 i10 i11 i12 i13 i14 i15 i16 i21 i22 i23 i25 i26 i27 i44 i45 i46 i47 i48 i49 i50 i51 i52 i53 i54 i55 i56 i57 i58 i59 i60 i61 i62 i63 i64 i72 i73 i74 i75 i76 i77 i78 i81 i82 i83 i84 i85 i86 i87 i88 i89 i92 i93 i94 i95 i96 i97 i98 i99 i100 i101 i102 i103 i104 i106 i107 i108 i109 i110 i111 i112 i113 i114 i116 i117 i118 i119 i120 i121 i122 i123 i124 i125 i126 i127 i128 i129 x) s (kIter (scratch (cdp Tryd.f36 [1, 1, 1, 1, 1, 1, 1, 1, 1, 1, 1, 1, 0, 1, 0, 0])) nx K) = f36_l0 (dOps (H := H) Tryd.prog) C n i9 i64 (fun x s => nx (f36_l0_m i0 i1 i3 i4 i9 i10 i11 i12 i13 i14 i15 i16 i21 i22 i23 i25 i26 i27 i44 i45 i46 i47 i48 i49 i50 i51 i52 i53 i54 i55 i56 i57 i58 i59 i60 i61 i62 i63 i64 i72 i73 i74 i75 i76 i77 i78 i81 i82 i83 i84 i85 i86 i87 i88 i89 i92 i93 i94 i95 i96 i97 i98 i99 i100 i101 i102 i103 i104 i106 i107 i108 i109 i110 i111 i112 i113 i114 i116 i117 i118 i119 i120 i121 i122 i123 i124 i125 i126 i127 i128 i129 x) s) (fun i x s => K (.exit i) (f36_l0_m i0 i1 i3 i4 i9 i10 i11 i12 i13 i14 i15 i16 i21 i22 i23 i25 i26 i27 i44 i45 i46 i47 i48 i49 i50 i51 i52 i53 i54 i55 i56 i57 i58 i59 i60 i61 i62 i63 i64 i72 i73 i74 i75 i76 i77 i78 i81 i82 i83 i84 i85 i86 i87 i88 i89 i92 i93 i94 i95 i96 i97 i98 i99 i100 i101 i102 i103 i104 i106 i107 i108 i109 i110 i111 i112 i113 i114 i116 i117 i118 i119 i120 i121 i122 i123 i124 i125 i126 i127 i128 i129 x) s) (fun x s => K .ret (f36_l0_m i0 i1 i3 i4 i9 i10 i11 i12 i13 i14 i15 i16 i21 i22 i23 i25 i26 i27 i44 i45 i46 i47 i48 i49 i50 i51 i52 i53 i54 i55 i56 i57 i58 i59 i60 i61 i62 i63 i64 i72 i73 i74 i75 i76 i77 i78 i81 i82 i83 i84 i85 i86 i87 i88 i89 i92 i93 i94 i95 i96 i97 i98 i99 i100 i101 i102 i103 i104 i106 i107 i108 i109 i110 i111 i112 i113 i114 i116 i117 i118 i119 i120 i121 i122 i123 i124 i125 i126 i127 i128 i129 x) s) x s := by kernel_rfl
theorem f36_l0_e (C : OracleJ H) (n : Nat) (i0 i1 i3 i4 i9 i10 i11 i12 i13 i14 i15 i16 i21 i22 i23 i25 i26 i27 i44 i45 i46 i47 i48 i49 i50 i51 i52 i53 i54 i55 i56 i57 i58 i59 i60 i61 i62 i63 i64 i72 i73 i74 i75 i76 i77 i78 i81 i82 i83 i84 i85 i86 i87 i88 i89 i92 i93 i94 i95 i96 i97 i98 i99 i100 i101 i102 i103 i104 i106 i107 i108 i109 i110 i111 i112 i113 i114 i116 i117 i118 i119 i120 i121 i122 i123 i124 i125 i126 i127 i128 i129 : Value) (m : Nat) (x : Value × Value) (s : St H) (K : Ex → List Value → St H → Option (List (Value × St H))) :
 iter (fun t s k => exec Tryd.prog false C n 36 none (cdp Tryd.f36 [1, 1, 1, 1, 1, 1, 1, 1, 1, 1, 1, 1, 0, 1, 0, 0]) t s k) (scratch (cdp Tryd.f36 [1, 1, 1, 1, 1, 1, 1, 1, 1, 1, 1, 1, 0, 1, 0, 0])) m (f36_l0_m i0 i1 i3 i4 i9 i10 i11 i12 i13 i14 i15 i16 i21 i22 i23 i25 i26 i27 i44 i45 i46 i47 i48 i49 i50 i51 i52 i53 i54 i55 i56 i57 i58 i59 i60 i61 i62 i63 i64 i72 i73 i74 i75 i76 i77 i78 i81 i82 i83 i84 i85 i86 i87 i88 i89 i92 i93 i94 i95 i96 i97 i98 i99 i100 i101 i102 i103 i104 i106 i107 i108 i109 i110 i111 i112 i113 i114 i116 i117 i118 i119 i120 i121 i122 i123 i124 i125 i126 i127 i128 i129 x) s K = iterS (f36_l0 (dOps (H := H) Tryd.prog) C n i9 i64) (fun i x s => K (.exit i) (f36_l0_m i0 i1 i3 i4 i9 i10 i11 i12 i13 i14 i15 i16 i21 i22 i23 i25 i26 i27 i44 i45 i46 i47 i48 i49 i50 i51 i52 i53 i54 i55 i56 i57 i58 i59 i60 i61 i62 i63 i64 i72 i73 i74 i75 i76 i77 i78 i81 i82 i83 i84 i85 i86 i87 i88 i89 i92 i93 i94 i95 i96 i97 i98 i99 i100 i101 i102 i103 i104 i106 i107 i108 i109 i110 i111 i112 i113 i114 i116 i117 i118 i119 i120 i121 i122 i123 i124 i125 i126 i127 i128 i129 x) s) (fun x s => K .ret (f36_l0_m i0 i1 i3 i4 i9 i10 i11 i12 i13 i14 i15 i16 i21 i22 i23 i25 i26 i27 i44 i45 i46 i47 i48 i49 i50 i51 i52 i53 i54 i55 i56 i57 i58 i59 i60 i61 i62 i63 i64 i72 i73 i74 i75 i76 i77 i78 i81 i82 i83 i84 i85 i86 i87 i88 i89 i92 i93 i94 i95 i96 i97 i98 i99 i100 i101 i102 i103 i104 i106 i107 i108 i109 i110 i111 i112 i113 i114 i116 i117 i118 i119 i120 i121 i122 i123 i124 i125 i126 i127 i128 i129 x) s) m x s :=
   iter_eq (f36_l0_m i0 i1 i3 i4 i9 i10 i11 i12 i13 i14 i15 i16 i21 i22 i23 i25 i26 i27 i44 i45 i46 i47 i48 i49 i50 i51 i52 i53 i54 i55 i56 i57 i58 i59 i60 i61 i62 i63 i64 i72 i73 i74 i75 i76 i77 i78 i81 i82 i83 i84 i85 i86 i87 i88 i89 i92 i93 i94 i95 i96 i97 i98 i99 i100 i101 i102 i103 i104 i106 i107 i108 i109 i110 i111 i112 i113 i114 i116 i117 i118 i119 i120 i121 i122 i123 i124 i125 i126 i127 i128 i129) (f36_l0 (dOps (H := H) Tryd.prog) C n i9 i64) (fun x s nx K => f36_l0_b C n i0 i1 i3 i4 i9 i10 i11 i12 i13 i14 i15 i16 i21 i22 i23 i25 i26 i27 i44 i45 i46 i47 i48 i49 i50 i51 i52 i53 i54 i55 i56 i57 i58 i59 i60 i61 i62 i63 i64 i72 i73 i74 i75 i76 i77 i78 i81 i82 i83 i84 i85 i86 i87 i88 i89 i92 i93 i94 i95 i96 i97 i98 i99 i100 i101 i102 i103 i104 i106 i107 i108 i109 i110 i111 i112 i113 i114 i116 i117 i118 i119 i120 i121 i122 i123 i124 i125 i126 i127 i128 i129 x s nx K) K m x s
noncomputable def f36 (O : Ops H) (C : OracleJ H) (n : Nat) (a0 : Value) (a1 : Value) (s : St H) : Option (List (Value × St H)) :=
 (O.box s a1).bind fun p1 =>
 (O.alloc p1.2 81).bind fun p2 =>
 (O.load p2.2 81 p1.1).bind fun v3 =>
 (C (.fn 69) [v3] p2.2).bind fun L4 => manyK L4 fun v5 s6 =>
 (O.uop .not v5).bind fun v7 =>
 (O.boolO v7).bind fun b8 => cond b8 (
 (O.build 81 []).bind fun v9 =>
 (O.store s6 81 p2.1 v9).bind fun s10 =>
 (O.load s10 81 p2.1).bind fun v11 => some [(.tuple #[v11, (Value.int IntKind.u64 0), (Value.int IntKind.i64 2)], s10)]) (
 (O.fieldAddr 81 p1.1 0).bind fun v12 =>
 (O.load s6 3 v12).bind fun v13 =>
 (O.bop .eql 3 v13 (Value.int IntKind.i64 0)).bind fun v14 =>
 (O.boolO v14).bind fun b15 => cond b15 (
 (C (.fn 37) [a0, (Value.int IntKind.i64 64)] s6).bind fun L16 => manyK L16 fun v17 s18 =>
 (O.extract v17 0).bind fun v19 =>
 (O.extract v17 1).bind fun v20 =>
 (O.bop .neq 25 v20 (Value.int IntKind.i64 0)).bind fun v21 =>
 (O.boolO v21).bind fun b22 => cond b22 (
 (O.build 81 []).bind fun v23 =>
 (O.store s18 81 p2.1 v23).bind fun s24 =>
 (O.load s24 81 p2.1).bind fun v25 => some [(.tuple #[v25, (Value.int IntKind.u64 0), v20], s24)]) (
 (O.fieldAddr 81 p1.1 2).bind fun v26 =>
 (O.load s18 3 v26).bind fun v27 =>
 (O.fieldAddr 81 p1.1 3).bind fun v28 =>
 (O.load s18 3 v28).bind fun v29 =>
 (O.build 81 [(0, (Value.int IntKind.i64 1)), (1, v19), (2, v27), (3, v29)]).bind fun v30 =>
 (O.store s18 81 p2.1 v30).bind fun s31 =>
 (O.load s31 81 p2.1).bind fun v32 => some [(.tuple #[v32, v19, (Value.int IntKind.i64 0)], s31)])) (
 (O.fieldAddr 81 p1.1 0).bind fun v33 =>
 (O.load s6 3 v33).bind fun v34 =>
 (O.bop .add 3 v34 (Value.int IntKind.i64 1)).bind fun v35 =>
 (O.fieldAddr 81 p1.1 1).bind fun v36 =>
 (O.load s6 38 v36).bind fun v37 =>
 (O.fieldAddr 81 p1.1 2).bind fun v38 =>
 (O.load s6 3 v38).bind fun v39 =>
 (O.fieldAddr 81 p1.1 3).bind fun v40 =>
 (O.load s6 3 v40).bind fun v41 =>
 (O.build 81 [(0, v35), (1, v37), (2, v39), (3, v41)]).bind fun v42 =>
 (O.alloc s6 81).bind fun p43 =>
 (O.store p43.2 81 p43.1 v42).bind fun s44 =>
 (C (.fn 37) [a0, (Value.int IntKind.i64 1)] s44).bind fun L45 => manyK L45 fun v46 s47 =>
 (O.extract v46 0).bind fun v48 =>
 (O.extract v46 1).bind fun v49 =>
 jn (fun (j288_64 : Value) =>
 (O.boolO j288_64).bind fun b63 => cond b63 (
 (O.bop .neq 25 v49 (Value.int IntKind.i64 0)).bind fun v64 =>
 (O.boolO v64).bind fun b65 => cond b65 (
 (O.build 81 []).bind fun v66 =>
 (O.store s47 81 p2.1 v66).bind fun s67 =>
 (O.load s67 81 p2.1).bind fun v68 => some [(.tuple #[v68, (Value.int IntKind.u64 0), v49], s67)]) (
 (O.load s47 81 p43.1).bind fun v69 =>
 (O.fieldAddr 81 p43.1 1).bind fun v70 =>
 (O.load s47 38 v70).bind fun v71 =>
 (O.store s47 81 p2.1 v69).bind fun s72 =>
 bif (eqO H (O.load s47 38 v70) v71 && (eqO H (O.load s72 38 v70) v71 && (true))) && (true) then
 (O.load s72 81 p2.1).bind fun v73 => some [(.tuple #[v73, v71, (Value.int IntKind.i64 0)], s72)]
 else none)) (
 (C (.fn 37) [a0, (Value.int IntKind.i64 1)] s47).bind fun L74 => manyK L74 fun v75 s76 =>
 (O.extract v75 0).bind fun v77 =>
 (O.extract v75 1).bind fun v78 =>
 (O.bop .neq 25 v78 (Value.int IntKind.i64 0)).bind fun v79 =>
 (O.boolO v79).bind fun b80 => cond b80 (
 (O.build 81 []).bind fun v81 =>
 (O.store s76 81 p2.1 v81).bind fun s82 =>
 (O.load s82 81 p2.1).bind fun v83 => some [(.tuple #[v83, (Value.int IntKind.u64 0), v78], s82)]) (
 (O.bop .eql 38 v77 (Value.int IntKind.u64 1)).bind fun v84 =>
 jn (fun (js303 : St H) =>
 (O.fieldAddr 81 p43.1 2).bind fun v196 =>
 (O.load js303 3 v196).bind fun v197 =>
 (O.bop .sub 3 (Value.int IntKind.i64 64) v197).bind fun v198 =>
 (O.fieldAddr 81 p43.1 3).bind fun v199 =>
 (O.load js303 3 v199).bind fun v200 =>
 (O.bop .sub 3 v198 v200).bind fun v201 =>
 (C (.fn 37) [a0, v201] js303).bind fun L202 => manyK L202 fun v203 s204 =>
 (O.extract v203 0).bind fun v205 =>
 (O.extract v203 1).bind fun v206 =>
 (O.bop .neq 25 v206 (Value.int IntKind.i64 0)).bind fun v207 =>
 (O.boolO v207).bind fun b208 => cond b208 (
 (O.build 81 []).bind fun v209 =>
 (O.store s204 81 p2.1 v209).bind fun s210 =>
 (O.load s210 81 p2.1).bind fun v211 => some [(.tuple #[v211, (Value.int IntKind.u64 0), v206], s210)]) (
 iterS (f36_l0 O C n p43.1 j288_64 )
 (fun i218 x219 s220 => (bif Nat.beq i218 0 then
 (O.bop .eql 38 x219.1 (Value.int IntKind.u64 0)).bind fun v224 =>
 (O.boolO v224).bind fun b225 => cond b225 (
 (O.build 81 []).bind fun v226 =>
 (O.store s220 81 p2.1 v226).bind fun s227 =>
 (O.load s227 81 p2.1).bind fun v228 => some [(.tuple #[v228, (Value.int IntKind.u64 0), (Value.int IntKind.i64 50)], s227)]) (
 (C (.fn 70) [x219.1] s220).bind fun L229 => manyK L229 fun v230 s231 =>
 (O.extract v230 0).bind fun v232 =>
 (O.extract v230 1).bind fun v233 =>
 jn (fun (j355_178 : Value) =>
 (O.boolO j355_178).bind fun b254 => cond b254 (
 (O.build 81 []).bind fun v255 =>
 (O.store s231 81 p2.1 v255).bind fun s256 =>
 (O.load s256 81 p2.1).bind fun v257 => some [(.tuple #[v257, (Value.int IntKind.u64 0), (Value.int IntKind.i64 50)], s256)]) (
 (O.fieldAddr 81 p1.1 1).bind fun v258 =>
 (O.load s231 38 v258).bind fun v259 =>
 (O.bop .xor 38 v259 x219.1).bind fun v260 =>
 (O.fieldAddr 81 p43.1 1).bind fun v261 =>
 (O.store s231 38 v261 v260).bind fun s262 =>
 (O.load s262 81 p43.1).bind fun v263 =>
 (O.fieldAddr 81 p43.1 1).bind fun v264 =>
 (O.load s262 38 v264).bind fun v265 =>
 (O.store s262 81 p2.1 v263).bind fun s266 =>
 bif (eqO H (O.load s262 38 v264) v265 && (eqO H (O.load s266 38 v264) v265 && (true))) && (true) then
 (O.load s266 81 p2.1).bind fun v267 => some [(.tuple #[v267, v265, (Value.int IntKind.i64 0)], s266)]
 else none)) fun k355 =>
 (O.bop .eql 38 v77 (Value.int IntKind.u64 1)).bind fun v234 =>
 gd v234 (
 (O.fieldAddr 81 p43.1 2).bind fun v235 =>
 (O.load s231 3 v235).bind fun v236 =>
 (O.bop .neq 3 v232 v236).bind fun v237 =>
 gd v237 (
 k355 (.bool true)) (
 (O.fieldAddr 81 p43.1 3).bind fun v238 =>
 (O.load s231 3 v238).bind fun v239 =>
 (O.bop .neq 3 v233 v239).bind fun v240 =>
 gd v240 (
 k355 (.bool true)) (
 (O.fieldAddr 81 p1.1 2).bind fun v241 =>
 (O.load s231 3 v241).bind fun v242 =>
 (O.bop .lss 3 v242 (Value.int IntKind.i64 64)).bind fun v243 =>
 gd v243 (
 (O.fieldAddr 81 p1.1 2).bind fun v244 =>
 (O.load s231 3 v244).bind fun v245 =>
 (O.bop .geq 3 v232 v245).bind fun v246 =>
 gd v246 (
 (O.fieldAddr 81 p1.1 3).bind fun v247 =>
 (O.load s231 3 v247).bind fun v248 =>
 (O.bop .geq 3 v233 v248).bind fun v249 =>
 k355 v249) (
 k355 (.bool false)) (
 none)) (
 k355 (.bool false)) (
 none)) (
 none)) (
 none)) (
 k355 (.bool false)) (
 none)) else none))
 (fun x221 s222 => (O.load s222 81 p2.1).bind fun v223 => some [(.tuple #[v223, (Value.int IntKind.u64 0), (Value.int IntKind.i64 0)], s222)]) n (v205, (Value.int IntKind.i64 0)) s204)) fun k303 =>
 (O.boolO v84).bind fun b85 => cond b85 (
 (C (.fn 37) [a0, (Value.int IntKind.i64 12)] s76).bind fun L86 => manyK L86 fun v87 s88 =>
 (O.extract v87 0).bind fun v89 =>
 (O.extract v87 1).bind fun v90 =>
 (O.bop .neq 25 v90 (Value.int IntKind.i64 0)).bind fun v91 =>
 (O.boolO v91).bind fun b92 => cond b92 (
 (O.build 81 []).bind fun v93 =>
 (O.store s88 81 p2.1 v93).bind fun s94 =>
 (O.load s94 81 p2.1).bind fun v95 => some [(.tuple #[v95, (Value.int IntKind.u64 0), v90], s94)]) (
 (O.bop .quo 38 v89 (Value.int IntKind.u64 64)).bind fun v96 =>
 (O.conv false s88 38 3 v96).bind fun p97 =>
 (O.fieldAddr 81 p43.1 2).bind fun v98 =>
 (O.store p97.2 3 v98 p97.1).bind fun s99 =>
 (O.bop .rem 38 v89 (Value.int IntKind.u64 64)).bind fun v100 =>
 (O.conv false s99 38 3 v100).bind fun p101 =>
 (O.bop .add 3 p101.1 (Value.int IntKind.i64 1)).bind fun v102 =>
 (O.fieldAddr 81 p43.1 2).bind fun v103 =>
 (O.load p101.2 3 v103).bind fun v104 =>
 (O.bop .add 3 v104 v102).bind fun v105 =>
 (O.bop .gtr 3 v105 (Value.int IntKind.i64 64)).bind fun v106 =>
 (O.boolO v106).bind fun b107 => cond b107 (
 (O.build 81 []).bind fun v108 =>
 (O.store p101.2 81 p2.1 v108).bind fun s109 =>
 (O.load s109 81 p2.1).bind fun v110 => some [(.tuple #[v110, (Value.int IntKind.u64 0), (Value.int IntKind.i64 50)], s109)]) (
 (O.fieldAddr 81 p43.1 2).bind fun v111 =>
 (O.load p101.2 3 v111).bind fun v112 =>
 (O.bop .sub 3 (Value.int IntKind.i64 64) v112).bind fun v113 =>
 (O.bop .sub 3 v113 v102).bind fun v114 =>
 (O.fieldAddr 81 p43.1 3).bind fun v115 =>
 (O.store p101.2 3 v115 v114).bind fun s116 =>
 k303 s116))) (
 (O.fieldAddr 81 p1.1 2).bind fun v117 =>
 (O.load s76 3 v117).bind fun v118 =>
 (O.bop .eql 3 v118 (Value.int IntKind.i64 64)).bind fun v119 =>
 (O.boolO v119).bind fun b120 => cond b120 (
 (O.build 81 []).bind fun v121 =>
 (O.store s76 81 p2.1 v121).bind fun s122 =>
 (O.load s122 81 p2.1).bind fun v123 => some [(.tuple #[v123, (Value.int IntKind.u64 0), (Value.int IntKind.i64 50)], s122)]) (
 k303 s76))))) fun k288 =>
 (O.bop .neq 25 v49 (Value.int IntKind.i64 0)).bind fun v50 =>
 gd v50 (
 k288 (.bool true)) (
 (O.bop .eql 38 v48 (Value.int IntKind.u64 0)).bind fun v51 =>
 k288 v51) (
 none)))
theorem f36_l0_k (C : OracleJ H) (n : Nat) (i0 i1 i3 i4 i9 i10 i11 i12 i13 i14 i15 i16 i21 i22 i23 i25 i26 i27 i44 i45 i46 i47 i48 i49 i50 i51 i52 i53 i54 i55 i56 i57 i58 i59 i60 i61 i62 i63 i64 i72 i73 i74 i75 i76 i77 i78 i81 i82 i83 i84 i85 i86 i87 i88 i89 i92 i93 i94 i95 i96 i97 i98 i99 i100 i101 i102 i103 i104 i106 i107 i108 i109 i110 i111 i112 i113 i114 i116 i117 i118 i119 i120 i121 i122 i123 i124 i125 i126 i127 i128 i129 : Value) (i : Nat) (x : Value × Value) (s : St H) : (kBlock 0 (kSeq Tryd.prog false C n 36 none (cdp Tryd.f36 [1, 1, 1, 1, 1, 1, 1, 1, 1, 1, 1, 1, 1]) (kFun Tryd.prog Tryd.f36))) (.exit i) (f36_l0_m i0 i1 i3 i4 i9 i10 i11 i12 i13 i14 i15 i16 i21 i22 i23 i25 i26 i27 i44 i45 i46 i47 i48 i49 i50 i51 i52 i53 i54 i55 i56 i57 i58 i59 i60 i61 i62 i63 i64 i72 i73 i74 i75 i76 i77 i78 i81 i82 i83 i84 i85 i86 i87 i88 i89 i92 i93 i94 i95 i96 i97 i98 i99 i100 i101 i102 i103 i104 i106 i107 i108 i109 i110 i111 i112 i113 i114 i116 i117 i118 i119 i120 i121 i122 i123 i124 i125 i126 i127 i128 i129 x) s =
 (bif Nat.beq i 0 then
 ((dOps (H := H) Tryd.prog).bop .eql 38 x.1 (Value.int IntKind.u64 0)).bind fun v467 =>
 ((dOps (H := H) Tryd.prog).boolO v467).bind fun b468 => cond b468 (
 ((dOps (H := H) Tryd.prog).build 81 []).bind fun v469 =>
 ((dOps (H := H) Tryd.prog).store s 81 i4 v469).bind fun s470 =>
 ((dOps (H := H) Tryd.prog).load s470 81 i4).bind fun v471 => some [(.tuple #[v471, (Value.int IntKind.u64 0), (Value.int IntKind.i64 50)], s470)]) (
 (C (.fn 70) [x.1] s).bind fun L472 => manyK L472 fun v473 s474 =>
 ((dOps (H := H) Tryd.prog).extract v473 0).bind fun v475 =>
 ((dOps (H := H) Tryd.prog).extract v473 1).bind fun v476 =>
 jn (fun (j431_178 : Value) =>
 ((dOps (H := H) Tryd.prog).boolO j431_178).bind fun b497 => cond b497 (
 ((dOps (H := H) Tryd.prog).build 81 []).bind fun v498 =>
 ((dOps (H := H) Tryd.prog).store s474 81 i4 v498).bind fun s499 =>
 ((dOps (H := H) Tryd.prog).load s499 81 i4).bind fun v500 => some [(.tuple #[v500, (Value.int IntKind.u64 0), (Value.int IntKind.i64 50)], s499)]) (
 ((dOps (H := H) Tryd.prog).fieldAddr 81 i3 1).bind fun v501 =>
 ((dOps (H := H) Tryd.prog).load s474 38 v501).bind fun v502 =>
 ((dOps (H := H) Tryd.prog).bop .xor 38 v502 x.1).bind fun v503 =>
 ((dOps (H := H) Tryd.prog).fieldAddr 81 i9 1).bind fun v504 =>
 ((dOps (H := H) Tryd.prog).store s474 38 v504 v503).bind fun s505 =>
 ((dOps (H := H) Tryd.prog).load s505 81 i9).bind fun v506 =>
 ((dOps (H := H) Tryd.prog).fieldAddr 81 i9 1).bind fun v507 =>
 ((dOps (H := H) Tryd.prog).load s505 38 v507).bind fun v508 =>
 ((dOps (H := H) Tryd.prog).store s505 81 i4 v506).bind fun s509 =>
 bif (eqO H ((dOps (H := H) Tryd.prog).load s505 38 v507) v508 && (eqO H ((dOps (H := H) Tryd.prog).load s509 38 v507) v508 && (true))) && (true) then
 ((dOps (H := H) Tryd.prog).load s509 81 i4).bind fun v510 => some [(.tuple #[v510, v508, (Value.int IntKind.i64 0)], s509)]
 else none)) fun k431 =>
 ((dOps (H := H) Tryd.prog).bop .eql 38 i12 (Value.int IntKind.u64 1)).bind fun v477 =>
 gd v477 (
 ((dOps (H := H) Tryd.prog).fieldAddr 81 i9 2).bind fun v478 =>
 ((dOps (H := H) Tryd.prog).load s474 3 v478).bind fun v479 =>
 ((dOps (H := H) Tryd.prog).bop .neq 3 v475 v479).bind fun v480 =>
 gd v480 (
 k431 (.bool true)) (
 ((dOps (H := H) Tryd.prog).fieldAddr 81 i9 3).bind fun v481 =>
 ((dOps (H := H) Tryd.prog).load s474 3 v481).bind fun v482 =>
 ((dOps (H := H) Tryd.prog).bop .neq 3 v476 v482).bind fun v483 =>
 gd v483 (
 k431 (.bool true)) (
 ((dOps (H := H) Tryd.prog).fieldAddr 81 i3 2).bind fun v484 =>
 ((dOps (H := H) Tryd.prog).load s474 3 v484).bind fun v485 =>
 ((dOps (H := H) Tryd.prog).bop .lss 3 v485 (Value.int IntKind.i64 64)).bind fun v486 =>
 gd v486 (
 ((dOps (H := H) Tryd.prog).fieldAddr 81 i3 2).bind fun v487 =>
 ((dOps (H := H) Tryd.prog).load s474 3 v487).bind fun v488 =>
 ((dOps (H := H) Tryd.prog).bop .geq 3 v475 v488).bind fun v489 =>
 gd v489 (
 ((dOps (H := H) Tryd.prog).fieldAddr 81 i3 3).bind fun v490 =>
 ((dOps (H := H) Tryd.prog).load s474 3 v490).bind fun v491 =>
 ((dOps (H := H) Tryd.prog).bop .geq 3 v476 v491).bind fun v492 =>
 k431 v492) (
 k431 (.bool false)) (
 none)) (
 k431 (.bool false)) (
 none)) (
 none)) (
 none)) (
 k431 (.bool false)) (
 none)) else none) := by kernel_rfl
theorem f36_r (C : OracleJ H) (n : Nat) (a0 : Value) (a1 : Value) (s : St H) : bodyD Tryd.prog false C n 36 Tryd.f36 [a0, a1] s = f36 (dOps (H := H) Tryd.prog) C n a0 a1 s := by
  have h1 : bodyD Tryd.prog false C n 36 Tryd.f36 [a0, a1] s =
 ((dOps (H := H) Tryd.prog).box s a1).bind fun p268 =>
 ((dOps (H := H) Tryd.prog).alloc p268.2 81).bind fun p269 =>
 ((dOps (H := H) Tryd.prog).load p269.2 81 p268.1).bind fun v270 =>
 (C (.fn 69) [v270] p269.2).bind fun L271 => manyK L271 fun v272 s273 =>
 ((dOps (H := H) Tryd.prog).uop .not v272).bind fun v274 =>
 ((dOps (H := H) Tryd.prog).boolO v274).bind fun b275 => cond b275 (
 ((dOps (H := H) Tryd.prog).build 81 []).bind fun v276 =>
 ((dOps (H := H) Tryd.prog).store s273 81 p269.1 v276).bind fun s277 =>
 ((dOps (H := H) Tryd.prog).load s277 81 p269.1).bind fun v278 => some [(.tuple #[v278, (Value.int IntKind.u64 0), (Value.int IntKind.i64 2)], s277)]) (
 ((dOps (H := H) Tryd.prog).fieldAddr 81 p268.1 0).bind fun v279 =>
 ((dOps (H := H) Tryd.prog).load s273 3 v279).bind fun v280 =>
 ((dOps (H := H) Tryd.prog).bop .eql 3 v280 (Value.int IntKind.i64 0)).bind fun v281 =>
 ((dOps (H := H) Tryd.prog).boolO v281).bind fun b282 => cond b282 (
 (C (.fn 37) [a0, (Value.int IntKind.i64 64)] s273).bind fun L283 => manyK L283 fun v284 s285 =>
 ((dOps (H := H) Tryd.prog).extract v284 0).bind fun v286 =>
 ((dOps (H := H) Tryd.prog).extract v284 1).bind fun v287 =>
 ((dOps (H := H) Tryd.prog).bop .neq 25 v287 (Value.int IntKind.i64 0)).bind fun v288 =>
 ((dOps (H := H) Tryd.prog).boolO v288).bind fun b289 => cond b289 (
 ((dOps (H := H) Tryd.prog).build 81 []).bind fun v290 =>
 ((dOps (H := H) Tryd.prog).store s285 81 p269.1 v290).bind fun s291 =>
 ((dOps (H := H) Tryd.prog).load s291 81 p269.1).bind fun v292 => some [(.tuple #[v292, (Value.int IntKind.u64 0), v287], s291)]) (
 ((dOps (H := H) Tryd.prog).fieldAddr 81 p268.1 2).bind fun v293 =>
 ((dOps (H := H) Tryd.prog).load s285 3 v293).bind fun v294 =>
 ((dOps (H := H) Tryd.prog).fieldAddr 81 p268.1 3).bind fun v295 =>
 ((dOps (H := H) Tryd.prog).load s285 3 v295).bind fun v296 =>
 ((dOps (H := H) Tryd.prog).build 81 [(0, (Value.int IntKind.i64 1)), (1, v286), (2, v294), (3, v296)]).bind fun v297 =>
 ((dOps (H := H) Tryd.prog).store s285 81 p269.1 v297).bind fun s298 =>
 ((dOps (H := H) Tryd.prog).load s298 81 p269.1).bind fun v299 => some [(.tuple #[v299, v286, (Value.int IntKind.i64 0)], s298)])) (
 ((dOps (H := H) Tryd.prog).fieldAddr 81 p268.1 0).bind fun v300 =>
 ((dOps (H := H) Tryd.prog).load s273 3 v300).bind fun v301 =>
 ((dOps (H := H) Tryd.prog).bop .add 3 v301 (Value.int IntKind.i64 1)).bind fun v302 =>
 ((dOps (H := H) Tryd.prog).fieldAddr 81 p268.1 1).bind fun v303 =>
 ((dOps (H := H) Tryd.prog).load s273 38 v303).bind fun v304 =>
 ((dOps (H := H) Tryd.prog).fieldAddr 81 p268.1 2).bind fun v305 =>
 ((dOps (H := H) Tryd.prog).load s273 3 v305).bind fun v306 =>
 ((dOps (H := H) Tryd.prog).fieldAddr 81 p268.1 3).bind fun v307 =>
 ((dOps (H := H) Tryd.prog).load s273 3 v307).bind fun v308 =>
 ((dOps (H := H) Tryd.prog).build 81 [(0, v302), (1, v304), (2, v306), (3, v308)]).bind fun v309 =>
 ((dOps (H := H) Tryd.prog).alloc s273 81).bind fun p310 =>
 ((dOps (H := H) Tryd.prog).store p310.2 81 p310.1 v309).bind fun s311 =>
 (C (.fn 37) [a0, (Value.int IntKind.i64 1)] s311).bind fun L312 => manyK L312 fun v313 s314 =>
 ((dOps (H := H) Tryd.prog).extract v313 0).bind fun v315 =>
 ((dOps (H := H) Tryd.prog).extract v313 1).bind fun v316 =>
 jn (fun (j374_60 : Value) (j374_61 : Value) (j374_62 : Value) (j374_63 : Value) (j374_64 : Value) =>
 ((dOps (H := H) Tryd.prog).boolO j374_64).bind fun b330 => cond b330 (
 ((dOps (H := H) Tryd.prog).bop .neq 25 v316 (Value.int IntKind.i64 0)).bind fun v331 =>
 ((dOps (H := H) Tryd.prog).boolO v331).bind fun b332 => cond b332 (
 ((dOps (H := H) Tryd.prog).build 81 []).bind fun v333 =>
 ((dOps (H := H) Tryd.prog).store s314 81 p269.1 v333).bind fun s334 =>
 ((dOps (H := H) Tryd.prog).load s334 81 p269.1).bind fun v335 => some [(.tuple #[v335, (Value.int IntKind.u64 0), v316], s334)]) (
 ((dOps (H := H) Tryd.prog).load s314 81 p310.1).bind fun v336 =>
 ((dOps (H := H) Tryd.prog).fieldAddr 81 p310.1 1).bind fun v337 =>
 ((dOps (H := H) Tryd.prog).load s314 38 v337).bind fun v338 =>
 ((dOps (H := H) Tryd.prog).store s314 81 p269.1 v336).bind fun s339 =>
 bif (eqO H ((dOps (H := H) Tryd.prog).load s314 38 v337) v338 && (eqO H ((dOps (H := H) Tryd.prog).load s339 38 v337) v338 && (true))) && (true) then
 ((dOps (H := H) Tryd.prog).load s339 81 p269.1).bind fun v340 => some [(.tuple #[v340, v338, (Value.int IntKind.i64 0)], s339)]
 else none)) (
 (C (.fn 37) [a0, (Value.int IntKind.i64 1)] s314).bind fun L341 => manyK L341 fun v342 s343 =>
 ((dOps (H := H) Tryd.prog).extract v342 0).bind fun v344 =>
 ((dOps (H := H) Tryd.prog).extract v342 1).bind fun v345 =>
 ((dOps (H := H) Tryd.prog).bop .neq 25 v345 (Value.int IntKind.i64 0)).bind fun v346 =>
 ((dOps (H := H) Tryd.prog).boolO v346).bind fun b347 => cond b347 (
 ((dOps (H := H) Tryd.prog).build 81 []).bind fun v348 =>
 ((dOps (H := H) Tryd.prog).store s343 81 p269.1 v348).bind fun s349 =>
 ((dOps (H := H) Tryd.prog).load s349 81 p269.1).bind fun v350 => some [(.tuple #[v350, (Value.int IntKind.u64 0), v345], s349)]) (
 ((dOps (H := H) Tryd.prog).bop .eql 38 v344 (Value.int IntKind.u64 1)).bind fun v351 =>
 jn (fun (j389_13 : Value) (j389_14 : Value) (j389_15 : Value) (j389_83 : Value) (j389_84 : Value) (j389_85 : Value) (j389_86 : Value) (j389_87 : Value) (j389_88 : Value) (j389_89 : Value) (j389_92 : Value) (j389_93 : Value) (j389_94 : Value) (j389_95 : Value) (j389_96 : Value) (j389_97 : Value) (j389_98 : Value) (j389_99 : Value) (j389_100 : Value) (j389_101 : Value) (j389_102 : Value) (j389_103 : Value) (j389_104 : Value) (j389_106 : Value) (j389_107 : Value) (j389_108 : Value) (j389_109 : Value) (j389_110 : Value) (j389_111 : Value) (j389_112 : Value) (j389_113 : Value) (j389_114 : Value) (js389 : St H) =>
 ((dOps (H := H) Tryd.prog).fieldAddr 81 p310.1 2).bind fun v407 =>
 ((dOps (H := H) Tryd.prog).load js389 3 v407).bind fun v408 =>
 ((dOps (H := H) Tryd.prog).bop .sub 3 (Value.int IntKind.i64 64) v408).bind fun v409 =>
 ((dOps (H := H) Tryd.prog).fieldAddr 81 p310.1 3).bind fun v410 =>
 ((dOps (H := H) Tryd.prog).load js389 3 v410).bind fun v411 =>
 ((dOps (H := H) Tryd.prog).bop .sub 3 v409 v411).bind fun v412 =>
 (C (.fn 37) [a0, v412] js389).bind fun L413 => manyK L413 fun v414 s415 =>
 ((dOps (H := H) Tryd.prog).extract v414 0).bind fun v416 =>
 ((dOps (H := H) Tryd.prog).extract v414 1).bind fun v417 =>
 ((dOps (H := H) Tryd.prog).bop .neq 25 v417 (Value.int IntKind.i64 0)).bind fun v418 =>
 ((dOps (H := H) Tryd.prog).boolO v418).bind fun b419 => cond b419 (
 ((dOps (H := H) Tryd.prog).build 81 []).bind fun v420 =>
 ((dOps (H := H) Tryd.prog).store s415 81 p269.1 v420).bind fun s421 =>
 ((dOps (H := H) Tryd.prog).load s421 81 p269.1).bind fun v422 => some [(.tuple #[v422, (Value.int IntKind.u64 0), v417], s421)]) (
 iter (fun t s k => exec Tryd.prog false C n 36 none (cdp Tryd.f36 [1, 1, 1, 1, 1, 1, 1, 1, 1, 1, 1, 1, 0, 1, 0, 0]) t s k) (scratch (cdp Tryd.f36 [1, 1, 1, 1, 1, 1, 1, 1, 1, 1, 1, 1, 0, 1, 0, 0])) n (f36_l0_m a0 a1 p268.1 p269.1 p310.1 v315 v417 v344 j389_13 j389_14 j389_15 v412 v270 v272 v274 v279 v280 v281 v300 v301 v302 v303 v304 v305 v306 v307 v308 v309 v313 a0 v313 v315 v316 v316 j374_60 j374_61 j374_62 j374_63 j374_64 v342 a0 v342 v344 v345 v345 v346 v344 v351 j389_83 j389_84 j389_85 j389_86 j389_87 j389_88 j389_89 j389_92 j389_93 j389_94 j389_95 j389_96 j389_97 j389_98 j389_99 j389_100 j389_101 j389_102 j389_103 j389_104 j389_106 j389_107 j389_108 j389_109 j389_110 j389_111 j389_112 j389_113 j389_114 v407 v408 v409 v410 v411 v412 v414 a0 v412 v414 v416 v417 v417 v418 (v416, (Value.int IntKind.i64 0))) s415 (kBlock 0 (kSeq Tryd.prog false C n 36 none (cdp Tryd.f36 [1, 1, 1, 1, 1, 1, 1, 1, 1, 1, 1, 1, 1]) (kFun Tryd.prog Tryd.f36))))) fun k389 =>
 ((dOps (H := H) Tryd.prog).boolO v351).bind fun b352 => cond b352 (
 (C (.fn 37) [a0, (Value.int IntKind.i64 12)] s343).bind fun L353 => manyK L353 fun v354 s355 =>
 ((dOps (H := H) Tryd.prog).extract v354 0).bind fun v356 =>
 ((dOps (H := H) Tryd.prog).extract v354 1).bind fun v357 =>
 ((dOps (H := H) Tryd.prog).bop .neq 25 v357 (Value.int IntKind.i64 0)).bind fun v358 =>
 ((dOps (H := H) Tryd.prog).boolO v358).bind fun b359 => cond b359 (
 ((dOps (H := H) Tryd.prog).build 81 []).bind fun v360 =>
 ((dOps (H := H) Tryd.prog).store s355 81 p269.1 v360).bind fun s361 =>
 ((dOps (H := H) Tryd.prog).load s361 81 p269.1).bind fun v362 => some [(.tuple #[v362, (Value.int IntKind.u64 0), v357], s361)]) (
 ((dOps (H := H) Tryd.prog).bop .quo 38 v356 (Value.int IntKind.u64 64)).bind fun v363 =>
 ((dOps (H := H) Tryd.prog).conv false s355 38 3 v363).bind fun p364 =>
 ((dOps (H := H) Tryd.prog).fieldAddr 81 p310.1 2).bind fun v365 =>
 ((dOps (H := H) Tryd.prog).store p364.2 3 v365 p364.1).bind fun s366 =>
 ((dOps (H := H) Tryd.prog).bop .rem 38 v356 (Value.int IntKind.u64 64)).bind fun v367 =>
 ((dOps (H := H) Tryd.prog).conv false s366 38 3 v367).bind fun p368 =>
 ((dOps (H := H) Tryd.prog).bop .add 3 p368.1 (Value.int IntKind.i64 1)).bind fun v369 =>
 ((dOps (H := H) Tryd.prog).fieldAddr 81 p310.1 2).bind fun v370 =>
 ((dOps (H := H) Tryd.prog).load p368.2 3 v370).bind fun v371 =>
 ((dOps (H := H) Tryd.prog).bop .add 3 v371 v369).bind fun v372 =>
 ((dOps (H := H) Tryd.prog).bop .gtr 3 v372 (Value.int IntKind.i64 64)).bind fun v373 =>
 ((dOps (H := H) Tryd.prog).boolO v373).bind fun b374 => cond b374 (
 ((dOps (H := H) Tryd.prog).build 81 []).bind fun v375 =>
 ((dOps (H := H) Tryd.prog).store p368.2 81 p269.1 v375).bind fun s376 =>
 ((dOps (H := H) Tryd.prog).load s376 81 p269.1).bind fun v377 => some [(.tuple #[v377, (Value.int IntKind.u64 0), (Value.int IntKind.i64 50)], s376)]) (
 ((dOps (H := H) Tryd.prog).fieldAddr 81 p310.1 2).bind fun v378 =>
 ((dOps (H := H) Tryd.prog).load p368.2 3 v378).bind fun v379 =>
 ((dOps (H := H) Tryd.prog).bop .sub 3 (Value.int IntKind.i64 64) v379).bind fun v380 =>
 ((dOps (H := H) Tryd.prog).bop .sub 3 v380 v369).bind fun v381 =>
 ((dOps (H := H) Tryd.prog).fieldAddr 81 p310.1 3).bind fun v382 =>
 ((dOps (H := H) Tryd.prog).store p368.2 3 v382 v381).bind fun s383 =>
 k389 v356 v357 v369 v354 a0 v354 v356 v357 v357 v358 v356 v363 p364.1 v365 v356 v367 p368.1 v369 v370 v371 v369 v372 v373 v378 v379 v380 v369 v381 v382 undefV undefV undefV s383))) (
 ((dOps (H := H) Tryd.prog).fieldAddr 81 p268.1 2).bind fun v384 =>
 ((dOps (H := H) Tryd.prog).load s343 3 v384).bind fun v385 =>
 ((dOps (H := H) Tryd.prog).bop .eql 3 v385 (Value.int IntKind.i64 64)).bind fun v386 =>
 ((dOps (H := H) Tryd.prog).boolO v386).bind fun b387 => cond b387 (
 ((dOps (H := H) Tryd.prog).build 81 []).bind fun v388 =>
 ((dOps (H := H) Tryd.prog).store s343 81 p269.1 v388).bind fun s389 =>
 ((dOps (H := H) Tryd.prog).load s389 81 p269.1).bind fun v390 => some [(.tuple #[v390, (Value.int IntKind.u64 0), (Value.int IntKind.i64 50)], s389)]) (
 k389 undefV undefV undefV undefV undefV undefV undefV undefV undefV undefV undefV undefV undefV undefV undefV undefV undefV undefV undefV undefV undefV undefV undefV undefV undefV undefV undefV undefV undefV v384 v385 v386 s343))))) fun k374 =>
 ((dOps (H := H) Tryd.prog).bop .neq 25 v316 (Value.int IntKind.i64 0)).bind fun v317 =>
 gd v317 (
 k374 v317 (.bool true) undefV undefV (.bool true)) (
 ((dOps (H := H) Tryd.prog).bop .eql 38 v315 (Value.int IntKind.u64 0)).bind fun v318 =>
 k374 v317 (.bool false) v315 v318 v318) (
 none))) := by kernel_rfl
  rw [h1]
  simp only [f36_l0_e, f36_l0_k]
  show _ = f36 (dOps (H := H) Tryd.prog) C n a0 a1 s
  kernel_rfl
/-! (*tidepole/tidepoleref05.Reader).Get -/
def f37_l1_m (i0 i1 i6 i7 i10 i11 i13 i14 i15 i16 i17 i18 i19 i20 i21 i22 i23 i24 i25 i26 i27 i28 i29 i30 i31 i34 i35 i36 i37 i38 i39 i40 i41 i42 i43 i44 i45 i46 i47 i48 i49 i50 : Value) (x : Value × Value) : List Value := [i0, i1, undefV, undefV, (Value.int IntKind.u64 0), (Value.int IntKind.i64 0), i6, i7, x.1, x.2, i10, i11, (.bool false), i13, i14, i15, i16, i17, i18, i19, i20, i21, i22, i23, i24, i25, i26, i27, i28, i29, i30, i31, dc, dc, i34, i35, i36, i37, i38, i39, i40, i41, i42, i43, i44, i45, i46, i47, i48, i49, i50, dc, dc, dc, dc, dc, dc, dc, dc, dc, dc, dc, dc, dc, dc, dc, dc, dc, dc, dc, undefV]
noncomputable def f37_l1 (O : Ops H) (C : OracleJ H) (n : Nat) (nx : (Value × Value) → St H → Option (List (Value × St H))) (kx : Nat → (Value × Value) → St H → Option (List (Value × St H))) (kr : (Value × Value) → St H → Option (List (Value × St H))) (x : Value × Value) (s : St H) : Option (List (Value × St H)) :=
 (O.bop .lss 3 x.2 (Value.int IntKind.i64 7)).bind fun v33 =>
 (O.boolO v33).bind fun b34 => cond b34 (
 (O.bop .quo 3 x.1 (Value.int IntKind.i64 2)).bind fun v35 =>
 (O.bop .add 3 x.2 (Value.int IntKind.i64 1)).bind fun v36 =>
 nx (v35, v36) s) (
 kx 2 (x.1, x.2) s)
theorem f37_l1_b (C : OracleJ H) (n : Nat) (i0 i1 i6 i7 i10 i11 i13 i14 i15 i16 i17 i18 i19 i20 i21 i22 i23 i24 i25 i26 i27 i28 i29 i30 i31 i34 i35 i36 i37 i38 i39 i40 i41 i42 i43 i44 i45 i46 i47 i48 i49 i50 : Value) (x : Value × Value) (s : St H) (nx : List Value → St H → Option (List (Value × St H))) (K : Ex → List Value → St H → Option (List (Value × St H))) :
 exec Tryd.prog false C n 37 none (cdp Tryd.f37 [1, 1, 1, 1, 0, 1, 0, 0, 1, 0, 0, 1, 0, 1, 0, 0]) (f37_l1_m i0 i1 i6 i7 i10 i11 i13 i14 i15 i16 i17 i18 i19 i20 i21 i22 i23 i24 i25 i26 i27 i28 i29 i30 i31 i34 i35 i36 i37 i38 i39 i40 i41 i42 i43 i44 i45 i46 i47 i48 i49 i50 x) s (kIter (scratch (cdp Tryd.f37 [1, 1, 1, 1, 0, 1, 0, 0, 1, 0, 0, 1, 0, 1, 0, 0])) nx K) = f37_l1 (dOps (H := H) Tryd.prog) C n (fun x s => nx (f37_l1_m i0 i1 i6 i7 i10 i11 i13 i14 i15 i16 i17 i18 i19 i20 i21 i22 i23 i24 i25 i26 i27 i28 i29 i30 i31 i34 i35 i36 i37 i38 i39 i40 i41 i42 i43 i44 i45 i46 i47 i48 i49 i50 x) s) (fun i x s => K (.exit i) (f37_l1_m i0 i1 i6 i7 i10 i11 i13 i14 i15 i16 i17 i18 i19 i20 i21 i22 i23 i24 i25 i26 i27 i28 i29 i30 i31 i34 i35 i36 i37 i38 i39 i40 i41 i42 i43 i44 i45 i46 i47 i48 i49 i50 x) s) (fun x s => K .ret (f37_l1_m i0 i1 i6 i7 i10 i11 i13 i14 i15 i16 i17 i18 i19 i20 i21 i22 i23 i24 i25 i26 i27 i28 i29 i30 i31 i34 i35 i36 i37 i38 i39 i40 i41 i42 i43 i44 i45 i46 i47 i48 i49 i50 x) s) x s := by kernel_rfl
theorem f37_l1_e (C : OracleJ H) (n : Nat) (i0 i1 i6 i7 i10 i11 i13 i14 i15 i16 i17 i18 i19 i20 i21 i22 i23 i24 i25 i26 i27 i28 i29 i30 i31 i34 i35 i36 i37 i38 i39 i40 i41 i42 i43 i44 i45 i46 i47 i48 i49 i50 : Value) (m : Nat) (x : Value × Value) (s : St H) (K : Ex → List Value → St H → Option (List (Value × St H))) :
 iter (fun t s k => exec Tryd.prog false C n 37 none (cdp Tryd.f37 [1, 1, 1, 1, 0, 1, 0, 0, 1, 0, 0, 1, 0, 1, 0, 0]) t s k) (scratch (cdp Tryd.f37 [1, 1, 1, 1, 0, 1, 0, 0, 1, 0, 0, 1, 0, 1, 0, 0])) m (f37_l1_m i0 i1 i6 i7 i10 i11 i13 i14 i15 i16 i17 i18 i19 i20 i21 i22 i23 i24 i25 i26 i27 i28 i29 i30 i31 i34 i35 i36 i37 i38 i39 i40 i41 i42 i43 i44 i45 i46 i47 i48 i49 i50 x) s K = iterS (f37_l1 (dOps (H := H) Tryd.prog) C n) (fun i x s => K (.exit i) (f37_l1_m i0 i1 i6 i7 i10 i11 i13 i14 i15 i16 i17 i18 i19 i20 i21 i22 i23 i24 i25 i26 i27 i28 i29 i30 i31 i34 i35 i36 i37 i38 i39 i40 i41 i42 i43 i44 i45 i46 i47 i48 i49 i50 x) s) (fun x s => K .ret (f37_l1_m i0 i1 i6 i7 i10 i11 i13 i14 i15 i16 i17 i18 i19 i20 i21 i22 i23 i24 i25 i26 i27 i28 i29 i30 i31 i34 i35 i36 i37 i38 i39 i40 i41 i42 i43 i44 i45 i46 i47 i48 i49 i50 x) s) m x s :=
   iter_eq (f37_l1_m i0 i1 i6 i7 i10 i11 i13 i14 i15 i16 i17 i18 i19 i20 i21 i22 i23 i24 i25 i26 i27 i28 i29 i30 i31 i34 i35 i36 i37 i38 i39 i40 i41 i42 i43 i44 i45 i46 i47 i48 i49 i50) (f37_l1 (dOps (H := H) Tryd.prog) C n) (fun x s nx K => f37_l1_b C n i0 i1 i6 i7 i10 i11 i13 i14 i15 i16 i17 i18 i19 i20 i21 i22 i23 i24 i25 i26 i27 i28 i29 i30 i31 i34 i35 i36 i37 i38 i39 i40 i41 i42 i43 i44 i45 i46 i47 i48 i49 i50 x s nx K) K m x s
def f37_l0_m (i0 i1 i10 i11 i13 i14 i15 i16 i17 i18 i19 i20 i21 i22 i23 i24 i25 i26 i27 i28 : Value) (x : Value × Value × Value × Value) : List Value := [i0, i1, undefV, undefV, (Value.int IntKind.u64 0), (Value.int IntKind.i64 0), x.1, x.2.1, x.2.2.1, x.2.2.2, i10, i11, (.bool false), i13, i14, i15, i16, i17, i18, i19, i20, i21, i22, i23, i24, i25, i26, i27, i28, dc, dc, dc, dc, dc, dc, dc, dc, dc, dc, dc, dc, dc, dc, dc, dc, dc, dc, dc, dc, dc, dc, dc, dc, dc, dc, dc, dc, dc, dc, dc, dc, dc, dc, dc, dc, dc, dc, dc, dc, dc, undefV]
noncomputable def f37_l0 (O : Ops H) (C : OracleJ H) (n : Nat) (i0 i1 : Value) (nx : (Value × Value × Value × Value) → St H → Option (List (Value × St H))) (kx : Nat → (Value × Value × Value × Value) → St H → Option (List (Value × St H))) (kr : (Value × Value × Value × Value) → St H → Option (List (Value × St H))) (x : Value × Value × Value × Value) (s : St H) : Option (List (Value × St H)) :=
 (O.bop .lss 3 x.2.1 i1).bind fun v17 =>
 (O.boolO v17).bind fun b18 => cond b18 (
 (O.nilCheck i0).bind fun v19 =>
 (O.fieldAddr 77 v19 0).bind fun v20 =>
 (O.load s 22 v20).bind fun v21 =>
 (O.nilCheck i0).bind fun v22 =>
 (O.fieldAddr 77 v22 1).bind fun v23 =>
 (O.load s 3 v23).bind fun v24 =>
 (O.bop .quo 3 v24 (Value.int IntKind.i64 8)).bind fun v25 =>
 (O.indexAddr 22 v21 v25).bind fun v26 =>
 (O.load s 5 v26).bind fun v27 =>
 (O.conv false s 5 3 v27).bind fun p28 =>
 (O.nilCheck i0).bind fun v29 =>
 (O.fieldAddr 77 v29 1).bind fun v30 =>
 (O.load p28.2 3 v30).bind fun v31 =>
 (O.bop .rem 3 v31 (Value.int IntKind.i64 8)).bind fun v32 =>
 iterS (f37_l1 O C n )
 (fun i37 x38 s39 => (bif Nat.beq i37 2 then
 (O.bop .mul 38 (Value.int IntKind.u64 2) x.1).bind fun v42 =>
 (O.bop .rem 3 x38.1 (Value.int IntKind.i64 2)).bind fun v43 =>
 (O.conv false s39 3 38 v43).bind fun p44 =>
 (O.bop .add 38 v42 p44.1).bind fun v45 =>
 (O.nilCheck i0).bind fun v46 =>
 (O.fieldAddr 77 v46 1).bind fun v47 =>
 (O.load p44.2 3 v47).bind fun v48 =>
 (O.bop .add 3 v48 (Value.int IntKind.i64 1)).bind fun v49 =>
 (O.nilCheck i0).bind fun v50 =>
 (O.fieldAddr 77 v50 1).bind fun v51 =>
 (O.store p44.2 3 v51 v49).bind fun s52 =>
 (O.bop .add 3 x.2.1 (Value.int IntKind.i64 1)).bind fun v55 =>
 nx (v45, v55, x38.1, x38.2) s52 else (bif Nat.beq i37 1 then
 (O.bop .add 3 x.2.1 (Value.int IntKind.i64 1)).bind fun v54 =>
 nx (x.1, v54, x38.1, x38.2) s39 else kx i37 (x.1, x.2.1, x38.1, x38.2) s39)))
 (fun x40 s41 => kr (x.1, x.2.1, x40.1, x40.2) s41) n (p28.1, v32) p28.2) (
 kx 0 (x.1, x.2.1, x.2.2.1, x.2.2.2) s)
theorem f37_l1_k (C : OracleJ H) (n : Nat) (i0 i1 i6 i7 i10 i11 i13 i14 i15 i16 i17 i18 i19 i20 i21 i22 i23 i24 i25 i26 i27 i28 i29 i30 i31 i34 i35 i36 i37 i38 i39 i40 i41 i42 i43 i44 i45 i46 i47 i48 i49 i50 : Value) (nx : List Value → St H → Option (List (Value × St H))) (K : Ex → List Value → St H → Option (List (Value × St H))) (i : Nat) (x : Value × Value) (s : St H) : (kBlock 2 (kSeq Tryd.prog false C n 37 none (cdp Tryd.f37 [1, 1, 1, 1, 0, 1, 0, 0, 1, 0, 0, 1, 1]) (kBlock 1 (kSeq Tryd.prog false C n 37 none (cdp Tryd.f37 [1, 1, 1, 1, 0, 1, 0, 0, 1, 1]) (kIter (scratch (cdp Tryd.f37 [1, 1, 1, 1, 0, 1, 0, 0])) nx K))))) (.exit i) (f37_l1_m i0 i1 i6 i7 i10 i11 i13 i14 i15 i16 i17 i18 i19 i20 i21 i22 i23 i24 i25 i26 i27 i28 i29 i30 i31 i34 i35 i36 i37 i38 i39 i40 i41 i42 i43 i44 i45 i46 i47 i48 i49 i50 x) s =
 (bif Nat.beq i 2 then
 ((dOps (H := H) Tryd.prog).bop .mul 38 (Value.int IntKind.u64 2) i6).bind fun v85 =>
 ((dOps (H := H) Tryd.prog).bop .rem 3 x.1 (Value.int IntKind.i64 2)).bind fun v86 =>
 ((dOps (H := H) Tryd.prog).conv false s 3 38 v86).bind fun p87 =>
 ((dOps (H := H) Tryd.prog).bop .add 38 v85 p87.1).bind fun v88 =>
 ((dOps (H := H) Tryd.prog).nilCheck i0).bind fun v89 =>
 ((dOps (H := H) Tryd.prog).fieldAddr 77 v89 1).bind fun v90 =>
 ((dOps (H := H) Tryd.prog).load p87.2 3 v90).bind fun v91 =>
 ((dOps (H := H) Tryd.prog).bop .add 3 v91 (Value.int IntKind.i64 1)).bind fun v92 =>
 ((dOps (H := H) Tryd.prog).nilCheck i0).bind fun v93 =>
 ((dOps (H := H) Tryd.prog).fieldAddr 77 v93 1).bind fun v94 =>
 ((dOps (H := H) Tryd.prog).store p87.2 3 v94 v92).bind fun s95 =>
 ((dOps (H := H) Tryd.prog).bop .add 3 i7 (Value.int IntKind.i64 1)).bind fun v96 =>
 nx (f37_l0_m i0 i1 i10 i11 i13 i14 i15 i16 i17 i18 i19 i20 i21 i22 i23 i24 i25 i26 i27 i28 (v88, v96, x.1, x.2)) s95 else (bif Nat.beq i 1 then
 ((dOps (H := H) Tryd.prog).bop .add 3 i7 (Value.int IntKind.i64 1)).bind fun v97 =>
 nx (f37_l0_m i0 i1 i10 i11 i13 i14 i15 i16 i17 i18 i19 i20 i21 i22 i23 i24 i25 i26 i27 i28 (i6, v97, x.1, x.2)) s else K (.exit i) (f37_l0_m i0 i1 i10 i11 i13 i14 i15 i16 i17 i18 i19 i20 i21 i22 i23 i24 i25 i26 i27 i28 (i6, i7, x.1, x.2)) s)) := by kernel_rfl
theorem f37_l0_b (C : OracleJ H) (n : Nat) (i0 i1 i10 i11 i13 i14 i15 i16 i17 i18 i19 i20 i21 i22 i23 i24 i25 i26 i27 i28 : Value) (x : Value × Value × Value × Value) (s : St H) (nx : List Value → St H → Option (List (Value × St H))) (K : Ex → List Value → St H → Option (List (Value × St H))) :
 exec Tryd.prog false C n 37 none (cdp Tryd.f37 [1, 1, 1, 1, 0, 1, 0, 0]) (f37_l0_m i0 i1 i10 i11 i13 i14 i15 i16 i17 i18 i19 i20 i21 i22 i23 i24 i25 i26 i27 i28 x) s (kIter (scratch (cdp Tryd.f37 [1, 1, 1, 1, 0, 1, 0, 0])) nx K) = f37_l0 (dOps (H := H) Tryd.prog) C n i0 i1 (fun x s => nx (f37_l0_m i0 i1 i10 i11 i13 i14 i15 i16 i17 i18 i19 i20 i21 i22 i23 i24 i25 i26 i27 i28 x) s) (fun i x s => K (.exit i) (f37_l0_m i0 i1 i10 i11 i13 i14 i15 i16 i17 i18 i19 i20 i21 i22 i23 i24 i25 i26 i27 i28 x) s) (fun x s => K .ret (f37_l0_m i0 i1 i10 i11 i13 i14 i15 i16 i17 i18 i19 i20 i21 i22 i23 i24 i25 i26 i27 i28 x) s) x s := by
  have h1 : exec Tryd.prog false C n 37 none (cdp Tryd.f37 [1, 1, 1, 1, 0, 1, 0, 0]) (f37_l0_m i0 i1 i10 i11 i13 i14 i15 i16 i17 i18 i19 i20 i21 i22 i23 i24 i25 i26 i27 i28 x) s (kIter (scratch (cdp Tryd.f37 [1, 1, 1, 1, 0, 1, 0, 0])) nx K) =
 ((dOps (H := H) Tryd.prog).bop .lss 3 x.2.1 i1).bind fun v56 =>
 ((dOps (H := H) Tryd.prog).boolO v56).bind fun b57 => cond b57 (
 ((dOps (H := H) Tryd.prog).nilCheck i0).bind fun v58 =>
 ((dOps (H := H) Tryd.prog).fieldAddr 77 v58 0).bind fun v59 =>
 ((dOps (H := H) Tryd.prog).load s 22 v59).bind fun v60 =>
 ((dOps (H := H) Tryd.prog).nilCheck i0).bind fun v61 =>
 ((dOps (H := H) Tryd.prog).fieldAddr 77 v61 1).bind fun v62 =>
 ((dOps (H := H) Tryd.prog).load s 3 v62).bind fun v63 =>
 ((dOps (H := H) Tryd.prog).bop .quo 3 v63 (Value.int IntKind.i64 8)).bind fun v64 =>
 ((dOps (H := H) Tryd.prog).indexAddr 22 v60 v64).bind fun v65 =>
 ((dOps (H := H) Tryd.prog).load s 5 v65).bind fun v66 =>
 ((dOps (H := H) Tryd.prog).conv false s 5 3 v66).bind fun p67 =>
 ((dOps (H := H) Tryd.prog).nilCheck i0).bind fun v68 =>
 ((dOps (H := H) Tryd.prog).fieldAddr 77 v68 1).bind fun v69 =>
 ((dOps (H := H) Tryd.prog).load p67.2 3 v69).bind fun v70 =>
 ((dOps (H := H) Tryd.prog).bop .rem 3 v70 (Value.int IntKind.i64 8)).bind fun v71 =>
 iter (fun t s k => exec Tryd.prog false C n 37 none (cdp Tryd.f37 [1, 1, 1, 1, 0, 1, 0, 0, 1, 0, 0, 1, 0, 1, 0, 0]) t s k) (scratch (cdp Tryd.f37 [1, 1, 1, 1, 0, 1, 0, 0, 1, 0, 0, 1, 0, 1, 0, 0])) n (f37_l1_m i0 i1 x.1 x.2.1 i10 i11 i13 i14 i15 i16 i17 i18 i19 i20 i21 i22 i23 i24 i25 i26 i27 i28 x.2.1 i1 v56 i0 v58 v59 v60 i0 v61 v62 v63 v64 v65 v66 p67.1 i0 v68 v69 v70 v71 (p67.1, v71)) p67.2 (kBlock 2 (kSeq Tryd.prog false C n 37 none (cdp Tryd.f37 [1, 1, 1, 1, 0, 1, 0, 0, 1, 0, 0, 1, 1]) (kBlock 1 (kSeq Tryd.prog false C n 37 none (cdp Tryd.f37 [1, 1, 1, 1, 0, 1, 0, 0, 1, 1]) (kIter (scratch (cdp Tryd.f37 [1, 1, 1, 1, 0, 1, 0, 0])) nx K)))))) (
 K (.exit 0) (f37_l0_m i0 i1 i10 i11 i13 i14 i15 i16 i17 i18 i19 i20 i21 i22 i23 i24 i25 i26 i27 i28 (x.1, x.2.1, x.2.2.1, x.2.2.2)) s) := by kernel_rfl
  rw [h1]
  simp only [f37_l1_e, f37_l1_k]
  show _ = f37_l0 (dOps (H := H) Tryd.prog) C n i0 i1 (fun x s => nx (f37_l0_m i0 i1 i10 i11 i13 i14 i15 i16 i17 i18 i19 i20 i21 i22 i23 i24 i25 i26 i27 i28 x) s) (fun i x s => K (.exit i) (f37_l0_m i0 i1 i10 i11 i13 i14 i15 i16 i17 i18 i19 i20 i21 i22 i23 i24 i25 i26 i27 i28 x) s) (fun x s => K .ret (f37_l0_m i0 i1 i10 i11 i13 i14 i15 i16 i17 i18 i19 i20 i21 i22 i23 i24 i25 i26 i27 i28 x) s) x s
  kernel_rfl
theorem f37_l0_e (C : OracleJ H) (n : Nat) (i0 i1 i10 i11 i13 i14 i15 i16 i17 i18 i19 i20 i21 i22 i23 i24 i25 i26 i27 i28 : Value) (m : Nat) (x : Value × Value × Value × Value) (s : St H) (K : Ex → List Value → St H → Option (List (Value × St H))) :
 iter (fun t s k => exec Tryd.prog false C n 37 none (cdp Tryd.f37 [1, 1, 1, 1, 0, 1, 0, 0]) t s k) (scratch (cdp Tryd.f37 [1, 1, 1, 1, 0, 1, 0, 0])) m (f37_l0_m i0 i1 i10 i11 i13 i14 i15 i16 i17 i18 i19 i20 i21 i22 i23 i24 i25 i26 i27 i28 x) s K = iterS (f37_l0 (dOps (H := H) Tryd.prog) C n i0 i1) (fun i x s => K (.exit i) (f37_l0_m i0 i1 i10 i11 i13 i14 i15 i16 i17 i18 i19 i20 i21 i22 i23 i24 i25 i26 i27 i28 x) s) (fun x s => K .ret (f37_l0_m i0 i1 i10 i11 i13 i14 i15 i16 i17 i18 i19 i20 i21 i22 i23 i24 i25 i26 i27 i28 x) s) m x s :=
   iter_eq (f37_l0_m i0 i1 i10 i11 i13 i14 i15 i16 i17 i18 i19 i20 i21 i22 i23 i24 i25 i26 i27 i28) (f37_l0 (dOps (H := H) Tryd.prog) C n i0 i1) (fun x s nx K => f37_l0_b C n i0 i1 i10 i11 i13 i14 i15 i16 i17 i18 i19 i20 i21 i22 i23 i24 i25 i26 i27 i28 x s nx K) K m x s
noncomputable def f37 (O : Ops H) (C : OracleJ H) (n : Nat) (a0 : Value) (a1 : Value) (s : St H) : Option (List (Value × St H)) :=
 (O.bop .lss 3 a1 (Value.int IntKind.i64 0)).bind fun v1 =>
 gd v1 (
 some [(.tuple #[(Value.int IntKind.u64 0), (Value.int IntKind.i64 2)], s)]) (
 (O.bop .gtr 3 a1 (Value.int IntKind.i64 64)).bind fun v2 =>
 (O.boolO v2).bind fun b5 => cond b5 (
 some [(.tuple #[(Value.int IntKind.u64 0), (Value.int IntKind.i64 2)], s)]) (
 (O.nilCheck a0).bind fun v6 =>
 (O.fieldAddr 77 v6 0).bind fun v7 =>
 (O.load s 22 v7).bind fun v8 =>
 (O.len s 22 v8).bind fun v9 =>
 (O.bop .mul 3 (Value.int IntKind.i64 8) v9).bind fun v10 =>
 (O.nilCheck a0).bind fun v11 =>
 (O.fieldAddr 77 v11 1).bind fun v12 =>
 (O.load s 3 v12).bind fun v13 =>
 (O.bop .sub 3 v10 v13).bind fun v14 =>
 (O.bop .gtr 3 a1 v14).bind fun v15 =>
 (O.boolO v15).bind fun b16 => cond b16 (
 some [(.tuple #[(Value.int IntKind.u64 0), (Value.int IntKind.i64 50)], s)]) (
 iterS (f37_l0 O C n a0 a1 )
 (fun i98 x99 s100 => (bif Nat.beq i98 0 then
 some [(.tuple #[x99.1, (Value.int IntKind.i64 0)], s100)] else none))
 (fun x101 s102 => some [(.tuple #[(Value.int IntKind.u64 0), (Value.int IntKind.i64 0)], s102)]) n ((Value.int IntKind.u64 0), (Value.int IntKind.i64 0), undefV, undefV) s))) (
 none)
theorem f37_l0_k (C : OracleJ H) (n : Nat) (i0 i1 i10 i11 i13 i14 i15 i16 i17 i18 i19 i20 i21 i22 i23 i24 i25 i26 i27 i28 : Value) (i : Nat) (x : Value × Value × Value × Value) (s : St H) : (kBlock 0 (kSeq Tryd.prog false C n 37 none (cdp Tryd.f37 [1, 1, 1, 1, 1]) (kFun Tryd.prog Tryd.f37))) (.exit i) (f37_l0_m i0 i1 i10 i11 i13 i14 i15 i16 i17 i18 i19 i20 i21 i22 i23 i24 i25 i26 i27 i28 x) s =
 (bif Nat.beq i 0 then
 some [(.tuple #[x.1, (Value.int IntKind.i64 0)], s)] else none) := by kernel_rfl
theorem f37_r (C : OracleJ H) (n : Nat) (a0 : Value) (a1 : Value) (s : St H) : bodyD Tryd.prog false C n 37 Tryd.f37 [a0, a1] s = f37 (dOps (H := H) Tryd.prog) C n a0 a1 s := by
  have h1 : bodyD Tryd.prog false C n 37 Tryd.f37 [a0, a1] s =
 ((dOps (H := H) Tryd.prog).bop .lss 3 a1 (Value.int IntKind.i64 0)).bind fun v103 =>
 gd v103 (
 some [(.tuple #[(Value.int IntKind.u64 0), (Value.int IntKind.i64 2)], s)]) (
 ((dOps (H := H) Tryd.prog).bop .gtr 3 a1 (Value.int IntKind.i64 64)).bind fun v104 =>
 ((dOps (H := H) Tryd.prog).boolO v104).bind fun b107 => cond b107 (
 some [(.tuple #[(Value.int IntKind.u64 0), (Value.int IntKind.i64 2)], s)]) (
 ((dOps (H := H) Tryd.prog).nilCheck a0).bind fun v108 =>
 ((dOps (H := H) Tryd.prog).fieldAddr 77 v108 0).bind fun v109 =>
 ((dOps (H := H) Tryd.prog).load s 22 v109).bind fun v110 =>
 ((dOps (H := H) Tryd.prog).len s 22 v110).bind fun v111 =>
 ((dOps (H := H) Tryd.prog).bop .mul 3 (Value.int IntKind.i64 8) v111).bind fun v112 =>
 ((dOps (H := H) Tryd.prog).nilCheck a0).bind fun v113 =>
 ((dOps (H := H) Tryd.prog).fieldAddr 77 v113 1).bind fun v114 =>
 ((dOps (H := H) Tryd.prog).load s 3 v114).bind fun v115 =>
 ((dOps (H := H) Tryd.prog).bop .sub 3 v112 v115).bind fun v116 =>
 ((dOps (H := H) Tryd.prog).bop .gtr 3 a1 v116).bind fun v117 =>
 ((dOps (H := H) Tryd.prog).boolO v117).bind fun b118 => cond b118 (
 some [(.tuple #[(Value.int IntKind.u64 0), (Value.int IntKind.i64 50)], s)]) (
 iter (fun t s k => exec Tryd.prog false C n 37 none (cdp Tryd.f37 [1, 1, 1, 1, 0, 1, 0, 0]) t s k) (scratch (cdp Tryd.f37 [1, 1, 1, 1, 0, 1, 0, 0])) n (f37_l0_m a0 a1 a1 v103 a1 v104 v104 a1 a0 v108 v109 v110 v111 v112 a0 v113 v114 v115 v116 v117 ((Value.int IntKind.u64 0), (Value.int IntKind.i64 0), undefV, undefV)) s (kBlock 0 (kSeq Tryd.prog false C n 37 none (cdp Tryd.f37 [1, 1, 1, 1, 1]) (kFun Tryd.prog Tryd.f37)))))) (
 none) := by kernel_rfl
  rw [h1]
  simp only [f37_l0_e, f37_l0_k]
  show _ = f37 (dOps (H := H) Tryd.prog) C n a0 a1 s
  kernel_rfl
/-! tidepole/tidepoleref02.Read -/
noncomputable def f65 (O : Ops H) (C : OracleJ H) (n : Nat) (a0 : Value) (s : St H) : Option (List (Value × St H)) :=
 (O.len s 22 a0).bind fun v1 =>
 (O.bop .lss 3 v1 (Value.int IntKind.i64 4)).bind fun v2 =>
 (O.boolO v2).bind fun b3 => cond b3 (
 some [(.tuple #[(Value.int IntKind.u32 0), (Value.int IntKind.i64 7)], s)]) (
 (O.indexAddr 22 a0 (Value.int IntKind.i64 0)).bind fun v4 =>
 (O.load s 5 v4).bind fun v5 =>
 (O.conv false s 5 127 v5).bind fun p6 =>
 (O.indexAddr 22 a0 (Value.int IntKind.i64 1)).bind fun v7 =>
 (O.load p6.2 5 v7).bind fun v8 =>
 (O.conv false p6.2 5 127 v8).bind fun p9 =>
 (O.bop .mul 127 (Value.int IntKind.u32 256) p9.1).bind fun v10 =>
 (O.bop .add 127 p6.1 v10).bind fun v11 =>
 (O.indexAddr 22 a0 (Value.int IntKind.i64 2)).bind fun v12 =>
 (O.load p9.2 5 v12).bind fun v13 =>
 (O.conv false p9.2 5 127 v13).bind fun p14 =>
 (O.bop .mul 127 (Value.int IntKind.u32 65536) p14.1).bind fun v15 =>
 (O.bop .add 127 v11 v15).bind fun v16 =>
 (O.indexAddr 22 a0 (Value.int IntKind.i64 3)).bind fun v17 =>
 (O.load p14.2 5 v17).bind fun v18 =>
 (O.conv false p14.2 5 127 v18).bind fun p19 =>
 (O.bop .mul 127 (Value.int IntKind.u32 16777216) p19.1).bind fun v20 =>
 (O.bop .add 127 v16 v20).bind fun v21 =>
 some [(.tuple #[v21, (Value.int IntKind.i64 0)], p19.2)])
theorem f65_r (C : OracleJ H) (n : Nat) (a0 : Value) (s : St H) : bodyD Tryd.prog false C n 65 Tryd.f65 [a0] s = f65 (dOps (H := H) Tryd.prog) C n a0 s := by kernel_rfl
/-! tidepole/tidepoleref02.Sum -/
noncomputable def f66 (O : Ops H) (C : OracleJ H) (n : Nat) (a0 : Value) (s : St H) : Option (List (Value × St H)) :=
 (C (.fn 97) [(Value.int IntKind.u32 0), a0] s).bind fun L1 => manyK L1 fun v2 s3 =>
 some [(v2, s3)]
theorem f66_r (C : OracleJ H) (n : Nat) (a0 : Value) (s : St H) : bodyD Tryd.prog false C n 66 Tryd.f66 [a0] s = f66 (dOps (H := H) Tryd.prog) C n a0 s := by kernel_rfl
/-! tidepole/tidepoleref06.right -/
noncomputable def f67 (O : Ops H) (C : OracleJ H) (n : Nat) (a0 : Value) (s : St H) : Option (List (Value × St H)) :=
 (O.box s a0).bind fun p1 =>
 (O.fieldAddr 79 p1.1 0).bind fun v2 =>
 (O.load p1.2 3 v2).bind fun v3 =>
 (O.bop .geq 3 v3 (Value.int IntKind.i64 0)).bind fun v4 =>
 gd v4 (
 (O.fieldAddr 79 p1.1 0).bind fun v5 =>
 (O.load p1.2 3 v5).bind fun v6 =>
 (O.bop .leq 3 v6 (Value.int IntKind.i64 4096)).bind fun v7 =>
 gd v7 (
 (O.fieldAddr 79 p1.1 2).bind fun v8 =>
 (O.load p1.2 3 v8).bind fun v9 =>
 (O.bop .geq 3 v9 (Value.int IntKind.i64 0)).bind fun v10 =>
 gd v10 (
 (O.fieldAddr 79 p1.1 2).bind fun v11 =>
 (O.load p1.2 3 v11).bind fun v12 =>
 (O.bop .leq 3 v12 (Value.int IntKind.i64 35184372088832)).bind fun v13 =>
 gd v13 (
 (O.fieldAddr 79 p1.1 1).bind fun v14 =>
 (O.load p1.2 3 v14).bind fun v15 =>
 (O.bop .geq 3 v15 (Value.int IntKind.i64 0)).bind fun v16 =>
 gd v16 (
 (O.fieldAddr 79 p1.1 1).bind fun v17 =>
 (O.load p1.2 3 v17).bind fun v18 =>
 (O.bop .leq 3 v18 (Value.int IntKind.i64 35184372088832)).bind fun v19 =>
 some [(v19, p1.2)]) (
 some [((.bool false), p1.2)]) (
 none)) (
 some [((.bool false), p1.2)]) (
 none)) (
 some [((.bool false), p1.2)]) (
 none)) (
 some [((.bool false), p1.2)]) (
 none)) (
 some [((.bool false), p1.2)]) (
 none)
theorem f67_r (C : OracleJ H) (n : Nat) (a0 : Value) (s : St H) : bodyD Tryd.prog false C n 67 Tryd.f67 [a0] s = f67 (dOps (H := H) Tryd.prog) C n a0 s := by kernel_rfl
/-! tidepole/tidepoleref06.class -/
noncomputable def f68 (O : Ops H) (C : OracleJ H) (n : Nat) (a0 : Value) (s : St H) : Option (List (Value × St H)) :=
 (O.bop .eql 38 a0 (Value.int IntKind.u64 0)).bind fun v1 =>
 (O.boolO v1).bind fun b2 => cond b2 (
 some [(.tuple #[(Value.int IntKind.i64 0), (Value.int IntKind.i64 0)], s)]) (
 (O.bop .lss 38 a0 (Value.int IntKind.u64 128)).bind fun v3 =>
 (O.boolO v3).bind fun b4 => cond b4 (
 some [(.tuple #[(Value.int IntKind.i64 1), (Value.int IntKind.i64 7)], s)]) (
 (O.bop .lss 38 a0 (Value.int IntKind.u64 4096)).bind fun v5 =>
 (O.boolO v5).bind fun b6 => cond b6 (
 some [(.tuple #[(Value.int IntKind.i64 2), (Value.int IntKind.i64 12)], s)]) (
 (O.bop .lss 38 a0 (Value.int IntKind.u64 1048576)).bind fun v7 =>
 (O.boolO v7).bind fun b8 => cond b8 (
 some [(.tuple #[(Value.int IntKind.i64 3), (Value.int IntKind.i64 20)], s)]) (
 some [(.tuple #[(Value.int IntKind.i64 4), (Value.int IntKind.i64 48)], s)]))))
theorem f68_r (C : OracleJ H) (n : Nat) (a0 : Value) (s : St H) : bodyD Tryd.prog false C n 68 Tryd.f68 [a0] s = f68 (dOps (H := H) Tryd.prog) C n a0 s := by kernel_rfl
/-! tidepole/tidepoleref07.right -/
noncomputable def f69 (O : Ops H) (C : OracleJ H) (n : Nat) (a0 : Value) (s : St H) : Option (List (Value × St H)) :=
 (O.box s a0).bind fun p1 =>
 (O.fieldAddr 81 p1.1 0).bind fun v2 =>
 (O.load p1.2 3 v2).bind fun v3 =>
 (O.bop .lss 3 v3 (Value.int IntKind.i64 0)).bind fun v4 =>
 gd v4 (
 some [((.bool false), p1.2)]) (
 (O.fieldAddr 81 p1.1 0).bind fun v5 =>
 (O.load p1.2 3 v5).bind fun v6 =>
 (O.bop .gtr 3 v6 (Value.int IntKind.i64 4096)).bind fun v7 =>
 (O.boolO v7).bind fun b10 => cond b10 (
 some [((.bool false), p1.2)]) (
 (O.fieldAddr 81 p1.1 2).bind fun v11 =>
 (O.load p1.2 3 v11).bind fun v12 =>
 (O.bop .eql 3 v12 (Value.int IntKind.i64 64)).bind fun v13 =>
 (O.boolO v13).bind fun b14 => cond b14 (
 (O.fieldAddr 81 p1.1 3).bind fun v15 =>
 (O.load p1.2 3 v15).bind fun v16 =>
 (O.bop .eql 3 v16 (Value.int IntKind.i64 0)).bind fun v17 =>
 some [(v17, p1.2)]) (
 (O.fieldAddr 81 p1.1 2).bind fun v18 =>
 (O.load p1.2 3 v18).bind fun v19 =>
 (O.bop .geq 3 v19 (Value.int IntKind.i64 0)).bind fun v20 =>
 gd v20 (
 (O.fieldAddr 81 p1.1 2).bind fun v21 =>
 (O.load p1.2 3 v21).bind fun v22 =>
 (O.bop .leq 3 v22 (Value.int IntKind.i64 63)).bind fun v23 =>
 gd v23 (
 (O.fieldAddr 81 p1.1 3).bind fun v24 =>
 (O.load p1.2 3 v24).bind fun v25 =>
 (O.bop .geq 3 v25 (Value.int IntKind.i64 0)).bind fun v26 =>
 gd v26 (
 (O.fieldAddr 81 p1.1 3).bind fun v27 =>
 (O.load p1.2 3 v27).bind fun v28 =>
 (O.bop .leq 3 v28 (Value.int IntKind.i64 63)).bind fun v29 =>
 gd v29 (
 (O.fieldAddr 81 p1.1 2).bind fun v30 =>
 (O.load p1.2 3 v30).bind fun v31 =>
 (O.fieldAddr 81 p1.1 3).bind fun v32 =>
 (O.load p1.2 3 v32).bind fun v33 =>
 (O.bop .add 3 v31 v33).bind fun v34 =>
 (O.bop .leq 3 v34 (Value.int IntKind.i64 63)).bind fun v35 =>
 some [(v35, p1.2)]) (
 some [((.bool false), p1.2)]) (
 none)) (
 some [((.bool false), p1.2)]) (
 none)) (
 some [((.bool false), p1.2)]) (
 none)) (
 some [((.bool false), p1.2)]) (
 none)))) (
 none)
theorem f69_r (C : OracleJ H) (n : Nat) (a0 : Value) (s : St H) : bodyD Tryd.prog false C n 69 Tryd.f69 [a0] s = f69 (dOps (H := H) Tryd.prog) C n a0 s := by kernel_rfl
/-! tidepole/tidepoleref07.ends -/
def f70_l0_m (i0 i8 : Value) (x : Value × Value) : List Value := [i0, undefV, (Value.int IntKind.i64 0), (Value.int IntKind.i64 0), x.1, (Value.int IntKind.i64 0), x.2, undefV, i8, dc, dc, dc, dc, dc, dc, undefV, undefV, undefV, undefV, undefV, undefV, undefV, undefV, undefV, undefV]
noncomputable def f70_l0 (O : Ops H) (C : OracleJ H) (n : Nat) (nx : (Value × Value) → St H → Option (List (Value × St H))) (kx : Nat → (Value × Value) → St H → Option (List (Value × St H))) (kr : (Value × Value) → St H → Option (List (Value × St H))) (x : Value × Value) (s : St H) : Option (List (Value × St H)) :=
 (O.bop .lss 38 x.2 (Value.int IntKind.u64 9223372036854775808)).bind fun v1 =>
 (O.boolO v1).bind fun b2 => cond b2 (
 (O.bop .add 3 x.1 (Value.int IntKind.i64 1)).bind fun v3 =>
 (O.bop .mul 38 (Value.int IntKind.u64 2) x.2).bind fun v4 =>
 nx (v3, v4) s) (
 kx 0 (x.1, x.2) s)
theorem f70_l0_b (C : OracleJ H) (n : Nat) (i0 i8 : Value) (x : Value × Value) (s : St H) (nx : List Value → St H → Option (List (Value × St H))) (K : Ex → List Value → St H → Option (List (Value × St H))) :
 exec Tryd.prog false C n 70 none (cdp Tryd.f70 [1, 1, 0, 1, 0, 0]) (f70_l0_m i0 i8 x) s (kIter (scratch (cdp Tryd.f70 [1, 1, 0, 1, 0, 0])) nx K) = f70_l0 (dOps (H := H) Tryd.prog) C n (fun x s => nx (f70_l0_m i0 i8 x) s) (fun i x s => K (.exit i) (f70_l0_m i0 i8 x) s) (fun x s => K .ret (f70_l0_m i0 i8 x) s) x s := by kernel_rfl
theorem f70_l0_e (C : OracleJ H) (n : Nat) (i0 i8 : Value) (m : Nat) (x : Value × Value) (s : St H) (K : Ex → List Value → St H → Option (List (Value × St H))) :
 iter (fun t s k => exec Tryd.prog false C n 70 none (cdp Tryd.f70 [1, 1, 0, 1, 0, 0]) t s k) (scratch (cdp Tryd.f70 [1, 1, 0, 1, 0, 0])) m (f70_l0_m i0 i8 x) s K = iterS (f70_l0 (dOps (H := H) Tryd.prog) C n) (fun i x s => K (.exit i) (f70_l0_m i0 i8 x) s) (fun x s => K .ret (f70_l0_m i0 i8 x) s) m x s :=
   iter_eq (f70_l0_m i0 i8) (f70_l0 (dOps (H := H) Tryd.prog) C n) (fun x s nx K => f70_l0_b C n i0 i8 x s nx K) K m x s
def f70_l1_m (i0 i4 i6 i8 i15 : Value) (x : Value × Value) : List Value := [i0, undefV, (Value.int IntKind.i64 0), (Value.int IntKind.i64 0), i4, x.1, i6, x.2, i8, dc, dc, dc, dc, dc, dc, i15, dc, dc, dc, dc, dc, dc, dc, undefV, undefV]
noncomputable def f70_l1 (O : Ops H) (C : OracleJ H) (n : Nat) (nx : (Value × Value) → St H → Option (List (Value × St H))) (kx : Nat → (Value × Value) → St H → Option (List (Value × St H))) (kr : (Value × Value) → St H → Option (List (Value × St H))) (x : Value × Value) (s : St H) : Option (List (Value × St H)) :=
 (O.bop .rem 38 x.2 (Value.int IntKind.u64 2)).bind fun v10 =>
 (O.bop .eql 38 v10 (Value.int IntKind.u64 0)).bind fun v11 =>
 (O.boolO v11).bind fun b12 => cond b12 (
 (O.bop .add 3 x.1 (Value.int IntKind.i64 1)).bind fun v13 =>
 (O.bop .quo 38 x.2 (Value.int IntKind.u64 2)).bind fun v14 =>
 nx (v13, v14) s) (
 kx 2 (x.1, x.2) s)
theorem f70_l1_b (C : OracleJ H) (n : Nat) (i0 i4 i6 i8 i15 : Value) (x : Value × Value) (s : St H) (nx : List Value → St H → Option (List (Value × St H))) (K : Ex → List Value → St H → Option (List (Value × St H))) :
 exec Tryd.prog false C n 70 none (cdp Tryd.f70 [1, 1, 1, 0, 1, 0, 0]) (f70_l1_m i0 i4 i6 i8 i15 x) s (kIter (scratch (cdp Tryd.f70 [1, 1, 1, 0, 1, 0, 0])) nx K) = f70_l1 (dOps (H := H) Tryd.prog) C n (fun x s => nx (f70_l1_m i0 i4 i6 i8 i15 x) s) (fun i x s => K (.exit i) (f70_l1_m i0 i4 i6 i8 i15 x) s) (fun x s => K .ret (f70_l1_m i0 i4 i6 i8 i15 x) s) x s := by kernel_rfl
theorem f70_l1_e (C : OracleJ H) (n : Nat) (i0 i4 i6 i8 i15 : Value) (m : Nat) (x : Value × Value) (s : St H) (K : Ex → List Value → St H → Option (List (Value × St H))) :
 iter (fun t s k => exec Tryd.prog false C n 70 none (cdp Tryd.f70 [1, 1, 1, 0, 1, 0, 0]) t s k) (scratch (cdp Tryd.f70 [1, 1, 1, 0, 1, 0, 0])) m (f70_l1_m i0 i4 i6 i8 i15 x) s K = iterS (f70_l1 (dOps (H := H) Tryd.prog) C n) (fun i x s => K (.exit i) (f70_l1_m i0 i4 i6 i8 i15 x) s) (fun x s => K .ret (f70_l1_m i0 i4 i6 i8 i15 x) s) m x s :=
   iter_eq (f70_l1_m i0 i4 i6 i8 i15) (f70_l1 (dOps (H := H) Tryd.prog) C n) (fun x s nx K => f70_l1_b C n i0 i4 i6 i8 i15 x s nx K) K m x s
noncomputable def f70 (O : Ops H) (C : OracleJ H) (n : Nat) (a0 : Value) (s : St H) : Option (List (Value × St H)) :=
 iterS (f70_l0 O C n )
 (fun i5 x6 s7 => (bif Nat.beq i5 0 then
 iterS (f70_l1 O C n )
 (fun i15 x16 s17 => (bif Nat.beq i15 2 then
 some [(.tuple #[x6.1, x16.1], s17)] else none))
 (fun x18 s19 => some [(.tuple #[(Value.int IntKind.i64 0), (Value.int IntKind.i64 0)], s19)]) n ((Value.int IntKind.i64 0), a0) s7 else none))
 (fun x8 s9 => some [(.tuple #[(Value.int IntKind.i64 0), (Value.int IntKind.i64 0)], s9)]) n ((Value.int IntKind.i64 0), a0) s
theorem f70_l1_k (C : OracleJ H) (n : Nat) (i0 i4 i6 i8 i15 : Value) (i : Nat) (x : Value × Value) (s : St H) : (kBlock 2 (kSeq Tryd.prog false C n 70 none (cdp Tryd.f70 [1, 1, 1, 1]) (kFun Tryd.prog Tryd.f70))) (.exit i) (f70_l1_m i0 i4 i6 i8 i15 x) s =
 (bif Nat.beq i 2 then
 some [(.tuple #[i4, x.1], s)] else none) := by kernel_rfl
theorem f70_l0_k (C : OracleJ H) (n : Nat) (i0 i8 : Value) (i : Nat) (x : Value × Value) (s : St H) : (kBlock 0 (kSeq Tryd.prog false C n 70 none (cdp Tryd.f70 [1, 1, 1]) (kFun Tryd.prog Tryd.f70))) (.exit i) (f70_l0_m i0 i8 x) s =
 (bif Nat.beq i 0 then
 iterS (f70_l1 (dOps (H := H) Tryd.prog) C n )
 (fun i20 x21 s22 => (bif Nat.beq i20 2 then
 some [(.tuple #[x.1, x21.1], s22)] else none))
 (fun x23 s24 => some [(.tuple #[(Value.int IntKind.i64 0), (Value.int IntKind.i64 0)], s24)]) n ((Value.int IntKind.i64 0), i0) s else none) := by
  have h1 : (kBlock 0 (kSeq Tryd.prog false C n 70 none (cdp Tryd.f70 [1, 1, 1]) (kFun Tryd.prog Tryd.f70))) (.exit i) (f70_l0_m i0 i8 x) s =
 (bif Nat.beq i 0 then
 iter (fun t s k => exec Tryd.prog false C n 70 none (cdp Tryd.f70 [1, 1, 1, 0, 1, 0, 0]) t s k) (scratch (cdp Tryd.f70 [1, 1, 1, 0, 1, 0, 0])) n (f70_l1_m i0 x.1 x.2 i8 i0 ((Value.int IntKind.i64 0), i0)) s (kBlock 2 (kSeq Tryd.prog false C n 70 none (cdp Tryd.f70 [1, 1, 1, 1]) (kFun Tryd.prog Tryd.f70))) else none) := by kernel_rfl
  rw [h1]
  simp only [f70_l1_e, f70_l1_k]
  show _ = (bif Nat.beq i 0 then
 iterS (f70_l1 (dOps (H := H) Tryd.prog) C n )
 (fun i20 x21 s22 => (bif Nat.beq i20 2 then
 some [(.tuple #[x.1, x21.1], s22)] else none))
 (fun x23 s24 => some [(.tuple #[(Value.int IntKind.i64 0), (Value.int IntKind.i64 0)], s24)]) n ((Value.int IntKind.i64 0), i0) s else none)
  kernel_rfl
theorem f70_r (C : OracleJ H) (n : Nat) (a0 : Value) (s : St H) : bodyD Tryd.prog false C n 70 Tryd.f70 [a0] s = f70 (dOps (H := H) Tryd.prog) C n a0 s := by
  have h1 : bodyD Tryd.prog false C n 70 Tryd.f70 [a0] s =
 iter (fun t s k => exec Tryd.prog false C n 70 none (cdp Tryd.f70 [1, 1, 0, 1, 0, 0]) t s k) (scratch (cdp Tryd.f70 [1, 1, 0, 1, 0, 0])) n (f70_l0_m a0 a0 ((Value.int IntKind.i64 0), a0)) s (kBlock 0 (kSeq Tryd.prog false C n 70 none (cdp Tryd.f70 [1, 1, 1]) (kFun Tryd.prog Tryd.f70))) := by kernel_rfl
  rw [h1]
  simp only [f70_l0_e, f70_l0_k]
  show _ = f70 (dOps (H := H) Tryd.prog) C n a0 s
  kernel_rfl
/-! tidepole/tidepoleref02.More -/
def f97_l0_m (i0 i1 i7 i8 : Value) (x : Value × Value) : List Value := [i0, i1, undefV, undefV, (Value.int IntKind.u32 0), x.1, x.2, i7, i8, dc, dc, dc, dc, dc, dc, dc, dc, dc, dc, dc, dc, dc, dc, undefV, undefV]
noncomputable def f97_l0 (O : Ops H) (C : OracleJ H) (n : Nat) (i1 : Value) (nx : (Value × Value) → St H → Option (List (Value × St H))) (kx : Nat → (Value × Value) → St H → Option (List (Value × St H))) (kr : (Value × Value) → St H → Option (List (Value × St H))) (x : Value × Value) (s : St H) : Option (List (Value × St H)) :=
 (O.len s 22 i1).bind fun v2 =>
 (O.bop .lss 3 x.2 v2).bind fun v3 =>
 (O.boolO v3).bind fun b4 => cond b4 (
 (O.indexAddr 22 i1 x.2).bind fun v5 =>
 (O.load s 5 v5).bind fun v6 =>
 (O.conv false s 5 127 v6).bind fun p7 =>
 (O.bop .xor 127 x.1 p7.1).bind fun v8 =>
 (C (.fn 109) [v8] p7.2).bind fun L9 => manyK L9 fun v10 s11 =>
 (O.bop .add 3 x.2 (Value.int IntKind.i64 1)).bind fun v12 =>
 nx (v10, v12) s11) (
 kx 0 (x.1, x.2) s)
theorem f97_l0_b (C : OracleJ H) (n : Nat) (i0 i1 i7 i8 : Value) (x : Value × Value) (s : St H) (nx : List Value → St H → Option (List (Value × St H))) (K : Ex → List Value → St H → Option (List (Value × St H))) :
 exec Tryd.prog false C n 97 none (cdp Tryd.f97 [1, 1, 0, 1, 0, 0]) (f97_l0_m i0 i1 i7 i8 x) s (kIter (scratch (cdp Tryd.f97 [1, 1, 0, 1, 0, 0])) nx K) = f97_l0 (dOps (H := H) Tryd.prog) C n i1 (fun x s => nx (f97_l0_m i0 i1 i7 i8 x) s) (fun i x s => K (.exit i) (f97_l0_m i0 i1 i7 i8 x) s) (fun x s => K .ret (f97_l0_m i0 i1 i7 i8 x) s) x s := by kernel_rfl
theorem f97_l0_e (C : OracleJ H) (n : Nat) (i0 i1 i7 i8 : Value) (m : Nat) (x : Value × Value) (s : St H) (K : Ex → List Value → St H → Option (List (Value × St H))) :
 iter (fun t s k => exec Tryd.prog false C n 97 none (cdp Tryd.f97 [1, 1, 0, 1, 0, 0]) t s k) (scratch (cdp Tryd.f97 [1, 1, 0, 1, 0, 0])) m (f97_l0_m i0 i1 i7 i8 x) s K = iterS (f97_l0 (dOps (H := H) Tryd.prog) C n i1) (fun i x s => K (.exit i) (f97_l0_m i0 i1 i7 i8 x) s) (fun x s => K .ret (f97_l0_m i0 i1 i7 i8 x) s) m x s :=
   iter_eq (f97_l0_m i0 i1 i7 i8) (f97_l0 (dOps (H := H) Tryd.prog) C n i1) (fun x s nx K => f97_l0_b C n i0 i1 i7 i8 x s nx K) K m x s
noncomputable def f97 (O : Ops H) (C : OracleJ H) (n : Nat) (a0 : Value) (a1 : Value) (s : St H) : Option (List (Value × St H)) :=
 (O.bop .xor 127 a0 (Value.int IntKind.u32 4294967295)).bind fun v1 =>
 iterS (f97_l0 O C n a1 )
 (fun i13 x14 s15 => (bif Nat.beq i13 0 then
 (O.bop .xor 127 x14.1 (Value.int IntKind.u32 4294967295)).bind fun v18 =>
 some [(v18, s15)] else none))
 (fun x16 s17 => some [((Value.int IntKind.u32 0), s17)]) n (v1, (Value.int IntKind.i64 0)) s
theorem f97_l0_k (C : OracleJ H) (n : Nat) (i0 i1 i7 i8 : Value) (i : Nat) (x : Value × Value) (s : St H) : (kBlock 0 (kSeq Tryd.prog false C n 97 none (cdp Tryd.f97 [1, 1, 1]) (kFun Tryd.prog Tryd.f97))) (.exit i) (f97_l0_m i0 i1 i7 i8 x) s =
 (bif Nat.beq i 0 then
 ((dOps (H := H) Tryd.prog).bop .xor 127 x.1 (Value.int IntKind.u32 4294967295)).bind fun v21 =>
 some [(v21, s)] else none) := by kernel_rfl
theorem f97_r (C : OracleJ H) (n : Nat) (a0 : Value) (a1 : Value) (s : St H) : bodyD Tryd.prog false C n 97 Tryd.f97 [a0, a1] s = f97 (dOps (H := H) Tryd.prog) C n a0 a1 s := by
  have h1 : bodyD Tryd.prog false C n 97 Tryd.f97 [a0, a1] s =
 ((dOps (H := H) Tryd.prog).bop .xor 127 a0 (Value.int IntKind.u32 4294967295)).bind fun v19 =>
 iter (fun t s k => exec Tryd.prog false C n 97 none (cdp Tryd.f97 [1, 1, 0, 1, 0, 0]) t s k) (scratch (cdp Tryd.f97 [1, 1, 0, 1, 0, 0])) n (f97_l0_m a0 a1 a0 v19 (v19, (Value.int IntKind.i64 0))) s (kBlock 0 (kSeq Tryd.prog false C n 97 none (cdp Tryd.f97 [1, 1, 1]) (kFun Tryd.prog Tryd.f97))) := by kernel_rfl
  rw [h1]
  simp only [f97_l0_e, f97_l0_k]
  show _ = f97 (dOps (H := H) Tryd.prog) C n a0 a1 s
  kernel_rfl
/-! tidepole/tidepoleref02.step -/
def f109_l0_m (x : Value × Value) : List Value := [x.1, undefV, (Value.int IntKind.u32 0), x.2, dc, dc, dc, dc, dc, dc, dc, dc, dc, dc, dc, dc, undefV]
noncomputable def f109_l0 (O : Ops H) (C : OracleJ H) (n : Nat) (nx : (Value × Value) → St H → Option (List (Value × St H))) (kx : Nat → (Value × Value) → St H → Option (List (Value × St H))) (kr : (Value × Value) → St H → Option (List (Value × St H))) (x : Value × Value) (s : St H) : Option (List (Value × St H)) :=
 (O.bop .lss 3 x.2 (Value.int IntKind.i64 8)).bind fun v1 =>
 (O.boolO v1).bind fun b2 => cond b2 (
 (O.bop .rem 127 x.1 (Value.int IntKind.u32 2)).bind fun v3 =>
 (O.bop .eql 127 v3 (Value.int IntKind.u32 1)).bind fun v4 =>
 jn (fun (j578_0 : Value) =>
 (O.bop .add 3 x.2 (Value.int IntKind.i64 1)).bind fun v9 =>
 nx (j578_0, v9) s) fun k578 =>
 (O.boolO v4).bind fun b5 => cond b5 (
 (O.bop .quo 127 x.1 (Value.int IntKind.u32 2)).bind fun v6 =>
 (O.bop .xor 127 v6 (Value.int IntKind.u32 2197175160)).bind fun v7 =>
 k578 v7) (
 (O.bop .quo 127 x.1 (Value.int IntKind.u32 2)).bind fun v8 =>
 k578 v8)) (
 kx 0 (x.1, x.2) s)
theorem f109_l0_b (C : OracleJ H) (n : Nat) (x : Value × Value) (s : St H) (nx : List Value → St H → Option (List (Value × St H))) (K : Ex → List Value → St H → Option (List (Value × St H))) :
 exec Tryd.prog false C n 109 none (cdp Tryd.f109 [1, 0, 1, 0, 0]) (f109_l0_m x) s (kIter (scratch (cdp Tryd.f109 [1, 0, 1, 0, 0])) nx K) = f109_l0 (dOps (H := H) Tryd.prog) C n (fun x s => nx (f109_l0_m x) s) (fun i x s => K (.exit i) (f109_l0_m x) s) (fun x s => K .ret (f109_l0_m x) s) x s := by kernel_rfl
theorem f109_l0_e (C : OracleJ H) (n : Nat) (m : Nat) (x : Value × Value) (s : St H) (K : Ex → List Value → St H → Option (List (Value × St H))) :
 iter (fun t s k => exec Tryd.prog false C n 109 none (cdp Tryd.f109 [1, 0, 1, 0, 0]) t s k) (scratch (cdp Tryd.f109 [1, 0, 1, 0, 0])) m (f109_l0_m x) s K = iterS (f109_l0 (dOps (H := H) Tryd.prog) C n) (fun i x s => K (.exit i) (f109_l0_m x) s) (fun x s => K .ret (f109_l0_m x) s) m x s :=
   iter_eq (f109_l0_m) (f109_l0 (dOps (H := H) Tryd.prog) C n) (fun x s nx K => f109_l0_b C n x s nx K) K m x s
noncomputable def f109 (O : Ops H) (C : OracleJ H) (n : Nat) (a0 : Value) (s : St H) : Option (List (Value × St H)) :=
 iterS (f109_l0 O C n )
 (fun i10 x11 s12 => (bif Nat.beq i10 0 then
 some [(x11.1, s12)] else none))
 (fun x13 s14 => some [((Value.int IntKind.u32 0), s14)]) n (a0, (Value.int IntKind.i64 0)) s
theorem f109_l0_k (C : OracleJ H) (n : Nat) (i : Nat) (x : Value × Value) (s : St H) : (kBlock 0 (kSeq Tryd.prog false C n 109 none (cdp Tryd.f109 [1, 1]) (kFun Tryd.prog Tryd.f109))) (.exit i) (f109_l0_m x) s =
 (bif Nat.beq i 0 then
 some [(x.1, s)] else none) := by kernel_rfl
theorem f109_r (C : OracleJ H) (n : Nat) (a0 : Value) (s : St H) : bodyD Tryd.prog false C n 109 Tryd.f109 [a0] s = f109 (dOps (H := H) Tryd.prog) C n a0 s := by
  have h1 : bodyD Tryd.prog false C n 109 Tryd.f109 [a0] s =
 iter (fun t s k => exec Tryd.prog false C n 109 none (cdp Tryd.f109 [1, 0, 1, 0, 0]) t s k) (scratch (cdp Tryd.f109 [1, 0, 1, 0, 0])) n (f109_l0_m (a0, (Value.int IntKind.i64 0))) s (kBlock 0 (kSeq Tryd.prog false C n 109 none (cdp Tryd.f109 [1, 1]) (kFun Tryd.prog Tryd.f109))) := by kernel_rfl
  rw [h1]
  simp only [f109_l0_e, f109_l0_k]
  show _ = f109 (dOps (H := H) Tryd.prog) C n a0 s
  kernel_rfl
end Go.Proofs.YtmhmbmogodofeaaDoor.S
