import Derived.Test.YtmhmbmogodofeaaFy
import Derived.ProofKit
import Derived.Test.YtmhmbmogodofeaaRows
set_option linter.unusedVariables false
set_option maxRecDepth 100000
namespace Go.Proofs.Ytmhmbmogodofeaa.S
open Go.FS Go.RowKit
open Go.Proofs.Try (prog)
abbrev Rs211 (H:HeapI):=Option (List (Value×St H))
variable {H:HeapI}
variable (C:OracleJ H) (n:Nat) (S0 A0 B0 D0 N0 M0 P0 Q0 J0 I0 G0 E0 F0 R0 T0 X0 V0 W0 U0 Z0 A1 B1 D1 Y0 I2 J2 M2 N2 P2 E1 Q2 R2 S2 T2 U2 F1 V2 W2 X2 Y2 Z2 A3 B3 D3 E3 F3 G3 I3 J3 M3 G1 N3 P3 Q3 R3 S3 T3 U3 V3 W3 X3 J5 M5 N5 P5 Q5 R5 S5 A5 Y3 Z3 A4 I1 U5 V5 W5 X5 Y5 Z5 A6 B6 D6 E6 F6 G6 I6 J6 T5 B4 D4 E4 F4 G4 I4 B5 D5 E5 F5 G5 I5 M4 N4 P4 Q4 R4 S4 T4 U4 V4 W4 X4 Y4 Z4 J4 J1 M1 N1 P1 Q1 R1 S1 T1 U1 V1 W1 X1 Y1 Z1 A2 B2 D2 E2 F2 G2:Value)
noncomputable abbrev dC (H:HeapI):Ops H:=dOps (H:=H) prog
theorem kBlock_n {X:Type} (i:Nat) (K:Ex→List Value→St H→Option (List X)) (t:List Value) (s:St H):kBlock i K .normal t s=K .normal t s:=rfl
noncomputable def f211_j5 (O:Ops H) (C:OracleJ H) (n:Nat) (S0 A0 B0 D0 G0 E0 F0 R0:Value) (nx:(Value×Value×Value×Value×Value×Value×Value×Value×Value×Value×Value×Value×Value×Value)→St H→Rs211 H) (kx:Nat→(Value×Value×Value×Value×Value×Value×Value×Value×Value×Value×Value×Value×Value×Value)→St H→Rs211 H) (kr:(Value×Value×Value×Value×Value×Value×Value×Value×Value×Value×Value×Value×Value×Value)→St H→Rs211 H) (s:St H):Rs211 H :=
 (C (.fn 222) [S0,A0,B0,E0] s).bind fun L49=>manyK L49 fun v50 s51 =>
 (O.extract v50 0).bind fun v52 =>
 (O.extract v50 1).bind fun v53 =>
 (O.bop .sub 3 v52 A0).bind fun v54 =>
 (O.bop .sub 3 B0 v52).bind fun v55 =>
 (O.bop .quo 3 G0 (.int .i64 8)).bind fun v56 =>
 (O.bop .lss 3 v54 v55).bind fun v57 =>
 (O.boolO v57).bind fun b58=>cond b58 (
 (O.bop .geq 3 v54 v56).bind fun v59 =>
 (C (.fn 211) [S0,A0,v52,D0] s51).bind fun L60=>manyK L60 fun v61 s62 =>
 (O.bop .add 3 v52 (.int .i64 1)).bind fun v63 =>
 nx (v63,B0,D0,v59,v53,G0,E0,F0,R0,v52,v53,v54,v55,v56) s62) (
 (O.bop .geq 3 v55 v56).bind fun v64 =>
 (O.bop .add 3 v52 (.int .i64 1)).bind fun v65 =>
 (C (.fn 211) [S0,v65,B0,D0] s51).bind fun L66=>manyK L66 fun v67 s68 =>
 nx (A0,v52,D0,v64,v53,G0,E0,F0,R0,v52,v53,v54,v55,v56) s68)
noncomputable def f211_j4 (O:Ops H) (C:OracleJ H) (n:Nat) (S0 A0 B0 D0 J0 I0 G0 E0 F0 R0 T0 X0 V0 W0 U0:Value) (nx:(Value×Value×Value×Value×Value×Value×Value×Value×Value×Value×Value×Value×Value×Value)→St H→Rs211 H) (kx:Nat→(Value×Value×Value×Value×Value×Value×Value×Value×Value×Value×Value×Value×Value×Value)→St H→Rs211 H) (kr:(Value×Value×Value×Value×Value×Value×Value×Value×Value×Value×Value×Value×Value×Value)→St H→Rs211 H) (s:St H):Rs211 H :=
 (O.bop .gtr 3 A0 (.int .i64 0)).bind fun v37 =>
 gd v37 (
 (O.bop .sub 3 A0 (.int .i64 1)).bind fun v38 =>
 (O.indexAddr 67 S0 v38).bind fun v39 =>
 (O.load s 70 v39).bind fun v40 =>
 (O.indexAddr 67 S0 E0).bind fun v41 =>
 (O.load s 70 v41).bind fun v42 =>
 (oneO C (.fn 220) [v40,v42] s).bind fun p43 =>
 (O.uop .not p43.1).bind fun v44 =>
 (O.boolO v44).bind fun b45=>cond b45 (
 (C (.fn 221) [S0,A0,B0,E0] p43.2).bind fun L46=>manyK L46 fun v47 s48 =>
 nx (v47,B0,D0,J0,I0,G0,E0,F0,v47,T0,X0,V0,W0,U0) s48) (
 f211_j5 O C n S0 A0 B0 D0 G0 E0 F0 R0 nx kx kr p43.2)) (
 (C (.fn 222) [S0,A0,B0,E0] s).bind fun L70=>manyK L70 fun v71 s72 =>
 (O.extract v71 0).bind fun v73 =>
 (O.extract v71 1).bind fun v74 =>
 (O.bop .sub 3 v73 A0).bind fun v75 =>
 (O.bop .sub 3 B0 v73).bind fun v76 =>
 (O.bop .quo 3 G0 (.int .i64 8)).bind fun v77 =>
 (O.bop .lss 3 v75 v76).bind fun v78 =>
 (O.boolO v78).bind fun b79=>cond b79 (
 (O.bop .geq 3 v75 v77).bind fun v80 =>
 (C (.fn 211) [S0,A0,v73,D0] s72).bind fun L81=>manyK L81 fun v82 s83 =>
 (O.bop .add 3 v73 (.int .i64 1)).bind fun v84 =>
 nx (v84,B0,D0,v80,v74,G0,E0,F0,R0,v73,v74,v75,v76,v77) s83) (
 (O.bop .geq 3 v76 v77).bind fun v85 =>
 (O.bop .add 3 v73 (.int .i64 1)).bind fun v86 =>
 (C (.fn 211) [S0,v86,B0,D0] s72).bind fun L87=>manyK L87 fun v88 s89 =>
 nx (A0,v73,D0,v85,v74,G0,E0,F0,R0,v73,v74,v75,v76,v77) s89)) (
 none)
noncomputable def f211_j3 (O:Ops H) (C:OracleJ H) (n:Nat) (S0 A0 B0 D0 J0 I0 G0 E0 F0 R0 T0 X0 V0 W0 U0:Value) (nx:(Value×Value×Value×Value×Value×Value×Value×Value×Value×Value×Value×Value×Value×Value)→St H→Rs211 H) (kx:Nat→(Value×Value×Value×Value×Value×Value×Value×Value×Value×Value×Value×Value×Value×Value)→St H→Rs211 H) (kr:(Value×Value×Value×Value×Value×Value×Value×Value×Value×Value×Value×Value×Value×Value)→St H→Rs211 H) (s:St H):Rs211 H :=
 gd J0 (
 gd I0 (
 (O.bop .eql 230 F0 (.int .i64 1)).bind fun v31 =>
 (O.boolO v31).bind fun b32=>cond b32 (
 (C (.fn 219) [S0,A0,B0] s).bind fun L33=>manyK L33 fun v34 s35 =>
 (O.boolO v34).bind fun b36=>cond b36 (
 kr (A0,B0,D0,J0,I0,G0,E0,F0,R0,T0,X0,V0,W0,U0) s35) (
 f211_j4 O C n S0 A0 B0 D0 J0 I0 G0 E0 F0 R0 T0 X0 V0 W0 U0 nx kx kr s35)) (
 f211_j4 O C n S0 A0 B0 D0 J0 I0 G0 E0 F0 R0 T0 X0 V0 W0 U0 nx kx kr s)) (
 (O.bop .gtr 3 A0 (.int .i64 0)).bind fun v91 =>
 gd v91 (
 (O.bop .sub 3 A0 (.int .i64 1)).bind fun v92 =>
 (O.indexAddr 67 S0 v92).bind fun v93 =>
 (O.load s 70 v93).bind fun v94 =>
 (O.indexAddr 67 S0 E0).bind fun v95 =>
 (O.load s 70 v95).bind fun v96 =>
 (oneO C (.fn 220) [v94,v96] s).bind fun p97 =>
 (O.uop .not p97.1).bind fun v98 =>
 (O.boolO v98).bind fun b99=>cond b99 (
 (C (.fn 221) [S0,A0,B0,E0] p97.2).bind fun L100=>manyK L100 fun v101 s102 =>
 nx (v101,B0,D0,J0,I0,G0,E0,F0,v101,T0,X0,V0,W0,U0) s102) (
 f211_j5 O C n S0 A0 B0 D0 G0 E0 F0 R0 nx kx kr p97.2)) (
 (C (.fn 222) [S0,A0,B0,E0] s).bind fun L104=>manyK L104 fun v105 s106 =>
 (O.extract v105 0).bind fun v107 =>
 (O.extract v105 1).bind fun v108 =>
 (O.bop .sub 3 v107 A0).bind fun v109 =>
 (O.bop .sub 3 B0 v107).bind fun v110 =>
 (O.bop .quo 3 G0 (.int .i64 8)).bind fun v111 =>
 (O.bop .lss 3 v109 v110).bind fun v112 =>
 (O.boolO v112).bind fun b113=>cond b113 (
 (O.bop .geq 3 v109 v111).bind fun v114 =>
 (C (.fn 211) [S0,A0,v107,D0] s106).bind fun L115=>manyK L115 fun v116 s117 =>
 (O.bop .add 3 v107 (.int .i64 1)).bind fun v118 =>
 nx (v118,B0,D0,v114,v108,G0,E0,F0,R0,v107,v108,v109,v110,v111) s117) (
 (O.bop .geq 3 v110 v111).bind fun v119 =>
 (O.bop .add 3 v107 (.int .i64 1)).bind fun v120 =>
 (C (.fn 211) [S0,v120,B0,D0] s106).bind fun L121=>manyK L121 fun v122 s123 =>
 nx (A0,v107,D0,v119,v108,G0,E0,F0,R0,v107,v108,v109,v110,v111) s123)) (
 none)) (
 none)) (
 (O.bop .gtr 3 A0 (.int .i64 0)).bind fun v125 =>
 gd v125 (
 (O.bop .sub 3 A0 (.int .i64 1)).bind fun v126 =>
 (O.indexAddr 67 S0 v126).bind fun v127 =>
 (O.load s 70 v127).bind fun v128 =>
 (O.indexAddr 67 S0 E0).bind fun v129 =>
 (O.load s 70 v129).bind fun v130 =>
 (oneO C (.fn 220) [v128,v130] s).bind fun p131 =>
 (O.uop .not p131.1).bind fun v132 =>
 (O.boolO v132).bind fun b133=>cond b133 (
 (C (.fn 221) [S0,A0,B0,E0] p131.2).bind fun L134=>manyK L134 fun v135 s136 =>
 nx (v135,B0,D0,J0,I0,G0,E0,F0,v135,T0,X0,V0,W0,U0) s136) (
 f211_j5 O C n S0 A0 B0 D0 G0 E0 F0 R0 nx kx kr p131.2)) (
 (C (.fn 222) [S0,A0,B0,E0] s).bind fun L138=>manyK L138 fun v139 s140 =>
 (O.extract v139 0).bind fun v141 =>
 (O.extract v139 1).bind fun v142 =>
 (O.bop .sub 3 v141 A0).bind fun v143 =>
 (O.bop .sub 3 B0 v141).bind fun v144 =>
 (O.bop .quo 3 G0 (.int .i64 8)).bind fun v145 =>
 (O.bop .lss 3 v143 v144).bind fun v146 =>
 (O.boolO v146).bind fun b147=>cond b147 (
 (O.bop .geq 3 v143 v145).bind fun v148 =>
 (C (.fn 211) [S0,A0,v141,D0] s140).bind fun L149=>manyK L149 fun v150 s151 =>
 (O.bop .add 3 v141 (.int .i64 1)).bind fun v152 =>
 nx (v152,B0,D0,v148,v142,G0,E0,F0,R0,v141,v142,v143,v144,v145) s151) (
 (O.bop .geq 3 v144 v145).bind fun v153 =>
 (O.bop .add 3 v141 (.int .i64 1)).bind fun v154 =>
 (C (.fn 211) [S0,v154,B0,D0] s140).bind fun L155=>manyK L155 fun v156 s157 =>
 nx (A0,v141,D0,v153,v142,G0,E0,F0,R0,v141,v142,v143,v144,v145) s157)) (
 none)) (
 none)
noncomputable def f211_j2 (O:Ops H) (C:OracleJ H) (n:Nat) (S0 A0 B0 D0 J0 I0 G0 R0 T0 X0 V0 W0 U0:Value) (nx:(Value×Value×Value×Value×Value×Value×Value×Value×Value×Value×Value×Value×Value×Value)→St H→Rs211 H) (kx:Nat→(Value×Value×Value×Value×Value×Value×Value×Value×Value×Value×Value×Value×Value×Value)→St H→Rs211 H) (kr:(Value×Value×Value×Value×Value×Value×Value×Value×Value×Value×Value×Value×Value×Value)→St H→Rs211 H) (s:St H):Rs211 H :=
 (C (.fn 217) [S0,A0,B0] s).bind fun L18=>manyK L18 fun v19 s20 =>
 (O.extract v19 0).bind fun v21 =>
 (O.extract v19 1).bind fun v22 =>
 (O.bop .eql 230 v22 (.int .i64 2)).bind fun v23 =>
 (O.boolO v23).bind fun b24=>cond b24 (
 (C (.fn 218) [S0,A0,B0] s20).bind fun L25=>manyK L25 fun v26 s27 =>
 (O.bop .sub 3 B0 (.int .i64 1)).bind fun v28 =>
 (O.bop .sub 3 v21 A0).bind fun v29 =>
 (O.bop .sub 3 v28 v29).bind fun v30 =>
 f211_j3 O C n S0 A0 B0 D0 J0 I0 G0 v30 (Value.int IntKind.i64 1) R0 T0 X0 V0 W0 U0 nx kx kr s27) (
 f211_j3 O C n S0 A0 B0 D0 J0 I0 G0 v21 v22 R0 T0 X0 V0 W0 U0 nx kx kr s20)
noncomputable def f211_j1 (O:Ops H) (C:OracleJ H) (n:Nat) (S0 A0 B0 D0 J0 I0 G0 R0 T0 X0 V0 W0 U0:Value) (nx:(Value×Value×Value×Value×Value×Value×Value×Value×Value×Value×Value×Value×Value×Value)→St H→Rs211 H) (kx:Nat→(Value×Value×Value×Value×Value×Value×Value×Value×Value×Value×Value×Value×Value×Value)→St H→Rs211 H) (kr:(Value×Value×Value×Value×Value×Value×Value×Value×Value×Value×Value×Value×Value×Value)→St H→Rs211 H) (s:St H):Rs211 H :=
 (O.uop .not J0).bind fun v12 =>
 (O.boolO v12).bind fun b13=>cond b13 (
 (C (.fn 216) [S0,A0,B0] s).bind fun L14=>manyK L14 fun v15 s16 =>
 (O.bop .sub 3 D0 (.int .i64 1)).bind fun v17 =>
 f211_j2 O C n S0 A0 B0 v17 J0 I0 G0 R0 T0 X0 V0 W0 U0 nx kx kr s16) (
 f211_j2 O C n S0 A0 B0 D0 J0 I0 G0 R0 T0 X0 V0 W0 U0 nx kx kr s)
noncomputable def f211_j0 (O:Ops H) (C:OracleJ H) (n:Nat) (S0 A0 B0 D0 J0 I0 G0 E0 F0 R0 T0 X0 V0 W0 U0:Value) (nx:(Value×Value×Value×Value×Value×Value×Value×Value×Value×Value×Value×Value×Value×Value)→St H→Rs211 H) (kx:Nat→(Value×Value×Value×Value×Value×Value×Value×Value×Value×Value×Value×Value×Value×Value)→St H→Rs211 H) (kr:(Value×Value×Value×Value×Value×Value×Value×Value×Value×Value×Value×Value×Value×Value)→St H→Rs211 H) (s:St H):Rs211 H :=
 (O.bop .eql 3 D0 (.int .i64 0)).bind fun v7 =>
 (O.boolO v7).bind fun b8=>cond b8 (
 (C (.fn 215) [S0,A0,B0] s).bind fun L9=>manyK L9 fun v10 s11 =>
 kr (A0,B0,D0,J0,I0,G0,E0,F0,R0,T0,X0,V0,W0,U0) s11) (
 f211_j1 O C n S0 A0 B0 D0 J0 I0 G0 R0 T0 X0 V0 W0 U0 nx kx kr s)
def f211_l0_m (M6:Value) (x:Value×Value×Value×Value×Value×Value×Value×Value×Value×Value×Value×Value×Value×Value):List Value:=[M6,x.1,x.2.1,x.2.2.1,undefV,undefV,undefV,undefV,x.2.2.2.1,x.2.2.2.2.1,x.2.2.2.2.2.1,x.2.2.2.2.2.2.1,x.2.2.2.2.2.2.2.1,x.2.2.2.2.2.2.2.2.1,x.2.2.2.2.2.2.2.2.2.1,x.2.2.2.2.2.2.2.2.2.2.1,x.2.2.2.2.2.2.2.2.2.2.2.1,x.2.2.2.2.2.2.2.2.2.2.2.2.1,x.2.2.2.2.2.2.2.2.2.2.2.2.2,dc,dc,dc,dc,dc,dc,dc,dc,dc,dc,dc,dc,dc,dc,dc,dc,dc,dc,dc,dc,dc,dc,dc,dc,dc,dc,dc,dc,dc,dc,dc,dc,dc,dc,dc,dc,dc,dc,dc,dc,dc,dc,dc,dc,dc,dc,dc,dc,dc,dc,dc,dc,dc,dc,dc,dc,dc,dc,dc,dc,dc,dc,dc,dc,dc,dc,dc,dc,dc,dc,dc,dc,dc,dc,dc,dc,dc,dc,dc,dc,dc,dc,dc,dc,dc,dc,dc,dc,dc,dc,dc,dc,dc,dc,dc,dc,dc,dc,dc,dc,dc,dc,dc,dc,dc,dc,dc,dc,dc,dc,dc,dc,dc,dc,dc]
noncomputable def f211_l0 (O:Ops H) (C:OracleJ H) (n:Nat) (M6:Value) (nx:(Value×Value×Value×Value×Value×Value×Value×Value×Value×Value×Value×Value×Value×Value)→St H→Rs211 H) (kx:Nat→(Value×Value×Value×Value×Value×Value×Value×Value×Value×Value×Value×Value×Value×Value)→St H→Rs211 H) (kr:(Value×Value×Value×Value×Value×Value×Value×Value×Value×Value×Value×Value×Value×Value)→St H→Rs211 H) (x:Value×Value×Value×Value×Value×Value×Value×Value×Value×Value×Value×Value×Value×Value) (s:St H):Rs211 H :=
 (O.bop .sub 3 x.2.1 x.1).bind fun v1 =>
 (O.bop .leq 3 v1 (.int .i64 12)).bind fun v2 =>
 (O.boolO v2).bind fun b3=>cond b3 (
 (C (.fn 214) [M6,x.1,x.2.1] s).bind fun L4=>manyK L4 fun v5 s6 =>
 kr (x.1,x.2.1,x.2.2.1,x.2.2.2.1,x.2.2.2.2.1,v1,x.2.2.2.2.2.2.1,x.2.2.2.2.2.2.2.1,x.2.2.2.2.2.2.2.2.1,x.2.2.2.2.2.2.2.2.2.1,x.2.2.2.2.2.2.2.2.2.2.1,x.2.2.2.2.2.2.2.2.2.2.2.1,x.2.2.2.2.2.2.2.2.2.2.2.2.1,x.2.2.2.2.2.2.2.2.2.2.2.2.2) s6) (
 f211_j0 O C n M6 x.1 x.2.1 x.2.2.1 x.2.2.2.1 x.2.2.2.2.1 v1 x.2.2.2.2.2.2.1 x.2.2.2.2.2.2.2.1 x.2.2.2.2.2.2.2.2.1 x.2.2.2.2.2.2.2.2.2.1 x.2.2.2.2.2.2.2.2.2.2.1 x.2.2.2.2.2.2.2.2.2.2.2.1 x.2.2.2.2.2.2.2.2.2.2.2.2.1 x.2.2.2.2.2.2.2.2.2.2.2.2.2 nx kx kr s)
theorem f211_c0 (Kc:Ex→List Value→St H→Rs211 H) (s:St H) :
 exec prog false C n 211 none (cdp Try.f211 [1,1,0,0,0,1,0,1]) (S0::A0::B0::D0::N0::M0::P0::Q0::J0::I0::G0::E0::F0::R0::T0::X0::V0::W0::U0::Z0::A1::B1::D1::Y0::I2::J2::M2::N2::P2::E1::Q2::R2::S2::T2::U2::F1::V2::W2::X2::Y2::Z2::A3::B3::D3::E3::F3::G3::I3::J3::M3::G1::N3::P3::Q3::R3::S3::T3::U3::V3::W3::X3::J5::M5::N5::P5::Q5::R5::S5::A5::Y3::Z3::A4::I1::U5::V5::W5::X5::Y5::Z5::A6::B6::D6::E6::F6::G6::I6::J6::T5::B4::D4::E4::F4::G4::I4::B5::D5::E5::F5::G5::I5::M4::N4::P4::Q4::R4::S4::T4::U4::V4::W4::X4::Y4::Z4::J4::J1::M1::N1::P1::Q1::R1::S1::T1::U1::V1::W1::X1::Y1::Z1::A2::B2::D2::E2::F2::G2::[]) s Kc =
 ((dC H).boolO Y0).bind fun b161=>cond b161 (
 (C (.fn 214) [S0,A0,B0] s).bind fun L162=>manyK L162 fun v163 s164 =>
 Kc .ret (S0::A0::B0::D0::N0::M0::P0::Q0::J0::I0::G0::E0::F0::R0::T0::X0::V0::W0::U0::Z0::A1::B1::D1::Y0::S0::A0::B0::v163::P2::E1::Q2::R2::S2::T2::U2::F1::V2::W2::X2::Y2::Z2::A3::B3::D3::E3::F3::G3::I3::J3::M3::G1::N3::P3::Q3::R3::S3::T3::U3::V3::W3::X3::J5::M5::N5::P5::Q5::R5::S5::A5::Y3::Z3::A4::I1::U5::V5::W5::X5::Y5::Z5::A6::B6::D6::E6::F6::G6::I6::J6::T5::B4::D4::E4::F4::G4::I4::B5::D5::E5::F5::G5::I5::M4::N4::P4::Q4::R4::S4::T4::U4::V4::W4::X4::Y4::Z4::J4::J1::M1::N1::P1::Q1::R1::S1::T1::U1::V1::W1::X1::Y1::Z1::A2::B2::D2::E2::F2::G2::[]) s164) (
 Kc .normal (S0::A0::B0::D0::N0::M0::P0::Q0::J0::I0::G0::E0::F0::R0::T0::X0::V0::W0::U0::Z0::A1::B1::D1::Y0::I2::J2::M2::N2::P2::E1::Q2::R2::S2::T2::U2::F1::V2::W2::X2::Y2::Z2::A3::B3::D3::E3::F3::G3::I3::J3::M3::G1::N3::P3::Q3::R3::S3::T3::U3::V3::W3::X3::J5::M5::N5::P5::Q5::R5::S5::A5::Y3::Z3::A4::I1::U5::V5::W5::X5::Y5::Z5::A6::B6::D6::E6::F6::G6::I6::J6::T5::B4::D4::E4::F4::G4::I4::B5::D5::E5::F5::G5::I5::M4::N4::P4::Q4::R4::S4::T4::U4::V4::W4::X4::Y4::Z4::J4::J1::M1::N1::P1::Q1::R1::S1::T1::U1::V1::W1::X1::Y1::Z1::A2::B2::D2::E2::F2::G2::[]) s):=by kernel_rfl
theorem f211_c1 (Kc:Ex→List Value→St H→Rs211 H) (s:St H) :
 exec prog false C n 211 none (cdp Try.f211 [1,1,0,0,0,1,1,0,1]) (S0::A0::B0::D0::N0::M0::P0::Q0::J0::I0::G0::E0::F0::R0::T0::X0::V0::W0::U0::Z0::A1::B1::D1::Y0::I2::J2::M2::N2::P2::E1::Q2::R2::S2::T2::U2::F1::V2::W2::X2::Y2::Z2::A3::B3::D3::E3::F3::G3::I3::J3::M3::G1::N3::P3::Q3::R3::S3::T3::U3::V3::W3::X3::J5::M5::N5::P5::Q5::R5::S5::A5::Y3::Z3::A4::I1::U5::V5::W5::X5::Y5::Z5::A6::B6::D6::E6::F6::G6::I6::J6::T5::B4::D4::E4::F4::G4::I4::B5::D5::E5::F5::G5::I5::M4::N4::P4::Q4::R4::S4::T4::U4::V4::W4::X4::Y4::Z4::J4::J1::M1::N1::P1::Q1::R1::S1::T1::U1::V1::W1::X1::Y1::Z1::A2::B2::D2::E2::F2::G2::[]) s Kc =
 ((dC H).boolO E1).bind fun b170=>cond b170 (
 (C (.fn 215) [S0,A0,B0] s).bind fun L171=>manyK L171 fun v172 s173 =>
 Kc .ret (S0::A0::B0::D0::N0::M0::P0::Q0::J0::I0::G0::E0::F0::R0::T0::X0::V0::W0::U0::Z0::A1::B1::D1::Y0::I2::J2::M2::N2::P2::E1::S0::A0::B0::v172::U2::F1::V2::W2::X2::Y2::Z2::A3::B3::D3::E3::F3::G3::I3::J3::M3::G1::N3::P3::Q3::R3::S3::T3::U3::V3::W3::X3::J5::M5::N5::P5::Q5::R5::S5::A5::Y3::Z3::A4::I1::U5::V5::W5::X5::Y5::Z5::A6::B6::D6::E6::F6::G6::I6::J6::T5::B4::D4::E4::F4::G4::I4::B5::D5::E5::F5::G5::I5::M4::N4::P4::Q4::R4::S4::T4::U4::V4::W4::X4::Y4::Z4::J4::J1::M1::N1::P1::Q1::R1::S1::T1::U1::V1::W1::X1::Y1::Z1::A2::B2::D2::E2::F2::G2::[]) s173) (
 Kc .normal (S0::A0::B0::D0::N0::M0::P0::Q0::J0::I0::G0::E0::F0::R0::T0::X0::V0::W0::U0::Z0::A1::B1::D1::Y0::I2::J2::M2::N2::P2::E1::Q2::R2::S2::T2::U2::F1::V2::W2::X2::Y2::Z2::A3::B3::D3::E3::F3::G3::I3::J3::M3::G1::N3::P3::Q3::R3::S3::T3::U3::V3::W3::X3::J5::M5::N5::P5::Q5::R5::S5::A5::Y3::Z3::A4::I1::U5::V5::W5::X5::Y5::Z5::A6::B6::D6::E6::F6::G6::I6::J6::T5::B4::D4::E4::F4::G4::I4::B5::D5::E5::F5::G5::I5::M4::N4::P4::Q4::R4::S4::T4::U4::V4::W4::X4::Y4::Z4::J4::J1::M1::N1::P1::Q1::R1::S1::T1::U1::V1::W1::X1::Y1::Z1::A2::B2::D2::E2::F2::G2::[]) s):=by kernel_rfl
theorem f211_c2 (Kc:Ex→List Value→St H→Rs211 H) (s:St H) :
 exec prog false C n 211 none (cdp Try.f211 [1,1,0,0,0,1,1,1,0,1]) (S0::A0::B0::D0::N0::M0::P0::Q0::J0::I0::G0::E0::F0::R0::T0::X0::V0::W0::U0::Z0::A1::B1::D1::Y0::I2::J2::M2::N2::P2::E1::Q2::R2::S2::T2::U2::F1::V2::W2::X2::Y2::Z2::A3::B3::D3::E3::F3::G3::I3::J3::M3::G1::N3::P3::Q3::R3::S3::T3::U3::V3::W3::X3::J5::M5::N5::P5::Q5::R5::S5::A5::Y3::Z3::A4::I1::U5::V5::W5::X5::Y5::Z5::A6::B6::D6::E6::F6::G6::I6::J6::T5::B4::D4::E4::F4::G4::I4::B5::D5::E5::F5::G5::I5::M4::N4::P4::Q4::R4::S4::T4::U4::V4::W4::X4::Y4::Z4::J4::J1::M1::N1::P1::Q1::R1::S1::T1::U1::V1::W1::X1::Y1::Z1::A2::B2::D2::E2::F2::G2::[]) s Kc =
 ((dC H).boolO F1).bind fun b179=>cond b179 (
 (C (.fn 216) [S0,A0,B0] s).bind fun L180=>manyK L180 fun v181 s182 =>
 ((dC H).bop .sub 3 D0 (.int .i64 1)).bind fun v183 =>
 Kc .normal (S0::A0::B0::v183::N0::M0::P0::Q0::J0::I0::G0::E0::F0::R0::T0::X0::V0::W0::U0::Z0::A1::B1::D1::Y0::I2::J2::M2::N2::P2::E1::Q2::R2::S2::T2::U2::F1::S0::A0::B0::v181::D0::v183::B3::D3::E3::F3::G3::I3::J3::M3::G1::N3::P3::Q3::R3::S3::T3::U3::V3::W3::X3::J5::M5::N5::P5::Q5::R5::S5::A5::Y3::Z3::A4::I1::U5::V5::W5::X5::Y5::Z5::A6::B6::D6::E6::F6::G6::I6::J6::T5::B4::D4::E4::F4::G4::I4::B5::D5::E5::F5::G5::I5::M4::N4::P4::Q4::R4::S4::T4::U4::V4::W4::X4::Y4::Z4::J4::J1::M1::N1::P1::Q1::R1::S1::T1::U1::V1::W1::X1::Y1::Z1::A2::B2::D2::E2::F2::G2::[]) s182) (
 Kc .normal (S0::A0::B0::D0::N0::M0::P0::Q0::J0::I0::G0::E0::F0::R0::T0::X0::V0::W0::U0::Z0::A1::B1::D1::Y0::I2::J2::M2::N2::P2::E1::Q2::R2::S2::T2::U2::F1::V2::W2::X2::Y2::Z2::A3::B3::D3::E3::F3::G3::I3::J3::M3::G1::N3::P3::Q3::R3::S3::T3::U3::V3::W3::X3::J5::M5::N5::P5::Q5::R5::S5::A5::Y3::Z3::A4::I1::U5::V5::W5::X5::Y5::Z5::A6::B6::D6::E6::F6::G6::I6::J6::T5::B4::D4::E4::F4::G4::I4::B5::D5::E5::F5::G5::I5::M4::N4::P4::Q4::R4::S4::T4::U4::V4::W4::X4::Y4::Z4::J4::J1::M1::N1::P1::Q1::R1::S1::T1::U1::V1::W1::X1::Y1::Z1::A2::B2::D2::E2::F2::G2::[]) s):=by kernel_rfl
theorem f211_c3 (Kc:Ex→List Value→St H→Rs211 H) (s:St H) :
 exec prog false C n 211 none (cdp Try.f211 [1,1,0,0,0,1,1,1,1,1,0,1]) (S0::A0::B0::D0::N0::M0::P0::Q0::J0::I0::G0::E0::F0::R0::T0::X0::V0::W0::U0::Z0::A1::B1::D1::Y0::I2::J2::M2::N2::P2::E1::Q2::R2::S2::T2::U2::F1::V2::W2::X2::Y2::Z2::A3::B3::D3::E3::F3::G3::I3::J3::M3::G1::N3::P3::Q3::R3::S3::T3::U3::V3::W3::X3::J5::M5::N5::P5::Q5::R5::S5::A5::Y3::Z3::A4::I1::U5::V5::W5::X5::Y5::Z5::A6::B6::D6::E6::F6::G6::I6::J6::T5::B4::D4::E4::F4::G4::I4::B5::D5::E5::F5::G5::I5::M4::N4::P4::Q4::R4::S4::T4::U4::V4::W4::X4::Y4::Z4::J4::J1::M1::N1::P1::Q1::R1::S1::T1::U1::V1::W1::X1::Y1::Z1::A2::B2::D2::E2::F2::G2::[]) s Kc =
 ((dC H).boolO G1).bind fun b195=>cond b195 (
 (C (.fn 218) [S0,A0,B0] s).bind fun L196=>manyK L196 fun v197 s198 =>
 ((dC H).bop .sub 3 B0 (.int .i64 1)).bind fun v199 =>
 ((dC H).bop .sub 3 E0 A0).bind fun v200 =>
 ((dC H).bop .sub 3 v199 v200).bind fun v201 =>
 Kc .normal (S0::A0::B0::D0::N0::M0::P0::Q0::J0::I0::G0::v201::(Value.int IntKind.i64 1)::R0::T0::X0::V0::W0::U0::Z0::A1::B1::D1::Y0::I2::J2::M2::N2::P2::E1::Q2::R2::S2::T2::U2::F1::V2::W2::X2::Y2::Z2::A3::B3::D3::E3::F3::G3::I3::J3::M3::G1::S0::A0::B0::v197::B0::v199::E0::A0::v200::v201::J5::M5::N5::P5::Q5::R5::S5::A5::Y3::Z3::A4::I1::U5::V5::W5::X5::Y5::Z5::A6::B6::D6::E6::F6::G6::I6::J6::T5::B4::D4::E4::F4::G4::I4::B5::D5::E5::F5::G5::I5::M4::N4::P4::Q4::R4::S4::T4::U4::V4::W4::X4::Y4::Z4::J4::J1::M1::N1::P1::Q1::R1::S1::T1::U1::V1::W1::X1::Y1::Z1::A2::B2::D2::E2::F2::G2::[]) s198) (
 Kc .normal (S0::A0::B0::D0::N0::M0::P0::Q0::J0::I0::G0::E0::F0::R0::T0::X0::V0::W0::U0::Z0::A1::B1::D1::Y0::I2::J2::M2::N2::P2::E1::Q2::R2::S2::T2::U2::F1::V2::W2::X2::Y2::Z2::A3::B3::D3::E3::F3::G3::I3::J3::M3::G1::N3::P3::Q3::R3::S3::T3::U3::V3::W3::X3::J5::M5::N5::P5::Q5::R5::S5::A5::Y3::Z3::A4::I1::U5::V5::W5::X5::Y5::Z5::A6::B6::D6::E6::F6::G6::I6::J6::T5::B4::D4::E4::F4::G4::I4::B5::D5::E5::F5::G5::I5::M4::N4::P4::Q4::R4::S4::T4::U4::V4::W4::X4::Y4::Z4::J4::J1::M1::N1::P1::Q1::R1::S1::T1::U1::V1::W1::X1::Y1::Z1::A2::B2::D2::E2::F2::G2::[]) s):=by kernel_rfl
theorem f211_c5 (Kc:Ex→List Value→St H→Rs211 H) (s:St H) :
 exec prog false C n 211 none (cdp Try.f211 [1,1,0,0,0,1,1,1,1,1,1,0,1,0,1]) (S0::A0::B0::D0::N0::M0::P0::Q0::J0::I0::G0::E0::F0::R0::T0::X0::V0::W0::U0::Z0::A1::B1::D1::Y0::I2::J2::M2::N2::P2::E1::Q2::R2::S2::T2::U2::F1::V2::W2::X2::Y2::Z2::A3::B3::D3::E3::F3::G3::I3::J3::M3::G1::N3::P3::Q3::R3::S3::T3::U3::V3::W3::X3::J5::M5::N5::P5::Q5::R5::S5::A5::Y3::Z3::A4::I1::U5::V5::W5::X5::Y5::Z5::A6::B6::D6::E6::F6::G6::I6::J6::T5::B4::D4::E4::F4::G4::I4::B5::D5::E5::F5::G5::I5::M4::N4::P4::Q4::R4::S4::T4::U4::V4::W4::X4::Y4::Z4::J4::J1::M1::N1::P1::Q1::R1::S1::T1::U1::V1::W1::X1::Y1::Z1::A2::B2::D2::E2::F2::G2::[]) s Kc =
 ((dC H).boolO I1).bind fun b215=>cond b215 (
 Kc .ret (S0::A0::B0::D0::N0::M0::P0::Q0::J0::I0::G0::E0::F0::R0::T0::X0::V0::W0::U0::Z0::A1::B1::D1::Y0::I2::J2::M2::N2::P2::E1::Q2::R2::S2::T2::U2::F1::V2::W2::X2::Y2::Z2::A3::B3::D3::E3::F3::G3::I3::J3::M3::G1::N3::P3::Q3::R3::S3::T3::U3::V3::W3::X3::J5::M5::N5::P5::Q5::R5::S5::A5::Y3::Z3::A4::I1::U5::V5::W5::X5::Y5::Z5::A6::B6::D6::E6::F6::G6::I6::J6::T5::B4::D4::E4::F4::G4::I4::B5::D5::E5::F5::G5::I5::M4::N4::P4::Q4::R4::S4::T4::U4::V4::W4::X4::Y4::Z4::J4::J1::M1::N1::P1::Q1::R1::S1::T1::U1::V1::W1::X1::Y1::Z1::A2::B2::D2::E2::F2::G2::[]) s) (
 Kc .normal (S0::A0::B0::D0::N0::M0::P0::Q0::J0::I0::G0::E0::F0::R0::T0::X0::V0::W0::U0::Z0::A1::B1::D1::Y0::I2::J2::M2::N2::P2::E1::Q2::R2::S2::T2::U2::F1::V2::W2::X2::Y2::Z2::A3::B3::D3::E3::F3::G3::I3::J3::M3::G1::N3::P3::Q3::R3::S3::T3::U3::V3::W3::X3::J5::M5::N5::P5::Q5::R5::S5::A5::Y3::Z3::A4::I1::U5::V5::W5::X5::Y5::Z5::A6::B6::D6::E6::F6::G6::I6::J6::T5::B4::D4::E4::F4::G4::I4::B5::D5::E5::F5::G5::I5::M4::N4::P4::Q4::R4::S4::T4::U4::V4::W4::X4::Y4::Z4::J4::J1::M1::N1::P1::Q1::R1::S1::T1::U1::V1::W1::X1::Y1::Z1::A2::B2::D2::E2::F2::G2::[]) s):=by kernel_rfl
theorem f211_c4 (Kc:Ex→List Value→St H→Rs211 H) (s:St H) :
 exec prog false C n 211 none (cdp Try.f211 [1,1,0,0,0,1,1,1,1,1,1,0,1]) (S0::A0::B0::D0::N0::M0::P0::Q0::J0::I0::G0::E0::F0::R0::T0::X0::V0::W0::U0::Z0::A1::B1::D1::Y0::I2::J2::M2::N2::P2::E1::Q2::R2::S2::T2::U2::F1::V2::W2::X2::Y2::Z2::A3::B3::D3::E3::F3::G3::I3::J3::M3::G1::N3::P3::Q3::R3::S3::T3::U3::V3::W3::X3::J5::M5::N5::P5::Q5::R5::S5::A5::Y3::Z3::A4::I1::U5::V5::W5::X5::Y5::Z5::A6::B6::D6::E6::F6::G6::I6::J6::T5::B4::D4::E4::F4::G4::I4::B5::D5::E5::F5::G5::I5::M4::N4::P4::Q4::R4::S4::T4::U4::V4::W4::X4::Y4::Z4::J4::J1::M1::N1::P1::Q1::R1::S1::T1::U1::V1::W1::X1::Y1::Z1::A2::B2::D2::E2::F2::G2::[]) s Kc =
 ((dC H).boolO A5).bind fun b210=>cond b210 (
 (C (.fn 219) [S0,A0,B0] s).bind fun L211=>manyK L211 fun v212 s213 =>
 exec prog false C n 211 none (cdp Try.f211 [1,1,0,0,0,1,1,1,1,1,1,0,1,0,1]) (S0::A0::B0::D0::N0::M0::P0::Q0::J0::I0::G0::E0::F0::R0::T0::X0::V0::W0::U0::Z0::A1::B1::D1::Y0::I2::J2::M2::N2::P2::E1::Q2::R2::S2::T2::U2::F1::V2::W2::X2::Y2::Z2::A3::B3::D3::E3::F3::G3::I3::J3::M3::G1::N3::P3::Q3::R3::S3::T3::U3::V3::W3::X3::J5::M5::N5::P5::Q5::R5::S5::A5::S0::A0::B0::v212::U5::V5::W5::X5::Y5::Z5::A6::B6::D6::E6::F6::G6::I6::J6::T5::B4::D4::E4::F4::G4::I4::B5::D5::E5::F5::G5::I5::M4::N4::P4::Q4::R4::S4::T4::U4::V4::W4::X4::Y4::Z4::J4::J1::M1::N1::P1::Q1::R1::S1::T1::U1::V1::W1::X1::Y1::Z1::A2::B2::D2::E2::F2::G2::[]) s213 Kc) (
 Kc .normal (S0::A0::B0::D0::N0::M0::P0::Q0::J0::I0::G0::E0::F0::R0::T0::X0::V0::W0::U0::Z0::A1::B1::D1::Y0::I2::J2::M2::N2::P2::E1::Q2::R2::S2::T2::U2::F1::V2::W2::X2::Y2::Z2::A3::B3::D3::E3::F3::G3::I3::J3::M3::G1::N3::P3::Q3::R3::S3::T3::U3::V3::W3::X3::J5::M5::N5::P5::Q5::R5::S5::A5::Y3::Z3::A4::I1::U5::V5::W5::X5::Y5::Z5::A6::B6::D6::E6::F6::G6::I6::J6::T5::B4::D4::E4::F4::G4::I4::B5::D5::E5::F5::G5::I5::M4::N4::P4::Q4::R4::S4::T4::U4::V4::W4::X4::Y4::Z4::J4::J1::M1::N1::P1::Q1::R1::S1::T1::U1::V1::W1::X1::Y1::Z1::A2::B2::D2::E2::F2::G2::[]) s):=by kernel_rfl
theorem f211_c6 (Kc:Ex→List Value→St H→Rs211 H) (s:St H) :
 exec prog false C n 211 none (cdp Try.f211 [1,1,0,0,0,1,1,1,1,1,1,1,0,1]) (S0::A0::B0::D0::N0::M0::P0::Q0::J0::I0::G0::E0::F0::R0::T0::X0::V0::W0::U0::Z0::A1::B1::D1::Y0::I2::J2::M2::N2::P2::E1::Q2::R2::S2::T2::U2::F1::V2::W2::X2::Y2::Z2::A3::B3::D3::E3::F3::G3::I3::J3::M3::G1::N3::P3::Q3::R3::S3::T3::U3::V3::W3::X3::J5::M5::N5::P5::Q5::R5::S5::A5::Y3::Z3::A4::I1::U5::V5::W5::X5::Y5::Z5::A6::B6::D6::E6::F6::G6::I6::J6::T5::B4::D4::E4::F4::G4::I4::B5::D5::E5::F5::G5::I5::M4::N4::P4::Q4::R4::S4::T4::U4::V4::W4::X4::Y4::Z4::J4::J1::M1::N1::P1::Q1::R1::S1::T1::U1::V1::W1::X1::Y1::Z1::A2::B2::D2::E2::F2::G2::[]) s Kc =
 ((dC H).boolO T5).bind fun b229=>cond b229 (
 (C (.fn 221) [S0,A0,B0,E0] s).bind fun L230=>manyK L230 fun v231 s232 =>
 Kc (.exit 1) (S0::v231::B0::D0::N0::M0::P0::Q0::J0::I0::G0::E0::F0::v231::T0::X0::V0::W0::U0::Z0::A1::B1::D1::Y0::I2::J2::M2::N2::P2::E1::Q2::R2::S2::T2::U2::F1::V2::W2::X2::Y2::Z2::A3::B3::D3::E3::F3::G3::I3::J3::M3::G1::N3::P3::Q3::R3::S3::T3::U3::V3::W3::X3::J5::M5::N5::P5::Q5::R5::S5::A5::Y3::Z3::A4::I1::U5::V5::W5::X5::Y5::Z5::A6::B6::D6::E6::F6::G6::I6::J6::T5::S0::A0::B0::E0::v231::v231::B5::D5::E5::F5::G5::I5::M4::N4::P4::Q4::R4::S4::T4::U4::V4::W4::X4::Y4::Z4::J4::J1::M1::N1::P1::Q1::R1::S1::T1::U1::V1::W1::X1::Y1::Z1::A2::B2::D2::E2::F2::G2::[]) s232) (
 Kc .normal (S0::A0::B0::D0::N0::M0::P0::Q0::J0::I0::G0::E0::F0::R0::T0::X0::V0::W0::U0::Z0::A1::B1::D1::Y0::I2::J2::M2::N2::P2::E1::Q2::R2::S2::T2::U2::F1::V2::W2::X2::Y2::Z2::A3::B3::D3::E3::F3::G3::I3::J3::M3::G1::N3::P3::Q3::R3::S3::T3::U3::V3::W3::X3::J5::M5::N5::P5::Q5::R5::S5::A5::Y3::Z3::A4::I1::U5::V5::W5::X5::Y5::Z5::A6::B6::D6::E6::F6::G6::I6::J6::T5::B4::D4::E4::F4::G4::I4::B5::D5::E5::F5::G5::I5::M4::N4::P4::Q4::R4::S4::T4::U4::V4::W4::X4::Y4::Z4::J4::J1::M1::N1::P1::Q1::R1::S1::T1::U1::V1::W1::X1::Y1::Z1::A2::B2::D2::E2::F2::G2::[]) s):=by kernel_rfl
theorem f211_c7 (Kc:Ex→List Value→St H→Rs211 H) (s:St H) :
 exec prog false C n 211 none (cdp Try.f211 [1,1,0,0,0,1,1,1,1,1,1,1,1,1,1,1,1,1]) (S0::A0::B0::D0::N0::M0::P0::Q0::J0::I0::G0::E0::F0::R0::T0::X0::V0::W0::U0::Z0::A1::B1::D1::Y0::I2::J2::M2::N2::P2::E1::Q2::R2::S2::T2::U2::F1::V2::W2::X2::Y2::Z2::A3::B3::D3::E3::F3::G3::I3::J3::M3::G1::N3::P3::Q3::R3::S3::T3::U3::V3::W3::X3::J5::M5::N5::P5::Q5::R5::S5::A5::Y3::Z3::A4::I1::U5::V5::W5::X5::Y5::Z5::A6::B6::D6::E6::F6::G6::I6::J6::T5::B4::D4::E4::F4::G4::I4::B5::D5::E5::F5::G5::I5::M4::N4::P4::Q4::R4::S4::T4::U4::V4::W4::X4::Y4::Z4::J4::J1::M1::N1::P1::Q1::R1::S1::T1::U1::V1::W1::X1::Y1::Z1::A2::B2::D2::E2::F2::G2::[]) s Kc =
 ((dC H).boolO J4).bind fun b246=>cond b246 (
 ((dC H).bop .geq 3 V0 U0).bind fun v247 =>
 (C (.fn 211) [S0,A0,T0,D0] s).bind fun L248=>manyK L248 fun v249 s250 =>
 ((dC H).bop .add 3 T0 (.int .i64 1)).bind fun v251 =>
 Kc .normal (S0::v251::B0::D0::N0::M0::P0::Q0::v247::I0::G0::E0::F0::R0::T0::X0::V0::W0::U0::Z0::A1::B1::D1::Y0::I2::J2::M2::N2::P2::E1::Q2::R2::S2::T2::U2::F1::V2::W2::X2::Y2::Z2::A3::B3::D3::E3::F3::G3::I3::J3::M3::G1::N3::P3::Q3::R3::S3::T3::U3::V3::W3::X3::J5::M5::N5::P5::Q5::R5::S5::A5::Y3::Z3::A4::I1::U5::V5::W5::X5::Y5::Z5::A6::B6::D6::E6::F6::G6::I6::J6::T5::B4::D4::E4::F4::G4::I4::B5::D5::E5::F5::G5::I5::M4::N4::P4::Q4::R4::S4::T4::U4::V4::W4::X4::Y4::Z4::J4::V0::U0::v247::S0::A0::T0::D0::v249::T0::v251::W1::X1::Y1::Z1::A2::B2::D2::E2::F2::G2::[]) s250) (
 ((dC H).bop .geq 3 W0 U0).bind fun v252 =>
 ((dC H).bop .add 3 T0 (.int .i64 1)).bind fun v253 =>
 (C (.fn 211) [S0,v253,B0,D0] s).bind fun L254=>manyK L254 fun v255 s256 =>
 Kc .normal (S0::A0::T0::D0::N0::M0::P0::Q0::v252::I0::G0::E0::F0::R0::T0::X0::V0::W0::U0::Z0::A1::B1::D1::Y0::I2::J2::M2::N2::P2::E1::Q2::R2::S2::T2::U2::F1::V2::W2::X2::Y2::Z2::A3::B3::D3::E3::F3::G3::I3::J3::M3::G1::N3::P3::Q3::R3::S3::T3::U3::V3::W3::X3::J5::M5::N5::P5::Q5::R5::S5::A5::Y3::Z3::A4::I1::U5::V5::W5::X5::Y5::Z5::A6::B6::D6::E6::F6::G6::I6::J6::T5::B4::D4::E4::F4::G4::I4::B5::D5::E5::F5::G5::I5::M4::N4::P4::Q4::R4::S4::T4::U4::V4::W4::X4::Y4::Z4::J4::J1::M1::N1::P1::Q1::R1::S1::T1::U1::V1::W0::U0::v252::S0::T0::v253::B0::D0::v255::T0::[]) s256):=by kernel_rfl
theorem f211_j5_b (nx:List Value→St H→Rs211 H) (K:Ex→List Value→St H→Rs211 H) (s:St H) :
 (kSeq prog false C n 211 none (cdp Try.f211 [1,1,0,0,0,1,1,1,1,1,1,1,1]) (kBlock 1 (kIter (scratch (cdp Try.f211 [1,1,0,0])) nx K))) .normal (S0::A0::B0::D0::undefV::undefV::undefV::undefV::J0::I0::G0::E0::F0::R0::T0::X0::V0::W0::U0::Z0::A1::B1::D1::Y0::I2::J2::M2::N2::P2::E1::Q2::R2::S2::T2::U2::F1::V2::W2::X2::Y2::Z2::A3::B3::D3::E3::F3::G3::I3::J3::M3::G1::N3::P3::Q3::R3::S3::T3::U3::V3::W3::X3::J5::M5::N5::P5::Q5::R5::S5::A5::Y3::Z3::A4::I1::U5::V5::W5::X5::Y5::Z5::A6::B6::D6::E6::F6::G6::I6::J6::T5::B4::D4::E4::F4::G4::I4::B5::D5::E5::F5::G5::I5::M4::N4::P4::Q4::R4::S4::T4::U4::V4::W4::X4::Y4::Z4::J4::J1::M1::N1::P1::Q1::R1::S1::T1::U1::V1::W1::X1::Y1::Z1::A2::B2::D2::E2::F2::G2::[]) s=f211_j5 (dOps (H:=H) prog) C n S0 A0 B0 D0 G0 E0 F0 R0 (fun x s=>nx (f211_l0_m S0 x) s) (fun i x s=>K (.exit i) (f211_l0_m S0 x) s) (fun x s=>K .ret (f211_l0_m S0 x) s) s:=by
  have h1:(kSeq prog false C n 211 none (cdp Try.f211 [1,1,0,0,0,1,1,1,1,1,1,1,1]) (kBlock 1 (kIter (scratch (cdp Try.f211 [1,1,0,0])) nx K))) .normal (S0::A0::B0::D0::undefV::undefV::undefV::undefV::J0::I0::G0::E0::F0::R0::T0::X0::V0::W0::U0::Z0::A1::B1::D1::Y0::I2::J2::M2::N2::P2::E1::Q2::R2::S2::T2::U2::F1::V2::W2::X2::Y2::Z2::A3::B3::D3::E3::F3::G3::I3::J3::M3::G1::N3::P3::Q3::R3::S3::T3::U3::V3::W3::X3::J5::M5::N5::P5::Q5::R5::S5::A5::Y3::Z3::A4::I1::U5::V5::W5::X5::Y5::Z5::A6::B6::D6::E6::F6::G6::I6::J6::T5::B4::D4::E4::F4::G4::I4::B5::D5::E5::F5::G5::I5::M4::N4::P4::Q4::R4::S4::T4::U4::V4::W4::X4::Y4::Z4::J4::J1::M1::N1::P1::Q1::R1::S1::T1::U1::V1::W1::X1::Y1::Z1::A2::B2::D2::E2::F2::G2::[]) s =
 (C (.fn 222) [S0,A0,B0,E0] s).bind fun L236=>manyK L236 fun v237 s238 =>
 ((dC H).extract v237 0).bind fun v239 =>
 ((dC H).extract v237 1).bind fun v240 =>
 ((dC H).bop .sub 3 v239 A0).bind fun v241 =>
 ((dC H).bop .sub 3 B0 v239).bind fun v242 =>
 ((dC H).bop .quo 3 G0 (.int .i64 8)).bind fun v243 =>
 ((dC H).bop .lss 3 v241 v242).bind fun v244 =>
 exec prog false C n 211 none (cdp Try.f211 [1,1,0,0,0,1,1,1,1,1,1,1,1,1,1,1,1,1]) (S0::A0::B0::D0::undefV::undefV::undefV::undefV::J0::v240::G0::E0::F0::R0::v239::v240::v241::v242::v243::Z0::A1::B1::D1::Y0::I2::J2::M2::N2::P2::E1::Q2::R2::S2::T2::U2::F1::V2::W2::X2::Y2::Z2::A3::B3::D3::E3::F3::G3::I3::J3::M3::G1::N3::P3::Q3::R3::S3::T3::U3::V3::W3::X3::J5::M5::N5::P5::Q5::R5::S5::A5::Y3::Z3::A4::I1::U5::V5::W5::X5::Y5::Z5::A6::B6::D6::E6::F6::G6::I6::J6::T5::B4::D4::E4::F4::G4::I4::v237::S0::A0::B0::E0::v237::v239::v240::v240::v239::A0::v241::B0::v239::v242::G0::v243::v241::v242::v244::J1::M1::N1::P1::Q1::R1::S1::T1::U1::V1::W1::X1::Y1::Z1::A2::B2::D2::E2::F2::G2::[]) s238 (kBlock 1 (kIter (scratch (cdp Try.f211 [1,1,0,0])) nx K)):=by kernel_rfl
  rw [h1]
  simp only [f211_c0,f211_c1,f211_c2,f211_c3,f211_c4,f211_c5,f211_c6,f211_c7,kBlock_n]
  first | done | (show _=f211_j5 (dOps (H:=H) prog) C n S0 A0 B0 D0 G0 E0 F0 R0 (fun x s=>nx (f211_l0_m S0 x) s) (fun i x s=>K (.exit i) (f211_l0_m S0 x) s) (fun x s=>K .ret (f211_l0_m S0 x) s) s; kernel_rfl)
theorem f211_j4_b (nx:List Value→St H→Rs211 H) (K:Ex→List Value→St H→Rs211 H) (s:St H) :
 (kSeq prog false C n 211 none (cdp Try.f211 [1,1,0,0,0,1,1,1,1,1,1,1]) (kBlock 1 (kIter (scratch (cdp Try.f211 [1,1,0,0])) nx K))) .normal (S0::A0::B0::D0::undefV::undefV::undefV::undefV::J0::I0::G0::E0::F0::R0::T0::X0::V0::W0::U0::Z0::A1::B1::D1::Y0::I2::J2::M2::N2::P2::E1::Q2::R2::S2::T2::U2::F1::V2::W2::X2::Y2::Z2::A3::B3::D3::E3::F3::G3::I3::J3::M3::G1::N3::P3::Q3::R3::S3::T3::U3::V3::W3::X3::J5::M5::N5::P5::Q5::R5::S5::A5::Y3::Z3::A4::I1::U5::V5::W5::X5::Y5::Z5::A6::B6::D6::E6::F6::G6::I6::J6::T5::B4::D4::E4::F4::G4::I4::B5::D5::E5::F5::G5::I5::M4::N4::P4::Q4::R4::S4::T4::U4::V4::W4::X4::Y4::Z4::J4::J1::M1::N1::P1::Q1::R1::S1::T1::U1::V1::W1::X1::Y1::Z1::A2::B2::D2::E2::F2::G2::[]) s=f211_j4 (dOps (H:=H) prog) C n S0 A0 B0 D0 J0 I0 G0 E0 F0 R0 T0 X0 V0 W0 U0 (fun x s=>nx (f211_l0_m S0 x) s) (fun i x s=>K (.exit i) (f211_l0_m S0 x) s) (fun x s=>K .ret (f211_l0_m S0 x) s) s:=by
  have h1:(kSeq prog false C n 211 none (cdp Try.f211 [1,1,0,0,0,1,1,1,1,1,1,1]) (kBlock 1 (kIter (scratch (cdp Try.f211 [1,1,0,0])) nx K))) .normal (S0::A0::B0::D0::undefV::undefV::undefV::undefV::J0::I0::G0::E0::F0::R0::T0::X0::V0::W0::U0::Z0::A1::B1::D1::Y0::I2::J2::M2::N2::P2::E1::Q2::R2::S2::T2::U2::F1::V2::W2::X2::Y2::Z2::A3::B3::D3::E3::F3::G3::I3::J3::M3::G1::N3::P3::Q3::R3::S3::T3::U3::V3::W3::X3::J5::M5::N5::P5::Q5::R5::S5::A5::Y3::Z3::A4::I1::U5::V5::W5::X5::Y5::Z5::A6::B6::D6::E6::F6::G6::I6::J6::T5::B4::D4::E4::F4::G4::I4::B5::D5::E5::F5::G5::I5::M4::N4::P4::Q4::R4::S4::T4::U4::V4::W4::X4::Y4::Z4::J4::J1::M1::N1::P1::Q1::R1::S1::T1::U1::V1::W1::X1::Y1::Z1::A2::B2::D2::E2::F2::G2::[]) s =
 ((dC H).bop .gtr 3 A0 (.int .i64 0)).bind fun v220 =>
 gd v220 (
 ((dC H).bop .sub 3 A0 (.int .i64 1)).bind fun v221 =>
 ((dC H).indexAddr 67 S0 v221).bind fun v222 =>
 ((dC H).load s 70 v222).bind fun v223 =>
 ((dC H).indexAddr 67 S0 E0).bind fun v224 =>
 ((dC H).load s 70 v224).bind fun v225 =>
 (oneO C (.fn 220) [v223,v225] s).bind fun p226 =>
 ((dC H).uop .not p226.1).bind fun v227 =>
 exec prog false C n 211 none (cdp Try.f211 [1,1,0,0,0,1,1,1,1,1,1,1,0,1]) (S0::A0::B0::D0::undefV::undefV::undefV::undefV::J0::I0::G0::E0::F0::R0::T0::X0::V0::W0::U0::Z0::A1::B1::D1::Y0::I2::J2::M2::N2::P2::E1::Q2::R2::S2::T2::U2::F1::V2::W2::X2::Y2::Z2::A3::B3::D3::E3::F3::G3::I3::J3::M3::G1::N3::P3::Q3::R3::S3::T3::U3::V3::W3::X3::J5::M5::N5::P5::Q5::R5::S5::A5::Y3::Z3::A4::I1::A0::v220::(.bool true)::S0::A0::v221::v222::v223::S0::E0::v224::v225::p226.1::v227::v227::B4::D4::E4::F4::G4::I4::B5::D5::E5::F5::G5::I5::M4::N4::P4::Q4::R4::S4::T4::U4::V4::W4::X4::Y4::Z4::J4::J1::M1::N1::P1::Q1::R1::S1::T1::U1::V1::W1::X1::Y1::Z1::A2::B2::D2::E2::F2::G2::[]) p226.2 (kSeq prog false C n 211 none (cdp Try.f211 [1,1,0,0,0,1,1,1,1,1,1,1,1]) (kBlock 1 (kIter (scratch (cdp Try.f211 [1,1,0,0])) nx K)))) (
 (C (.fn 222) [S0,A0,B0,E0] s).bind fun L268=>manyK L268 fun v269 s270 =>
 ((dC H).extract v269 0).bind fun v271 =>
 ((dC H).extract v269 1).bind fun v272 =>
 ((dC H).bop .sub 3 v271 A0).bind fun v273 =>
 ((dC H).bop .sub 3 B0 v271).bind fun v274 =>
 ((dC H).bop .quo 3 G0 (.int .i64 8)).bind fun v275 =>
 ((dC H).bop .lss 3 v273 v274).bind fun v276 =>
 exec prog false C n 211 none (cdp Try.f211 [1,1,0,0,0,1,1,1,1,1,1,1,1,1,1,1,1,1]) (S0::A0::B0::D0::undefV::undefV::undefV::undefV::J0::v272::G0::E0::F0::R0::v271::v272::v273::v274::v275::Z0::A1::B1::D1::Y0::I2::J2::M2::N2::P2::E1::Q2::R2::S2::T2::U2::F1::V2::W2::X2::Y2::Z2::A3::B3::D3::E3::F3::G3::I3::J3::M3::G1::N3::P3::Q3::R3::S3::T3::U3::V3::W3::X3::J5::M5::N5::P5::Q5::R5::S5::A5::Y3::Z3::A4::I1::A0::v220::(.bool false)::undefV::undefV::undefV::undefV::undefV::undefV::undefV::undefV::undefV::undefV::undefV::(.bool false)::B4::D4::E4::F4::G4::I4::v269::S0::A0::B0::E0::v269::v271::v272::v272::v271::A0::v273::B0::v271::v274::G0::v275::v273::v274::v276::J1::M1::N1::P1::Q1::R1::S1::T1::U1::V1::W1::X1::Y1::Z1::A2::B2::D2::E2::F2::G2::[]) s270 (kBlock 1 (kIter (scratch (cdp Try.f211 [1,1,0,0])) nx K))) (
 none):=by kernel_rfl
  rw [h1]
  simp only [f211_c0,f211_c1,f211_c2,f211_c3,f211_c4,f211_c5,f211_c6,f211_c7,kBlock_n,f211_j5_b]
  first | done | (show _=f211_j4 (dOps (H:=H) prog) C n S0 A0 B0 D0 J0 I0 G0 E0 F0 R0 T0 X0 V0 W0 U0 (fun x s=>nx (f211_l0_m S0 x) s) (fun i x s=>K (.exit i) (f211_l0_m S0 x) s) (fun x s=>K .ret (f211_l0_m S0 x) s) s; kernel_rfl)
theorem f211_j3_b (nx:List Value→St H→Rs211 H) (K:Ex→List Value→St H→Rs211 H) (s:St H) :
 (kSeq prog false C n 211 none (cdp Try.f211 [1,1,0,0,0,1,1,1,1,1,1]) (kBlock 1 (kIter (scratch (cdp Try.f211 [1,1,0,0])) nx K))) .normal (S0::A0::B0::D0::undefV::undefV::undefV::undefV::J0::I0::G0::E0::F0::R0::T0::X0::V0::W0::U0::Z0::A1::B1::D1::Y0::I2::J2::M2::N2::P2::E1::Q2::R2::S2::T2::U2::F1::V2::W2::X2::Y2::Z2::A3::B3::D3::E3::F3::G3::I3::J3::M3::G1::N3::P3::Q3::R3::S3::T3::U3::V3::W3::X3::J5::M5::N5::P5::Q5::R5::S5::A5::Y3::Z3::A4::I1::U5::V5::W5::X5::Y5::Z5::A6::B6::D6::E6::F6::G6::I6::J6::T5::B4::D4::E4::F4::G4::I4::B5::D5::E5::F5::G5::I5::M4::N4::P4::Q4::R4::S4::T4::U4::V4::W4::X4::Y4::Z4::J4::J1::M1::N1::P1::Q1::R1::S1::T1::U1::V1::W1::X1::Y1::Z1::A2::B2::D2::E2::F2::G2::[]) s=f211_j3 (dOps (H:=H) prog) C n S0 A0 B0 D0 J0 I0 G0 E0 F0 R0 T0 X0 V0 W0 U0 (fun x s=>nx (f211_l0_m S0 x) s) (fun i x s=>K (.exit i) (f211_l0_m S0 x) s) (fun x s=>K .ret (f211_l0_m S0 x) s) s:=by
  have h1:(kSeq prog false C n 211 none (cdp Try.f211 [1,1,0,0,0,1,1,1,1,1,1]) (kBlock 1 (kIter (scratch (cdp Try.f211 [1,1,0,0])) nx K))) .normal (S0::A0::B0::D0::undefV::undefV::undefV::undefV::J0::I0::G0::E0::F0::R0::T0::X0::V0::W0::U0::Z0::A1::B1::D1::Y0::I2::J2::M2::N2::P2::E1::Q2::R2::S2::T2::U2::F1::V2::W2::X2::Y2::Z2::A3::B3::D3::E3::F3::G3::I3::J3::M3::G1::N3::P3::Q3::R3::S3::T3::U3::V3::W3::X3::J5::M5::N5::P5::Q5::R5::S5::A5::Y3::Z3::A4::I1::U5::V5::W5::X5::Y5::Z5::A6::B6::D6::E6::F6::G6::I6::J6::T5::B4::D4::E4::F4::G4::I4::B5::D5::E5::F5::G5::I5::M4::N4::P4::Q4::R4::S4::T4::U4::V4::W4::X4::Y4::Z4::J4::J1::M1::N1::P1::Q1::R1::S1::T1::U1::V1::W1::X1::Y1::Z1::A2::B2::D2::E2::F2::G2::[]) s =
 gd J0 (
 gd I0 (
 ((dC H).bop .eql 230 F0 (.int .i64 1)).bind fun v208 =>
 exec prog false C n 211 none (cdp Try.f211 [1,1,0,0,0,1,1,1,1,1,1,0,1]) (S0::A0::B0::D0::undefV::undefV::undefV::undefV::J0::I0::G0::E0::F0::R0::T0::X0::V0::W0::U0::Z0::A1::B1::D1::Y0::I2::J2::M2::N2::P2::E1::Q2::R2::S2::T2::U2::F1::V2::W2::X2::Y2::Z2::A3::B3::D3::E3::F3::G3::I3::J3::M3::G1::N3::P3::Q3::R3::S3::T3::U3::V3::W3::X3::J0::(.bool true)::I0::I0::(.bool true)::F0::v208::v208::Y3::Z3::A4::I1::U5::V5::W5::X5::Y5::Z5::A6::B6::D6::E6::F6::G6::I6::J6::T5::B4::D4::E4::F4::G4::I4::B5::D5::E5::F5::G5::I5::M4::N4::P4::Q4::R4::S4::T4::U4::V4::W4::X4::Y4::Z4::J4::J1::M1::N1::P1::Q1::R1::S1::T1::U1::V1::W1::X1::Y1::Z1::A2::B2::D2::E2::F2::G2::[]) s (kSeq prog false C n 211 none (cdp Try.f211 [1,1,0,0,0,1,1,1,1,1,1,1]) (kBlock 1 (kIter (scratch (cdp Try.f211 [1,1,0,0])) nx K)))) (
 ((dC H).bop .gtr 3 A0 (.int .i64 0)).bind fun v279 =>
 gd v279 (
 ((dC H).bop .sub 3 A0 (.int .i64 1)).bind fun v280 =>
 ((dC H).indexAddr 67 S0 v280).bind fun v281 =>
 ((dC H).load s 70 v281).bind fun v282 =>
 ((dC H).indexAddr 67 S0 E0).bind fun v283 =>
 ((dC H).load s 70 v283).bind fun v284 =>
 (oneO C (.fn 220) [v282,v284] s).bind fun p285 =>
 ((dC H).uop .not p285.1).bind fun v286 =>
 exec prog false C n 211 none (cdp Try.f211 [1,1,0,0,0,1,1,1,1,1,1,1,0,1]) (S0::A0::B0::D0::undefV::undefV::undefV::undefV::J0::I0::G0::E0::F0::R0::T0::X0::V0::W0::U0::Z0::A1::B1::D1::Y0::I2::J2::M2::N2::P2::E1::Q2::R2::S2::T2::U2::F1::V2::W2::X2::Y2::Z2::A3::B3::D3::E3::F3::G3::I3::J3::M3::G1::N3::P3::Q3::R3::S3::T3::U3::V3::W3::X3::J0::(.bool true)::I0::I0::(.bool false)::undefV::undefV::(.bool false)::Y3::Z3::A4::I1::A0::v279::(.bool true)::S0::A0::v280::v281::v282::S0::E0::v283::v284::p285.1::v286::v286::B4::D4::E4::F4::G4::I4::B5::D5::E5::F5::G5::I5::M4::N4::P4::Q4::R4::S4::T4::U4::V4::W4::X4::Y4::Z4::J4::J1::M1::N1::P1::Q1::R1::S1::T1::U1::V1::W1::X1::Y1::Z1::A2::B2::D2::E2::F2::G2::[]) p285.2 (kSeq prog false C n 211 none (cdp Try.f211 [1,1,0,0,0,1,1,1,1,1,1,1,1]) (kBlock 1 (kIter (scratch (cdp Try.f211 [1,1,0,0])) nx K)))) (
 (C (.fn 222) [S0,A0,B0,E0] s).bind fun L289=>manyK L289 fun v290 s291 =>
 ((dC H).extract v290 0).bind fun v292 =>
 ((dC H).extract v290 1).bind fun v293 =>
 ((dC H).bop .sub 3 v292 A0).bind fun v294 =>
 ((dC H).bop .sub 3 B0 v292).bind fun v295 =>
 ((dC H).bop .quo 3 G0 (.int .i64 8)).bind fun v296 =>
 ((dC H).bop .lss 3 v294 v295).bind fun v297 =>
 exec prog false C n 211 none (cdp Try.f211 [1,1,0,0,0,1,1,1,1,1,1,1,1,1,1,1,1,1]) (S0::A0::B0::D0::undefV::undefV::undefV::undefV::J0::v293::G0::E0::F0::R0::v292::v293::v294::v295::v296::Z0::A1::B1::D1::Y0::I2::J2::M2::N2::P2::E1::Q2::R2::S2::T2::U2::F1::V2::W2::X2::Y2::Z2::A3::B3::D3::E3::F3::G3::I3::J3::M3::G1::N3::P3::Q3::R3::S3::T3::U3::V3::W3::X3::J0::(.bool true)::I0::I0::(.bool false)::undefV::undefV::(.bool false)::Y3::Z3::A4::I1::A0::v279::(.bool false)::undefV::undefV::undefV::undefV::undefV::undefV::undefV::undefV::undefV::undefV::undefV::(.bool false)::B4::D4::E4::F4::G4::I4::v290::S0::A0::B0::E0::v290::v292::v293::v293::v292::A0::v294::B0::v292::v295::G0::v296::v294::v295::v297::J1::M1::N1::P1::Q1::R1::S1::T1::U1::V1::W1::X1::Y1::Z1::A2::B2::D2::E2::F2::G2::[]) s291 (kBlock 1 (kIter (scratch (cdp Try.f211 [1,1,0,0])) nx K))) (
 none)) (
 none)) (
 ((dC H).bop .gtr 3 A0 (.int .i64 0)).bind fun v300 =>
 gd v300 (
 ((dC H).bop .sub 3 A0 (.int .i64 1)).bind fun v301 =>
 ((dC H).indexAddr 67 S0 v301).bind fun v302 =>
 ((dC H).load s 70 v302).bind fun v303 =>
 ((dC H).indexAddr 67 S0 E0).bind fun v304 =>
 ((dC H).load s 70 v304).bind fun v305 =>
 (oneO C (.fn 220) [v303,v305] s).bind fun p306 =>
 ((dC H).uop .not p306.1).bind fun v307 =>
 exec prog false C n 211 none (cdp Try.f211 [1,1,0,0,0,1,1,1,1,1,1,1,0,1]) (S0::A0::B0::D0::undefV::undefV::undefV::undefV::J0::I0::G0::E0::F0::R0::T0::X0::V0::W0::U0::Z0::A1::B1::D1::Y0::I2::J2::M2::N2::P2::E1::Q2::R2::S2::T2::U2::F1::V2::W2::X2::Y2::Z2::A3::B3::D3::E3::F3::G3::I3::J3::M3::G1::N3::P3::Q3::R3::S3::T3::U3::V3::W3::X3::J0::(.bool false)::undefV::(.bool false)::(.bool false)::undefV::undefV::(.bool false)::Y3::Z3::A4::I1::A0::v300::(.bool true)::S0::A0::v301::v302::v303::S0::E0::v304::v305::p306.1::v307::v307::B4::D4::E4::F4::G4::I4::B5::D5::E5::F5::G5::I5::M4::N4::P4::Q4::R4::S4::T4::U4::V4::W4::X4::Y4::Z4::J4::J1::M1::N1::P1::Q1::R1::S1::T1::U1::V1::W1::X1::Y1::Z1::A2::B2::D2::E2::F2::G2::[]) p306.2 (kSeq prog false C n 211 none (cdp Try.f211 [1,1,0,0,0,1,1,1,1,1,1,1,1]) (kBlock 1 (kIter (scratch (cdp Try.f211 [1,1,0,0])) nx K)))) (
 (C (.fn 222) [S0,A0,B0,E0] s).bind fun L310=>manyK L310 fun v311 s312 =>
 ((dC H).extract v311 0).bind fun v313 =>
 ((dC H).extract v311 1).bind fun v314 =>
 ((dC H).bop .sub 3 v313 A0).bind fun v315 =>
 ((dC H).bop .sub 3 B0 v313).bind fun v316 =>
 ((dC H).bop .quo 3 G0 (.int .i64 8)).bind fun v317 =>
 ((dC H).bop .lss 3 v315 v316).bind fun v318 =>
 exec prog false C n 211 none (cdp Try.f211 [1,1,0,0,0,1,1,1,1,1,1,1,1,1,1,1,1,1]) (S0::A0::B0::D0::undefV::undefV::undefV::undefV::J0::v314::G0::E0::F0::R0::v313::v314::v315::v316::v317::Z0::A1::B1::D1::Y0::I2::J2::M2::N2::P2::E1::Q2::R2::S2::T2::U2::F1::V2::W2::X2::Y2::Z2::A3::B3::D3::E3::F3::G3::I3::J3::M3::G1::N3::P3::Q3::R3::S3::T3::U3::V3::W3::X3::J0::(.bool false)::undefV::(.bool false)::(.bool false)::undefV::undefV::(.bool false)::Y3::Z3::A4::I1::A0::v300::(.bool false)::undefV::undefV::undefV::undefV::undefV::undefV::undefV::undefV::undefV::undefV::undefV::(.bool false)::B4::D4::E4::F4::G4::I4::v311::S0::A0::B0::E0::v311::v313::v314::v314::v313::A0::v315::B0::v313::v316::G0::v317::v315::v316::v318::J1::M1::N1::P1::Q1::R1::S1::T1::U1::V1::W1::X1::Y1::Z1::A2::B2::D2::E2::F2::G2::[]) s312 (kBlock 1 (kIter (scratch (cdp Try.f211 [1,1,0,0])) nx K))) (
 none)) (
 none):=by kernel_rfl
  rw [h1]
  simp only [f211_c0,f211_c1,f211_c2,f211_c3,f211_c4,f211_c5,f211_c6,f211_c7,kBlock_n,f211_j5_b,f211_j4_b]
  first | done | (show _=f211_j3 (dOps (H:=H) prog) C n S0 A0 B0 D0 J0 I0 G0 E0 F0 R0 T0 X0 V0 W0 U0 (fun x s=>nx (f211_l0_m S0 x) s) (fun i x s=>K (.exit i) (f211_l0_m S0 x) s) (fun x s=>K .ret (f211_l0_m S0 x) s) s; kernel_rfl)
theorem f211_j2_b (nx:List Value→St H→Rs211 H) (K:Ex→List Value→St H→Rs211 H) (s:St H) :
 (kSeq prog false C n 211 none (cdp Try.f211 [1,1,0,0,0,1,1,1,1]) (kBlock 1 (kIter (scratch (cdp Try.f211 [1,1,0,0])) nx K))) .normal (S0::A0::B0::D0::undefV::undefV::undefV::undefV::J0::I0::G0::E0::F0::R0::T0::X0::V0::W0::U0::Z0::A1::B1::D1::Y0::I2::J2::M2::N2::P2::E1::Q2::R2::S2::T2::U2::F1::V2::W2::X2::Y2::Z2::A3::B3::D3::E3::F3::G3::I3::J3::M3::G1::N3::P3::Q3::R3::S3::T3::U3::V3::W3::X3::J5::M5::N5::P5::Q5::R5::S5::A5::Y3::Z3::A4::I1::U5::V5::W5::X5::Y5::Z5::A6::B6::D6::E6::F6::G6::I6::J6::T5::B4::D4::E4::F4::G4::I4::B5::D5::E5::F5::G5::I5::M4::N4::P4::Q4::R4::S4::T4::U4::V4::W4::X4::Y4::Z4::J4::J1::M1::N1::P1::Q1::R1::S1::T1::U1::V1::W1::X1::Y1::Z1::A2::B2::D2::E2::F2::G2::[]) s=f211_j2 (dOps (H:=H) prog) C n S0 A0 B0 D0 J0 I0 G0 R0 T0 X0 V0 W0 U0 (fun x s=>nx (f211_l0_m S0 x) s) (fun i x s=>K (.exit i) (f211_l0_m S0 x) s) (fun x s=>K .ret (f211_l0_m S0 x) s) s:=by
  have h1:(kSeq prog false C n 211 none (cdp Try.f211 [1,1,0,0,0,1,1,1,1]) (kBlock 1 (kIter (scratch (cdp Try.f211 [1,1,0,0])) nx K))) .normal (S0::A0::B0::D0::undefV::undefV::undefV::undefV::J0::I0::G0::E0::F0::R0::T0::X0::V0::W0::U0::Z0::A1::B1::D1::Y0::I2::J2::M2::N2::P2::E1::Q2::R2::S2::T2::U2::F1::V2::W2::X2::Y2::Z2::A3::B3::D3::E3::F3::G3::I3::J3::M3::G1::N3::P3::Q3::R3::S3::T3::U3::V3::W3::X3::J5::M5::N5::P5::Q5::R5::S5::A5::Y3::Z3::A4::I1::U5::V5::W5::X5::Y5::Z5::A6::B6::D6::E6::F6::G6::I6::J6::T5::B4::D4::E4::F4::G4::I4::B5::D5::E5::F5::G5::I5::M4::N4::P4::Q4::R4::S4::T4::U4::V4::W4::X4::Y4::Z4::J4::J1::M1::N1::P1::Q1::R1::S1::T1::U1::V1::W1::X1::Y1::Z1::A2::B2::D2::E2::F2::G2::[]) s =
 (C (.fn 217) [S0,A0,B0] s).bind fun L188=>manyK L188 fun v189 s190 =>
 ((dC H).extract v189 0).bind fun v191 =>
 ((dC H).extract v189 1).bind fun v192 =>
 ((dC H).bop .eql 230 v192 (.int .i64 2)).bind fun v193 =>
 exec prog false C n 211 none (cdp Try.f211 [1,1,0,0,0,1,1,1,1,1,0,1]) (S0::A0::B0::D0::undefV::undefV::undefV::undefV::J0::I0::G0::v191::v192::R0::T0::X0::V0::W0::U0::Z0::A1::B1::D1::Y0::I2::J2::M2::N2::P2::E1::Q2::R2::S2::T2::U2::F1::V2::W2::X2::Y2::Z2::A3::v189::S0::A0::B0::v189::v191::v192::v192::v193::N3::P3::Q3::R3::S3::T3::U3::V3::W3::X3::J5::M5::N5::P5::Q5::R5::S5::A5::Y3::Z3::A4::I1::U5::V5::W5::X5::Y5::Z5::A6::B6::D6::E6::F6::G6::I6::J6::T5::B4::D4::E4::F4::G4::I4::B5::D5::E5::F5::G5::I5::M4::N4::P4::Q4::R4::S4::T4::U4::V4::W4::X4::Y4::Z4::J4::J1::M1::N1::P1::Q1::R1::S1::T1::U1::V1::W1::X1::Y1::Z1::A2::B2::D2::E2::F2::G2::[]) s190 (kSeq prog false C n 211 none (cdp Try.f211 [1,1,0,0,0,1,1,1,1,1,1]) (kBlock 1 (kIter (scratch (cdp Try.f211 [1,1,0,0])) nx K))):=by kernel_rfl
  rw [h1]
  simp only [f211_c0,f211_c1,f211_c2,f211_c3,f211_c4,f211_c5,f211_c6,f211_c7,kBlock_n,f211_j5_b,f211_j4_b,f211_j3_b]
  first | done | (show _=f211_j2 (dOps (H:=H) prog) C n S0 A0 B0 D0 J0 I0 G0 R0 T0 X0 V0 W0 U0 (fun x s=>nx (f211_l0_m S0 x) s) (fun i x s=>K (.exit i) (f211_l0_m S0 x) s) (fun x s=>K .ret (f211_l0_m S0 x) s) s; kernel_rfl)
theorem f211_j1_b (nx:List Value→St H→Rs211 H) (K:Ex→List Value→St H→Rs211 H) (s:St H) :
 (kSeq prog false C n 211 none (cdp Try.f211 [1,1,0,0,0,1,1,1]) (kBlock 1 (kIter (scratch (cdp Try.f211 [1,1,0,0])) nx K))) .normal (S0::A0::B0::D0::undefV::undefV::undefV::undefV::J0::I0::G0::E0::F0::R0::T0::X0::V0::W0::U0::Z0::A1::B1::D1::Y0::I2::J2::M2::N2::P2::E1::Q2::R2::S2::T2::U2::F1::V2::W2::X2::Y2::Z2::A3::B3::D3::E3::F3::G3::I3::J3::M3::G1::N3::P3::Q3::R3::S3::T3::U3::V3::W3::X3::J5::M5::N5::P5::Q5::R5::S5::A5::Y3::Z3::A4::I1::U5::V5::W5::X5::Y5::Z5::A6::B6::D6::E6::F6::G6::I6::J6::T5::B4::D4::E4::F4::G4::I4::B5::D5::E5::F5::G5::I5::M4::N4::P4::Q4::R4::S4::T4::U4::V4::W4::X4::Y4::Z4::J4::J1::M1::N1::P1::Q1::R1::S1::T1::U1::V1::W1::X1::Y1::Z1::A2::B2::D2::E2::F2::G2::[]) s=f211_j1 (dOps (H:=H) prog) C n S0 A0 B0 D0 J0 I0 G0 R0 T0 X0 V0 W0 U0 (fun x s=>nx (f211_l0_m S0 x) s) (fun i x s=>K (.exit i) (f211_l0_m S0 x) s) (fun x s=>K .ret (f211_l0_m S0 x) s) s:=by
  have h1:(kSeq prog false C n 211 none (cdp Try.f211 [1,1,0,0,0,1,1,1]) (kBlock 1 (kIter (scratch (cdp Try.f211 [1,1,0,0])) nx K))) .normal (S0::A0::B0::D0::undefV::undefV::undefV::undefV::J0::I0::G0::E0::F0::R0::T0::X0::V0::W0::U0::Z0::A1::B1::D1::Y0::I2::J2::M2::N2::P2::E1::Q2::R2::S2::T2::U2::F1::V2::W2::X2::Y2::Z2::A3::B3::D3::E3::F3::G3::I3::J3::M3::G1::N3::P3::Q3::R3::S3::T3::U3::V3::W3::X3::J5::M5::N5::P5::Q5::R5::S5::A5::Y3::Z3::A4::I1::U5::V5::W5::X5::Y5::Z5::A6::B6::D6::E6::F6::G6::I6::J6::T5::B4::D4::E4::F4::G4::I4::B5::D5::E5::F5::G5::I5::M4::N4::P4::Q4::R4::S4::T4::U4::V4::W4::X4::Y4::Z4::J4::J1::M1::N1::P1::Q1::R1::S1::T1::U1::V1::W1::X1::Y1::Z1::A2::B2::D2::E2::F2::G2::[]) s =
 ((dC H).uop .not J0).bind fun v177 =>
 exec prog false C n 211 none (cdp Try.f211 [1,1,0,0,0,1,1,1,0,1]) (S0::A0::B0::D0::undefV::undefV::undefV::undefV::J0::I0::G0::E0::F0::R0::T0::X0::V0::W0::U0::Z0::A1::B1::D1::Y0::I2::J2::M2::N2::P2::E1::Q2::R2::S2::T2::J0::v177::V2::W2::X2::Y2::Z2::A3::B3::D3::E3::F3::G3::I3::J3::M3::G1::N3::P3::Q3::R3::S3::T3::U3::V3::W3::X3::J5::M5::N5::P5::Q5::R5::S5::A5::Y3::Z3::A4::I1::U5::V5::W5::X5::Y5::Z5::A6::B6::D6::E6::F6::G6::I6::J6::T5::B4::D4::E4::F4::G4::I4::B5::D5::E5::F5::G5::I5::M4::N4::P4::Q4::R4::S4::T4::U4::V4::W4::X4::Y4::Z4::J4::J1::M1::N1::P1::Q1::R1::S1::T1::U1::V1::W1::X1::Y1::Z1::A2::B2::D2::E2::F2::G2::[]) s (kSeq prog false C n 211 none (cdp Try.f211 [1,1,0,0,0,1,1,1,1]) (kBlock 1 (kIter (scratch (cdp Try.f211 [1,1,0,0])) nx K))):=by kernel_rfl
  rw [h1]
  simp only [f211_c0,f211_c1,f211_c2,f211_c3,f211_c4,f211_c5,f211_c6,f211_c7,kBlock_n,f211_j5_b,f211_j4_b,f211_j3_b,f211_j2_b]
  first | done | (show _=f211_j1 (dOps (H:=H) prog) C n S0 A0 B0 D0 J0 I0 G0 R0 T0 X0 V0 W0 U0 (fun x s=>nx (f211_l0_m S0 x) s) (fun i x s=>K (.exit i) (f211_l0_m S0 x) s) (fun x s=>K .ret (f211_l0_m S0 x) s) s; kernel_rfl)
theorem f211_j0_b (nx:List Value→St H→Rs211 H) (K:Ex→List Value→St H→Rs211 H) (s:St H) :
 (kSeq prog false C n 211 none (cdp Try.f211 [1,1,0,0,0,1,1]) (kBlock 1 (kIter (scratch (cdp Try.f211 [1,1,0,0])) nx K))) .normal (S0::A0::B0::D0::undefV::undefV::undefV::undefV::J0::I0::G0::E0::F0::R0::T0::X0::V0::W0::U0::Z0::A1::B1::D1::Y0::I2::J2::M2::N2::P2::E1::Q2::R2::S2::T2::U2::F1::V2::W2::X2::Y2::Z2::A3::B3::D3::E3::F3::G3::I3::J3::M3::G1::N3::P3::Q3::R3::S3::T3::U3::V3::W3::X3::J5::M5::N5::P5::Q5::R5::S5::A5::Y3::Z3::A4::I1::U5::V5::W5::X5::Y5::Z5::A6::B6::D6::E6::F6::G6::I6::J6::T5::B4::D4::E4::F4::G4::I4::B5::D5::E5::F5::G5::I5::M4::N4::P4::Q4::R4::S4::T4::U4::V4::W4::X4::Y4::Z4::J4::J1::M1::N1::P1::Q1::R1::S1::T1::U1::V1::W1::X1::Y1::Z1::A2::B2::D2::E2::F2::G2::[]) s=f211_j0 (dOps (H:=H) prog) C n S0 A0 B0 D0 J0 I0 G0 E0 F0 R0 T0 X0 V0 W0 U0 (fun x s=>nx (f211_l0_m S0 x) s) (fun i x s=>K (.exit i) (f211_l0_m S0 x) s) (fun x s=>K .ret (f211_l0_m S0 x) s) s:=by
  have h1:(kSeq prog false C n 211 none (cdp Try.f211 [1,1,0,0,0,1,1]) (kBlock 1 (kIter (scratch (cdp Try.f211 [1,1,0,0])) nx K))) .normal (S0::A0::B0::D0::undefV::undefV::undefV::undefV::J0::I0::G0::E0::F0::R0::T0::X0::V0::W0::U0::Z0::A1::B1::D1::Y0::I2::J2::M2::N2::P2::E1::Q2::R2::S2::T2::U2::F1::V2::W2::X2::Y2::Z2::A3::B3::D3::E3::F3::G3::I3::J3::M3::G1::N3::P3::Q3::R3::S3::T3::U3::V3::W3::X3::J5::M5::N5::P5::Q5::R5::S5::A5::Y3::Z3::A4::I1::U5::V5::W5::X5::Y5::Z5::A6::B6::D6::E6::F6::G6::I6::J6::T5::B4::D4::E4::F4::G4::I4::B5::D5::E5::F5::G5::I5::M4::N4::P4::Q4::R4::S4::T4::U4::V4::W4::X4::Y4::Z4::J4::J1::M1::N1::P1::Q1::R1::S1::T1::U1::V1::W1::X1::Y1::Z1::A2::B2::D2::E2::F2::G2::[]) s =
 ((dC H).bop .eql 3 D0 (.int .i64 0)).bind fun v168 =>
 exec prog false C n 211 none (cdp Try.f211 [1,1,0,0,0,1,1,0,1]) (S0::A0::B0::D0::undefV::undefV::undefV::undefV::J0::I0::G0::E0::F0::R0::T0::X0::V0::W0::U0::Z0::A1::B1::D1::Y0::I2::J2::M2::N2::D0::v168::Q2::R2::S2::T2::U2::F1::V2::W2::X2::Y2::Z2::A3::B3::D3::E3::F3::G3::I3::J3::M3::G1::N3::P3::Q3::R3::S3::T3::U3::V3::W3::X3::J5::M5::N5::P5::Q5::R5::S5::A5::Y3::Z3::A4::I1::U5::V5::W5::X5::Y5::Z5::A6::B6::D6::E6::F6::G6::I6::J6::T5::B4::D4::E4::F4::G4::I4::B5::D5::E5::F5::G5::I5::M4::N4::P4::Q4::R4::S4::T4::U4::V4::W4::X4::Y4::Z4::J4::J1::M1::N1::P1::Q1::R1::S1::T1::U1::V1::W1::X1::Y1::Z1::A2::B2::D2::E2::F2::G2::[]) s (kSeq prog false C n 211 none (cdp Try.f211 [1,1,0,0,0,1,1,1]) (kBlock 1 (kIter (scratch (cdp Try.f211 [1,1,0,0])) nx K))):=by kernel_rfl
  rw [h1]
  simp only [f211_c0,f211_c1,f211_c2,f211_c3,f211_c4,f211_c5,f211_c6,f211_c7,kBlock_n,f211_j5_b,f211_j4_b,f211_j3_b,f211_j2_b,f211_j1_b]
  first | done | (show _=f211_j0 (dOps (H:=H) prog) C n S0 A0 B0 D0 J0 I0 G0 E0 F0 R0 T0 X0 V0 W0 U0 (fun x s=>nx (f211_l0_m S0 x) s) (fun i x s=>K (.exit i) (f211_l0_m S0 x) s) (fun x s=>K .ret (f211_l0_m S0 x) s) s; kernel_rfl)
theorem f211_l0_b (C:OracleJ H) (n:Nat) (M6:Value) (x:Value×Value×Value×Value×Value×Value×Value×Value×Value×Value×Value×Value×Value×Value) (s:St H) (nx:List Value→St H→Rs211 H) (K:Ex→List Value→St H→Rs211 H) :
 exec prog false C n 211 none (cdp Try.f211 [1,1,0,0]) (f211_l0_m M6 x) s (kIter (scratch (cdp Try.f211 [1,1,0,0])) nx K)=f211_l0 (dOps (H:=H) prog) C n M6 (fun x s=>nx (f211_l0_m M6 x) s) (fun i x s=>K (.exit i) (f211_l0_m M6 x) s) (fun x s=>K .ret (f211_l0_m M6 x) s) x s:=by
  have h1:exec prog false C n 211 none (cdp Try.f211 [1,1,0,0]) (f211_l0_m M6 x) s (kIter (scratch (cdp Try.f211 [1,1,0,0])) nx K) =
 ((dC H).bop .sub 3 x.2.1 x.1).bind fun v158 =>
 ((dC H).bop .leq 3 v158 (.int .i64 12)).bind fun v159 =>
 exec prog false C n 211 none (cdp Try.f211 [1,1,0,0,0,1,0,1]) (M6::x.1::x.2.1::x.2.2.1::undefV::undefV::undefV::undefV::x.2.2.2.1::x.2.2.2.2.1::v158::x.2.2.2.2.2.2.1::x.2.2.2.2.2.2.2.1::x.2.2.2.2.2.2.2.2.1::x.2.2.2.2.2.2.2.2.2.1::x.2.2.2.2.2.2.2.2.2.2.1::x.2.2.2.2.2.2.2.2.2.2.2.1::x.2.2.2.2.2.2.2.2.2.2.2.2.1::x.2.2.2.2.2.2.2.2.2.2.2.2.2::x.2.1::x.1::v158::v158::v159::dc::dc::dc::dc::dc::dc::dc::dc::dc::dc::dc::dc::dc::dc::dc::dc::dc::dc::dc::dc::dc::dc::dc::dc::dc::dc::dc::dc::dc::dc::dc::dc::dc::dc::dc::dc::dc::dc::dc::dc::dc::dc::dc::dc::dc::dc::dc::dc::dc::dc::dc::dc::dc::dc::dc::dc::dc::dc::dc::dc::dc::dc::dc::dc::dc::dc::dc::dc::dc::dc::dc::dc::dc::dc::dc::dc::dc::dc::dc::dc::dc::dc::dc::dc::dc::dc::dc::dc::dc::dc::dc::dc::dc::dc::dc::dc::dc::dc::dc::dc::dc::dc::dc::dc::dc::dc::dc::dc::dc::dc::[]) s (kSeq prog false C n 211 none (cdp Try.f211 [1,1,0,0,0,1,1]) (kBlock 1 (kIter (scratch (cdp Try.f211 [1,1,0,0])) nx K))):=by kernel_rfl
  rw [h1]
  simp only [f211_c0,f211_c1,f211_c2,f211_c3,f211_c4,f211_c5,f211_c6,f211_c7,kBlock_n,f211_j5_b,f211_j4_b,f211_j3_b,f211_j2_b,f211_j1_b,f211_j0_b]
  first | done | (show _=f211_l0 (dOps (H:=H) prog) C n M6 (fun x s=>nx (f211_l0_m M6 x) s) (fun i x s=>K (.exit i) (f211_l0_m M6 x) s) (fun x s=>K .ret (f211_l0_m M6 x) s) x s; kernel_rfl)
theorem f211_l0_e (C:OracleJ H) (n:Nat) (M6:Value) (m:Nat) (x:Value×Value×Value×Value×Value×Value×Value×Value×Value×Value×Value×Value×Value×Value) (s:St H) (K:Ex→List Value→St H→Rs211 H) :
 iter (fun t s k=>exec prog false C n 211 none (cdp Try.f211 [1,1,0,0]) t s k) (scratch (cdp Try.f211 [1,1,0,0])) m (f211_l0_m M6 x) s K=iterS (f211_l0 (dOps (H:=H) prog) C n M6) (fun i x s=>K (.exit i) (f211_l0_m M6 x) s) (fun x s=>K .ret (f211_l0_m M6 x) s) m x s :=
   iter_eq (f211_l0_m M6) (f211_l0 (dOps (H:=H) prog) C n M6) (fun x s nx K=>f211_l0_b C n M6 x s nx K) K m x s
noncomputable def f211 (O:Ops H) (C:OracleJ H) (n:Nat) (a0 a1 a2 a3:Value) (s:St H):Rs211 H :=
 iterS (f211_l0 O C n a0 )
 (fun N6 x321 s322=>(bif Nat.beq N6 0 then
 some [(.tuple #[],s322)] else none))
 (fun x323 s324=>some [(.tuple #[],s324)]) n (a1,a2,a3,(.bool true),(.bool true),undefV,undefV,undefV,undefV,undefV,undefV,undefV,undefV,undefV) s
theorem f211_l0_k (C:OracleJ H) (n:Nat) (M6:Value) (i:Nat) (x:Value×Value×Value×Value×Value×Value×Value×Value×Value×Value×Value×Value×Value×Value) (s:St H):(kBlock 0 (kFun prog Try.f211)) (.exit i) (f211_l0_m M6 x) s =
 (bif Nat.beq i 0 then
 some [(.tuple #[],s)] else none):=by kernel_rfl
theorem f211_r (C:OracleJ H) (n:Nat) (a0 a1 a2 a3:Value) (s:St H):bodyD prog false C n 211 Try.f211 [a0,a1,a2,a3] s=f211 (dOps (H:=H) prog) C n a0 a1 a2 a3 s:=by
  have h1:bodyD prog false C n 211 Try.f211 [a0,a1,a2,a3] s =
 iter (fun t s k=>exec prog false C n 211 none (cdp Try.f211 [1,1,0,0]) t s k) (scratch (cdp Try.f211 [1,1,0,0])) n (f211_l0_m a0 (a1,a2,a3,(.bool true),(.bool true),undefV,undefV,undefV,undefV,undefV,undefV,undefV,undefV,undefV)) s (kBlock 0 (kFun prog Try.f211)):=by kernel_rfl
  rw [h1]
  simp only [f211_l0_e,f211_l0_k,f211_c0,f211_c1,f211_c2,f211_c3,f211_c4,f211_c5,f211_c6,f211_c7,kBlock_n,f211_j5_b,f211_j4_b,f211_j3_b,f211_j2_b,f211_j1_b,f211_j0_b]
  first | done | (show _=f211 (dOps (H:=H) prog) C n a0 a1 a2 a3 s; kernel_rfl)
end Go.Proofs.Ytmhmbmogodofeaa.S
