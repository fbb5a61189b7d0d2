import Derived.Test.YtmhmbmogodofeaaFy
import Derived.ProofKit
import Derived.Test.YtmhmbmogodofeaaRows
set_option linter.unusedVariables false
set_option maxRecDepth 100000
namespace Go.Proofs.Ytmhmbmogodofeaa.S
open Go.FS Go.RowKit
open Go.Proofs.Try (prog)
abbrev Rs15 (H:HeapI):=Option (List (Value×St H))
variable {H:HeapI}
variable (C:OracleJ H) (n:Nat) (F1 S0 N0 A0 T0 B0 G1 R0 J1 P0 M1 M0 N1 J0 P1 D0 Q1 E0 R1 F0 I1 G0 S1 I0 Q0 V0 W0 X0 Y0 Z0 A1 B1 D1 T1 U1 V1 W1 X1 Y1 Z1 A2 B2 D2 Y5 Z5 A6 B6 D6 E6 F6 G6 I6 J6 M6 N6 P6 E2 N3 P3 Q3 R3 S3 T3 U3 E1 Q6 X5 W5 U5 V3 W3 X3 Y3 Z3 A4 B4 D4 E4 F4 G4 I4 J4 M4 U0 V5 N4 P4 Q4 R4 S4 T4 U4 V4 W4 X4 Y4 Z4 A5 B5 D5 E5 F5 G5 I5 J5 M5 N5 P5 Q5 R5 S5 T5 F2 G2 I2 J2 M2 N2 P2 Q2 R2 S2 T2 U2 V2 W2 X2 Y2 Z2 A3 B3 D3 E3 F3 G3 I3 J3 M3 R6:Value)
noncomputable abbrev dB (H:HeapI):Ops H:=dOps (H:=H) prog
noncomputable def f15_j3 (O:Ops H) (C:OracleJ H) (n:Nat) (J0 D0 F0 I0 Q0 E1 U0:Value) (nx:(Value×Value×Value×Value×Value×Value×Value)→St H→Rs15 H) (kx:Nat→(Value×Value×Value×Value×Value×Value×Value)→St H→Rs15 H) (kr:(Value×Value×Value×Value×Value×Value×Value)→St H→Rs15 H) (s:St H):Rs15 H :=
 (O.bop .add 3 F0 (.int .i64 1)).bind fun v73 =>
 nx (J0,D0,v73,I0,Q0,E1,U0) s
noncomputable def f15_j2 (O:Ops H) (C:OracleJ H) (n:Nat) (A0 B0 J0 D0 E0 F0 G0 I0 Q0 E1 U0:Value) (nx:(Value×Value×Value×Value×Value×Value×Value)→St H→Rs15 H) (kx:Nat→(Value×Value×Value×Value×Value×Value×Value)→St H→Rs15 H) (kr:(Value×Value×Value×Value×Value×Value×Value)→St H→Rs15 H) (s:St H):Rs15 H :=
 (oneO C (.fn 55) [D0,E0] s).bind fun p42 =>
 (O.uop .not p42.1).bind fun v43 =>
 gd v43 (
 kr ((.bool false),D0,F0,I0,Q0,E1,U0) p42.2) (
 (O.fieldAddr 95 G0 3).bind fun v45 =>
 (O.load p42.2 70 v45).bind fun v46 =>
 (oneO C (.fn 48) [D0,v46,A0] p42.2).bind fun p47 =>
 (O.fieldAddr 95 G0 3).bind fun v48 =>
 (O.load p47.2 70 v48).bind fun v49 =>
 (oneO C (.fn 56) [E0,v49,A0] p47.2).bind fun p50 =>
 (O.bop .neq 4 p47.1 p50.1).bind fun v51 =>
 gd v51 (
 bif (eqO H (O.load p42.2 70 v48) v49&&(eqO H (O.load p47.2 70 v48) v49&&(true)))&&(true) then
 kr ((.bool false),D0,F0,I0,Q0,E1,U0) p50.2
 else none) (
 (O.fieldAddr 95 G0 3).bind fun v53 =>
 (O.load p50.2 70 v53).bind fun v54 =>
 (oneO C (.fn 50) [D0,v54] p50.2).bind fun p55 =>
 (O.fieldAddr 95 G0 3).bind fun v56 =>
 (O.load p55.2 70 v56).bind fun v57 =>
 (oneO C (.fn 57) [E0,v57] p55.2).bind fun p58 =>
 (oneO C (.fn 49) [p55.1,p58.1] p58.2).bind fun p59 =>
 (O.uop .not p59.1).bind fun v60 =>
 gd v60 (
 bif (eqO H (O.load p50.2 70 v56) v57&&(eqO H (O.load p55.2 70 v56) v57&&(true)))&&((eqO H (O.load p42.2 70 v48) v49&&(eqO H (O.load p47.2 70 v48) v49&&(true)))&&(true)) then
 kr ((.bool false),D0,F0,I0,Q0,E1,U0) p59.2
 else none) (
 (O.fieldAddr 95 G0 3).bind fun v62 =>
 (O.load p59.2 70 v62).bind fun v63 =>
 (O.buildSlice false p59.2 89 0 []).bind fun p64 =>
 (O.append false p64.2 89 89 p64.1 B0).bind fun p65 =>
 (oneO C (.fn 59) [D0,v63,p65.1] p65.2).bind fun p66 =>
 (O.fieldAddr 95 G0 3).bind fun v67 =>
 (O.load p66.2 70 v67).bind fun v68 =>
 (oneO C (.fn 60) [E0,v68,B0] p66.2).bind fun p69 =>
 (oneO C (.fn 58) [p66.1,p69.1] p69.2).bind fun p70 =>
 (O.uop .not p70.1).bind fun v71 =>
 bif (eqO H (O.load p59.2 70 v67) v68&&(eqO H (O.load p65.2 70 v67) v68&&(eqO H (O.load p66.2 70 v67) v68&&(true))))&&((eqO H (O.load p59.2 70 v62) v63&&(eqO H (O.load p65.2 70 v62) v63&&(true)))&&((eqO H (O.load p50.2 70 v56) v57&&(eqO H (O.load p55.2 70 v56) v57&&(true)))&&((eqO H (O.load p42.2 70 v48) v49&&(eqO H (O.load p47.2 70 v48) v49&&(true)))&&(true)))) then
 (O.boolO v71).bind fun b72=>cond b72 (
 kr ((.bool false),D0,F0,I0,Q0,E1,U0) p70.2) (
 f15_j3 O C n J0 D0 F0 I0 Q0 E1 U0 nx kx kr p70.2)
 else none) (
 none)) (
 none)) (
 none)
noncomputable def f15_j1 (O:Ops H) (C:OracleJ H) (n:Nat) (A0 B0 J0 D0 E0 F0 G0 I0 Q0 E2 E1 U0:Value) (nx:(Value×Value×Value×Value×Value×Value×Value)→St H→Rs15 H) (kx:Nat→(Value×Value×Value×Value×Value×Value×Value)→St H→Rs15 H) (kr:(Value×Value×Value×Value×Value×Value×Value)→St H→Rs15 H) (s:St H):Rs15 H :=
 (O.boolO E1).bind fun b31=>cond b31 (
 (O.fieldAddr 95 G0 1).bind fun v32 =>
 (O.load s 69 v32).bind fun v33 =>
 (O.buildSlice false s 67 0 []).bind fun p34 =>
 (O.append false p34.2 67 67 p34.1 I0).bind fun p35 =>
 (oneO C (.fn 47) [D0,v33,p35.1] p35.2).bind fun p36 =>
 (O.fieldAddr 95 G0 1).bind fun v37 =>
 (O.load p36.2 69 v37).bind fun v38 =>
 (oneO C (.fn 51) [E0,v38,I0] p36.2).bind fun p39 =>
 (O.bop .neq 26 p36.1 p39.1).bind fun v40 =>
 bif (eqO H (O.load s 69 v37) v38&&(eqO H (O.load p35.2 69 v37) v38&&(eqO H (O.load p36.2 69 v37) v38&&(true))))&&((eqO H (O.load s 69 v32) v33&&(eqO H (O.load p35.2 69 v32) v33&&(true)))&&(true)) then
 (O.boolO v40).bind fun b41=>cond b41 (
 kr ((.bool false),D0,F0,I0,Q0,E1,U0) p39.2) (
 f15_j2 O C n A0 B0 J0 D0 E0 F0 G0 I0 Q0 E1 U0 nx kx kr p39.2)
 else none) (
 (O.bop .eql 3 E2 (.int .i64 5)).bind fun v74 =>
 (O.boolO v74).bind fun b75=>cond b75 (
 (O.fieldAddr 95 G0 3).bind fun v76 =>
 (O.load s 70 v76).bind fun v77 =>
 (C (.fn 52) [D0,v77] s).bind fun L78=>manyK L78 fun v79 s80 =>
 (O.fieldAddr 95 G0 3).bind fun v81 =>
 (O.load s80 70 v81).bind fun v82 =>
 (C (.fn 53) [E0,v82] s80).bind fun L83=>manyK L83 fun v84 s85 =>
 f15_j2 O C n A0 B0 J0 D0 E0 F0 G0 I0 Q0 E1 v74 nx kx kr s85) (
 (C (.fn 54) [D0] s).bind fun L86=>manyK L86 fun v87 s88 =>
 (O.build 69 [(0,(Value.int IntKind.i64 1)),(1,(Value.int IntKind.i64 2))]).bind fun v89 =>
 (O.buildSlice false s88 67 1 [(0,(Value.int IntKind.u64 77))]).bind fun p90 =>
 (C (.fn 47) [D0,v89,p90.1] p90.2).bind fun L91=>manyK L91 fun v92 s93 =>
 f15_j2 O C n A0 B0 J0 v87 E0 F0 G0 I0 D0 E1 v74 nx kx kr s93))
noncomputable def f15_j0 (O:Ops H) (C:OracleJ H) (n:Nat) (S0 A0 B0 J0 D0 E0 F0 Q0 U0:Value) (nx:(Value×Value×Value×Value×Value×Value×Value)→St H→Rs15 H) (kx:Nat→(Value×Value×Value×Value×Value×Value×Value)→St H→Rs15 H) (kr:(Value×Value×Value×Value×Value×Value×Value)→St H→Rs15 H) (s:St H):Rs15 H :=
 (O.indexAddr 88 S0 F0).bind fun v13 =>
 (O.load s 95 v13).bind fun v14 =>
 (O.alloc s 95).bind fun p15 =>
 (O.store p15.2 95 p15.1 v14).bind fun s16 =>
 (O.fieldAddr 95 p15.1 2).bind fun v17 =>
 (O.load s16 67 v17).bind fun v18 =>
 (O.fieldAddr 95 p15.1 2).bind fun v19 =>
 (O.load s16 67 v19).bind fun v20 =>
 (O.len s16 67 v20).bind fun v21 =>
 (O.minO v21 [(Value.int IntKind.i64 6)]).bind fun v22 =>
 (O.slc s16 67 v18 none (some v22) none).bind fun v23 =>
 (O.fieldAddr 95 p15.1 0).bind fun v24 =>
 (O.load s16 3 v24).bind fun v25 =>
 (C (.fn 20) [v25,(Value.int IntKind.i64 7)] s16).bind fun L26=>manyK L26 fun v27 s28 =>
 (O.bop .eql 3 v27 (.int .i64 0)).bind fun v29 =>
 (O.boolO v29).bind fun b30=>cond b30 (
 f15_j1 O C n A0 B0 J0 D0 E0 F0 p15.1 v23 Q0 v27 v29 U0 nx kx kr s28) (
 (O.bop .eql 3 v27 (.int .i64 1)).bind fun v94 =>
 (O.boolO v94).bind fun b95=>cond b95 (
 f15_j1 O C n A0 B0 J0 D0 E0 F0 p15.1 v23 Q0 v27 v94 U0 nx kx kr s28) (
 (O.bop .eql 3 v27 (.int .i64 2)).bind fun v96 =>
 (O.boolO v96).bind fun b97=>cond b97 (
 f15_j1 O C n A0 B0 J0 D0 E0 F0 p15.1 v23 Q0 v27 v96 U0 nx kx kr s28) (
 (O.bop .eql 3 v27 (.int .i64 3)).bind fun v98 =>
 (O.boolO v98).bind fun b99=>cond b99 (
 f15_j1 O C n A0 B0 J0 D0 E0 F0 p15.1 v23 Q0 v27 v98 U0 nx kx kr s28) (
 (O.bop .eql 3 v27 (.int .i64 4)).bind fun v100 =>
 f15_j1 O C n A0 B0 J0 D0 E0 F0 p15.1 v23 Q0 v27 v100 U0 nx kx kr s28))))
def f15_l0_m (F1 N0 T0 G1 J1 M1 N1 P1 Q1 R1 I1 S1:Value) (x:Value×Value×Value×Value×Value×Value×Value):List Value:=[F1,N0,T0,undefV,undefV,undefV,x.1,x.2.1,G1,x.2.2.1,dc,x.2.2.2.1,x.2.2.2.2.1,J1,M1,N1,P1,Q1,R1,I1,S1,dc,dc,dc,dc,dc,dc,dc,dc,dc,dc,dc,dc,dc,dc,dc,dc,dc,dc,dc,dc,dc,dc,dc,dc,dc,dc,dc,dc,dc,dc,dc,x.2.2.2.2.2.1,dc,dc,dc,dc,dc,dc,dc,dc,dc,dc,dc,dc,dc,dc,dc,dc,dc,dc,x.2.2.2.2.2.2,dc,dc,dc,dc,dc,dc,dc,dc,dc,dc,dc,dc,dc,dc,dc,dc,dc,dc,dc,dc,dc,dc,dc,dc,dc,dc,dc,dc,dc,dc,dc,dc,dc,dc,dc,dc,dc,dc,dc,dc,dc,dc,dc,dc,dc,dc,dc,dc,dc,dc,dc,dc,dc,dc,undefV]
noncomputable def f15_l0 (O:Ops H) (C:OracleJ H) (n:Nat) (F1 N0 T0 G1:Value) (nx:(Value×Value×Value×Value×Value×Value×Value)→St H→Rs15 H) (kx:Nat→(Value×Value×Value×Value×Value×Value×Value)→St H→Rs15 H) (kr:(Value×Value×Value×Value×Value×Value×Value)→St H→Rs15 H) (x:Value×Value×Value×Value×Value×Value×Value) (s:St H):Rs15 H :=
 (O.len s 88 F1).bind fun v9 =>
 (O.bop .lss 3 x.2.2.1 v9).bind fun v10 =>
 gd v10 (
 (O.bop .lss 3 x.2.2.1 (.int .i64 40)).bind fun v11 =>
 (O.boolO v11).bind fun b12=>cond b12 (
 f15_j0 O C n F1 N0 T0 x.1 x.2.1 G1 x.2.2.1 x.2.2.2.2.1 x.2.2.2.2.2.2 nx kx kr s) (
 kx 0 (x.1,x.2.1,x.2.2.1,x.2.2.2.1,x.2.2.2.2.1,x.2.2.2.2.2.1,x.2.2.2.2.2.2) s)) (
 kx 0 (x.1,x.2.1,x.2.2.1,x.2.2.2.1,x.2.2.2.2.1,x.2.2.2.2.2.1,x.2.2.2.2.2.2) s) (
 none)
theorem f15_j3_b (nx:List Value→St H→Rs15 H) (K:Ex→List Value→St H→Rs15 H) (s:St H) :
 (kSeq prog false C n 15 none (cdp Try.f15 [1,1,1,0,1,0,0,1,1]) (kIter (scratch (cdp Try.f15 [1,1,1,0,1,0,0])) nx K)) .normal (S0::A0::B0::undefV::undefV::undefV::J0::D0::E0::F0::G0::I0::Q0::V0::W0::X0::Y0::Z0::A1::B1::D1::T1::U1::V1::W1::X1::Y1::Z1::A2::B2::D2::Y5::Z5::A6::B6::D6::E6::F6::G6::I6::J6::M6::N6::P6::E2::N3::P3::Q3::R3::S3::T3::U3::E1::Q6::X5::W5::U5::V3::W3::X3::Y3::Z3::A4::B4::D4::E4::F4::G4::I4::J4::M4::U0::V5::N4::P4::Q4::R4::S4::T4::U4::V4::W4::X4::Y4::Z4::A5::B5::D5::E5::F5::G5::I5::J5::M5::N5::P5::Q5::R5::S5::T5::F2::G2::I2::J2::M2::N2::P2::Q2::R2::S2::T2::U2::V2::W2::X2::Y2::Z2::A3::B3::D3::E3::F3::G3::I3::J3::M3::undefV::[]) s=f15_j3 (dOps (H:=H) prog) C n J0 D0 F0 I0 Q0 E1 U0 (fun x s=>nx (f15_l0_m S0 A0 B0 E0 V0 W0 X0 Y0 Z0 A1 B1 D1 x) s) (fun i x s=>K (.exit i) (f15_l0_m S0 A0 B0 E0 V0 W0 X0 Y0 Z0 A1 B1 D1 x) s) (fun x s=>K .ret (f15_l0_m S0 A0 B0 E0 V0 W0 X0 Y0 Z0 A1 B1 D1 x) s) s:=by kernel_rfl
theorem f15_j2_b (nx:List Value→St H→Rs15 H) (K:Ex→List Value→St H→Rs15 H) (s:St H) :
 (kSeq prog false C n 15 none (cdp Try.f15 [1,1,1,0,1,0,0,1,0,0,1,1,1]) (kBlock 1 (kSeq prog false C n 15 none (cdp Try.f15 [1,1,1,0,1,0,0,1,1]) (kIter (scratch (cdp Try.f15 [1,1,1,0,1,0,0])) nx K)))) .normal (S0::A0::B0::undefV::undefV::undefV::J0::D0::E0::F0::G0::I0::Q0::V0::W0::X0::Y0::Z0::A1::B1::D1::T1::U1::V1::W1::X1::Y1::Z1::A2::B2::D2::Y5::Z5::A6::B6::D6::E6::F6::G6::I6::J6::M6::N6::P6::E2::N3::P3::Q3::R3::S3::T3::U3::E1::Q6::X5::W5::U5::V3::W3::X3::Y3::Z3::A4::B4::D4::E4::F4::G4::I4::J4::M4::U0::V5::N4::P4::Q4::R4::S4::T4::U4::V4::W4::X4::Y4::Z4::A5::B5::D5::E5::F5::G5::I5::J5::M5::N5::P5::Q5::R5::S5::T5::F2::G2::I2::J2::M2::N2::P2::Q2::R2::S2::T2::U2::V2::W2::X2::Y2::Z2::A3::B3::D3::E3::F3::G3::I3::J3::M3::undefV::[]) s=f15_j2 (dOps (H:=H) prog) C n A0 B0 J0 D0 E0 F0 G0 I0 Q0 E1 U0 (fun x s=>nx (f15_l0_m S0 A0 B0 E0 V0 W0 X0 Y0 Z0 A1 B1 D1 x) s) (fun i x s=>K (.exit i) (f15_l0_m S0 A0 B0 E0 V0 W0 X0 Y0 Z0 A1 B1 D1 x) s) (fun x s=>K .ret (f15_l0_m S0 A0 B0 E0 V0 W0 X0 Y0 Z0 A1 B1 D1 x) s) s:=by
  have h1:(kSeq prog false C n 15 none (cdp Try.f15 [1,1,1,0,1,0,0,1,0,0,1,1,1]) (kBlock 1 (kSeq prog false C n 15 none (cdp Try.f15 [1,1,1,0,1,0,0,1,1]) (kIter (scratch (cdp Try.f15 [1,1,1,0,1,0,0])) nx K)))) .normal (S0::A0::B0::undefV::undefV::undefV::J0::D0::E0::F0::G0::I0::Q0::V0::W0::X0::Y0::Z0::A1::B1::D1::T1::U1::V1::W1::X1::Y1::Z1::A2::B2::D2::Y5::Z5::A6::B6::D6::E6::F6::G6::I6::J6::M6::N6::P6::E2::N3::P3::Q3::R3::S3::T3::U3::E1::Q6::X5::W5::U5::V3::W3::X3::Y3::Z3::A4::B4::D4::E4::F4::G4::I4::J4::M4::U0::V5::N4::P4::Q4::R4::S4::T4::U4::V4::W4::X4::Y4::Z4::A5::B5::D5::E5::F5::G5::I5::J5::M5::N5::P5::Q5::R5::S5::T5::F2::G2::I2::J2::M2::N2::P2::Q2::R2::S2::T2::U2::V2::W2::X2::Y2::Z2::A3::B3::D3::E3::F3::G3::I3::J3::M3::undefV::[]) s =
 (oneO C (.fn 55) [D0,E0] s).bind fun p135 =>
 ((dB H).uop .not p135.1).bind fun v136 =>
 gd v136 (
 K .ret (f15_l0_m S0 A0 B0 E0 V0 W0 X0 Y0 Z0 A1 B1 D1 ((.bool false),D0,F0,I0,Q0,E1,U0)) p135.2) (
 ((dB H).fieldAddr 95 G0 3).bind fun v138 =>
 ((dB H).load p135.2 70 v138).bind fun v139 =>
 (oneO C (.fn 48) [D0,v139,A0] p135.2).bind fun p140 =>
 ((dB H).fieldAddr 95 G0 3).bind fun v141 =>
 ((dB H).load p140.2 70 v141).bind fun v142 =>
 (oneO C (.fn 56) [E0,v142,A0] p140.2).bind fun p143 =>
 ((dB H).bop .neq 4 p140.1 p143.1).bind fun v144 =>
 gd v144 (
 bif (eqO H ((dB H).load p135.2 70 v141) v142&&(eqO H ((dB H).load p140.2 70 v141) v142&&(true)))&&(true) then
 K .ret (f15_l0_m S0 A0 B0 E0 V0 W0 X0 Y0 Z0 A1 B1 D1 ((.bool false),D0,F0,I0,Q0,E1,U0)) p143.2
 else none) (
 ((dB H).fieldAddr 95 G0 3).bind fun v146 =>
 ((dB H).load p143.2 70 v146).bind fun v147 =>
 (oneO C (.fn 50) [D0,v147] p143.2).bind fun p148 =>
 ((dB H).fieldAddr 95 G0 3).bind fun v149 =>
 ((dB H).load p148.2 70 v149).bind fun v150 =>
 (oneO C (.fn 57) [E0,v150] p148.2).bind fun p151 =>
 (oneO C (.fn 49) [p148.1,p151.1] p151.2).bind fun p152 =>
 ((dB H).uop .not p152.1).bind fun v153 =>
 gd v153 (
 bif (eqO H ((dB H).load p143.2 70 v149) v150&&(eqO H ((dB H).load p148.2 70 v149) v150&&(true)))&&((eqO H ((dB H).load p135.2 70 v141) v142&&(eqO H ((dB H).load p140.2 70 v141) v142&&(true)))&&(true)) then
 K .ret (f15_l0_m S0 A0 B0 E0 V0 W0 X0 Y0 Z0 A1 B1 D1 ((.bool false),D0,F0,I0,Q0,E1,U0)) p152.2
 else none) (
 ((dB H).fieldAddr 95 G0 3).bind fun v155 =>
 ((dB H).load p152.2 70 v155).bind fun v156 =>
 ((dB H).buildSlice false p152.2 89 0 []).bind fun p157 =>
 ((dB H).append false p157.2 89 89 p157.1 B0).bind fun p158 =>
 (oneO C (.fn 59) [D0,v156,p158.1] p158.2).bind fun p159 =>
 ((dB H).fieldAddr 95 G0 3).bind fun v160 =>
 ((dB H).load p159.2 70 v160).bind fun v161 =>
 (oneO C (.fn 60) [E0,v161,B0] p159.2).bind fun p162 =>
 (oneO C (.fn 58) [p159.1,p162.1] p162.2).bind fun p163 =>
 ((dB H).uop .not p163.1).bind fun v164 =>
 bif (eqO H ((dB H).load p152.2 70 v160) v161&&(eqO H ((dB H).load p158.2 70 v160) v161&&(eqO H ((dB H).load p159.2 70 v160) v161&&(true))))&&((eqO H ((dB H).load p152.2 70 v155) v156&&(eqO H ((dB H).load p158.2 70 v155) v156&&(true)))&&((eqO H ((dB H).load p143.2 70 v149) v150&&(eqO H ((dB H).load p148.2 70 v149) v150&&(true)))&&((eqO H ((dB H).load p135.2 70 v141) v142&&(eqO H ((dB H).load p140.2 70 v141) v142&&(true)))&&(true)))) then
 ((dB H).boolO v164).bind fun b165=>cond b165 (
 K .ret (f15_l0_m S0 A0 B0 E0 V0 W0 X0 Y0 Z0 A1 B1 D1 ((.bool false),D0,F0,I0,Q0,E1,U0)) p163.2) (
 (kSeq prog false C n 15 none (cdp Try.f15 [1,1,1,0,1,0,0,1,1]) (kIter (scratch (cdp Try.f15 [1,1,1,0,1,0,0])) nx K)) .normal (S0::A0::B0::undefV::undefV::undefV::J0::D0::E0::F0::G0::I0::Q0::V0::W0::X0::Y0::Z0::A1::B1::D1::T1::U1::V1::W1::X1::Y1::Z1::A2::B2::D2::Y5::Z5::A6::B6::D6::E6::F6::G6::I6::J6::M6::N6::P6::E2::N3::P3::Q3::R3::S3::T3::U3::E1::Q6::X5::W5::U5::V3::W3::X3::Y3::Z3::A4::B4::D4::E4::F4::G4::I4::J4::M4::U0::V5::N4::P4::Q4::R4::S4::T4::U4::V4::D0::E0::p135.1::v136::(.bool false)::D0::v138::v139::A0::p140.1::E0::v141::v142::A0::p143.1::v144::v144::(.bool false)::D0::v146::v147::p148.1::E0::v149::v150::p151.1::p152.1::v153::v153::(.bool false)::D0::v155::v156::p157.1::B0::p158.1::p159.1::E0::v160::v161::B0::p162.1::p163.1::v164::v164::undefV::[]) p163.2)
 else none) (
 none)) (
 none)) (
 none):=by kernel_rfl
  rw [h1]
  simp only [f15_j3_b]
  first | done | (show _=f15_j2 (dOps (H:=H) prog) C n A0 B0 J0 D0 E0 F0 G0 I0 Q0 E1 U0 (fun x s=>nx (f15_l0_m S0 A0 B0 E0 V0 W0 X0 Y0 Z0 A1 B1 D1 x) s) (fun i x s=>K (.exit i) (f15_l0_m S0 A0 B0 E0 V0 W0 X0 Y0 Z0 A1 B1 D1 x) s) (fun x s=>K .ret (f15_l0_m S0 A0 B0 E0 V0 W0 X0 Y0 Z0 A1 B1 D1 x) s) s; kernel_rfl)
theorem f15_j1_b (nx:List Value→St H→Rs15 H) (K:Ex→List Value→St H→Rs15 H) (s:St H) :
 (kSeq prog false C n 15 none (cdp Try.f15 [1,1,1,0,1,0,0,1,0,0,1,1,0,1,0,1]) (kBlock 2 (kSeq prog false C n 15 none (cdp Try.f15 [1,1,1,0,1,0,0,1,0,0,1,1,1]) (kBlock 1 (kSeq prog false C n 15 none (cdp Try.f15 [1,1,1,0,1,0,0,1,1]) (kIter (scratch (cdp Try.f15 [1,1,1,0,1,0,0])) nx K)))))) .normal (S0::A0::B0::undefV::undefV::undefV::J0::D0::E0::F0::G0::I0::Q0::V0::W0::X0::Y0::Z0::A1::B1::D1::T1::U1::V1::W1::X1::Y1::Z1::A2::B2::D2::Y5::Z5::A6::B6::D6::E6::F6::G6::I6::J6::M6::N6::P6::E2::N3::P3::Q3::R3::S3::T3::U3::E1::Q6::X5::W5::U5::V3::W3::X3::Y3::Z3::A4::B4::D4::E4::F4::G4::I4::J4::M4::U0::V5::N4::P4::Q4::R4::S4::T4::U4::V4::W4::X4::Y4::Z4::A5::B5::D5::E5::F5::G5::I5::J5::M5::N5::P5::Q5::R5::S5::T5::F2::G2::I2::J2::M2::N2::P2::Q2::R2::S2::T2::U2::V2::W2::X2::Y2::Z2::A3::B3::D3::E3::F3::G3::I3::J3::M3::undefV::[]) s=f15_j1 (dOps (H:=H) prog) C n A0 B0 J0 D0 E0 F0 G0 I0 Q0 E2 E1 U0 (fun x s=>nx (f15_l0_m S0 A0 B0 E0 V0 W0 X0 Y0 Z0 A1 B1 D1 x) s) (fun i x s=>K (.exit i) (f15_l0_m S0 A0 B0 E0 V0 W0 X0 Y0 Z0 A1 B1 D1 x) s) (fun x s=>K .ret (f15_l0_m S0 A0 B0 E0 V0 W0 X0 Y0 Z0 A1 B1 D1 x) s) s:=by
  have h1:(kSeq prog false C n 15 none (cdp Try.f15 [1,1,1,0,1,0,0,1,0,0,1,1,0,1,0,1]) (kBlock 2 (kSeq prog false C n 15 none (cdp Try.f15 [1,1,1,0,1,0,0,1,0,0,1,1,1]) (kBlock 1 (kSeq prog false C n 15 none (cdp Try.f15 [1,1,1,0,1,0,0,1,1]) (kIter (scratch (cdp Try.f15 [1,1,1,0,1,0,0])) nx K)))))) .normal (S0::A0::B0::undefV::undefV::undefV::J0::D0::E0::F0::G0::I0::Q0::V0::W0::X0::Y0::Z0::A1::B1::D1::T1::U1::V1::W1::X1::Y1::Z1::A2::B2::D2::Y5::Z5::A6::B6::D6::E6::F6::G6::I6::J6::M6::N6::P6::E2::N3::P3::Q3::R3::S3::T3::U3::E1::Q6::X5::W5::U5::V3::W3::X3::Y3::Z3::A4::B4::D4::E4::F4::G4::I4::J4::M4::U0::V5::N4::P4::Q4::R4::S4::T4::U4::V4::W4::X4::Y4::Z4::A5::B5::D5::E5::F5::G5::I5::J5::M5::N5::P5::Q5::R5::S5::T5::F2::G2::I2::J2::M2::N2::P2::Q2::R2::S2::T2::U2::V2::W2::X2::Y2::Z2::A3::B3::D3::E3::F3::G3::I3::J3::M3::undefV::[]) s =
 ((dB H).boolO E1).bind fun b124=>cond b124 (
 ((dB H).fieldAddr 95 G0 1).bind fun v125 =>
 ((dB H).load s 69 v125).bind fun v126 =>
 ((dB H).buildSlice false s 67 0 []).bind fun p127 =>
 ((dB H).append false p127.2 67 67 p127.1 I0).bind fun p128 =>
 (oneO C (.fn 47) [D0,v126,p128.1] p128.2).bind fun p129 =>
 ((dB H).fieldAddr 95 G0 1).bind fun v130 =>
 ((dB H).load p129.2 69 v130).bind fun v131 =>
 (oneO C (.fn 51) [E0,v131,I0] p129.2).bind fun p132 =>
 ((dB H).bop .neq 26 p129.1 p132.1).bind fun v133 =>
 bif (eqO H ((dB H).load s 69 v130) v131&&(eqO H ((dB H).load p128.2 69 v130) v131&&(eqO H ((dB H).load p129.2 69 v130) v131&&(true))))&&((eqO H ((dB H).load s 69 v125) v126&&(eqO H ((dB H).load p128.2 69 v125) v126&&(true)))&&(true)) then
 ((dB H).boolO v133).bind fun b134=>cond b134 (
 K .ret (f15_l0_m S0 A0 B0 E0 V0 W0 X0 Y0 Z0 A1 B1 D1 ((.bool false),D0,F0,I0,Q0,E1,U0)) p132.2) (
 (kSeq prog false C n 15 none (cdp Try.f15 [1,1,1,0,1,0,0,1,0,0,1,1,1]) (kBlock 1 (kSeq prog false C n 15 none (cdp Try.f15 [1,1,1,0,1,0,0,1,1]) (kIter (scratch (cdp Try.f15 [1,1,1,0,1,0,0])) nx K)))) .normal (S0::A0::B0::undefV::undefV::undefV::J0::D0::E0::F0::G0::I0::Q0::V0::W0::X0::Y0::Z0::A1::B1::D1::T1::U1::V1::W1::X1::Y1::Z1::A2::B2::D2::Y5::Z5::A6::B6::D6::E6::F6::G6::I6::J6::M6::N6::P6::E2::N3::P3::Q3::R3::S3::T3::U3::E1::Q6::X5::W5::U5::V3::D0::v125::v126::p127.1::I0::p128.1::p129.1::E0::v130::v131::I0::p132.1::v133::U0::V5::N4::P4::Q4::R4::S4::T4::U4::V4::W4::X4::Y4::Z4::A5::B5::D5::E5::F5::G5::I5::J5::M5::N5::P5::Q5::R5::S5::T5::F2::G2::I2::J2::M2::N2::P2::Q2::R2::S2::T2::U2::V2::W2::X2::Y2::Z2::A3::B3::D3::E3::F3::G3::I3::J3::M3::undefV::[]) p132.2)
 else none) (
 ((dB H).bop .eql 3 E2 (.int .i64 5)).bind fun v167 =>
 ((dB H).boolO v167).bind fun b168=>cond b168 (
 ((dB H).fieldAddr 95 G0 3).bind fun v169 =>
 ((dB H).load s 70 v169).bind fun v170 =>
 (C (.fn 52) [D0,v170] s).bind fun L171=>manyK L171 fun v172 s173 =>
 ((dB H).fieldAddr 95 G0 3).bind fun v174 =>
 ((dB H).load s173 70 v174).bind fun v175 =>
 (C (.fn 53) [E0,v175] s173).bind fun L176=>manyK L176 fun v177 s178 =>
 (kSeq prog false C n 15 none (cdp Try.f15 [1,1,1,0,1,0,0,1,0,0,1,1,1]) (kBlock 1 (kSeq prog false C n 15 none (cdp Try.f15 [1,1,1,0,1,0,0,1,1]) (kIter (scratch (cdp Try.f15 [1,1,1,0,1,0,0])) nx K)))) .normal (S0::A0::B0::undefV::undefV::undefV::J0::D0::E0::F0::G0::I0::Q0::V0::W0::X0::Y0::Z0::A1::B1::D1::T1::U1::V1::W1::X1::Y1::Z1::A2::B2::D2::Y5::Z5::A6::B6::D6::E6::F6::G6::I6::J6::M6::N6::P6::E2::N3::P3::Q3::R3::S3::T3::U3::E1::Q6::X5::W5::U5::V3::W3::X3::Y3::Z3::A4::B4::D4::E4::F4::G4::I4::J4::M4::v167::v167::D0::v169::v170::v172::E0::v174::v175::v177::W4::X4::Y4::Z4::A5::B5::D5::E5::F5::G5::I5::J5::M5::N5::P5::Q5::R5::S5::T5::F2::G2::I2::J2::M2::N2::P2::Q2::R2::S2::T2::U2::V2::W2::X2::Y2::Z2::A3::B3::D3::E3::F3::G3::I3::J3::M3::undefV::[]) s178) (
 (C (.fn 54) [D0] s).bind fun L179=>manyK L179 fun v180 s181 =>
 ((dB H).build 69 [(0,(Value.int IntKind.i64 1)),(1,(Value.int IntKind.i64 2))]).bind fun v182 =>
 ((dB H).buildSlice false s181 67 1 [(0,(Value.int IntKind.u64 77))]).bind fun p183 =>
 (C (.fn 47) [D0,v182,p183.1] p183.2).bind fun L184=>manyK L184 fun v185 s186 =>
 (kSeq prog false C n 15 none (cdp Try.f15 [1,1,1,0,1,0,0,1,0,0,1,1,1]) (kBlock 1 (kSeq prog false C n 15 none (cdp Try.f15 [1,1,1,0,1,0,0,1,1]) (kIter (scratch (cdp Try.f15 [1,1,1,0,1,0,0])) nx K)))) .normal (S0::A0::B0::undefV::undefV::undefV::J0::v180::E0::F0::G0::I0::D0::V0::W0::X0::Y0::Z0::A1::B1::D1::T1::U1::V1::W1::X1::Y1::Z1::A2::B2::D2::Y5::Z5::A6::B6::D6::E6::F6::G6::I6::J6::M6::N6::P6::E2::D0::D0::v180::D0::v182::p183.1::v185::E1::Q6::X5::W5::U5::V3::W3::X3::Y3::Z3::A4::B4::D4::E4::F4::G4::I4::J4::M4::v167::v167::N4::P4::Q4::R4::S4::T4::U4::V4::W4::X4::Y4::Z4::A5::B5::D5::E5::F5::G5::I5::J5::M5::N5::P5::Q5::R5::S5::T5::F2::G2::I2::J2::M2::N2::P2::Q2::R2::S2::T2::U2::V2::W2::X2::Y2::Z2::A3::B3::D3::E3::F3::G3::I3::J3::M3::undefV::[]) s186)):=by kernel_rfl
  rw [h1]
  simp only [f15_j2_b,f15_j3_b]
  first | done | (show _=f15_j1 (dOps (H:=H) prog) C n A0 B0 J0 D0 E0 F0 G0 I0 Q0 E2 E1 U0 (fun x s=>nx (f15_l0_m S0 A0 B0 E0 V0 W0 X0 Y0 Z0 A1 B1 D1 x) s) (fun i x s=>K (.exit i) (f15_l0_m S0 A0 B0 E0 V0 W0 X0 Y0 Z0 A1 B1 D1 x) s) (fun x s=>K .ret (f15_l0_m S0 A0 B0 E0 V0 W0 X0 Y0 Z0 A1 B1 D1 x) s) s; kernel_rfl)
theorem f15_j0_b (nx:List Value→St H→Rs15 H) (K:Ex→List Value→St H→Rs15 H) (s:St H) :
 (kSeq prog false C n 15 none (cdp Try.f15 [1,1,1,0,1,0,0,1]) (kIter (scratch (cdp Try.f15 [1,1,1,0,1,0,0])) nx K)) .normal (S0::A0::B0::undefV::undefV::undefV::J0::D0::E0::F0::G0::I0::Q0::V0::W0::X0::Y0::Z0::A1::B1::D1::T1::U1::V1::W1::X1::Y1::Z1::A2::B2::D2::Y5::Z5::A6::B6::D6::E6::F6::G6::I6::J6::M6::N6::P6::E2::N3::P3::Q3::R3::S3::T3::U3::E1::Q6::X5::W5::U5::V3::W3::X3::Y3::Z3::A4::B4::D4::E4::F4::G4::I4::J4::M4::U0::V5::N4::P4::Q4::R4::S4::T4::U4::V4::W4::X4::Y4::Z4::A5::B5::D5::E5::F5::G5::I5::J5::M5::N5::P5::Q5::R5::S5::T5::F2::G2::I2::J2::M2::N2::P2::Q2::R2::S2::T2::U2::V2::W2::X2::Y2::Z2::A3::B3::D3::E3::F3::G3::I3::J3::M3::undefV::[]) s=f15_j0 (dOps (H:=H) prog) C n S0 A0 B0 J0 D0 E0 F0 Q0 U0 (fun x s=>nx (f15_l0_m S0 A0 B0 E0 V0 W0 X0 Y0 Z0 A1 B1 D1 x) s) (fun i x s=>K (.exit i) (f15_l0_m S0 A0 B0 E0 V0 W0 X0 Y0 Z0 A1 B1 D1 x) s) (fun x s=>K .ret (f15_l0_m S0 A0 B0 E0 V0 W0 X0 Y0 Z0 A1 B1 D1 x) s) s:=by
  have h1:(kSeq prog false C n 15 none (cdp Try.f15 [1,1,1,0,1,0,0,1]) (kIter (scratch (cdp Try.f15 [1,1,1,0,1,0,0])) nx K)) .normal (S0::A0::B0::undefV::undefV::undefV::J0::D0::E0::F0::G0::I0::Q0::V0::W0::X0::Y0::Z0::A1::B1::D1::T1::U1::V1::W1::X1::Y1::Z1::A2::B2::D2::Y5::Z5::A6::B6::D6::E6::F6::G6::I6::J6::M6::N6::P6::E2::N3::P3::Q3::R3::S3::T3::U3::E1::Q6::X5::W5::U5::V3::W3::X3::Y3::Z3::A4::B4::D4::E4::F4::G4::I4::J4::M4::U0::V5::N4::P4::Q4::R4::S4::T4::U4::V4::W4::X4::Y4::Z4::A5::B5::D5::E5::F5::G5::I5::J5::M5::N5::P5::Q5::R5::S5::T5::F2::G2::I2::J2::M2::N2::P2::Q2::R2::S2::T2::U2::V2::W2::X2::Y2::Z2::A3::B3::D3::E3::F3::G3::I3::J3::M3::undefV::[]) s =
 ((dB H).indexAddr 88 S0 F0).bind fun v106 =>
 ((dB H).load s 95 v106).bind fun v107 =>
 ((dB H).alloc s 95).bind fun p108 =>
 ((dB H).store p108.2 95 p108.1 v107).bind fun s109 =>
 ((dB H).fieldAddr 95 p108.1 2).bind fun v110 =>
 ((dB H).load s109 67 v110).bind fun v111 =>
 ((dB H).fieldAddr 95 p108.1 2).bind fun v112 =>
 ((dB H).load s109 67 v112).bind fun v113 =>
 ((dB H).len s109 67 v113).bind fun v114 =>
 ((dB H).minO v114 [(Value.int IntKind.i64 6)]).bind fun v115 =>
 ((dB H).slc s109 67 v111 none (some v115) none).bind fun v116 =>
 ((dB H).fieldAddr 95 p108.1 0).bind fun v117 =>
 ((dB H).load s109 3 v117).bind fun v118 =>
 (C (.fn 20) [v118,(Value.int IntKind.i64 7)] s109).bind fun L119=>manyK L119 fun v120 s121 =>
 ((dB H).bop .eql 3 v120 (.int .i64 0)).bind fun v122 =>
 ((dB H).boolO v122).bind fun b123=>cond b123 (
 (kSeq prog false C n 15 none (cdp Try.f15 [1,1,1,0,1,0,0,1,0,0,1,1,0,1,0,1]) (kBlock 2 (kSeq prog false C n 15 none (cdp Try.f15 [1,1,1,0,1,0,0,1,0,0,1,1,1]) (kBlock 1 (kSeq prog false C n 15 none (cdp Try.f15 [1,1,1,0,1,0,0,1,1]) (kIter (scratch (cdp Try.f15 [1,1,1,0,1,0,0])) nx K)))))) .normal (S0::A0::B0::undefV::undefV::undefV::J0::D0::E0::F0::p108.1::v116::Q0::V0::W0::X0::Y0::Z0::A1::B1::D1::T1::U1::V1::W1::X1::Y1::Z1::A2::B2::D2::S0::F0::v106::v107::v110::v111::v112::v113::v114::v115::v116::v117::v118::v120::N3::P3::Q3::R3::S3::T3::U3::v122::v122::X5::W5::U5::V3::W3::X3::Y3::Z3::A4::B4::D4::E4::F4::G4::I4::J4::M4::U0::V5::N4::P4::Q4::R4::S4::T4::U4::V4::W4::X4::Y4::Z4::A5::B5::D5::E5::F5::G5::I5::J5::M5::N5::P5::Q5::R5::S5::T5::F2::G2::I2::J2::M2::N2::P2::Q2::R2::S2::T2::U2::V2::W2::X2::Y2::Z2::A3::B3::D3::E3::F3::G3::I3::J3::M3::undefV::[]) s121) (
 ((dB H).bop .eql 3 v120 (.int .i64 1)).bind fun v187 =>
 ((dB H).boolO v187).bind fun b188=>cond b188 (
 (kSeq prog false C n 15 none (cdp Try.f15 [1,1,1,0,1,0,0,1,0,0,1,1,0,1,0,1]) (kBlock 2 (kSeq prog false C n 15 none (cdp Try.f15 [1,1,1,0,1,0,0,1,0,0,1,1,1]) (kBlock 1 (kSeq prog false C n 15 none (cdp Try.f15 [1,1,1,0,1,0,0,1,1]) (kIter (scratch (cdp Try.f15 [1,1,1,0,1,0,0])) nx K)))))) .normal (S0::A0::B0::undefV::undefV::undefV::J0::D0::E0::F0::p108.1::v116::Q0::V0::W0::X0::Y0::Z0::A1::B1::D1::T1::U1::V1::W1::X1::Y1::Z1::A2::B2::D2::S0::F0::v106::v107::v110::v111::v112::v113::v114::v115::v116::v117::v118::v120::N3::P3::Q3::R3::S3::T3::U3::v187::v122::v187::W5::U5::V3::W3::X3::Y3::Z3::A4::B4::D4::E4::F4::G4::I4::J4::M4::U0::V5::N4::P4::Q4::R4::S4::T4::U4::V4::W4::X4::Y4::Z4::A5::B5::D5::E5::F5::G5::I5::J5::M5::N5::P5::Q5::R5::S5::T5::F2::G2::I2::J2::M2::N2::P2::Q2::R2::S2::T2::U2::V2::W2::X2::Y2::Z2::A3::B3::D3::E3::F3::G3::I3::J3::M3::undefV::[]) s121) (
 ((dB H).bop .eql 3 v120 (.int .i64 2)).bind fun v189 =>
 ((dB H).boolO v189).bind fun b190=>cond b190 (
 (kSeq prog false C n 15 none (cdp Try.f15 [1,1,1,0,1,0,0,1,0,0,1,1,0,1,0,1]) (kBlock 2 (kSeq prog false C n 15 none (cdp Try.f15 [1,1,1,0,1,0,0,1,0,0,1,1,1]) (kBlock 1 (kSeq prog false C n 15 none (cdp Try.f15 [1,1,1,0,1,0,0,1,1]) (kIter (scratch (cdp Try.f15 [1,1,1,0,1,0,0])) nx K)))))) .normal (S0::A0::B0::undefV::undefV::undefV::J0::D0::E0::F0::p108.1::v116::Q0::V0::W0::X0::Y0::Z0::A1::B1::D1::T1::U1::V1::W1::X1::Y1::Z1::A2::B2::D2::S0::F0::v106::v107::v110::v111::v112::v113::v114::v115::v116::v117::v118::v120::N3::P3::Q3::R3::S3::T3::U3::v189::v122::v187::v189::U5::V3::W3::X3::Y3::Z3::A4::B4::D4::E4::F4::G4::I4::J4::M4::U0::V5::N4::P4::Q4::R4::S4::T4::U4::V4::W4::X4::Y4::Z4::A5::B5::D5::E5::F5::G5::I5::J5::M5::N5::P5::Q5::R5::S5::T5::F2::G2::I2::J2::M2::N2::P2::Q2::R2::S2::T2::U2::V2::W2::X2::Y2::Z2::A3::B3::D3::E3::F3::G3::I3::J3::M3::undefV::[]) s121) (
 ((dB H).bop .eql 3 v120 (.int .i64 3)).bind fun v191 =>
 ((dB H).boolO v191).bind fun b192=>cond b192 (
 (kSeq prog false C n 15 none (cdp Try.f15 [1,1,1,0,1,0,0,1,0,0,1,1,0,1,0,1]) (kBlock 2 (kSeq prog false C n 15 none (cdp Try.f15 [1,1,1,0,1,0,0,1,0,0,1,1,1]) (kBlock 1 (kSeq prog false C n 15 none (cdp Try.f15 [1,1,1,0,1,0,0,1,1]) (kIter (scratch (cdp Try.f15 [1,1,1,0,1,0,0])) nx K)))))) .normal (S0::A0::B0::undefV::undefV::undefV::J0::D0::E0::F0::p108.1::v116::Q0::V0::W0::X0::Y0::Z0::A1::B1::D1::T1::U1::V1::W1::X1::Y1::Z1::A2::B2::D2::S0::F0::v106::v107::v110::v111::v112::v113::v114::v115::v116::v117::v118::v120::N3::P3::Q3::R3::S3::T3::U3::v191::v122::v187::v189::v191::V3::W3::X3::Y3::Z3::A4::B4::D4::E4::F4::G4::I4::J4::M4::U0::V5::N4::P4::Q4::R4::S4::T4::U4::V4::W4::X4::Y4::Z4::A5::B5::D5::E5::F5::G5::I5::J5::M5::N5::P5::Q5::R5::S5::T5::F2::G2::I2::J2::M2::N2::P2::Q2::R2::S2::T2::U2::V2::W2::X2::Y2::Z2::A3::B3::D3::E3::F3::G3::I3::J3::M3::undefV::[]) s121) (
 ((dB H).bop .eql 3 v120 (.int .i64 4)).bind fun v193 =>
 (kSeq prog false C n 15 none (cdp Try.f15 [1,1,1,0,1,0,0,1,0,0,1,1,0,1,0,1]) (kBlock 2 (kSeq prog false C n 15 none (cdp Try.f15 [1,1,1,0,1,0,0,1,0,0,1,1,1]) (kBlock 1 (kSeq prog false C n 15 none (cdp Try.f15 [1,1,1,0,1,0,0,1,1]) (kIter (scratch (cdp Try.f15 [1,1,1,0,1,0,0])) nx K)))))) .normal (S0::A0::B0::undefV::undefV::undefV::J0::D0::E0::F0::p108.1::v116::Q0::V0::W0::X0::Y0::Z0::A1::B1::D1::T1::U1::V1::W1::X1::Y1::Z1::A2::B2::D2::S0::F0::v106::v107::v110::v111::v112::v113::v114::v115::v116::v117::v118::v120::N3::P3::Q3::R3::S3::T3::U3::v193::v122::v187::v189::v191::v193::W3::X3::Y3::Z3::A4::B4::D4::E4::F4::G4::I4::J4::M4::U0::V5::N4::P4::Q4::R4::S4::T4::U4::V4::W4::X4::Y4::Z4::A5::B5::D5::E5::F5::G5::I5::J5::M5::N5::P5::Q5::R5::S5::T5::F2::G2::I2::J2::M2::N2::P2::Q2::R2::S2::T2::U2::V2::W2::X2::Y2::Z2::A3::B3::D3::E3::F3::G3::I3::J3::M3::undefV::[]) s121)))):=by kernel_rfl
  rw [h1]
  simp only [f15_j1_b,f15_j2_b,f15_j3_b]
  first | done | (show _=f15_j0 (dOps (H:=H) prog) C n S0 A0 B0 J0 D0 E0 F0 Q0 U0 (fun x s=>nx (f15_l0_m S0 A0 B0 E0 V0 W0 X0 Y0 Z0 A1 B1 D1 x) s) (fun i x s=>K (.exit i) (f15_l0_m S0 A0 B0 E0 V0 W0 X0 Y0 Z0 A1 B1 D1 x) s) (fun x s=>K .ret (f15_l0_m S0 A0 B0 E0 V0 W0 X0 Y0 Z0 A1 B1 D1 x) s) s; kernel_rfl)
theorem f15_l0_b (x:Value×Value×Value×Value×Value×Value×Value) (s:St H) (nx:List Value→St H→Rs15 H) (K:Ex→List Value→St H→Rs15 H) :
 exec prog false C n 15 none (cdp Try.f15 [1,1,1,0,1,0,0]) (f15_l0_m F1 N0 T0 G1 J1 M1 N1 P1 Q1 R1 I1 S1 x) s (kIter (scratch (cdp Try.f15 [1,1,1,0,1,0,0])) nx K)=f15_l0 (dOps (H:=H) prog) C n F1 N0 T0 G1 (fun x s=>nx (f15_l0_m F1 N0 T0 G1 J1 M1 N1 P1 Q1 R1 I1 S1 x) s) (fun i x s=>K (.exit i) (f15_l0_m F1 N0 T0 G1 J1 M1 N1 P1 Q1 R1 I1 S1 x) s) (fun x s=>K .ret (f15_l0_m F1 N0 T0 G1 J1 M1 N1 P1 Q1 R1 I1 S1 x) s) x s:=by
  have h1:exec prog false C n 15 none (cdp Try.f15 [1,1,1,0,1,0,0]) (f15_l0_m F1 N0 T0 G1 J1 M1 N1 P1 Q1 R1 I1 S1 x) s (kIter (scratch (cdp Try.f15 [1,1,1,0,1,0,0])) nx K) =
 ((dB H).len s 88 F1).bind fun v102 =>
 ((dB H).bop .lss 3 x.2.2.1 v102).bind fun v103 =>
 gd v103 (
 ((dB H).bop .lss 3 x.2.2.1 (.int .i64 40)).bind fun v104 =>
 ((dB H).boolO v104).bind fun b105=>cond b105 (
 (kSeq prog false C n 15 none (cdp Try.f15 [1,1,1,0,1,0,0,1]) (kIter (scratch (cdp Try.f15 [1,1,1,0,1,0,0])) nx K)) .normal (F1::N0::T0::undefV::undefV::undefV::x.1::x.2.1::G1::x.2.2.1::dc::x.2.2.2.1::x.2.2.2.2.1::J1::M1::N1::P1::Q1::R1::I1::S1::x.2.2.1::F1::v102::v103::(.bool true)::x.2.2.1::v104::v104::dc::dc::dc::dc::dc::dc::dc::dc::dc::dc::dc::dc::dc::dc::dc::dc::dc::dc::dc::dc::dc::dc::dc::x.2.2.2.2.2.1::dc::dc::dc::dc::dc::dc::dc::dc::dc::dc::dc::dc::dc::dc::dc::dc::dc::dc::x.2.2.2.2.2.2::dc::dc::dc::dc::dc::dc::dc::dc::dc::dc::dc::dc::dc::dc::dc::dc::dc::dc::dc::dc::dc::dc::dc::dc::dc::dc::dc::dc::dc::dc::dc::dc::dc::dc::dc::dc::dc::dc::dc::dc::dc::dc::dc::dc::dc::dc::dc::dc::dc::dc::dc::dc::dc::dc::undefV::[]) s) (
 K (.exit 0) (f15_l0_m F1 N0 T0 G1 J1 M1 N1 P1 Q1 R1 I1 S1 (x.1,x.2.1,x.2.2.1,x.2.2.2.1,x.2.2.2.2.1,x.2.2.2.2.2.1,x.2.2.2.2.2.2)) s)) (
 K (.exit 0) (f15_l0_m F1 N0 T0 G1 J1 M1 N1 P1 Q1 R1 I1 S1 (x.1,x.2.1,x.2.2.1,x.2.2.2.1,x.2.2.2.2.1,x.2.2.2.2.2.1,x.2.2.2.2.2.2)) s) (
 none):=by kernel_rfl
  rw [h1]
  simp only [f15_j0_b]
  first | done | (show _=f15_l0 (dOps (H:=H) prog) C n F1 N0 T0 G1 (fun x s=>nx (f15_l0_m F1 N0 T0 G1 J1 M1 N1 P1 Q1 R1 I1 S1 x) s) (fun i x s=>K (.exit i) (f15_l0_m F1 N0 T0 G1 J1 M1 N1 P1 Q1 R1 I1 S1 x) s) (fun x s=>K .ret (f15_l0_m F1 N0 T0 G1 J1 M1 N1 P1 Q1 R1 I1 S1 x) s) x s; kernel_rfl)
theorem f15_l0_e (m:Nat) (x:Value×Value×Value×Value×Value×Value×Value) (s:St H) (K:Ex→List Value→St H→Rs15 H) :
 iter (fun t s k=>exec prog false C n 15 none (cdp Try.f15 [1,1,1,0,1,0,0]) t s k) (scratch (cdp Try.f15 [1,1,1,0,1,0,0])) m (f15_l0_m F1 N0 T0 G1 J1 M1 N1 P1 Q1 R1 I1 S1 x) s K=iterS (f15_l0 (dOps (H:=H) prog) C n F1 N0 T0 G1) (fun i x s=>K (.exit i) (f15_l0_m F1 N0 T0 G1 J1 M1 N1 P1 Q1 R1 I1 S1 x) s) (fun x s=>K .ret (f15_l0_m F1 N0 T0 G1 J1 M1 N1 P1 Q1 R1 I1 S1 x) s) m x s :=
   iter_eq (f15_l0_m F1 N0 T0 G1 J1 M1 N1 P1 Q1 R1 I1 S1) (f15_l0 (dOps (H:=H) prog) C n F1 N0 T0 G1) (fun x s nx K=>f15_l0_b C n F1 N0 T0 G1 J1 M1 N1 P1 Q1 R1 I1 S1 x s nx K) K m x s
noncomputable def f15_j4 (O:Ops H) (C:OracleJ H) (n:Nat) (s:St H):Rs15 H :=
 (C (.fn 45) [] s).bind fun L198=>manyK L198 fun v199 s200 =>
 some [(v199,s200)]
noncomputable def f15 (O:Ops H) (C:OracleJ H) (n:Nat) (a0 a1 a2:Value) (s:St H):Rs15 H :=
 (C (.fn 46) [] s).bind fun L1=>manyK L1 fun v2 s3 =>
 (O.build 93 []).bind fun v4 =>
 (O.box s3 v4).bind fun p5 =>
 (O.len p5.2 89 a2).bind fun v6 =>
 (O.minO v6 [(Value.int IntKind.i64 40)]).bind fun v7 =>
 (O.slc p5.2 89 a2 none (some v7) none).bind fun v8 =>
 iterS (f15_l0 O C n a0 a1 v8 p5.1 )
 (fun S6 x196 s197=>(bif Nat.beq S6 0 then
 f15_j4 O C n s197 else none))
 (fun x201 s202=>some [(x201.1,s202)]) n ((.bool false),v2,(Value.int IntKind.i64 0),undefV,undefV,undefV,undefV) p5.2
theorem f15_j4_b (s:St H) :
 (kSeq prog false C n 15 none (cdp Try.f15 [1,1,1,1]) (kFun prog Try.f15)) .normal (S0::A0::B0::R0::P0::M0::J0::D0::E0::F0::G0::I0::Q0::V0::W0::X0::Y0::Z0::A1::B1::D1::T1::U1::V1::W1::X1::Y1::Z1::A2::B2::D2::Y5::Z5::A6::B6::D6::E6::F6::G6::I6::J6::M6::N6::P6::E2::N3::P3::Q3::R3::S3::T3::U3::E1::Q6::X5::W5::U5::V3::W3::X3::Y3::Z3::A4::B4::D4::E4::F4::G4::I4::J4::M4::U0::V5::N4::P4::Q4::R4::S4::T4::U4::V4::W4::X4::Y4::Z4::A5::B5::D5::E5::F5::G5::I5::J5::M5::N5::P5::Q5::R5::S5::T5::F2::G2::I2::J2::M2::N2::P2::Q2::R2::S2::T2::U2::V2::W2::X2::Y2::Z2::A3::B3::D3::E3::F3::G3::I3::J3::M3::R6::[]) s=f15_j4 (dOps (H:=H) prog) C n s:=by kernel_rfl
theorem f15_l0_k (i:Nat) (x:Value×Value×Value×Value×Value×Value×Value) (s:St H):(kBlock 0 (kSeq prog false C n 15 none (cdp Try.f15 [1,1,1,1]) (kFun prog Try.f15))) (.exit i) (f15_l0_m F1 N0 T0 G1 J1 M1 N1 P1 Q1 R1 I1 S1 x) s =
 (bif Nat.beq i 0 then
 f15_j4 (dOps (H:=H) prog) C n s else none):=by
  have h1:(kBlock 0 (kSeq prog false C n 15 none (cdp Try.f15 [1,1,1,1]) (kFun prog Try.f15))) (.exit i) (f15_l0_m F1 N0 T0 G1 J1 M1 N1 P1 Q1 R1 I1 S1 x) s =
 (bif Nat.beq i 0 then
 (kSeq prog false C n 15 none (cdp Try.f15 [1,1,1,1]) (kFun prog Try.f15)) .normal (F1::N0::T0::undefV::undefV::undefV::x.1::x.2.1::G1::x.2.2.1::dc::x.2.2.2.1::x.2.2.2.2.1::J1::M1::N1::P1::Q1::R1::I1::S1::dc::dc::dc::dc::dc::dc::dc::dc::dc::dc::dc::dc::dc::dc::dc::dc::dc::dc::dc::dc::dc::dc::dc::dc::dc::dc::dc::dc::dc::dc::dc::x.2.2.2.2.2.1::dc::dc::dc::dc::dc::dc::dc::dc::dc::dc::dc::dc::dc::dc::dc::dc::dc::dc::x.2.2.2.2.2.2::dc::dc::dc::dc::dc::dc::dc::dc::dc::dc::dc::dc::dc::dc::dc::dc::dc::dc::dc::dc::dc::dc::dc::dc::dc::dc::dc::dc::dc::dc::dc::dc::dc::dc::dc::dc::dc::dc::dc::dc::dc::dc::dc::dc::dc::dc::dc::dc::dc::dc::dc::dc::dc::dc::undefV::[]) s else none):=by kernel_rfl
  rw [h1]
  simp only [f15_j4_b]
  first | done | (show _=(bif Nat.beq i 0 then
 f15_j4 (dOps (H:=H) prog) C n s else none); kernel_rfl)
theorem f15_r (C:OracleJ H) (n:Nat) (a0 a1 a2:Value) (s:St H):bodyD prog false C n 15 Try.f15 [a0,a1,a2] s=f15 (dOps (H:=H) prog) C n a0 a1 a2 s:=by
  have h1:bodyD prog false C n 15 Try.f15 [a0,a1,a2] s =
 (C (.fn 46) [] s).bind fun L203=>manyK L203 fun v204 s205 =>
 ((dB H).build 93 []).bind fun v206 =>
 ((dB H).box s205 v206).bind fun p207 =>
 ((dB H).len p207.2 89 a2).bind fun v208 =>
 ((dB H).minO v208 [(Value.int IntKind.i64 40)]).bind fun v209 =>
 ((dB H).slc p207.2 89 a2 none (some v209) none).bind fun v210 =>
 iter (fun t s k=>exec prog false C n 15 none (cdp Try.f15 [1,1,1,0,1,0,0]) t s k) (scratch (cdp Try.f15 [1,1,1,0,1,0,0])) n (f15_l0_m a0 a1 v210 p207.1 v204 v206 p207.1 a2 a2 v208 v209 v210 ((.bool false),v204,(Value.int IntKind.i64 0),undefV,undefV,undefV,undefV)) p207.2 (kBlock 0 (kSeq prog false C n 15 none (cdp Try.f15 [1,1,1,1]) (kFun prog Try.f15))):=by kernel_rfl
  rw [h1]
  simp only [f15_l0_e,f15_l0_k]
  first | done | (show _=f15 (dOps (H:=H) prog) C n a0 a1 a2 s; kernel_rfl)
end Go.Proofs.Ytmhmbmogodofeaa.S
