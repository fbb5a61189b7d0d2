import Derived.Test.YtmhmbmogodofeaaFy
import Derived.ProofKit
import Derived.Test.YtmhmbmogodofeaaRows
set_option linter.unusedVariables false
set_option maxRecDepth 100000
namespace Go.Proofs.Ytmhmbmogodofeaa.S
open Go.FS Go.RowKit
open Go.Proofs.Try (prog)
abbrev Rs222 (H:HeapI):=Option (List (Value×St H))
variable {H:HeapI}
variable (C:OracleJ H) (n:Nat) (D0 B0 A0 P0 B2 D2 F0 Q0 M0 R0 S0 T0 U0 V0 W0 N0 G0 I0 X0 Y0 J0 Z0 A1 B1 E1 E0 F1 G1 I1 J1 M1 N1 P1 Q1 D1 R1 S1 T1 U1 V1 W1 X1 Y1 Z1 A2:Value)
noncomputable abbrev dE (H:HeapI):Ops H:=dOps (H:=H) prog
def f222_l0_m (D0 B0 A0 P0 D2 F0 Q0 M0 R0 S0 T0 U0 V0 W0 N0 G0 I0 X0 Y0 J0 Z0 A1 B1:Value) (x:Value):List Value:=[D0,B0,A0,P0,undefV,undefV,undefV,undefV,(Value.int IntKind.i64 0),(.bool false),x,D2,F0,Q0,M0,R0,S0,T0,U0,V0,W0,N0,G0,I0,X0,Y0,J0,Z0,A1,B1,dc,dc,dc,dc,dc,dc,dc,dc,dc,dc,dc,dc,dc,dc,dc,dc,undefV,undefV,undefV,undefV,undefV,undefV,undefV,undefV,undefV,undefV,undefV,undefV,undefV,undefV,undefV,undefV,undefV,undefV,undefV,undefV,undefV,undefV,undefV,undefV,undefV,undefV,undefV,undefV,undefV,undefV,undefV,undefV,undefV,undefV,undefV,undefV,undefV,undefV,undefV,undefV,undefV,undefV,undefV,undefV,undefV,undefV,undefV,undefV,undefV,undefV,undefV,undefV,undefV,undefV,undefV,undefV,undefV,undefV,undefV,undefV,undefV,undefV,undefV,undefV,undefV,undefV,undefV,undefV,undefV,undefV,undefV,undefV,undefV,undefV,undefV,undefV,undefV,undefV,undefV,undefV,undefV,undefV,undefV,undefV,undefV,undefV,undefV,undefV,undefV,undefV,undefV,undefV,undefV,undefV,undefV,undefV,undefV,undefV,undefV,undefV,undefV,undefV,undefV,undefV,undefV,undefV,undefV,undefV,undefV,undefV,undefV,undefV,undefV,undefV,undefV,undefV,undefV,undefV,undefV,undefV,undefV,undefV]
noncomputable def f222_l0 (O:Ops H) (C:OracleJ H) (n:Nat) (D0 B0 D2:Value) (nx:Value→St H→Rs222 H) (kx:Nat→Value→St H→Rs222 H) (kr:Value→St H→Rs222 H) (x:Value) (s:St H):Rs222 H :=
 jn (fun (j5_43:Value) (js5:St H) =>
 (O.boolO j5_43).bind fun b19=>cond b19 (
 (O.bop .add 3 x (.int .i64 1)).bind fun v20 =>
 nx v20 js5) (
 kx 0 x js5)) fun k5 =>
 (O.bop .leq 3 x D2).bind fun v11 =>
 gd v11 (
 (O.indexAddr 67 D0 x).bind fun v12 =>
 (O.load s 70 v12).bind fun v13 =>
 (O.indexAddr 67 D0 B0).bind fun v14 =>
 (O.load s 70 v14).bind fun v15 =>
 (oneO C (.fn 220) [v13,v15] s).bind fun p16 =>
 k5 p16.1 p16.2) (
 k5 (.bool false) s) (
 none)
theorem f222_l0_b (x:Value) (s:St H) (nx:List Value→St H→Rs222 H) (K:Ex→List Value→St H→Rs222 H) :
 exec prog false C n 222 none (cdp Try.f222 [1,1,1,0,0,0]) (f222_l0_m D0 B0 A0 P0 D2 F0 Q0 M0 R0 S0 T0 U0 V0 W0 N0 G0 I0 X0 Y0 J0 Z0 A1 B1 x) s (kIter (scratch (cdp Try.f222 [1,1,1,0,0,0])) nx K)=f222_l0 (dOps (H:=H) prog) C n D0 B0 D2 (fun x s=>nx (f222_l0_m D0 B0 A0 P0 D2 F0 Q0 M0 R0 S0 T0 U0 V0 W0 N0 G0 I0 X0 Y0 J0 Z0 A1 B1 x) s) (fun i x s=>K (.exit i) (f222_l0_m D0 B0 A0 P0 D2 F0 Q0 M0 R0 S0 T0 U0 V0 W0 N0 G0 I0 X0 Y0 J0 Z0 A1 B1 x) s) (fun x s=>K .ret (f222_l0_m D0 B0 A0 P0 D2 F0 Q0 M0 R0 S0 T0 U0 V0 W0 N0 G0 I0 X0 Y0 J0 Z0 A1 B1 x) s) x s:=by kernel_rfl
theorem f222_l0_e (m:Nat) (x:Value) (s:St H) (K:Ex→List Value→St H→Rs222 H) :
 iter (fun t s k=>exec prog false C n 222 none (cdp Try.f222 [1,1,1,0,0,0]) t s k) (scratch (cdp Try.f222 [1,1,1,0,0,0])) m (f222_l0_m D0 B0 A0 P0 D2 F0 Q0 M0 R0 S0 T0 U0 V0 W0 N0 G0 I0 X0 Y0 J0 Z0 A1 B1 x) s K=iterS (f222_l0 (dOps (H:=H) prog) C n D0 B0 D2) (fun i x s=>K (.exit i) (f222_l0_m D0 B0 A0 P0 D2 F0 Q0 M0 R0 S0 T0 U0 V0 W0 N0 G0 I0 X0 Y0 J0 Z0 A1 B1 x) s) (fun x s=>K .ret (f222_l0_m D0 B0 A0 P0 D2 F0 Q0 M0 R0 S0 T0 U0 V0 W0 N0 G0 I0 X0 Y0 J0 Z0 A1 B1 x) s) m x s :=
   iter_eq (f222_l0_m D0 B0 A0 P0 D2 F0 Q0 M0 R0 S0 T0 U0 V0 W0 N0 G0 I0 X0 Y0 J0 Z0 A1 B1) (f222_l0 (dOps (H:=H) prog) C n D0 B0 D2) (fun x s nx K=>f222_l0_b C n D0 B0 A0 P0 D2 F0 Q0 M0 R0 S0 T0 U0 V0 W0 N0 G0 I0 X0 Y0 J0 Z0 A1 B1 x s nx K) K m x s
def f222_l1_m (D0 B0 A0 P0 B2 F0 Q0 M0 R0 S0 T0 U0 V0 W0 N0 G0 I0 X0 Y0 J0 Z0 A1 B1:Value) (x:Value):List Value:=[D0,B0,A0,P0,undefV,undefV,undefV,undefV,(Value.int IntKind.i64 0),(.bool false),B2,x,F0,Q0,M0,R0,S0,T0,U0,V0,W0,N0,G0,I0,X0,Y0,J0,Z0,A1,B1,dc,dc,dc,dc,dc,dc,dc,dc,dc,dc,dc,dc,dc,dc,dc,dc,dc,dc,dc,dc,dc,dc,dc,dc,dc,dc,dc,dc,dc,dc,dc,dc,dc,undefV,undefV,undefV,undefV,undefV,undefV,undefV,undefV,undefV,undefV,undefV,undefV,undefV,undefV,undefV,undefV,undefV,undefV,undefV,undefV,undefV,undefV,undefV,undefV,undefV,undefV,undefV,undefV,undefV,undefV,undefV,undefV,undefV,undefV,undefV,undefV,undefV,undefV,undefV,undefV,undefV,undefV,undefV,undefV,undefV,undefV,undefV,undefV,undefV,undefV,undefV,undefV,undefV,undefV,undefV,undefV,undefV,undefV,undefV,undefV,undefV,undefV,undefV,undefV,undefV,undefV,undefV,undefV,undefV,undefV,undefV,undefV,undefV,undefV,undefV,undefV,undefV,undefV,undefV,undefV,undefV,undefV,undefV,undefV,undefV,undefV,undefV,undefV,undefV,undefV,undefV,undefV,undefV,undefV,undefV,undefV,undefV,undefV,undefV,undefV,undefV,undefV,undefV,undefV,undefV]
noncomputable def f222_l1 (O:Ops H) (C:OracleJ H) (n:Nat) (D0 B0 B2:Value) (nx:Value→St H→Rs222 H) (kx:Nat→Value→St H→Rs222 H) (kr:Value→St H→Rs222 H) (x:Value) (s:St H):Rs222 H :=
 jn (fun (j13_60:Value) (js13:St H) =>
 (O.boolO j13_60).bind fun b35=>cond b35 (
 (O.bop .sub 3 x (.int .i64 1)).bind fun v36 =>
 nx v36 js13) (
 kx 2 x js13)) fun k13 =>
 (O.bop .leq 3 B2 x).bind fun v26 =>
 gd v26 (
 (O.indexAddr 67 D0 x).bind fun v27 =>
 (O.load s 70 v27).bind fun v28 =>
 (O.indexAddr 67 D0 B0).bind fun v29 =>
 (O.load s 70 v29).bind fun v30 =>
 (oneO C (.fn 220) [v28,v30] s).bind fun p31 =>
 (O.uop .not p31.1).bind fun v32 =>
 k13 v32 p31.2) (
 k13 (.bool false) s) (
 none)
theorem f222_l1_b (x:Value) (s:St H) (nx:List Value→St H→Rs222 H) (K:Ex→List Value→St H→Rs222 H) :
 exec prog false C n 222 none (cdp Try.f222 [1,1,1,1,0,0,0]) (f222_l1_m D0 B0 A0 P0 B2 F0 Q0 M0 R0 S0 T0 U0 V0 W0 N0 G0 I0 X0 Y0 J0 Z0 A1 B1 x) s (kIter (scratch (cdp Try.f222 [1,1,1,1,0,0,0])) nx K)=f222_l1 (dOps (H:=H) prog) C n D0 B0 B2 (fun x s=>nx (f222_l1_m D0 B0 A0 P0 B2 F0 Q0 M0 R0 S0 T0 U0 V0 W0 N0 G0 I0 X0 Y0 J0 Z0 A1 B1 x) s) (fun i x s=>K (.exit i) (f222_l1_m D0 B0 A0 P0 B2 F0 Q0 M0 R0 S0 T0 U0 V0 W0 N0 G0 I0 X0 Y0 J0 Z0 A1 B1 x) s) (fun x s=>K .ret (f222_l1_m D0 B0 A0 P0 B2 F0 Q0 M0 R0 S0 T0 U0 V0 W0 N0 G0 I0 X0 Y0 J0 Z0 A1 B1 x) s) x s:=by kernel_rfl
theorem f222_l1_e (m:Nat) (x:Value) (s:St H) (K:Ex→List Value→St H→Rs222 H) :
 iter (fun t s k=>exec prog false C n 222 none (cdp Try.f222 [1,1,1,1,0,0,0]) t s k) (scratch (cdp Try.f222 [1,1,1,1,0,0,0])) m (f222_l1_m D0 B0 A0 P0 B2 F0 Q0 M0 R0 S0 T0 U0 V0 W0 N0 G0 I0 X0 Y0 J0 Z0 A1 B1 x) s K=iterS (f222_l1 (dOps (H:=H) prog) C n D0 B0 B2) (fun i x s=>K (.exit i) (f222_l1_m D0 B0 A0 P0 B2 F0 Q0 M0 R0 S0 T0 U0 V0 W0 N0 G0 I0 X0 Y0 J0 Z0 A1 B1 x) s) (fun x s=>K .ret (f222_l1_m D0 B0 A0 P0 B2 F0 Q0 M0 R0 S0 T0 U0 V0 W0 N0 G0 I0 X0 Y0 J0 Z0 A1 B1 x) s) m x s :=
   iter_eq (f222_l1_m D0 B0 A0 P0 B2 F0 Q0 M0 R0 S0 T0 U0 V0 W0 N0 G0 I0 X0 Y0 J0 Z0 A1 B1) (f222_l1 (dOps (H:=H) prog) C n D0 B0 B2) (fun x s nx K=>f222_l1_b C n D0 B0 A0 P0 B2 F0 Q0 M0 R0 S0 T0 U0 V0 W0 N0 G0 I0 X0 Y0 J0 Z0 A1 B1 x s nx K) K m x s
def f222_l3_m (D0 B0 A0 P0 D2 F0 Q0 M0 R0 S0 T0 U0 V0 W0 N0 G0 I0 X0 Y0 J0 Z0 A1 B1 E1 E0 F1 G1 I1 J1 M1 N1 P1 Q1 D1 R1 S1 T1 U1 V1 W1 X1 Y1 Z1 A2:Value) (x:Value):List Value:=[D0,B0,A0,P0,undefV,undefV,undefV,undefV,(Value.int IntKind.i64 0),(.bool false),x,D2,F0,Q0,M0,R0,S0,T0,U0,V0,W0,N0,G0,I0,X0,Y0,J0,Z0,A1,B1,dc,dc,dc,dc,dc,dc,dc,dc,dc,dc,dc,dc,dc,dc,dc,dc,dc,dc,dc,dc,dc,dc,dc,dc,dc,dc,dc,dc,dc,dc,dc,dc,dc,E1,E0,F1,undefV,undefV,undefV,undefV,undefV,undefV,undefV,undefV,undefV,undefV,undefV,undefV,undefV,undefV,undefV,G1,I1,J1,M1,N1,P1,Q1,D1,R1,S1,T1,U1,V1,W1,X1,Y1,Z1,A2,dc,dc,dc,dc,dc,dc,dc,dc,dc,dc,dc,dc,dc,dc,dc,dc,dc,dc,dc,dc,dc,dc,dc,dc,dc,dc,dc,dc,dc,dc,dc,dc,dc,dc,dc,dc,dc,dc,dc,dc,dc,dc,dc,dc,dc,dc,dc,dc,dc,dc,dc,dc,dc,dc,undefV,undefV,undefV,undefV,undefV,undefV,undefV,undefV,undefV,undefV,undefV,undefV,undefV,undefV,undefV]
noncomputable def f222_l3 (O:Ops H) (C:OracleJ H) (n:Nat) (D0 B0 D2 E0:Value) (nx:Value→St H→Rs222 H) (kx:Nat→Value→St H→Rs222 H) (kr:Value→St H→Rs222 H) (x:Value) (s:St H):Rs222 H :=
 jn (fun (j30_112:Value) (js30:St H) =>
 (O.boolO j30_112).bind fun b70=>cond b70 (
 (O.bop .add 3 x (.int .i64 1)).bind fun v71 =>
 nx v71 js30) (
 kx 6 x js30)) fun k30 =>
 (O.bop .leq 3 x D2).bind fun v62 =>
 gd v62 (
 (O.indexAddr 67 D0 x).bind fun v63 =>
 (O.load s 70 v63).bind fun v64 =>
 (O.indexAddr 67 D0 B0).bind fun v65 =>
 (O.load s 70 v65).bind fun v66 =>
 (oneO C (.fn 220) [v64,v66] s).bind fun p67 =>
 k30 p67.1 p67.2) (
 k30 (.bool false) s) (
 none)
theorem f222_l3_b (x:Value) (s:St H) (nx:List Value→St H→Rs222 H) (K:Ex→List Value→St H→Rs222 H) :
 exec prog false C n 222 none (cdp Try.f222 [1,1,1,1,1,1,1,1,1,0,0,0,0,0,0,0]) (f222_l3_m D0 B0 A0 P0 D2 F0 Q0 M0 R0 S0 T0 U0 V0 W0 N0 G0 I0 X0 Y0 J0 Z0 A1 B1 E1 E0 F1 G1 I1 J1 M1 N1 P1 Q1 D1 R1 S1 T1 U1 V1 W1 X1 Y1 Z1 A2 x) s (kIter (scratch (cdp Try.f222 [1,1,1,1,1,1,1,1,1,0,0,0,0,0,0,0])) nx K)=f222_l3 (dOps (H:=H) prog) C n D0 B0 D2 E0 (fun x s=>nx (f222_l3_m D0 B0 A0 P0 D2 F0 Q0 M0 R0 S0 T0 U0 V0 W0 N0 G0 I0 X0 Y0 J0 Z0 A1 B1 E1 E0 F1 G1 I1 J1 M1 N1 P1 Q1 D1 R1 S1 T1 U1 V1 W1 X1 Y1 Z1 A2 x) s) (fun i x s=>K (.exit i) (f222_l3_m D0 B0 A0 P0 D2 F0 Q0 M0 R0 S0 T0 U0 V0 W0 N0 G0 I0 X0 Y0 J0 Z0 A1 B1 E1 E0 F1 G1 I1 J1 M1 N1 P1 Q1 D1 R1 S1 T1 U1 V1 W1 X1 Y1 Z1 A2 x) s) (fun x s=>K .ret (f222_l3_m D0 B0 A0 P0 D2 F0 Q0 M0 R0 S0 T0 U0 V0 W0 N0 G0 I0 X0 Y0 J0 Z0 A1 B1 E1 E0 F1 G1 I1 J1 M1 N1 P1 Q1 D1 R1 S1 T1 U1 V1 W1 X1 Y1 Z1 A2 x) s) x s:=by kernel_rfl
theorem f222_l3_e (m:Nat) (x:Value) (s:St H) (K:Ex→List Value→St H→Rs222 H) :
 iter (fun t s k=>exec prog false C n 222 none (cdp Try.f222 [1,1,1,1,1,1,1,1,1,0,0,0,0,0,0,0]) t s k) (scratch (cdp Try.f222 [1,1,1,1,1,1,1,1,1,0,0,0,0,0,0,0])) m (f222_l3_m D0 B0 A0 P0 D2 F0 Q0 M0 R0 S0 T0 U0 V0 W0 N0 G0 I0 X0 Y0 J0 Z0 A1 B1 E1 E0 F1 G1 I1 J1 M1 N1 P1 Q1 D1 R1 S1 T1 U1 V1 W1 X1 Y1 Z1 A2 x) s K=iterS (f222_l3 (dOps (H:=H) prog) C n D0 B0 D2 E0) (fun i x s=>K (.exit i) (f222_l3_m D0 B0 A0 P0 D2 F0 Q0 M0 R0 S0 T0 U0 V0 W0 N0 G0 I0 X0 Y0 J0 Z0 A1 B1 E1 E0 F1 G1 I1 J1 M1 N1 P1 Q1 D1 R1 S1 T1 U1 V1 W1 X1 Y1 Z1 A2 x) s) (fun x s=>K .ret (f222_l3_m D0 B0 A0 P0 D2 F0 Q0 M0 R0 S0 T0 U0 V0 W0 N0 G0 I0 X0 Y0 J0 Z0 A1 B1 E1 E0 F1 G1 I1 J1 M1 N1 P1 Q1 D1 R1 S1 T1 U1 V1 W1 X1 Y1 Z1 A2 x) s) m x s :=
   iter_eq (f222_l3_m D0 B0 A0 P0 D2 F0 Q0 M0 R0 S0 T0 U0 V0 W0 N0 G0 I0 X0 Y0 J0 Z0 A1 B1 E1 E0 F1 G1 I1 J1 M1 N1 P1 Q1 D1 R1 S1 T1 U1 V1 W1 X1 Y1 Z1 A2) (f222_l3 (dOps (H:=H) prog) C n D0 B0 D2 E0) (fun x s nx K=>f222_l3_b C n D0 B0 A0 P0 D2 F0 Q0 M0 R0 S0 T0 U0 V0 W0 N0 G0 I0 X0 Y0 J0 Z0 A1 B1 E1 E0 F1 G1 I1 J1 M1 N1 P1 Q1 D1 R1 S1 T1 U1 V1 W1 X1 Y1 Z1 A2 x s nx K) K m x s
def f222_l4_m (D0 B0 A0 P0 B2 F0 Q0 M0 R0 S0 T0 U0 V0 W0 N0 G0 I0 X0 Y0 J0 Z0 A1 B1 E1 E0 F1 G1 I1 J1 M1 N1 P1 Q1 D1 R1 S1 T1 U1 V1 W1 X1 Y1 Z1 A2:Value) (x:Value):List Value:=[D0,B0,A0,P0,undefV,undefV,undefV,undefV,(Value.int IntKind.i64 0),(.bool false),B2,x,F0,Q0,M0,R0,S0,T0,U0,V0,W0,N0,G0,I0,X0,Y0,J0,Z0,A1,B1,dc,dc,dc,dc,dc,dc,dc,dc,dc,dc,dc,dc,dc,dc,dc,dc,dc,dc,dc,dc,dc,dc,dc,dc,dc,dc,dc,dc,dc,dc,dc,dc,dc,E1,E0,F1,undefV,undefV,undefV,undefV,undefV,undefV,undefV,undefV,undefV,undefV,undefV,undefV,undefV,undefV,undefV,G1,I1,J1,M1,N1,P1,Q1,D1,R1,S1,T1,U1,V1,W1,X1,Y1,Z1,A2,dc,dc,dc,dc,dc,dc,dc,dc,dc,dc,dc,dc,dc,dc,dc,dc,dc,dc,dc,dc,dc,dc,dc,dc,dc,dc,dc,dc,dc,dc,dc,dc,dc,dc,dc,dc,dc,dc,dc,dc,dc,dc,dc,dc,dc,dc,dc,dc,dc,dc,dc,dc,dc,dc,undefV,undefV,undefV,undefV,undefV,undefV,undefV,undefV,undefV,undefV,undefV,undefV,undefV,undefV,undefV]
noncomputable def f222_l4 (O:Ops H) (C:OracleJ H) (n:Nat) (D0 B0 B2 E0:Value) (nx:Value→St H→Rs222 H) (kx:Nat→Value→St H→Rs222 H) (kr:Value→St H→Rs222 H) (x:Value) (s:St H):Rs222 H :=
 jn (fun (j38_129:Value) (js38:St H) =>
 (O.boolO j38_129).bind fun b86=>cond b86 (
 (O.bop .sub 3 x (.int .i64 1)).bind fun v87 =>
 nx v87 js38) (
 kx 8 x js38)) fun k38 =>
 (O.bop .leq 3 B2 x).bind fun v77 =>
 gd v77 (
 (O.indexAddr 67 D0 x).bind fun v78 =>
 (O.load s 70 v78).bind fun v79 =>
 (O.indexAddr 67 D0 B0).bind fun v80 =>
 (O.load s 70 v80).bind fun v81 =>
 (oneO C (.fn 220) [v79,v81] s).bind fun p82 =>
 (O.uop .not p82.1).bind fun v83 =>
 k38 v83 p82.2) (
 k38 (.bool false) s) (
 none)
theorem f222_l4_b (x:Value) (s:St H) (nx:List Value→St H→Rs222 H) (K:Ex→List Value→St H→Rs222 H) :
 exec prog false C n 222 none (cdp Try.f222 [1,1,1,1,1,1,1,1,1,0,0,0,0,1,0,0,0]) (f222_l4_m D0 B0 A0 P0 B2 F0 Q0 M0 R0 S0 T0 U0 V0 W0 N0 G0 I0 X0 Y0 J0 Z0 A1 B1 E1 E0 F1 G1 I1 J1 M1 N1 P1 Q1 D1 R1 S1 T1 U1 V1 W1 X1 Y1 Z1 A2 x) s (kIter (scratch (cdp Try.f222 [1,1,1,1,1,1,1,1,1,0,0,0,0,1,0,0,0])) nx K)=f222_l4 (dOps (H:=H) prog) C n D0 B0 B2 E0 (fun x s=>nx (f222_l4_m D0 B0 A0 P0 B2 F0 Q0 M0 R0 S0 T0 U0 V0 W0 N0 G0 I0 X0 Y0 J0 Z0 A1 B1 E1 E0 F1 G1 I1 J1 M1 N1 P1 Q1 D1 R1 S1 T1 U1 V1 W1 X1 Y1 Z1 A2 x) s) (fun i x s=>K (.exit i) (f222_l4_m D0 B0 A0 P0 B2 F0 Q0 M0 R0 S0 T0 U0 V0 W0 N0 G0 I0 X0 Y0 J0 Z0 A1 B1 E1 E0 F1 G1 I1 J1 M1 N1 P1 Q1 D1 R1 S1 T1 U1 V1 W1 X1 Y1 Z1 A2 x) s) (fun x s=>K .ret (f222_l4_m D0 B0 A0 P0 B2 F0 Q0 M0 R0 S0 T0 U0 V0 W0 N0 G0 I0 X0 Y0 J0 Z0 A1 B1 E1 E0 F1 G1 I1 J1 M1 N1 P1 Q1 D1 R1 S1 T1 U1 V1 W1 X1 Y1 Z1 A2 x) s) x s:=by kernel_rfl
theorem f222_l4_e (m:Nat) (x:Value) (s:St H) (K:Ex→List Value→St H→Rs222 H) :
 iter (fun t s k=>exec prog false C n 222 none (cdp Try.f222 [1,1,1,1,1,1,1,1,1,0,0,0,0,1,0,0,0]) t s k) (scratch (cdp Try.f222 [1,1,1,1,1,1,1,1,1,0,0,0,0,1,0,0,0])) m (f222_l4_m D0 B0 A0 P0 B2 F0 Q0 M0 R0 S0 T0 U0 V0 W0 N0 G0 I0 X0 Y0 J0 Z0 A1 B1 E1 E0 F1 G1 I1 J1 M1 N1 P1 Q1 D1 R1 S1 T1 U1 V1 W1 X1 Y1 Z1 A2 x) s K=iterS (f222_l4 (dOps (H:=H) prog) C n D0 B0 B2 E0) (fun i x s=>K (.exit i) (f222_l4_m D0 B0 A0 P0 B2 F0 Q0 M0 R0 S0 T0 U0 V0 W0 N0 G0 I0 X0 Y0 J0 Z0 A1 B1 E1 E0 F1 G1 I1 J1 M1 N1 P1 Q1 D1 R1 S1 T1 U1 V1 W1 X1 Y1 Z1 A2 x) s) (fun x s=>K .ret (f222_l4_m D0 B0 A0 P0 B2 F0 Q0 M0 R0 S0 T0 U0 V0 W0 N0 G0 I0 X0 Y0 J0 Z0 A1 B1 E1 E0 F1 G1 I1 J1 M1 N1 P1 Q1 D1 R1 S1 T1 U1 V1 W1 X1 Y1 Z1 A2 x) s) m x s :=
   iter_eq (f222_l4_m D0 B0 A0 P0 B2 F0 Q0 M0 R0 S0 T0 U0 V0 W0 N0 G0 I0 X0 Y0 J0 Z0 A1 B1 E1 E0 F1 G1 I1 J1 M1 N1 P1 Q1 D1 R1 S1 T1 U1 V1 W1 X1 Y1 Z1 A2) (f222_l4 (dOps (H:=H) prog) C n D0 B0 B2 E0) (fun x s nx K=>f222_l4_b C n D0 B0 A0 P0 B2 F0 Q0 M0 R0 S0 T0 U0 V0 W0 N0 G0 I0 X0 Y0 J0 Z0 A1 B1 E1 E0 F1 G1 I1 J1 M1 N1 P1 Q1 D1 R1 S1 T1 U1 V1 W1 X1 Y1 Z1 A2 x s nx K) K m x s
def f222_l2_m (D0 B0 A0 P0 F0 Q0 M0 R0 S0 T0 U0 V0 W0 N0 G0 I0 X0 Y0 J0 Z0 A1 B1 E1 E0 F1 G1 I1 J1 M1 N1 P1 Q1 D1 R1 S1 T1 U1 V1 W1 X1 Y1 Z1 A2:Value) (x:Value×Value):List Value:=[D0,B0,A0,P0,undefV,undefV,undefV,undefV,(Value.int IntKind.i64 0),(.bool false),x.1,x.2,F0,Q0,M0,R0,S0,T0,U0,V0,W0,N0,G0,I0,X0,Y0,J0,Z0,A1,B1,dc,dc,dc,dc,dc,dc,dc,dc,dc,dc,dc,dc,dc,dc,dc,dc,dc,dc,dc,dc,dc,dc,dc,dc,dc,dc,dc,dc,dc,dc,dc,dc,dc,E1,E0,F1,undefV,undefV,undefV,undefV,undefV,undefV,undefV,undefV,undefV,undefV,undefV,undefV,undefV,undefV,undefV,G1,I1,J1,M1,N1,P1,Q1,D1,R1,S1,T1,U1,V1,W1,X1,Y1,Z1,A2,dc,dc,dc,dc,dc,dc,dc,dc,dc,dc,dc,dc,dc,dc,dc,dc,dc,dc,dc,dc,dc,dc,dc,dc,dc,dc,dc,dc,dc,dc,dc,dc,dc,dc,dc,dc,dc,dc,dc,dc,dc,dc,dc,dc,dc,dc,dc,dc,dc,dc,dc,dc,dc,dc,undefV,undefV,undefV,undefV,undefV,undefV,undefV,undefV,undefV,undefV,undefV,undefV,undefV,undefV,undefV]
noncomputable def f222_l2 (O:Ops H) (C:OracleJ H) (n:Nat) (D0 B0 E0 D1:Value) (nx:(Value×Value)→St H→Rs222 H) (kx:Nat→(Value×Value)→St H→Rs222 H) (kr:(Value×Value)→St H→Rs222 H) (x:Value×Value) (s:St H):Rs222 H :=
 iterS (f222_l3 O C n D0 B0 x.2 E0 )
 (fun J2 x73 s74=>(bif Nat.beq J2 6 then
 iterS (f222_l4 O C n D0 B0 x73 E0 )
 (fun D1 x89 s90=>(bif Nat.beq D1 8 then
 (O.bop .gtr 3 x73 x89).bind fun v93 =>
 (O.boolO v93).bind fun b94=>cond b94 (
 kx 4 (x73,x89) s90) (
 (O.indexAddr 67 D0 x89).bind fun v95 =>
 (O.load s90 70 v95).bind fun v96 =>
 (O.indexAddr 67 D0 x73).bind fun v97 =>
 (O.load s90 70 v97).bind fun v98 =>
 (O.indexAddr 67 D0 x73).bind fun v99 =>
 (O.store s90 70 v99 v96).bind fun s100 =>
 (O.indexAddr 67 D0 x89).bind fun v101 =>
 (O.store s100 70 v101 v98).bind fun s102 =>
 (O.bop .add 3 x73 (.int .i64 1)).bind fun v103 =>
 (O.bop .sub 3 x89 (.int .i64 1)).bind fun v104 =>
 nx (v103,v104) s102) else (bif Nat.beq D1 5 then
 nx (x73,x89) s90 else kx D1 (x73,x89) s90)))
 (fun x91 s92=>kr (x73,x91) s92) n x.2 s74 else (bif Nat.beq J2 5 then
 nx (x73,x.2) s74 else kx J2 (x73,x.2) s74)))
 (fun x75 s76=>kr (x75,x.2) s76) n x.1 s
theorem f222_l4_k (nx:List Value→St H→Rs222 H) (K:Ex→List Value→St H→Rs222 H) (i:Nat) (x:Value) (s:St H):(kBlock 8 (kSeq prog false C n 222 none (cdp Try.f222 [1,1,1,1,1,1,1,1,1,0,0,0,0,1,1]) (kBlock 5 (kIter (scratch (cdp Try.f222 [1,1,1,1,1,1,1,1,1,0,0,0])) nx K)))) (.exit i) (f222_l4_m D0 B0 A0 P0 B2 F0 Q0 M0 R0 S0 T0 U0 V0 W0 N0 G0 I0 X0 Y0 J0 Z0 A1 B1 E1 E0 F1 G1 I1 J1 M1 N1 P1 Q1 D1 R1 S1 T1 U1 V1 W1 X1 Y1 Z1 A2 x) s =
 (bif Nat.beq i 8 then
 ((dE H).bop .gtr 3 B2 x).bind fun v117 =>
 ((dE H).boolO v117).bind fun b118=>cond b118 (
 K (.exit 4) (f222_l2_m D0 B0 A0 P0 F0 Q0 M0 R0 S0 T0 U0 V0 W0 N0 G0 I0 X0 Y0 J0 Z0 A1 B1 E1 E0 F1 G1 I1 J1 M1 N1 P1 Q1 D1 R1 S1 T1 U1 V1 W1 X1 Y1 Z1 A2 (B2,x)) s) (
 ((dE H).indexAddr 67 D0 x).bind fun v119 =>
 ((dE H).load s 70 v119).bind fun v120 =>
 ((dE H).indexAddr 67 D0 B2).bind fun v121 =>
 ((dE H).load s 70 v121).bind fun v122 =>
 ((dE H).indexAddr 67 D0 B2).bind fun v123 =>
 ((dE H).store s 70 v123 v120).bind fun s124 =>
 ((dE H).indexAddr 67 D0 x).bind fun v125 =>
 ((dE H).store s124 70 v125 v122).bind fun s126 =>
 ((dE H).bop .add 3 B2 (.int .i64 1)).bind fun v127 =>
 ((dE H).bop .sub 3 x (.int .i64 1)).bind fun v128 =>
 nx (f222_l2_m D0 B0 A0 P0 F0 Q0 M0 R0 S0 T0 U0 V0 W0 N0 G0 I0 X0 Y0 J0 Z0 A1 B1 E1 E0 F1 G1 I1 J1 M1 N1 P1 Q1 D1 R1 S1 T1 U1 V1 W1 X1 Y1 Z1 A2 (v127,v128)) s126) else (bif Nat.beq i 5 then
 nx (f222_l2_m D0 B0 A0 P0 F0 Q0 M0 R0 S0 T0 U0 V0 W0 N0 G0 I0 X0 Y0 J0 Z0 A1 B1 E1 E0 F1 G1 I1 J1 M1 N1 P1 Q1 D1 R1 S1 T1 U1 V1 W1 X1 Y1 Z1 A2 (B2,x)) s else K (.exit i) (f222_l2_m D0 B0 A0 P0 F0 Q0 M0 R0 S0 T0 U0 V0 W0 N0 G0 I0 X0 Y0 J0 Z0 A1 B1 E1 E0 F1 G1 I1 J1 M1 N1 P1 Q1 D1 R1 S1 T1 U1 V1 W1 X1 Y1 Z1 A2 (B2,x)) s)):=by kernel_rfl
theorem f222_l3_k (nx:List Value→St H→Rs222 H) (K:Ex→List Value→St H→Rs222 H) (i:Nat) (x:Value) (s:St H):(kBlock 6 (kSeq prog false C n 222 none (cdp Try.f222 [1,1,1,1,1,1,1,1,1,0,0,0,0,1]) (kBlock 5 (kIter (scratch (cdp Try.f222 [1,1,1,1,1,1,1,1,1,0,0,0])) nx K)))) (.exit i) (f222_l3_m D0 B0 A0 P0 D2 F0 Q0 M0 R0 S0 T0 U0 V0 W0 N0 G0 I0 X0 Y0 J0 Z0 A1 B1 E1 E0 F1 G1 I1 J1 M1 N1 P1 Q1 D1 R1 S1 T1 U1 V1 W1 X1 Y1 Z1 A2 x) s =
 (bif Nat.beq i 6 then
 iterS (f222_l4 (dOps (H:=H) prog) C n D0 B0 x E0 )
 (fun E2 x130 s131=>(bif Nat.beq E2 8 then
 ((dE H).bop .gtr 3 x x130).bind fun v134 =>
 ((dE H).boolO v134).bind fun b135=>cond b135 (
 K (.exit 4) (f222_l2_m D0 B0 A0 P0 F0 Q0 M0 R0 S0 T0 U0 V0 W0 N0 G0 I0 X0 Y0 J0 Z0 A1 B1 E1 E0 F1 G1 I1 J1 M1 N1 P1 Q1 D1 R1 S1 T1 U1 V1 W1 X1 Y1 Z1 A2 (x,x130)) s131) (
 ((dE H).indexAddr 67 D0 x130).bind fun v136 =>
 ((dE H).load s131 70 v136).bind fun v137 =>
 ((dE H).indexAddr 67 D0 x).bind fun v138 =>
 ((dE H).load s131 70 v138).bind fun v139 =>
 ((dE H).indexAddr 67 D0 x).bind fun v140 =>
 ((dE H).store s131 70 v140 v137).bind fun s141 =>
 ((dE H).indexAddr 67 D0 x130).bind fun v142 =>
 ((dE H).store s141 70 v142 v139).bind fun s143 =>
 ((dE H).bop .add 3 x (.int .i64 1)).bind fun v144 =>
 ((dE H).bop .sub 3 x130 (.int .i64 1)).bind fun v145 =>
 nx (f222_l2_m D0 B0 A0 P0 F0 Q0 M0 R0 S0 T0 U0 V0 W0 N0 G0 I0 X0 Y0 J0 Z0 A1 B1 E1 E0 F1 G1 I1 J1 M1 N1 P1 Q1 D1 R1 S1 T1 U1 V1 W1 X1 Y1 Z1 A2 (v144,v145)) s143) else (bif Nat.beq E2 5 then
 nx (f222_l2_m D0 B0 A0 P0 F0 Q0 M0 R0 S0 T0 U0 V0 W0 N0 G0 I0 X0 Y0 J0 Z0 A1 B1 E1 E0 F1 G1 I1 J1 M1 N1 P1 Q1 D1 R1 S1 T1 U1 V1 W1 X1 Y1 Z1 A2 (x,x130)) s131 else K (.exit E2) (f222_l2_m D0 B0 A0 P0 F0 Q0 M0 R0 S0 T0 U0 V0 W0 N0 G0 I0 X0 Y0 J0 Z0 A1 B1 E1 E0 F1 G1 I1 J1 M1 N1 P1 Q1 D1 R1 S1 T1 U1 V1 W1 X1 Y1 Z1 A2 (x,x130)) s131)))
 (fun x132 s133=>K .ret (f222_l2_m D0 B0 A0 P0 F0 Q0 M0 R0 S0 T0 U0 V0 W0 N0 G0 I0 X0 Y0 J0 Z0 A1 B1 E1 E0 F1 G1 I1 J1 M1 N1 P1 Q1 D1 R1 S1 T1 U1 V1 W1 X1 Y1 Z1 A2 (x,x132)) s133) n D2 s else (bif Nat.beq i 5 then
 nx (f222_l2_m D0 B0 A0 P0 F0 Q0 M0 R0 S0 T0 U0 V0 W0 N0 G0 I0 X0 Y0 J0 Z0 A1 B1 E1 E0 F1 G1 I1 J1 M1 N1 P1 Q1 D1 R1 S1 T1 U1 V1 W1 X1 Y1 Z1 A2 (x,D2)) s else K (.exit i) (f222_l2_m D0 B0 A0 P0 F0 Q0 M0 R0 S0 T0 U0 V0 W0 N0 G0 I0 X0 Y0 J0 Z0 A1 B1 E1 E0 F1 G1 I1 J1 M1 N1 P1 Q1 D1 R1 S1 T1 U1 V1 W1 X1 Y1 Z1 A2 (x,D2)) s)):=by
  have h1:(kBlock 6 (kSeq prog false C n 222 none (cdp Try.f222 [1,1,1,1,1,1,1,1,1,0,0,0,0,1]) (kBlock 5 (kIter (scratch (cdp Try.f222 [1,1,1,1,1,1,1,1,1,0,0,0])) nx K)))) (.exit i) (f222_l3_m D0 B0 A0 P0 D2 F0 Q0 M0 R0 S0 T0 U0 V0 W0 N0 G0 I0 X0 Y0 J0 Z0 A1 B1 E1 E0 F1 G1 I1 J1 M1 N1 P1 Q1 D1 R1 S1 T1 U1 V1 W1 X1 Y1 Z1 A2 x) s =
 (bif Nat.beq i 6 then
 iter (fun t s k=>exec prog false C n 222 none (cdp Try.f222 [1,1,1,1,1,1,1,1,1,0,0,0,0,1,0,0,0]) t s k) (scratch (cdp Try.f222 [1,1,1,1,1,1,1,1,1,0,0,0,0,1,0,0,0])) n (f222_l4_m D0 B0 A0 P0 x F0 Q0 M0 R0 S0 T0 U0 V0 W0 N0 G0 I0 X0 Y0 J0 Z0 A1 B1 E1 E0 F1 G1 I1 J1 M1 N1 P1 Q1 D1 R1 S1 T1 U1 V1 W1 X1 Y1 Z1 A2 D2) s (kBlock 8 (kSeq prog false C n 222 none (cdp Try.f222 [1,1,1,1,1,1,1,1,1,0,0,0,0,1,1]) (kBlock 5 (kIter (scratch (cdp Try.f222 [1,1,1,1,1,1,1,1,1,0,0,0])) nx K)))) else (bif Nat.beq i 5 then
 nx (f222_l2_m D0 B0 A0 P0 F0 Q0 M0 R0 S0 T0 U0 V0 W0 N0 G0 I0 X0 Y0 J0 Z0 A1 B1 E1 E0 F1 G1 I1 J1 M1 N1 P1 Q1 D1 R1 S1 T1 U1 V1 W1 X1 Y1 Z1 A2 (x,D2)) s else K (.exit i) (f222_l2_m D0 B0 A0 P0 F0 Q0 M0 R0 S0 T0 U0 V0 W0 N0 G0 I0 X0 Y0 J0 Z0 A1 B1 E1 E0 F1 G1 I1 J1 M1 N1 P1 Q1 D1 R1 S1 T1 U1 V1 W1 X1 Y1 Z1 A2 (x,D2)) s)):=by kernel_rfl
  rw [h1]
  simp only [f222_l4_e,f222_l4_k]
  show _=(bif Nat.beq i 6 then
 iterS (f222_l4 (dOps (H:=H) prog) C n D0 B0 x E0 )
 (fun E2 x130 s131=>(bif Nat.beq E2 8 then
 ((dE H).bop .gtr 3 x x130).bind fun v134 =>
 ((dE H).boolO v134).bind fun b135=>cond b135 (
 K (.exit 4) (f222_l2_m D0 B0 A0 P0 F0 Q0 M0 R0 S0 T0 U0 V0 W0 N0 G0 I0 X0 Y0 J0 Z0 A1 B1 E1 E0 F1 G1 I1 J1 M1 N1 P1 Q1 D1 R1 S1 T1 U1 V1 W1 X1 Y1 Z1 A2 (x,x130)) s131) (
 ((dE H).indexAddr 67 D0 x130).bind fun v136 =>
 ((dE H).load s131 70 v136).bind fun v137 =>
 ((dE H).indexAddr 67 D0 x).bind fun v138 =>
 ((dE H).load s131 70 v138).bind fun v139 =>
 ((dE H).indexAddr 67 D0 x).bind fun v140 =>
 ((dE H).store s131 70 v140 v137).bind fun s141 =>
 ((dE H).indexAddr 67 D0 x130).bind fun v142 =>
 ((dE H).store s141 70 v142 v139).bind fun s143 =>
 ((dE H).bop .add 3 x (.int .i64 1)).bind fun v144 =>
 ((dE H).bop .sub 3 x130 (.int .i64 1)).bind fun v145 =>
 nx (f222_l2_m D0 B0 A0 P0 F0 Q0 M0 R0 S0 T0 U0 V0 W0 N0 G0 I0 X0 Y0 J0 Z0 A1 B1 E1 E0 F1 G1 I1 J1 M1 N1 P1 Q1 D1 R1 S1 T1 U1 V1 W1 X1 Y1 Z1 A2 (v144,v145)) s143) else (bif Nat.beq E2 5 then
 nx (f222_l2_m D0 B0 A0 P0 F0 Q0 M0 R0 S0 T0 U0 V0 W0 N0 G0 I0 X0 Y0 J0 Z0 A1 B1 E1 E0 F1 G1 I1 J1 M1 N1 P1 Q1 D1 R1 S1 T1 U1 V1 W1 X1 Y1 Z1 A2 (x,x130)) s131 else K (.exit E2) (f222_l2_m D0 B0 A0 P0 F0 Q0 M0 R0 S0 T0 U0 V0 W0 N0 G0 I0 X0 Y0 J0 Z0 A1 B1 E1 E0 F1 G1 I1 J1 M1 N1 P1 Q1 D1 R1 S1 T1 U1 V1 W1 X1 Y1 Z1 A2 (x,x130)) s131)))
 (fun x132 s133=>K .ret (f222_l2_m D0 B0 A0 P0 F0 Q0 M0 R0 S0 T0 U0 V0 W0 N0 G0 I0 X0 Y0 J0 Z0 A1 B1 E1 E0 F1 G1 I1 J1 M1 N1 P1 Q1 D1 R1 S1 T1 U1 V1 W1 X1 Y1 Z1 A2 (x,x132)) s133) n D2 s else (bif Nat.beq i 5 then
 nx (f222_l2_m D0 B0 A0 P0 F0 Q0 M0 R0 S0 T0 U0 V0 W0 N0 G0 I0 X0 Y0 J0 Z0 A1 B1 E1 E0 F1 G1 I1 J1 M1 N1 P1 Q1 D1 R1 S1 T1 U1 V1 W1 X1 Y1 Z1 A2 (x,D2)) s else K (.exit i) (f222_l2_m D0 B0 A0 P0 F0 Q0 M0 R0 S0 T0 U0 V0 W0 N0 G0 I0 X0 Y0 J0 Z0 A1 B1 E1 E0 F1 G1 I1 J1 M1 N1 P1 Q1 D1 R1 S1 T1 U1 V1 W1 X1 Y1 Z1 A2 (x,D2)) s))
  kernel_rfl
theorem f222_l2_b (x:Value×Value) (s:St H) (nx:List Value→St H→Rs222 H) (K:Ex→List Value→St H→Rs222 H) :
 exec prog false C n 222 none (cdp Try.f222 [1,1,1,1,1,1,1,1,1,0,0,0]) (f222_l2_m D0 B0 A0 P0 F0 Q0 M0 R0 S0 T0 U0 V0 W0 N0 G0 I0 X0 Y0 J0 Z0 A1 B1 E1 E0 F1 G1 I1 J1 M1 N1 P1 Q1 D1 R1 S1 T1 U1 V1 W1 X1 Y1 Z1 A2 x) s (kIter (scratch (cdp Try.f222 [1,1,1,1,1,1,1,1,1,0,0,0])) nx K)=f222_l2 (dOps (H:=H) prog) C n D0 B0 E0 D1 (fun x s=>nx (f222_l2_m D0 B0 A0 P0 F0 Q0 M0 R0 S0 T0 U0 V0 W0 N0 G0 I0 X0 Y0 J0 Z0 A1 B1 E1 E0 F1 G1 I1 J1 M1 N1 P1 Q1 D1 R1 S1 T1 U1 V1 W1 X1 Y1 Z1 A2 x) s) (fun i x s=>K (.exit i) (f222_l2_m D0 B0 A0 P0 F0 Q0 M0 R0 S0 T0 U0 V0 W0 N0 G0 I0 X0 Y0 J0 Z0 A1 B1 E1 E0 F1 G1 I1 J1 M1 N1 P1 Q1 D1 R1 S1 T1 U1 V1 W1 X1 Y1 Z1 A2 x) s) (fun x s=>K .ret (f222_l2_m D0 B0 A0 P0 F0 Q0 M0 R0 S0 T0 U0 V0 W0 N0 G0 I0 X0 Y0 J0 Z0 A1 B1 E1 E0 F1 G1 I1 J1 M1 N1 P1 Q1 D1 R1 S1 T1 U1 V1 W1 X1 Y1 Z1 A2 x) s) x s:=by
  have h1:exec prog false C n 222 none (cdp Try.f222 [1,1,1,1,1,1,1,1,1,0,0,0]) (f222_l2_m D0 B0 A0 P0 F0 Q0 M0 R0 S0 T0 U0 V0 W0 N0 G0 I0 X0 Y0 J0 Z0 A1 B1 E1 E0 F1 G1 I1 J1 M1 N1 P1 Q1 D1 R1 S1 T1 U1 V1 W1 X1 Y1 Z1 A2 x) s (kIter (scratch (cdp Try.f222 [1,1,1,1,1,1,1,1,1,0,0,0])) nx K) =
 iter (fun t s k=>exec prog false C n 222 none (cdp Try.f222 [1,1,1,1,1,1,1,1,1,0,0,0,0,0,0,0]) t s k) (scratch (cdp Try.f222 [1,1,1,1,1,1,1,1,1,0,0,0,0,0,0,0])) n (f222_l3_m D0 B0 A0 P0 x.2 F0 Q0 M0 R0 S0 T0 U0 V0 W0 N0 G0 I0 X0 Y0 J0 Z0 A1 B1 E1 E0 F1 G1 I1 J1 M1 N1 P1 Q1 D1 R1 S1 T1 U1 V1 W1 X1 Y1 Z1 A2 x.1) s (kBlock 6 (kSeq prog false C n 222 none (cdp Try.f222 [1,1,1,1,1,1,1,1,1,0,0,0,0,1]) (kBlock 5 (kIter (scratch (cdp Try.f222 [1,1,1,1,1,1,1,1,1,0,0,0])) nx K)))):=by kernel_rfl
  rw [h1]
  simp only [f222_l3_e,f222_l3_k]
  show _=f222_l2 (dOps (H:=H) prog) C n D0 B0 E0 D1 (fun x s=>nx (f222_l2_m D0 B0 A0 P0 F0 Q0 M0 R0 S0 T0 U0 V0 W0 N0 G0 I0 X0 Y0 J0 Z0 A1 B1 E1 E0 F1 G1 I1 J1 M1 N1 P1 Q1 D1 R1 S1 T1 U1 V1 W1 X1 Y1 Z1 A2 x) s) (fun i x s=>K (.exit i) (f222_l2_m D0 B0 A0 P0 F0 Q0 M0 R0 S0 T0 U0 V0 W0 N0 G0 I0 X0 Y0 J0 Z0 A1 B1 E1 E0 F1 G1 I1 J1 M1 N1 P1 Q1 D1 R1 S1 T1 U1 V1 W1 X1 Y1 Z1 A2 x) s) (fun x s=>K .ret (f222_l2_m D0 B0 A0 P0 F0 Q0 M0 R0 S0 T0 U0 V0 W0 N0 G0 I0 X0 Y0 J0 Z0 A1 B1 E1 E0 F1 G1 I1 J1 M1 N1 P1 Q1 D1 R1 S1 T1 U1 V1 W1 X1 Y1 Z1 A2 x) s) x s
  kernel_rfl
theorem f222_l2_e (m:Nat) (x:Value×Value) (s:St H) (K:Ex→List Value→St H→Rs222 H) :
 iter (fun t s k=>exec prog false C n 222 none (cdp Try.f222 [1,1,1,1,1,1,1,1,1,0,0,0]) t s k) (scratch (cdp Try.f222 [1,1,1,1,1,1,1,1,1,0,0,0])) m (f222_l2_m D0 B0 A0 P0 F0 Q0 M0 R0 S0 T0 U0 V0 W0 N0 G0 I0 X0 Y0 J0 Z0 A1 B1 E1 E0 F1 G1 I1 J1 M1 N1 P1 Q1 D1 R1 S1 T1 U1 V1 W1 X1 Y1 Z1 A2 x) s K=iterS (f222_l2 (dOps (H:=H) prog) C n D0 B0 E0 D1) (fun i x s=>K (.exit i) (f222_l2_m D0 B0 A0 P0 F0 Q0 M0 R0 S0 T0 U0 V0 W0 N0 G0 I0 X0 Y0 J0 Z0 A1 B1 E1 E0 F1 G1 I1 J1 M1 N1 P1 Q1 D1 R1 S1 T1 U1 V1 W1 X1 Y1 Z1 A2 x) s) (fun x s=>K .ret (f222_l2_m D0 B0 A0 P0 F0 Q0 M0 R0 S0 T0 U0 V0 W0 N0 G0 I0 X0 Y0 J0 Z0 A1 B1 E1 E0 F1 G1 I1 J1 M1 N1 P1 Q1 D1 R1 S1 T1 U1 V1 W1 X1 Y1 Z1 A2 x) s) m x s :=
   iter_eq (f222_l2_m D0 B0 A0 P0 F0 Q0 M0 R0 S0 T0 U0 V0 W0 N0 G0 I0 X0 Y0 J0 Z0 A1 B1 E1 E0 F1 G1 I1 J1 M1 N1 P1 Q1 D1 R1 S1 T1 U1 V1 W1 X1 Y1 Z1 A2) (f222_l2 (dOps (H:=H) prog) C n D0 B0 E0 D1) (fun x s nx K=>f222_l2_b C n D0 B0 A0 P0 F0 Q0 M0 R0 S0 T0 U0 V0 W0 N0 G0 I0 X0 Y0 J0 Z0 A1 B1 E1 E0 F1 G1 I1 J1 M1 N1 P1 Q1 D1 R1 S1 T1 U1 V1 W1 X1 Y1 Z1 A2 x s nx K) K m x s
noncomputable def f222 (O:Ops H) (C:OracleJ H) (n:Nat) (a0 a1 a2 a3:Value) (s:St H):Rs222 H :=
 (O.indexAddr 67 a0 a3).bind fun v1 =>
 (O.load s 70 v1).bind fun v2 =>
 (O.indexAddr 67 a0 a1).bind fun v3 =>
 (O.load s 70 v3).bind fun v4 =>
 (O.indexAddr 67 a0 a1).bind fun v5 =>
 (O.store s 70 v5 v2).bind fun s6 =>
 (O.indexAddr 67 a0 a3).bind fun v7 =>
 (O.store s6 70 v7 v4).bind fun s8 =>
 (O.bop .add 3 a1 (.int .i64 1)).bind fun v9 =>
 (O.bop .sub 3 a2 (.int .i64 1)).bind fun v10 =>
 iterS (f222_l0 O C n a0 a1 v10 )
 (fun N0 x22 s23=>(bif Nat.beq N0 0 then
 iterS (f222_l1 O C n a0 a1 x22 )
 (fun N2 x38 s39=>(bif Nat.beq N2 2 then
 (O.bop .gtr 3 x22 x38).bind fun v42 =>
 (O.boolO v42).bind fun b43=>cond b43 (
 (O.indexAddr 67 a0 a1).bind fun v44 =>
 (O.load s39 70 v44).bind fun v45 =>
 (O.indexAddr 67 a0 x38).bind fun v46 =>
 (O.load s39 70 v46).bind fun v47 =>
 (O.indexAddr 67 a0 x38).bind fun v48 =>
 (O.store s39 70 v48 v45).bind fun s49 =>
 (O.indexAddr 67 a0 a1).bind fun v50 =>
 (O.store s49 70 v50 v47).bind fun s51 =>
 some [(.tuple #[x38,(.bool true)],s51)]) (
 (O.indexAddr 67 a0 x38).bind fun v52 =>
 (O.load s39 70 v52).bind fun v53 =>
 (O.indexAddr 67 a0 x22).bind fun v54 =>
 (O.load s39 70 v54).bind fun v55 =>
 (O.indexAddr 67 a0 x22).bind fun v56 =>
 (O.store s39 70 v56 v53).bind fun s57 =>
 (O.indexAddr 67 a0 x38).bind fun v58 =>
 (O.store s57 70 v58 v55).bind fun s59 =>
 (O.bop .add 3 x22 (.int .i64 1)).bind fun v60 =>
 (O.bop .sub 3 x38 (.int .i64 1)).bind fun v61 =>
 iterS (f222_l2 O C n a0 a1 x38 v53 )
 (fun M2 x147 s148=>(bif Nat.beq M2 4 then
 (O.indexAddr 67 a0 a1).bind fun v151 =>
 (O.load s148 70 v151).bind fun v152 =>
 (O.indexAddr 67 a0 x147.2).bind fun v153 =>
 (O.load s148 70 v153).bind fun v154 =>
 (O.indexAddr 67 a0 x147.2).bind fun v155 =>
 (O.store s148 70 v155 v152).bind fun s156 =>
 (O.indexAddr 67 a0 a1).bind fun v157 =>
 (O.store s156 70 v157 v154).bind fun s158 =>
 some [(.tuple #[x147.2,(.bool false)],s158)] else none))
 (fun x149 s150=>some [(.tuple #[(Value.int IntKind.i64 0),(.bool false)],s150)]) n (v60,v61) s59) else none))
 (fun x40 s41=>some [(.tuple #[(Value.int IntKind.i64 0),(.bool false)],s41)]) n v10 s23 else none))
 (fun x24 s25=>some [(.tuple #[(Value.int IntKind.i64 0),(.bool false)],s25)]) n v9 s8
theorem f222_l2_k (i:Nat) (x:Value×Value) (s:St H):(kBlock 4 (kSeq prog false C n 222 none (cdp Try.f222 [1,1,1,1,1,1,1,1,1,1]) (kFun prog Try.f222))) (.exit i) (f222_l2_m D0 B0 A0 P0 F0 Q0 M0 R0 S0 T0 U0 V0 W0 N0 G0 I0 X0 Y0 J0 Z0 A1 B1 E1 E0 F1 G1 I1 J1 M1 N1 P1 Q1 D1 R1 S1 T1 U1 V1 W1 X1 Y1 Z1 A2 x) s =
 (bif Nat.beq i 4 then
 ((dE H).indexAddr 67 D0 B0).bind fun v197 =>
 ((dE H).load s 70 v197).bind fun v198 =>
 ((dE H).indexAddr 67 D0 x.2).bind fun v199 =>
 ((dE H).load s 70 v199).bind fun v200 =>
 ((dE H).indexAddr 67 D0 x.2).bind fun v201 =>
 ((dE H).store s 70 v201 v198).bind fun s202 =>
 ((dE H).indexAddr 67 D0 B0).bind fun v203 =>
 ((dE H).store s202 70 v203 v200).bind fun s204 =>
 some [(.tuple #[x.2,(.bool false)],s204)] else none):=by kernel_rfl
theorem f222_l1_k (i:Nat) (x:Value) (s:St H):(kBlock 2 (kSeq prog false C n 222 none (cdp Try.f222 [1,1,1,1,1]) (kFun prog Try.f222))) (.exit i) (f222_l1_m D0 B0 A0 P0 B2 F0 Q0 M0 R0 S0 T0 U0 V0 W0 N0 G0 I0 X0 Y0 J0 Z0 A1 B1 x) s =
 (bif Nat.beq i 2 then
 ((dE H).bop .gtr 3 B2 x).bind fun v205 =>
 ((dE H).boolO v205).bind fun b206=>cond b206 (
 ((dE H).indexAddr 67 D0 B0).bind fun v207 =>
 ((dE H).load s 70 v207).bind fun v208 =>
 ((dE H).indexAddr 67 D0 x).bind fun v209 =>
 ((dE H).load s 70 v209).bind fun v210 =>
 ((dE H).indexAddr 67 D0 x).bind fun v211 =>
 ((dE H).store s 70 v211 v208).bind fun s212 =>
 ((dE H).indexAddr 67 D0 B0).bind fun v213 =>
 ((dE H).store s212 70 v213 v210).bind fun s214 =>
 some [(.tuple #[x,(.bool true)],s214)]) (
 ((dE H).indexAddr 67 D0 x).bind fun v215 =>
 ((dE H).load s 70 v215).bind fun v216 =>
 ((dE H).indexAddr 67 D0 B2).bind fun v217 =>
 ((dE H).load s 70 v217).bind fun v218 =>
 ((dE H).indexAddr 67 D0 B2).bind fun v219 =>
 ((dE H).store s 70 v219 v216).bind fun s220 =>
 ((dE H).indexAddr 67 D0 x).bind fun v221 =>
 ((dE H).store s220 70 v221 v218).bind fun s222 =>
 ((dE H).bop .add 3 B2 (.int .i64 1)).bind fun v223 =>
 ((dE H).bop .sub 3 x (.int .i64 1)).bind fun v224 =>
 iterS (f222_l2 (dOps (H:=H) prog) C n D0 B0 x v216 )
 (fun F2 x226 s227=>(bif Nat.beq F2 4 then
 ((dE H).indexAddr 67 D0 B0).bind fun v230 =>
 ((dE H).load s227 70 v230).bind fun v231 =>
 ((dE H).indexAddr 67 D0 x226.2).bind fun v232 =>
 ((dE H).load s227 70 v232).bind fun v233 =>
 ((dE H).indexAddr 67 D0 x226.2).bind fun v234 =>
 ((dE H).store s227 70 v234 v231).bind fun s235 =>
 ((dE H).indexAddr 67 D0 B0).bind fun v236 =>
 ((dE H).store s235 70 v236 v233).bind fun s237 =>
 some [(.tuple #[x226.2,(.bool false)],s237)] else none))
 (fun x228 s229=>some [(.tuple #[(Value.int IntKind.i64 0),(.bool false)],s229)]) n (v223,v224) s222) else none):=by
  have h1:(kBlock 2 (kSeq prog false C n 222 none (cdp Try.f222 [1,1,1,1,1]) (kFun prog Try.f222))) (.exit i) (f222_l1_m D0 B0 A0 P0 B2 F0 Q0 M0 R0 S0 T0 U0 V0 W0 N0 G0 I0 X0 Y0 J0 Z0 A1 B1 x) s =
 (bif Nat.beq i 2 then
 ((dE H).bop .gtr 3 B2 x).bind fun v169 =>
 ((dE H).boolO v169).bind fun b170=>cond b170 (
 ((dE H).indexAddr 67 D0 B0).bind fun v171 =>
 ((dE H).load s 70 v171).bind fun v172 =>
 ((dE H).indexAddr 67 D0 x).bind fun v173 =>
 ((dE H).load s 70 v173).bind fun v174 =>
 ((dE H).indexAddr 67 D0 x).bind fun v175 =>
 ((dE H).store s 70 v175 v172).bind fun s176 =>
 ((dE H).indexAddr 67 D0 B0).bind fun v177 =>
 ((dE H).store s176 70 v177 v174).bind fun s178 =>
 some [(.tuple #[x,(.bool true)],s178)]) (
 ((dE H).indexAddr 67 D0 x).bind fun v179 =>
 ((dE H).load s 70 v179).bind fun v180 =>
 ((dE H).indexAddr 67 D0 B2).bind fun v181 =>
 ((dE H).load s 70 v181).bind fun v182 =>
 ((dE H).indexAddr 67 D0 B2).bind fun v183 =>
 ((dE H).store s 70 v183 v180).bind fun s184 =>
 ((dE H).indexAddr 67 D0 x).bind fun v185 =>
 ((dE H).store s184 70 v185 v182).bind fun s186 =>
 ((dE H).bop .add 3 B2 (.int .i64 1)).bind fun v187 =>
 ((dE H).bop .sub 3 x (.int .i64 1)).bind fun v188 =>
 iter (fun t s k=>exec prog false C n 222 none (cdp Try.f222 [1,1,1,1,1,1,1,1,1,0,0,0]) t s k) (scratch (cdp Try.f222 [1,1,1,1,1,1,1,1,1,0,0,0])) n (f222_l2_m D0 B0 A0 P0 F0 Q0 M0 R0 S0 T0 U0 V0 W0 N0 G0 I0 X0 Y0 J0 Z0 A1 B1 B2 x v169 D0 B2 D0 x D0 x v179 v180 D0 B2 v181 v182 v183 v185 B2 v187 x v188 (v187,v188)) s186 (kBlock 4 (kSeq prog false C n 222 none (cdp Try.f222 [1,1,1,1,1,1,1,1,1,1]) (kFun prog Try.f222)))) else none):=by kernel_rfl
  rw [h1]
  simp only [f222_l2_e,f222_l2_k]
  show _=(bif Nat.beq i 2 then
 ((dE H).bop .gtr 3 B2 x).bind fun v205 =>
 ((dE H).boolO v205).bind fun b206=>cond b206 (
 ((dE H).indexAddr 67 D0 B0).bind fun v207 =>
 ((dE H).load s 70 v207).bind fun v208 =>
 ((dE H).indexAddr 67 D0 x).bind fun v209 =>
 ((dE H).load s 70 v209).bind fun v210 =>
 ((dE H).indexAddr 67 D0 x).bind fun v211 =>
 ((dE H).store s 70 v211 v208).bind fun s212 =>
 ((dE H).indexAddr 67 D0 B0).bind fun v213 =>
 ((dE H).store s212 70 v213 v210).bind fun s214 =>
 some [(.tuple #[x,(.bool true)],s214)]) (
 ((dE H).indexAddr 67 D0 x).bind fun v215 =>
 ((dE H).load s 70 v215).bind fun v216 =>
 ((dE H).indexAddr 67 D0 B2).bind fun v217 =>
 ((dE H).load s 70 v217).bind fun v218 =>
 ((dE H).indexAddr 67 D0 B2).bind fun v219 =>
 ((dE H).store s 70 v219 v216).bind fun s220 =>
 ((dE H).indexAddr 67 D0 x).bind fun v221 =>
 ((dE H).store s220 70 v221 v218).bind fun s222 =>
 ((dE H).bop .add 3 B2 (.int .i64 1)).bind fun v223 =>
 ((dE H).bop .sub 3 x (.int .i64 1)).bind fun v224 =>
 iterS (f222_l2 (dOps (H:=H) prog) C n D0 B0 x v216 )
 (fun F2 x226 s227=>(bif Nat.beq F2 4 then
 ((dE H).indexAddr 67 D0 B0).bind fun v230 =>
 ((dE H).load s227 70 v230).bind fun v231 =>
 ((dE H).indexAddr 67 D0 x226.2).bind fun v232 =>
 ((dE H).load s227 70 v232).bind fun v233 =>
 ((dE H).indexAddr 67 D0 x226.2).bind fun v234 =>
 ((dE H).store s227 70 v234 v231).bind fun s235 =>
 ((dE H).indexAddr 67 D0 B0).bind fun v236 =>
 ((dE H).store s235 70 v236 v233).bind fun s237 =>
 some [(.tuple #[x226.2,(.bool false)],s237)] else none))
 (fun x228 s229=>some [(.tuple #[(Value.int IntKind.i64 0),(.bool false)],s229)]) n (v223,v224) s222) else none)
  kernel_rfl
theorem f222_l0_k (i:Nat) (x:Value) (s:St H):(kBlock 0 (kSeq prog false C n 222 none (cdp Try.f222 [1,1,1,1]) (kFun prog Try.f222))) (.exit i) (f222_l0_m D0 B0 A0 P0 D2 F0 Q0 M0 R0 S0 T0 U0 V0 W0 N0 G0 I0 X0 Y0 J0 Z0 A1 B1 x) s =
 (bif Nat.beq i 0 then
 iterS (f222_l1 (dOps (H:=H) prog) C n D0 B0 x )
 (fun G2 x239 s240=>(bif Nat.beq G2 2 then
 ((dE H).bop .gtr 3 x x239).bind fun v243 =>
 ((dE H).boolO v243).bind fun b244=>cond b244 (
 ((dE H).indexAddr 67 D0 B0).bind fun v245 =>
 ((dE H).load s240 70 v245).bind fun v246 =>
 ((dE H).indexAddr 67 D0 x239).bind fun v247 =>
 ((dE H).load s240 70 v247).bind fun v248 =>
 ((dE H).indexAddr 67 D0 x239).bind fun v249 =>
 ((dE H).store s240 70 v249 v246).bind fun s250 =>
 ((dE H).indexAddr 67 D0 B0).bind fun v251 =>
 ((dE H).store s250 70 v251 v248).bind fun s252 =>
 some [(.tuple #[x239,(.bool true)],s252)]) (
 ((dE H).indexAddr 67 D0 x239).bind fun v253 =>
 ((dE H).load s240 70 v253).bind fun v254 =>
 ((dE H).indexAddr 67 D0 x).bind fun v255 =>
 ((dE H).load s240 70 v255).bind fun v256 =>
 ((dE H).indexAddr 67 D0 x).bind fun v257 =>
 ((dE H).store s240 70 v257 v254).bind fun s258 =>
 ((dE H).indexAddr 67 D0 x239).bind fun v259 =>
 ((dE H).store s258 70 v259 v256).bind fun s260 =>
 ((dE H).bop .add 3 x (.int .i64 1)).bind fun v261 =>
 ((dE H).bop .sub 3 x239 (.int .i64 1)).bind fun v262 =>
 iterS (f222_l2 (dOps (H:=H) prog) C n D0 B0 x239 v254 )
 (fun I2 x264 s265=>(bif Nat.beq I2 4 then
 ((dE H).indexAddr 67 D0 B0).bind fun v268 =>
 ((dE H).load s265 70 v268).bind fun v269 =>
 ((dE H).indexAddr 67 D0 x264.2).bind fun v270 =>
 ((dE H).load s265 70 v270).bind fun v271 =>
 ((dE H).indexAddr 67 D0 x264.2).bind fun v272 =>
 ((dE H).store s265 70 v272 v269).bind fun s273 =>
 ((dE H).indexAddr 67 D0 B0).bind fun v274 =>
 ((dE H).store s273 70 v274 v271).bind fun s275 =>
 some [(.tuple #[x264.2,(.bool false)],s275)] else none))
 (fun x266 s267=>some [(.tuple #[(Value.int IntKind.i64 0),(.bool false)],s267)]) n (v261,v262) s260) else none))
 (fun x241 s242=>some [(.tuple #[(Value.int IntKind.i64 0),(.bool false)],s242)]) n D2 s else none):=by
  have h1:(kBlock 0 (kSeq prog false C n 222 none (cdp Try.f222 [1,1,1,1]) (kFun prog Try.f222))) (.exit i) (f222_l0_m D0 B0 A0 P0 D2 F0 Q0 M0 R0 S0 T0 U0 V0 W0 N0 G0 I0 X0 Y0 J0 Z0 A1 B1 x) s =
 (bif Nat.beq i 0 then
 iter (fun t s k=>exec prog false C n 222 none (cdp Try.f222 [1,1,1,1,0,0,0]) t s k) (scratch (cdp Try.f222 [1,1,1,1,0,0,0])) n (f222_l1_m D0 B0 A0 P0 x F0 Q0 M0 R0 S0 T0 U0 V0 W0 N0 G0 I0 X0 Y0 J0 Z0 A1 B1 D2) s (kBlock 2 (kSeq prog false C n 222 none (cdp Try.f222 [1,1,1,1,1]) (kFun prog Try.f222))) else none):=by kernel_rfl
  rw [h1]
  simp only [f222_l1_e,f222_l1_k]
  show _=(bif Nat.beq i 0 then
 iterS (f222_l1 (dOps (H:=H) prog) C n D0 B0 x )
 (fun G2 x239 s240=>(bif Nat.beq G2 2 then
 ((dE H).bop .gtr 3 x x239).bind fun v243 =>
 ((dE H).boolO v243).bind fun b244=>cond b244 (
 ((dE H).indexAddr 67 D0 B0).bind fun v245 =>
 ((dE H).load s240 70 v245).bind fun v246 =>
 ((dE H).indexAddr 67 D0 x239).bind fun v247 =>
 ((dE H).load s240 70 v247).bind fun v248 =>
 ((dE H).indexAddr 67 D0 x239).bind fun v249 =>
 ((dE H).store s240 70 v249 v246).bind fun s250 =>
 ((dE H).indexAddr 67 D0 B0).bind fun v251 =>
 ((dE H).store s250 70 v251 v248).bind fun s252 =>
 some [(.tuple #[x239,(.bool true)],s252)]) (
 ((dE H).indexAddr 67 D0 x239).bind fun v253 =>
 ((dE H).load s240 70 v253).bind fun v254 =>
 ((dE H).indexAddr 67 D0 x).bind fun v255 =>
 ((dE H).load s240 70 v255).bind fun v256 =>
 ((dE H).indexAddr 67 D0 x).bind fun v257 =>
 ((dE H).store s240 70 v257 v254).bind fun s258 =>
 ((dE H).indexAddr 67 D0 x239).bind fun v259 =>
 ((dE H).store s258 70 v259 v256).bind fun s260 =>
 ((dE H).bop .add 3 x (.int .i64 1)).bind fun v261 =>
 ((dE H).bop .sub 3 x239 (.int .i64 1)).bind fun v262 =>
 iterS (f222_l2 (dOps (H:=H) prog) C n D0 B0 x239 v254 )
 (fun I2 x264 s265=>(bif Nat.beq I2 4 then
 ((dE H).indexAddr 67 D0 B0).bind fun v268 =>
 ((dE H).load s265 70 v268).bind fun v269 =>
 ((dE H).indexAddr 67 D0 x264.2).bind fun v270 =>
 ((dE H).load s265 70 v270).bind fun v271 =>
 ((dE H).indexAddr 67 D0 x264.2).bind fun v272 =>
 ((dE H).store s265 70 v272 v269).bind fun s273 =>
 ((dE H).indexAddr 67 D0 B0).bind fun v274 =>
 ((dE H).store s273 70 v274 v271).bind fun s275 =>
 some [(.tuple #[x264.2,(.bool false)],s275)] else none))
 (fun x266 s267=>some [(.tuple #[(Value.int IntKind.i64 0),(.bool false)],s267)]) n (v261,v262) s260) else none))
 (fun x241 s242=>some [(.tuple #[(Value.int IntKind.i64 0),(.bool false)],s242)]) n D2 s else none)
  kernel_rfl
theorem f222_r (C:OracleJ H) (n:Nat) (a0 a1 a2 a3:Value) (s:St H):bodyD prog false C n 222 Try.f222 [a0,a1,a2,a3] s=f222 (dOps (H:=H) prog) C n a0 a1 a2 a3 s:=by
  have h1:bodyD prog false C n 222 Try.f222 [a0,a1,a2,a3] s =
 ((dE H).indexAddr 67 a0 a3).bind fun v159 =>
 ((dE H).load s 70 v159).bind fun v160 =>
 ((dE H).indexAddr 67 a0 a1).bind fun v161 =>
 ((dE H).load s 70 v161).bind fun v162 =>
 ((dE H).indexAddr 67 a0 a1).bind fun v163 =>
 ((dE H).store s 70 v163 v160).bind fun s164 =>
 ((dE H).indexAddr 67 a0 a3).bind fun v165 =>
 ((dE H).store s164 70 v165 v162).bind fun s166 =>
 ((dE H).bop .add 3 a1 (.int .i64 1)).bind fun v167 =>
 ((dE H).bop .sub 3 a2 (.int .i64 1)).bind fun v168 =>
 iter (fun t s k=>exec prog false C n 222 none (cdp Try.f222 [1,1,1,0,0,0]) t s k) (scratch (cdp Try.f222 [1,1,1,0,0,0])) n (f222_l0_m a0 a1 a2 a3 v168 a0 a1 a0 a3 a0 a3 v159 v160 a0 a1 v161 v162 v163 v165 a1 v167 a2 v168 v167) s166 (kBlock 0 (kSeq prog false C n 222 none (cdp Try.f222 [1,1,1,1]) (kFun prog Try.f222))):=by kernel_rfl
  rw [h1]
  simp only [f222_l0_e,f222_l0_k]
  show _=f222 (dOps (H:=H) prog) C n a0 a1 a2 a3 s
  kernel_rfl
end Go.Proofs.Ytmhmbmogodofeaa.S
